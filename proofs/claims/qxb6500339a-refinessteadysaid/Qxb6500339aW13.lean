import Derived.Test.Qxb6500339aW12
namespace Go.Proofs.Qxb6500339a
open Go.RowKit
set_option linter.unusedVariables false
set_option linter.unusedSimpArgs false

set_option maxRecDepth 100000 in
set_option maxHeartbeats 6400000 in
theorem walk_steady_nil (a0 : Option Addr) (cap : Nat) (w : World) :
    Calls Try.prog 7 #[.slice a0 0 cap, .bool true, .bool false] w fun e w' => (∃ n, e = .returned (.tuple #[.int .i64 (-1), .int .i64 n])) ∧ Fr [] w w' := by
  go_enter Try.func7, Try.ntmps7
  go_wp2_with fail
  go_at_call 8
  refine (disk_new _).mono ?_
  rintro e w1 ⟨rfl, hd1, hw1⟩
  have D1 : Hid (Dr w.heap.size w1 w.heap.size [w.heap.size] (fun _ => zB) (fun _ => zB) []) := dk_dr hd1 (Nat.le_refl _)
  have F1 : Hid (Fr [] w w1) := by show Fr _ _ _; rw [hw1]; exact (Fr.refl _ _).alloc _
  clear hd1 hw1
  go_wp2_with fail
  go_at_call 9
  refine (tower_open_any w.heap.size _ _ _ _ _ D1.out (Or.inl rfl)).mono ?_
  rintro e w2 ⟨k, p, R, rfl, htw, hk, hp, hto⟩
  rw [rcv_zero rfl] at hto
  have T2 : Hid (Tw w2 k p w.heap.size R) := htw
  have O2 : Hid (To w.heap.size w1 w2 w.heap.size [w.heap.size] R (fun _ => zB) (fun _ => zB) []) := hto
  have F2 : Hid (Fr [] w w2) := F1.out.narrow hto.fr (fun i hi => by simp at hi; right; omega)
  clear htw hto
  go_wp2_with fail
  go_at_call 10
  refine (mnew_any _).mono ?_
  rintro e w3 ⟨rfl, hm3, hf3⟩
  have M3 : Hid (Mm w3 w2.heap.size (fun _ => 0)) := hm3
  clear hm3
  go_wp2_with fail
  go_at_call 11
  refine (clone_any _ _ _ M3.out).mono ?_
  rintro e w4 ⟨rfl, hm4, hf4⟩
  have I4 : Hid (Iv w w4 w.heap.size k p w2.heap.size w3.heap.size R (fun _ => zB) (fun _ => zB) [] (fun _ => 0) (fun _ => 0)) :=
    ⟨O2.out.dr.keep0 (hf3.trans hf4), T2.out.keep0 (hf3.trans hf4), Rec.start, hf4.keep M3.out (by simp), hm4, fun hk => by have := (O2.out.dr.low _ hk).2; omega, F2.out.size, F2.out.trans (hf3.trans hf4)⟩
  clear hm4 hf3 hf4 M3 T2 O2 F2 D1 F1
  go_wp2_with fail
  go_at_call 12
  refine (law_steps _ _ _ _ _ _ _ I4.out.dr).mono ?_
  rintro e w5 ⟨rfl, rfl⟩
  go_wp2_with fail
  go_at_call 13
  refine (alike_any _ _ _ _ _ _ _ _ _ _ (fun _ => 0) (fun _ => 0) I4.out.dr I4.out.tw I4.out.rc.good I4.out.rc.ok I4.out.mm I4.out.rc.ok).mono ?_
  rintro e w6 ⟨rfl, hf6⟩
  rw [alB_self]
  have I6 := I4.out.keep0 hf6
  have I7 : Hid (Iv w w6 w.heap.size k p w2.heap.size w3.heap.size R (fun _ => zB) (fun _ => zB) [] (fun _ => 0) (fun _ => 0)) := I6
  clear I6 I4 hf6
  go_wp2_with fail
  go_at_call 12
  refine (law_steps _ _ _ _ _ _ _ I7.out.dr).mono ?_
  rintro e w8 ⟨rfl, rfl⟩
  go_wp2_with fail
  have I5 : Hid (IvE w w8 w.heap.size k p w2.heap.size w3.heap.size) := ⟨_, _, _, _, _, _, I7.out⟩
  clear I7
  go_loopw [13] (fun i wr => i = .int .i64 0 ∧ Fr [] w wr) (fun _ _ => 0)
  case atStart =>
    obtain ⟨_, _, _, _, _, _, h⟩ := I5.out
    exact ⟨rfl, h.fr⟩
  case round =>
    obtain ⟨rfl, hfr⟩ := hrel
    go_wp2
    go_ret2
    exact ⟨⟨_, rfl⟩, hfr⟩

set_option maxRecDepth 100000 in
set_option maxHeartbeats 12800000 in
theorem walk_steady_some (w : World) (sb off len cap : Nat) (ops : Nat → OpT) (hlen : len ≤ maxLen) (hb : sb < w.heap.size) (hsc : Scr w sb off len ops) :
    Calls Try.prog 7 #[.slice (some ⟨sb, off, none⟩) len cap, .bool true, .bool false] w fun e w' => (∃ n, e = .returned (.tuple #[.int .i64 (-1), .int .i64 n])) ∧ Fr [] w w' := by
  have hl63 : len ≤ 9223372036854775807 := by unfold maxLen at hlen; omega
  have HS : Hid (Scr w sb off len ops) := hsc
  clear hsc hlen
  go_enter Try.func7, Try.ntmps7
  go_wp2_with fail
  go_at_call 8
  refine (disk_new _).mono ?_
  rintro e w1 ⟨rfl, hd1, hw1⟩
  have D1 : Hid (Dr w.heap.size w1 w.heap.size [w.heap.size] (fun _ => zB) (fun _ => zB) []) := dk_dr hd1 (Nat.le_refl _)
  have F1 : Hid (Fr [] w w1) := by show Fr _ _ _; rw [hw1]; exact (Fr.refl _ _).alloc _
  clear hd1 hw1
  go_wp2_with fail
  go_at_call 9
  refine (tower_open_any w.heap.size _ _ _ _ _ D1.out (Or.inl rfl)).mono ?_
  rintro e w2 ⟨k, p, R, rfl, htw, hk, hp, hto⟩
  rw [rcv_zero rfl] at hto
  have T2 : Hid (Tw w2 k p w.heap.size R) := htw
  have O2 : Hid (To w.heap.size w1 w2 w.heap.size [w.heap.size] R (fun _ => zB) (fun _ => zB) []) := hto
  have F2 : Hid (Fr [] w w2) := F1.out.narrow hto.fr (fun i hi => by simp at hi; right; omega)
  clear htw hto
  go_wp2_with fail
  go_at_call 10
  refine (mnew_any _).mono ?_
  rintro e w3 ⟨rfl, hm3, hf3⟩
  have M3 : Hid (Mm w3 w2.heap.size (fun _ => 0)) := hm3
  clear hm3
  go_wp2_with fail
  go_at_call 11
  refine (clone_any _ _ _ M3.out).mono ?_
  rintro e w4 ⟨rfl, hm4, hf4⟩
  have I4 : Hid (Iv w w4 w.heap.size k p w2.heap.size w3.heap.size R (fun _ => zB) (fun _ => zB) [] (fun _ => 0) (fun _ => 0)) :=
    ⟨O2.out.dr.keep0 (hf3.trans hf4), T2.out.keep0 (hf3.trans hf4), Rec.start, hf4.keep M3.out (by simp), hm4, fun hk => by have := (O2.out.dr.low _ hk).2; omega, F2.out.size, F2.out.trans (hf3.trans hf4)⟩
  clear hm4 hf3 hf4 M3 T2 O2 F2 D1 F1
  go_wp2_with fail
  go_at_call 12
  refine (law_steps _ _ _ _ _ _ _ I4.out.dr).mono ?_
  rintro e w5 ⟨rfl, rfl⟩
  go_wp2_with fail
  go_at_call 13
  refine (alike_any _ _ _ _ _ _ _ _ _ _ (fun _ => 0) (fun _ => 0) I4.out.dr I4.out.tw I4.out.rc.good I4.out.rc.ok I4.out.mm I4.out.rc.ok).mono ?_
  rintro e w6 ⟨rfl, hf6⟩
  rw [alB_self]
  have I6 := I4.out.keep0 hf6
  have I7 : Hid (Iv w w6 w.heap.size k p w2.heap.size w3.heap.size R (fun _ => zB) (fun _ => zB) [] (fun _ => 0) (fun _ => 0)) := I6
  clear I6 I4 hf6
  go_wp2_with fail
  go_at_call 12
  refine (law_steps _ _ _ _ _ _ _ I7.out.dr).mono ?_
  rintro e w8 ⟨rfl, rfl⟩
  go_wp2_with fail
  have I5 : Hid (IvE w w8 w.heap.size k p w2.heap.size w3.heap.size) := ⟨_, _, _, _, _, _, I7.out⟩
  clear I7
  generalize w.heap.size = d0 at I5 ⊢
  generalize w2.heap.size = m0 at I5 ⊢
  generalize w3.heap.size = b0 at I5 ⊢
  go_loopw [8, 9, 10, 11, 13] (fun s8 s9 s10 s11 i wr => ∃ (j d k p m mb : Nat), i = .int .i64 j ∧ s8 = .pointer (some ⟨d, 0, none⟩) ∧ s9 = .pointer (some ⟨k, 0, none⟩) ∧ s10 = .pointer (some ⟨m, 0, none⟩) ∧ s11 = .pointer (some ⟨mb, 0, none⟩) ∧ j ≤ len ∧ Hid (IvE w wr d k p m mb)) (fun _ _ _ _ i _ => len - (intOf i).toNat)
  case atStart => exact ⟨0, _, _, _, _, _, rfl, rfl, rfl, rfl, rfl, by omega, I5⟩
  case round =>
    clear I5
    obtain ⟨j, d, k, p, m, mb, rfl, rfl, rfl, rfl, rfl, hj, HI⟩ := hrel
    by_cases hlt : j < len
    · by_cases hq : (j : Int) < 4398046511104
      · obtain ⟨R, n, bs, l, Bb, B, hI⟩ := HI.out
        have I0 : Hid (Iv w wr d k p m mb R n bs l Bb B) := hI
        clear hI HI
        obtain ⟨e0, e1, e2, e3, e4, e5⟩ := HS.out.cells hb I0.out.fr hlt
        have I1 : Hid (Iv w (wr.alloc (.cells #[.int .i64 (ops j).k, .int .i64 (ops j).a, .int .i64 (ops j).b, .int .i64 (ops j).c, .string (ops j).s, .string (ops j).u] 36)) d k p m mb R n bs l Bb B) := I0.out.keep0 ((Fr.refl _ _).alloc _)
        have X1 : Hid ((wr.alloc (.cells #[.int .i64 (ops j).k, .int .i64 (ops j).a, .int .i64 (ops j).b, .int .i64 (ops j).c, .string (ops j).s, .string (ops j).u] 36)).heap[wr.heap.size]? = some (.cells #[.int .i64 (ops j).k, .int .i64 (ops j).a, .int .i64 (ops j).b, .int .i64 (ops j).c, .string (ops j).s, .string (ops j).u] 36)) := blk_new _ _
        have hob : ∀ x, x ∈ R → x < wr.heap.size := fun x hx => (I0.out.dr.low x hx).2
        have HOB : Hid (∀ x, x ∈ R → x < wr.heap.size) := hob
        have hml : m < wr.heap.size := blk_lt I0.out.mm
        have hdl : d < wr.heap.size := hob d I0.out.dr.din
        clear hob I0
        by_cases hk5 : (ops j).k = 5
        · have d5 : ((ops j).k != 5) = false := by rw [hk5]; rfl
          clear hk5
          go_wp2
          go_roundw
          case rel => exact ⟨j + 1, d, k, p, m, mb, by go_num, rfl, rfl, rfl, rfl, by omega, ⟨_, _, _, _, _, _, I1.out⟩⟩
          case measure => simp [intOf]; omega
        · have d5 : ((ops j).k != 5) = true := by rw [bne_iff_ne]; exact hk5
          go_wp2_with fail
          generalize wr.alloc (.cells #[.int .i64 (ops j).k, .int .i64 (ops j).a, .int .i64 (ops j).b, .int .i64 (ops j).c, .string (ops j).s, .string (ops j).u] 36) = W1 at I1 X1 ⊢
          clear e0 e1 e2 e3 e4 e5
          go_at_call 14
          refine (law_mark w.heap.size _ d R n bs l I1.out.dr).mono ?_
          rintro e v1 ⟨rfl, hd1, hf1⟩
          obtain ⟨q1, q2, q3, q4, q5, q6⟩ := I1.out.mark hd1 hf1
          have D2 : Hid (Dr w.heap.size v1 d [d] n n []) := q1
          have T2 : Hid (Tw v1 k p d [d]) := q2
          have R2 : Hid (Rec n n [] B B) := q3
          have M2 : Hid (Mm v1 m B) := q4
          have N2 : Hid (m ∉ [d]) := q5
          have F2 : Hid (Fr [] w v1) := q6
          have X2 : Hid (v1.heap[wr.heap.size]? = some (.cells #[.int .i64 (ops j).k, .int .i64 (ops j).a, .int .i64 (ops j).b, .int .i64 (ops j).c, .string (ops j).s, .string (ops j).u] 36)) := hf1.keep X1.out (by simp; omega)
          have hm0 := I1.out.hm
          have hd0 := (D2.out.low d (by simp)).1
          clear q1 q2 q3 q4 q5 q6 hd1 hf1 I1 X1
          have hv1 := blk_lt X2.out
          go_wp2_with fail
          go_at_call 11
          refine (clone_any _ m B M2.out).mono ?_
          rintro e v2 ⟨rfl, hc2, hf2⟩
          have C3 : Hid (Mm v2 v1.heap.size B) := hc2
          have X3 : Hid (v2.heap[wr.heap.size]? = some (.cells #[.int .i64 (ops j).k, .int .i64 (ops j).a, .int .i64 (ops j).b, .int .i64 (ops j).c, .string (ops j).s, .string (ops j).u] 36)) := hf2.keep X2.out (by simp)
          have D3 : Hid (Dr w.heap.size v2 d [d] n n []) := D2.out.keep0 hf2
          have T3 : Hid (Tw v2 k p d [d]) := T2.out.keep0 hf2
          have M3 : Hid (Mm v2 m B) := hf2.keep M2.out (by simp)
          have F3 : Hid (Fr [] w v2) := F2.out.trans hf2
          clear hc2 hf2 X2 D2 T2 M2 F2
          have x0 := blk_cell X3.out 0
          have x1 := blk_cell X3.out 1
          have x2 := blk_cell X3.out 2
          have x3 := blk_cell X3.out 3
          have x4 := blk_cell X3.out 4
          have x5 := blk_cell X3.out 5
          go_wp2_with fail
          go_at_call 15
          refine (play_any w.heap.size _ k p d m [d] n B D3.out T3.out R2.out M3.out N2.out (ops j)).mono ?_
          rintro e v3 ⟨rfl, hp3⟩
          obtain ⟨R', n', bs', l', Bb', B', hI4⟩ := iv_played hd0 hm0 F3.out hp3 C3.out (by omega) (by omega)
          have I4 : Hid (Iv w v3 d k p m v1.heap.size R' n' bs' l' Bb' B') := hI4
          clear hI4 hp3 C3 X3 D3 T3 M3 F3 R2 N2 x0 x1 x2 x3 x4 x5
          go_wp2_with fail
          go_at_call 12
          refine (law_steps _ _ _ _ _ _ _ I4.out.dr).mono ?_
          rintro e v4 ⟨rfl, hv4⟩
          subst hv4
          go_wp2_with fail
          go_at_call 13
          refine (alike_any _ _ _ _ _ _ _ _ _ _ B' B' I4.out.dr I4.out.tw I4.out.rc.good I4.out.rc.ok I4.out.mm I4.out.rc.ok).mono ?_
          rintro e v5 ⟨rfl, hf5⟩
          rw [alB_self]
          have I9 : Hid (Iv w v5 d k p m v1.heap.size R' n' bs' l' Bb' B') := I4.out.keep0 hf5
          clear hf5 I4
          go_wp2_with fail
          go_at_call 12
          refine (law_steps _ _ _ _ _ _ _ I9.out.dr).mono ?_
          rintro e v6 ⟨rfl, hv6⟩
          subst hv6
          go_wp2
          go_roundw
          case rel => exact ⟨j + 1, d, k, p, m, v1.heap.size, by go_num, rfl, rfl, rfl, rfl, by omega, ⟨_, _, _, _, _, _, I9.out⟩⟩
          case measure => simp [intOf]; omega
      · obtain ⟨_, _, _, _, _, _, h⟩ := HI.out
        have hfr := h.fr
        clear h
        have hq2 : ¬ ((len : Int) < 4398046511104) := by omega
        go_wp2
        go_ret2
        exact ⟨⟨_, rfl⟩, hfr⟩
    · obtain ⟨_, _, _, _, _, _, h⟩ := HI.out
      have hfr := h.fr
      clear h
      have hk2 : j = len := by omega
      subst hk2
      by_cases hq2 : (j : Int) < 4398046511104
      · go_wp2
        go_ret2
        exact ⟨⟨_, rfl⟩, hfr⟩
      · go_wp2
        go_ret2
        exact ⟨⟨_, rfl⟩, hfr⟩

theorem walk_steady (w : World) (v : Value) (h : ScrV w v) : Calls Try.prog 7 #[v, .bool true, .bool false] w fun e w' => (∃ n, e = .returned (.tuple #[.int .i64 (-1), .int .i64 n])) ∧ Fr [] w w' := by
  rcases h with ⟨a0, cap, rfl⟩ | ⟨bs, off, len, cap, ops, rfl, h1, h2, h3⟩
  · exact walk_steady_nil a0 cap w
  · exact walk_steady_some w bs off len cap ops h1 h2 h3

end Go.Proofs.Qxb6500339a
