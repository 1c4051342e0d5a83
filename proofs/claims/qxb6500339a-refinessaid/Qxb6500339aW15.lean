import Derived.Test.Qxb6500339aW12
namespace Go.Proofs.Qxb6500339a
open Go.RowKit
set_option linter.unusedVariables false
set_option linter.unusedSimpArgs false

set_option maxRecDepth 100000 in
set_option maxHeartbeats 6400000 in
theorem walk_loud_nil (a0 : Option Addr) (cap : Nat) (w : World) :
    Calls Try.prog 7 #[.slice a0 0 cap, .bool false, .bool false] w fun e w' => (∃ n, e = .returned (.tuple #[.int .i64 (-1), .int .i64 n])) ∧ Fr [] w w' := by
  go_enter Try.func7, Try.ntmps7
  go_wp2_with fail
  go_at_call 8
  refine (disk_new _).mono ?_
  rintro e w1 ⟨rfl, hd1, hw1⟩
  have D1 : Hid (Dr w.heap.size w1 w.heap.size [w.heap.size] (fun _ => zB) (fun _ => zB) []) := dk_dr hd1 (Nat.le_refl _)
  have F1 : Hid (Fr [] w w1) := by show Fr _ _ _; rw [hw1]; exact (Fr.refl _ _).alloc _
  clear hd1 hw1
  go_wp2_with fail
  go_at_call 9
  refine (tower_open_any w.heap.size _ _ _ _ _ D1.out (Or.inl rfl)).mono ?_
  rintro e w2 ⟨k, p, R, rfl, htw, hk, hp, hto⟩
  rw [rcv_zero rfl] at hto
  have T2 : Hid (Tw w2 k p w.heap.size R) := htw
  have O2 : Hid (To w.heap.size w1 w2 w.heap.size [w.heap.size] R (fun _ => zB) (fun _ => zB) []) := hto
  have F2 : Hid (Fr [] w w2) := F1.out.narrow hto.fr (fun i hi => by simp at hi; right; omega)
  clear htw hto
  go_wp2_with fail
  go_at_call 10
  refine (mnew_any _).mono ?_
  rintro e w3 ⟨rfl, hm3, hf3⟩
  have M3 : Hid (Mm w3 w2.heap.size (fun _ => 0)) := hm3
  clear hm3
  go_wp2_with fail
  go_at_call 11
  refine (clone_any _ _ _ M3.out).mono ?_
  rintro e w4 ⟨rfl, hm4, hf4⟩
  have I4 : Hid (Iv w w4 w.heap.size k p w2.heap.size w3.heap.size R (fun _ => zB) (fun _ => zB) [] (fun _ => 0) (fun _ => 0)) :=
    ⟨O2.out.dr.keep0 (hf3.trans hf4), T2.out.keep0 (hf3.trans hf4), Rec.start, hf4.keep M3.out (by simp), hm4, fun hk => by have := (O2.out.dr.low _ hk).2; omega, F2.out.size, F2.out.trans (hf3.trans hf4)⟩
  clear hm4 hf3 hf4 M3 T2 O2 F2 D1 F1
  go_wp2_with fail
  go_at_call 12
  refine (law_steps _ _ _ _ _ _ _ I4.out.dr).mono ?_
  rintro e w5 ⟨rfl, rfl⟩
  go_wp2_with fail
  go_at_call 13
  refine (alike_any _ _ _ _ _ _ _ _ _ _ (fun _ => 0) (fun _ => 0) I4.out.dr I4.out.tw I4.out.rc.good I4.out.rc.ok I4.out.mm I4.out.rc.ok).mono ?_
  rintro e w6 ⟨rfl, hf6⟩
  rw [alB_self]
  have I6 := I4.out.keep0 hf6
  have I7 : Hid (Iv w w6 w.heap.size k p w2.heap.size w3.heap.size R (fun _ => zB) (fun _ => zB) [] (fun _ => 0) (fun _ => 0)) := I6
  clear I6 I4 hf6
  go_wp2_with fail
  go_at_call 12
  refine (law_steps _ _ _ _ _ _ _ I7.out.dr).mono ?_
  rintro e w8 ⟨rfl, rfl⟩
  go_wp2_with fail
  have I5 : Hid (IvE w w8 w.heap.size k p w2.heap.size w3.heap.size) := ⟨_, _, _, _, _, _, I7.out⟩
  clear I7
  go_loopw [13] (fun i wr => i = .int .i64 0 ∧ Fr [] w wr) (fun _ _ => 0)
  case atStart =>
    obtain ⟨_, _, _, _, _, _, h⟩ := I5.out
    exact ⟨rfl, h.fr⟩
  case round =>
    obtain ⟨rfl, hfr⟩ := hrel
    go_wp2
    go_ret2
    exact ⟨⟨_, rfl⟩, hfr⟩

set_option maxRecDepth 100000 in
set_option maxHeartbeats 12800000 in
theorem walk_loud_some (w : World) (sb off len cap : Nat) (ops : Nat → OpT) (hlen : len ≤ maxLen) (hb : sb < w.heap.size) (hsc : Scr w sb off len ops) :
    Calls Try.prog 7 #[.slice (some ⟨sb, off, none⟩) len cap, .bool false, .bool false] w fun e w' => (∃ n, e = .returned (.tuple #[.int .i64 (-1), .int .i64 n])) ∧ Fr [] w w' := by
  have hl63 : len ≤ 9223372036854775807 := by unfold maxLen at hlen; omega
  have HS : Hid (Scr w sb off len ops) := hsc
  clear hsc hlen
  go_enter Try.func7, Try.ntmps7
  go_wp2_with fail
  go_at_call 8
  refine (disk_new _).mono ?_
  rintro e w1 ⟨rfl, hd1, hw1⟩
  have D1 : Hid (Dr w.heap.size w1 w.heap.size [w.heap.size] (fun _ => zB) (fun _ => zB) []) := dk_dr hd1 (Nat.le_refl _)
  have F1 : Hid (Fr [] w w1) := by show Fr _ _ _; rw [hw1]; exact (Fr.refl _ _).alloc _
  clear hd1 hw1
  go_wp2_with fail
  go_at_call 9
  refine (tower_open_any w.heap.size _ _ _ _ _ D1.out (Or.inl rfl)).mono ?_
  rintro e w2 ⟨k, p, R, rfl, htw, hk, hp, hto⟩
  rw [rcv_zero rfl] at hto
  have T2 : Hid (Tw w2 k p w.heap.size R) := htw
  have O2 : Hid (To w.heap.size w1 w2 w.heap.size [w.heap.size] R (fun _ => zB) (fun _ => zB) []) := hto
  have F2 : Hid (Fr [] w w2) := F1.out.narrow hto.fr (fun i hi => by simp at hi; right; omega)
  clear htw hto
  go_wp2_with fail
  go_at_call 10
  refine (mnew_any _).mono ?_
  rintro e w3 ⟨rfl, hm3, hf3⟩
  have M3 : Hid (Mm w3 w2.heap.size (fun _ => 0)) := hm3
  clear hm3
  go_wp2_with fail
  go_at_call 11
  refine (clone_any _ _ _ M3.out).mono ?_
  rintro e w4 ⟨rfl, hm4, hf4⟩
  have I4 : Hid (Iv w w4 w.heap.size k p w2.heap.size w3.heap.size R (fun _ => zB) (fun _ => zB) [] (fun _ => 0) (fun _ => 0)) :=
    ⟨O2.out.dr.keep0 (hf3.trans hf4), T2.out.keep0 (hf3.trans hf4), Rec.start, hf4.keep M3.out (by simp), hm4, fun hk => by have := (O2.out.dr.low _ hk).2; omega, F2.out.size, F2.out.trans (hf3.trans hf4)⟩
  clear hm4 hf3 hf4 M3 T2 O2 F2 D1 F1
  go_wp2_with fail
  go_at_call 12
  refine (law_steps _ _ _ _ _ _ _ I4.out.dr).mono ?_
  rintro e w5 ⟨rfl, rfl⟩
  go_wp2_with fail
  go_at_call 13
  refine (alike_any _ _ _ _ _ _ _ _ _ _ (fun _ => 0) (fun _ => 0) I4.out.dr I4.out.tw I4.out.rc.good I4.out.rc.ok I4.out.mm I4.out.rc.ok).mono ?_
  rintro e w6 ⟨rfl, hf6⟩
  rw [alB_self]
  have I6 := I4.out.keep0 hf6
  have I7 : Hid (Iv w w6 w.heap.size k p w2.heap.size w3.heap.size R (fun _ => zB) (fun _ => zB) [] (fun _ => 0) (fun _ => 0)) := I6
  clear I6 I4 hf6
  go_wp2_with fail
  go_at_call 12
  refine (law_steps _ _ _ _ _ _ _ I7.out.dr).mono ?_
  rintro e w8 ⟨rfl, rfl⟩
  go_wp2_with fail
  have I5 : Hid (IvE w w8 w.heap.size k p w2.heap.size w3.heap.size) := ⟨_, _, _, _, _, _, I7.out⟩
  clear I7
  generalize w.heap.size = d0 at I5 ⊢
  generalize w2.heap.size = m0 at I5 ⊢
  generalize w3.heap.size = b0 at I5 ⊢
  go_loopw [8, 9, 10, 11, 13] (fun s8 s9 s10 s11 i wr => ∃ (j d k p m mb : Nat), i = .int .i64 j ∧ s8 = .pointer (some ⟨d, 0, none⟩) ∧ s9 = .pointer (some ⟨k, 0, none⟩) ∧ s10 = .pointer (some ⟨m, 0, none⟩) ∧ s11 = .pointer (some ⟨mb, 0, none⟩) ∧ j ≤ len ∧ Hid (IvE w wr d k p m mb)) (fun _ _ _ _ i _ => len - (intOf i).toNat)
  case atStart => exact ⟨0, _, _, _, _, _, rfl, rfl, rfl, rfl, rfl, by omega, I5⟩
  case round =>
    clear I5
    obtain ⟨j, d, k, p, m, mb, rfl, rfl, rfl, rfl, rfl, hj, HI⟩ := hrel
    by_cases hlt : j < len
    · by_cases hq : (j : Int) < 4398046511104
      · obtain ⟨R, n, bs, l, Bb, B, hI⟩ := HI.out
        have I0 : Hid (Iv w wr d k p m mb R n bs l Bb B) := hI
        clear hI HI
        obtain ⟨e0, e1, e2, e3, e4, e5⟩ := HS.out.cells hb I0.out.fr hlt
        have I1 : Hid (Iv w (wr.alloc (.cells #[.int .i64 (ops j).k, .int .i64 (ops j).a, .int .i64 (ops j).b, .int .i64 (ops j).c, .string (ops j).s, .string (ops j).u] 36)) d k p m mb R n bs l Bb B) := I0.out.keep0 ((Fr.refl _ _).alloc _)
        have X1 : Hid ((wr.alloc (.cells #[.int .i64 (ops j).k, .int .i64 (ops j).a, .int .i64 (ops j).b, .int .i64 (ops j).c, .string (ops j).s, .string (ops j).u] 36)).heap[wr.heap.size]? = some (.cells #[.int .i64 (ops j).k, .int .i64 (ops j).a, .int .i64 (ops j).b, .int .i64 (ops j).c, .string (ops j).s, .string (ops j).u] 36)) := blk_new _ _
        have hob : ∀ x, x ∈ R → x < wr.heap.size := fun x hx => (I0.out.dr.low x hx).2
        have HOB : Hid (∀ x, x ∈ R → x < wr.heap.size) := hob
        have hml : m < wr.heap.size := blk_lt I0.out.mm
        have hdl : d < wr.heap.size := hob d I0.out.dr.din
        clear hob I0
        by_cases hk5 : (ops j).k = 5
        · have d5 : ((ops j).k != 5) = false := by rw [hk5]; rfl
          clear hk5
          go_wp2_with fail
          have hs1 : wr.heap.size < (wr.alloc (.cells #[.int .i64 (ops j).k, .int .i64 (ops j).a, .int .i64 (ops j).b, .int .i64 (ops j).c, .string (ops j).s, .string (ops j).u] 36)).heap.size := blk_lt X1.out
          generalize wr.alloc (.cells #[.int .i64 (ops j).k, .int .i64 (ops j).a, .int .i64 (ops j).b, .int .i64 (ops j).c, .string (ops j).s, .string (ops j).u] 36) = W1 at I1 X1 hs1 ⊢
          clear e0 e1 e2 e3 e4 e5
          have hNW : w.heap.size ≤ W1.heap.size := I1.out.fr.size
          have x1 := blk_cell X1.out 1
          go_at_call 12
          refine (law_steps _ _ _ _ _ _ _ I1.out.dr).mono ?_
          rintro e W1 ⟨rfl, hv0⟩
          subst hv0
          go_wp2_with fail
          go_at_call 16
          refine (law_after w.heap.size _ d R n bs l I1.out.dr I1.out.rc.l8 (by have := I1.out.rc.len; omega) (ops j).a).mono ?_
          rintro e v1 ⟨rfl, hd1, hf1⟩
          obtain ⟨B', okB', hjr, hor, hA0, hAn, hall⟩ := I1.out.rc.which (ops j).a
          have RC0 := I1.out.rc.cutAt (ops j).a.toNat okB' hjr
          obtain ⟨c, hc⟩ : ∃ c, c = app bs (l.take (ops j).a.toNat) := ⟨_, rfl⟩
          rw [← hc] at RC0 hjr hd1
          have HC : Hid (app bs (l.take (ops j).a.toNat) = c) := hc.symm
          have RC : Hid (Rec c (app c (rcv c)) (rcv c) B' B') := RC0
          have HJ : Hid (Jr c B') := hjr
          have HOR : Hid (alB B' Bb = true ∨ alB B' B = true) := hor
          have HA0 : Hid ((ops j).a ≤ 0 → alB B' Bb = true) := hA0
          have HAN : Hid ((l.length : Int) ≤ (ops j).a → alB B' B = true) := hAn
          have HALL : Hid (alB B' B = false → ∀ i, i < 4 → Bb i = B' i) := hall
          have D1 : Hid (Dr W1.heap.size v1 W1.heap.size [W1.heap.size] c c []) := hd1
          have F1 : Hid (Fr [] W1 v1) := hf1
          clear hc RC0 hjr hor hA0 hAn hall okB' hd1 hf1
          have hs2 := (D1.out.low W1.heap.size (by simp)).2
          go_wp2_with fail
          go_at_call 9
          refine (tower_open_any W1.heap.size _ _ _ _ _ D1.out HJ.out.hok).mono ?_
          rintro e v2 ⟨k', p', R', rfl, htw2, hk2, hp2, hto2⟩
          have TO2 : Hid (To W1.heap.size v1 v2 W1.heap.size [W1.heap.size] R' (app c (rcv c)) c (rcv c)) := hto2
          have TW2 : Hid (Tw v2 k' p' W1.heap.size R') := htw2
          have F2 : Hid (Fr [] W1 v2) := F1.out.narrow hto2.fr (fun i hi => by simp at hi; right; omega)
          have I2 : Hid (Iv w v2 d k p m mb R n bs l Bb B) := I1.out.keep0 F2.out
          have X2 : Hid (v2.heap[wr.heap.size]? = some (.cells #[.int .i64 (ops j).k, .int .i64 (ops j).a, .int .i64 (ops j).b, .int .i64 (ops j).c, .string (ops j).s, .string (ops j).u] 36)) := F2.out.keep X1.out (by simp)
          clear hto2 htw2 I1 X1 D1 F1 x1
          go_wp2_with fail
          go_at_call 12
          refine (law_steps _ _ _ _ _ _ _ TO2.out.dr).mono ?_
          rintro e v2 ⟨rfl, hv2⟩
          subst hv2
          go_wp2_with fail
          go_at_call 17
          refine (crashed_any _ mb Bb I2.out.mb).mono ?_
          rintro e v3 ⟨rfl, hm3, hf3⟩
          have M3 : Hid (Mm v3 v2.heap.size Bb) := hm3
          clear hm3
          go_wp2_with fail
          go_at_call 13
          refine (alike_any _ _ k' p' _ _ _ _ _ _ B' Bb (TO2.out.dr.keep0 hf3) (TW2.out.keep0 hf3) RC.out.good RC.out.ok M3.out I2.out.rc.okb).mono ?_
          rintro e v4 ⟨rfl, hf4⟩
          have F4 : Hid (Fr [] v2 v4) := hf3.trans hf4
          have I4 : Hid (Iv w v4 d k p m mb R n bs l Bb B) := I2.out.keep0 F4.out
          clear hf3 hf4 M3
          go_wp2_with fail
          go_at_call 17
          refine (crashed_any _ m B I4.out.mm).mono ?_
          rintro e v4' ⟨rfl, hm4, hf4⟩
          have M4 : Hid (Mm v4' v4.heap.size B) := hm4
          clear hm4
          go_wp2_with fail
          go_at_call 13
          refine (alike_any _ _ k' p' _ _ _ _ _ _ B' B (TO2.out.dr.keep0 (F4.out.trans hf4)) (TW2.out.keep0 (F4.out.trans hf4)) RC.out.good RC.out.ok M4.out I4.out.rc.ok).mono ?_
          rintro e v5 ⟨rfl, hf5⟩
          have F5 : Hid (Fr [] v2 v5) := (F4.out.trans hf4).trans hf5
          have I5 : Hid (Iv w v5 d k p m mb R n bs l Bb B) := I2.out.keep0 F5.out
          have X5 : Hid (v5.heap[wr.heap.size]? = some (.cells #[.int .i64 (ops j).k, .int .i64 (ops j).a, .int .i64 (ops j).b, .int .i64 (ops j).c, .string (ops j).s, .string (ops j).u] 36)) := F5.out.keep X2.out (by simp)
          clear hf4 hf5 M4 F4 I4 I2 X2
          have hs5 := F5.out.size
          have hsr := (TO2.out.fr.size)
          go_wp2_with fail
          go_at_call 12
          refine (law_steps _ _ _ _ _ _ _ (TO2.out.dr.keep0 F5.out)).mono ?_
          rintro e v5 ⟨rfl, hv5⟩
          subst hv5
          have x1 := blk_cell X5.out 1
          have HXN0 : Hid (alB B' Bb = alB B' Bb) := rfl
          generalize hxn : alB B' Bb = xn at *
          generalize hxa : alB B' B = xa at *
          have HXA : Hid (alB B' B = xa) := hxa
          clear hxn hxa HXN0
          by_cases hz : (ops j).a ≤ 0
          · have hxn := HA0.out hz
            subst hxn
            by_cases hn : (l.length : Int) ≤ (ops j).a
            · have hxa := HAN.out hn
              subst hxa
              go_wp2_with fail
              go_at_call 17
              refine (crashed_any _ m B I5.out.mm).mono ?_
              rintro e v6 ⟨rfl, hm6, hf6⟩
              have M6 : Hid (Mm v6 v5.heap.size B') := hm6.congr (fun i hi => (alB_iff HXA.out i hi).symm)
              have I6 : Hid (Iv w v6 d k p m mb R n bs l Bb B) := I5.out.keep0 hf6
              have F6 : Hid (Fr [] v2 v6) := F5.out.trans hf6
              have X6 : Hid (v6.heap[wr.heap.size]? = some (.cells #[.int .i64 (ops j).k, .int .i64 (ops j).a, .int .i64 (ops j).b, .int .i64 (ops j).c, .string (ops j).s, .string (ops j).u] 36)) := hf6.keep X5.out (by simp)
              clear hm6 hf6
              have hs6 := blk_lt M6.out
              go_wp2_with fail
              go_at_call 11
              refine (clone_any _ _ B' M6.out).mono ?_
              rintro e v7 ⟨rfl, hm7, hf7⟩
              have C7 : Hid (Mm v7 v6.heap.size B') := hm7
              have M7 : Hid (Mm v7 v5.heap.size B') := hf7.keep M6.out (by simp)
              have I7 : Hid (Iv w v7 d k p m mb R n bs l Bb B) := I6.out.keep0 hf7
              have F7 : Hid (Fr [] v2 v7) := F6.out.trans hf7
              have X7 : Hid (v7.heap[wr.heap.size]? = some (.cells #[.int .i64 (ops j).k, .int .i64 (ops j).a, .int .i64 (ops j).b, .int .i64 (ops j).c, .string (ops j).s, .string (ops j).u] 36)) := hf7.keep X6.out (by simp)
              clear hm7 hf7 M6 I6 F6 X6 I5 F5 X5
              have hs7 := blk_lt C7.out
              go_wp2
              go_roundw
              case rel => exact ⟨j + 1, W1.heap.size, k', p', v5.heap.size, v6.heap.size, by go_num, rfl, rfl, rfl, rfl, by omega, iv_cut TO2.out TW2.out RC.out hNW F7.out M7.out C7.out (fun hk => by have := (TO2.out.dr.low _ hk).2; omega) (by omega) I7.out.fr⟩
              case measure => simp [intOf]; omega
            · have hn' : decide ((l.length : Int) ≤ (ops j).a) = false := decide_eq_false hn
              cases xa
              · go_wp2_with fail
                go_at_call 17
                refine (crashed_any _ mb Bb I5.out.mb).mono ?_
                rintro e v6 ⟨rfl, hm6, hf6⟩
                have M6 : Hid (Mm v6 v5.heap.size B') := hm6.congr (HALL.out (by first | trivial | rfl))
                have I6 : Hid (Iv w v6 d k p m mb R n bs l Bb B) := I5.out.keep0 hf6
                have F6 : Hid (Fr [] v2 v6) := F5.out.trans hf6
                have X6 : Hid (v6.heap[wr.heap.size]? = some (.cells #[.int .i64 (ops j).k, .int .i64 (ops j).a, .int .i64 (ops j).b, .int .i64 (ops j).c, .string (ops j).s, .string (ops j).u] 36)) := hf6.keep X5.out (by simp)
                clear hm6 hf6
                have hs6 := blk_lt M6.out
                go_wp2_with fail
                go_at_call 11
                refine (clone_any _ _ B' M6.out).mono ?_
                rintro e v7 ⟨rfl, hm7, hf7⟩
                have C7 : Hid (Mm v7 v6.heap.size B') := hm7
                have M7 : Hid (Mm v7 v5.heap.size B') := hf7.keep M6.out (by simp)
                have I7 : Hid (Iv w v7 d k p m mb R n bs l Bb B) := I6.out.keep0 hf7
                have F7 : Hid (Fr [] v2 v7) := F6.out.trans hf7
                have X7 : Hid (v7.heap[wr.heap.size]? = some (.cells #[.int .i64 (ops j).k, .int .i64 (ops j).a, .int .i64 (ops j).b, .int .i64 (ops j).c, .string (ops j).s, .string (ops j).u] 36)) := hf7.keep X6.out (by simp)
                clear hm7 hf7 M6 I6 F6 X6 I5 F5 X5
                have hs7 := blk_lt C7.out
                go_wp2
                go_roundw
                case rel => exact ⟨j + 1, W1.heap.size, k', p', v5.heap.size, v6.heap.size, by go_num, rfl, rfl, rfl, rfl, by omega, iv_cut TO2.out TW2.out RC.out hNW F7.out M7.out C7.out (fun hk => by have := (TO2.out.dr.low _ hk).2; omega) (by omega) I7.out.fr⟩
                case measure => simp [intOf]; omega
              · go_wp2_with fail
                go_at_call 17
                refine (crashed_any _ m B I5.out.mm).mono ?_
                rintro e v6 ⟨rfl, hm6, hf6⟩
                have M6 : Hid (Mm v6 v5.heap.size B') := hm6.congr (fun i hi => (alB_iff HXA.out i hi).symm)
                have I6 : Hid (Iv w v6 d k p m mb R n bs l Bb B) := I5.out.keep0 hf6
                have F6 : Hid (Fr [] v2 v6) := F5.out.trans hf6
                have X6 : Hid (v6.heap[wr.heap.size]? = some (.cells #[.int .i64 (ops j).k, .int .i64 (ops j).a, .int .i64 (ops j).b, .int .i64 (ops j).c, .string (ops j).s, .string (ops j).u] 36)) := hf6.keep X5.out (by simp)
                clear hm6 hf6
                have hs6 := blk_lt M6.out
                go_wp2_with fail
                go_at_call 11
                refine (clone_any _ _ B' M6.out).mono ?_
                rintro e v7 ⟨rfl, hm7, hf7⟩
                have C7 : Hid (Mm v7 v6.heap.size B') := hm7
                have M7 : Hid (Mm v7 v5.heap.size B') := hf7.keep M6.out (by simp)
                have I7 : Hid (Iv w v7 d k p m mb R n bs l Bb B) := I6.out.keep0 hf7
                have F7 : Hid (Fr [] v2 v7) := F6.out.trans hf7
                have X7 : Hid (v7.heap[wr.heap.size]? = some (.cells #[.int .i64 (ops j).k, .int .i64 (ops j).a, .int .i64 (ops j).b, .int .i64 (ops j).c, .string (ops j).s, .string (ops j).u] 36)) := hf7.keep X6.out (by simp)
                clear hm7 hf7 M6 I6 F6 X6 I5 F5 X5
                have hs7 := blk_lt C7.out
                go_wp2
                go_roundw
                case rel => exact ⟨j + 1, W1.heap.size, k', p', v5.heap.size, v6.heap.size, by go_num, rfl, rfl, rfl, rfl, by omega, iv_cut TO2.out TW2.out RC.out hNW F7.out M7.out C7.out (fun hk => by have := (TO2.out.dr.low _ hk).2; omega) (by omega) I7.out.fr⟩
                case measure => simp [intOf]; omega
          · have hz' : decide ((ops j).a ≤ 0) = false := decide_eq_false hz
            by_cases hn : (l.length : Int) ≤ (ops j).a
            · have hxa := HAN.out hn
              subst hxa
              cases xn
              · go_wp2_with fail
                go_at_call 17
                refine (crashed_any _ m B I5.out.mm).mono ?_
                rintro e v6 ⟨rfl, hm6, hf6⟩
                have M6 : Hid (Mm v6 v5.heap.size B') := hm6.congr (fun i hi => (alB_iff HXA.out i hi).symm)
                have I6 : Hid (Iv w v6 d k p m mb R n bs l Bb B) := I5.out.keep0 hf6
                have F6 : Hid (Fr [] v2 v6) := F5.out.trans hf6
                have X6 : Hid (v6.heap[wr.heap.size]? = some (.cells #[.int .i64 (ops j).k, .int .i64 (ops j).a, .int .i64 (ops j).b, .int .i64 (ops j).c, .string (ops j).s, .string (ops j).u] 36)) := hf6.keep X5.out (by simp)
                clear hm6 hf6
                have hs6 := blk_lt M6.out
                go_wp2_with fail
                go_at_call 11
                refine (clone_any _ _ B' M6.out).mono ?_
                rintro e v7 ⟨rfl, hm7, hf7⟩
                have C7 : Hid (Mm v7 v6.heap.size B') := hm7
                have M7 : Hid (Mm v7 v5.heap.size B') := hf7.keep M6.out (by simp)
                have I7 : Hid (Iv w v7 d k p m mb R n bs l Bb B) := I6.out.keep0 hf7
                have F7 : Hid (Fr [] v2 v7) := F6.out.trans hf7
                have X7 : Hid (v7.heap[wr.heap.size]? = some (.cells #[.int .i64 (ops j).k, .int .i64 (ops j).a, .int .i64 (ops j).b, .int .i64 (ops j).c, .string (ops j).s, .string (ops j).u] 36)) := hf7.keep X6.out (by simp)
                clear hm7 hf7 M6 I6 F6 X6 I5 F5 X5
                have hs7 := blk_lt C7.out
                go_wp2
                go_roundw
                case rel => exact ⟨j + 1, W1.heap.size, k', p', v5.heap.size, v6.heap.size, by go_num, rfl, rfl, rfl, rfl, by omega, iv_cut TO2.out TW2.out RC.out hNW F7.out M7.out C7.out (fun hk => by have := (TO2.out.dr.low _ hk).2; omega) (by omega) I7.out.fr⟩
                case measure => simp [intOf]; omega
              · go_wp2_with fail
                go_at_call 17
                refine (crashed_any _ m B I5.out.mm).mono ?_
                rintro e v6 ⟨rfl, hm6, hf6⟩
                have M6 : Hid (Mm v6 v5.heap.size B') := hm6.congr (fun i hi => (alB_iff HXA.out i hi).symm)
                have I6 : Hid (Iv w v6 d k p m mb R n bs l Bb B) := I5.out.keep0 hf6
                have F6 : Hid (Fr [] v2 v6) := F5.out.trans hf6
                have X6 : Hid (v6.heap[wr.heap.size]? = some (.cells #[.int .i64 (ops j).k, .int .i64 (ops j).a, .int .i64 (ops j).b, .int .i64 (ops j).c, .string (ops j).s, .string (ops j).u] 36)) := hf6.keep X5.out (by simp)
                clear hm6 hf6
                have hs6 := blk_lt M6.out
                go_wp2_with fail
                go_at_call 11
                refine (clone_any _ _ B' M6.out).mono ?_
                rintro e v7 ⟨rfl, hm7, hf7⟩
                have C7 : Hid (Mm v7 v6.heap.size B') := hm7
                have M7 : Hid (Mm v7 v5.heap.size B') := hf7.keep M6.out (by simp)
                have I7 : Hid (Iv w v7 d k p m mb R n bs l Bb B) := I6.out.keep0 hf7
                have F7 : Hid (Fr [] v2 v7) := F6.out.trans hf7
                have X7 : Hid (v7.heap[wr.heap.size]? = some (.cells #[.int .i64 (ops j).k, .int .i64 (ops j).a, .int .i64 (ops j).b, .int .i64 (ops j).c, .string (ops j).s, .string (ops j).u] 36)) := hf7.keep X6.out (by simp)
                clear hm7 hf7 M6 I6 F6 X6 I5 F5 X5
                have hs7 := blk_lt C7.out
                go_wp2
                go_roundw
                case rel => exact ⟨j + 1, W1.heap.size, k', p', v5.heap.size, v6.heap.size, by go_num, rfl, rfl, rfl, rfl, by omega, iv_cut TO2.out TW2.out RC.out hNW F7.out M7.out C7.out (fun hk => by have := (TO2.out.dr.low _ hk).2; omega) (by omega) I7.out.fr⟩
                case measure => simp [intOf]; omega
            · have hn' : decide ((l.length : Int) ≤ (ops j).a) = false := decide_eq_false hn
              cases xn
              · cases xa
                · exfalso
                  have := HOR.out
                  simp at this
                · go_wp2_with fail
                  go_at_call 17
                  refine (crashed_any _ m B I5.out.mm).mono ?_
                  rintro e v6 ⟨rfl, hm6, hf6⟩
                  have M6 : Hid (Mm v6 v5.heap.size B') := hm6.congr (fun i hi => (alB_iff HXA.out i hi).symm)
                  have I6 : Hid (Iv w v6 d k p m mb R n bs l Bb B) := I5.out.keep0 hf6
                  have F6 : Hid (Fr [] v2 v6) := F5.out.trans hf6
                  have X6 : Hid (v6.heap[wr.heap.size]? = some (.cells #[.int .i64 (ops j).k, .int .i64 (ops j).a, .int .i64 (ops j).b, .int .i64 (ops j).c, .string (ops j).s, .string (ops j).u] 36)) := hf6.keep X5.out (by simp)
                  clear hm6 hf6
                  have hs6 := blk_lt M6.out
                  go_wp2_with fail
                  go_at_call 11
                  refine (clone_any _ _ B' M6.out).mono ?_
                  rintro e v7 ⟨rfl, hm7, hf7⟩
                  have C7 : Hid (Mm v7 v6.heap.size B') := hm7
                  have M7 : Hid (Mm v7 v5.heap.size B') := hf7.keep M6.out (by simp)
                  have I7 : Hid (Iv w v7 d k p m mb R n bs l Bb B) := I6.out.keep0 hf7
                  have F7 : Hid (Fr [] v2 v7) := F6.out.trans hf7
                  have X7 : Hid (v7.heap[wr.heap.size]? = some (.cells #[.int .i64 (ops j).k, .int .i64 (ops j).a, .int .i64 (ops j).b, .int .i64 (ops j).c, .string (ops j).s, .string (ops j).u] 36)) := hf7.keep X6.out (by simp)
                  clear hm7 hf7 M6 I6 F6 X6 I5 F5 X5
                  have hs7 := blk_lt C7.out
                  go_wp2
                  go_roundw
                  case rel => exact ⟨j + 1, W1.heap.size, k', p', v5.heap.size, v6.heap.size, by go_num, rfl, rfl, rfl, rfl, by omega, iv_cut TO2.out TW2.out RC.out hNW F7.out M7.out C7.out (fun hk => by have := (TO2.out.dr.low _ hk).2; omega) (by omega) I7.out.fr⟩
                  case measure => simp [intOf]; omega
              · cases xa
                · go_wp2_with fail
                  go_at_call 17
                  refine (crashed_any _ mb Bb I5.out.mb).mono ?_
                  rintro e v6 ⟨rfl, hm6, hf6⟩
                  have M6 : Hid (Mm v6 v5.heap.size B') := hm6.congr (HALL.out (by first | trivial | rfl))
                  have I6 : Hid (Iv w v6 d k p m mb R n bs l Bb B) := I5.out.keep0 hf6
                  have F6 : Hid (Fr [] v2 v6) := F5.out.trans hf6
                  have X6 : Hid (v6.heap[wr.heap.size]? = some (.cells #[.int .i64 (ops j).k, .int .i64 (ops j).a, .int .i64 (ops j).b, .int .i64 (ops j).c, .string (ops j).s, .string (ops j).u] 36)) := hf6.keep X5.out (by simp)
                  clear hm6 hf6
                  have hs6 := blk_lt M6.out
                  go_wp2_with fail
                  go_at_call 11
                  refine (clone_any _ _ B' M6.out).mono ?_
                  rintro e v7 ⟨rfl, hm7, hf7⟩
                  have C7 : Hid (Mm v7 v6.heap.size B') := hm7
                  have M7 : Hid (Mm v7 v5.heap.size B') := hf7.keep M6.out (by simp)
                  have I7 : Hid (Iv w v7 d k p m mb R n bs l Bb B) := I6.out.keep0 hf7
                  have F7 : Hid (Fr [] v2 v7) := F6.out.trans hf7
                  have X7 : Hid (v7.heap[wr.heap.size]? = some (.cells #[.int .i64 (ops j).k, .int .i64 (ops j).a, .int .i64 (ops j).b, .int .i64 (ops j).c, .string (ops j).s, .string (ops j).u] 36)) := hf7.keep X6.out (by simp)
                  clear hm7 hf7 M6 I6 F6 X6 I5 F5 X5
                  have hs7 := blk_lt C7.out
                  go_wp2
                  go_roundw
                  case rel => exact ⟨j + 1, W1.heap.size, k', p', v5.heap.size, v6.heap.size, by go_num, rfl, rfl, rfl, rfl, by omega, iv_cut TO2.out TW2.out RC.out hNW F7.out M7.out C7.out (fun hk => by have := (TO2.out.dr.low _ hk).2; omega) (by omega) I7.out.fr⟩
                  case measure => simp [intOf]; omega
                · go_wp2_with fail
                  go_at_call 17
                  refine (crashed_any _ m B I5.out.mm).mono ?_
                  rintro e v6 ⟨rfl, hm6, hf6⟩
                  have M6 : Hid (Mm v6 v5.heap.size B') := hm6.congr (fun i hi => (alB_iff HXA.out i hi).symm)
                  have I6 : Hid (Iv w v6 d k p m mb R n bs l Bb B) := I5.out.keep0 hf6
                  have F6 : Hid (Fr [] v2 v6) := F5.out.trans hf6
                  have X6 : Hid (v6.heap[wr.heap.size]? = some (.cells #[.int .i64 (ops j).k, .int .i64 (ops j).a, .int .i64 (ops j).b, .int .i64 (ops j).c, .string (ops j).s, .string (ops j).u] 36)) := hf6.keep X5.out (by simp)
                  clear hm6 hf6
                  have hs6 := blk_lt M6.out
                  go_wp2_with fail
                  go_at_call 11
                  refine (clone_any _ _ B' M6.out).mono ?_
                  rintro e v7 ⟨rfl, hm7, hf7⟩
                  have C7 : Hid (Mm v7 v6.heap.size B') := hm7
                  have M7 : Hid (Mm v7 v5.heap.size B') := hf7.keep M6.out (by simp)
                  have I7 : Hid (Iv w v7 d k p m mb R n bs l Bb B) := I6.out.keep0 hf7
                  have F7 : Hid (Fr [] v2 v7) := F6.out.trans hf7
                  have X7 : Hid (v7.heap[wr.heap.size]? = some (.cells #[.int .i64 (ops j).k, .int .i64 (ops j).a, .int .i64 (ops j).b, .int .i64 (ops j).c, .string (ops j).s, .string (ops j).u] 36)) := hf7.keep X6.out (by simp)
                  clear hm7 hf7 M6 I6 F6 X6 I5 F5 X5
                  have hs7 := blk_lt C7.out
                  go_wp2
                  go_roundw
                  case rel => exact ⟨j + 1, W1.heap.size, k', p', v5.heap.size, v6.heap.size, by go_num, rfl, rfl, rfl, rfl, by omega, iv_cut TO2.out TW2.out RC.out hNW F7.out M7.out C7.out (fun hk => by have := (TO2.out.dr.low _ hk).2; omega) (by omega) I7.out.fr⟩
                  case measure => simp [intOf]; omega
        · have d5 : ((ops j).k != 5) = true := by rw [bne_iff_ne]; exact hk5
          go_wp2_with fail
          generalize wr.alloc (.cells #[.int .i64 (ops j).k, .int .i64 (ops j).a, .int .i64 (ops j).b, .int .i64 (ops j).c, .string (ops j).s, .string (ops j).u] 36) = W1 at I1 X1 ⊢
          clear e0 e1 e2 e3 e4 e5
          go_at_call 14
          refine (law_mark w.heap.size _ d R n bs l I1.out.dr).mono ?_
          rintro e v1 ⟨rfl, hd1, hf1⟩
          obtain ⟨q1, q2, q3, q4, q5, q6⟩ := I1.out.mark hd1 hf1
          have D2 : Hid (Dr w.heap.size v1 d [d] n n []) := q1
          have T2 : Hid (Tw v1 k p d [d]) := q2
          have R2 : Hid (Rec n n [] B B) := q3
          have M2 : Hid (Mm v1 m B) := q4
          have N2 : Hid (m ∉ [d]) := q5
          have F2 : Hid (Fr [] w v1) := q6
          have X2 : Hid (v1.heap[wr.heap.size]? = some (.cells #[.int .i64 (ops j).k, .int .i64 (ops j).a, .int .i64 (ops j).b, .int .i64 (ops j).c, .string (ops j).s, .string (ops j).u] 36)) := hf1.keep X1.out (by simp; omega)
          have hm0 := I1.out.hm
          have hd0 := (D2.out.low d (by simp)).1
          clear q1 q2 q3 q4 q5 q6 hd1 hf1 I1 X1
          have hv1 := blk_lt X2.out
          go_wp2_with fail
          go_at_call 11
          refine (clone_any _ m B M2.out).mono ?_
          rintro e v2 ⟨rfl, hc2, hf2⟩
          have C3 : Hid (Mm v2 v1.heap.size B) := hc2
          have X3 : Hid (v2.heap[wr.heap.size]? = some (.cells #[.int .i64 (ops j).k, .int .i64 (ops j).a, .int .i64 (ops j).b, .int .i64 (ops j).c, .string (ops j).s, .string (ops j).u] 36)) := hf2.keep X2.out (by simp)
          have D3 : Hid (Dr w.heap.size v2 d [d] n n []) := D2.out.keep0 hf2
          have T3 : Hid (Tw v2 k p d [d]) := T2.out.keep0 hf2
          have M3 : Hid (Mm v2 m B) := hf2.keep M2.out (by simp)
          have F3 : Hid (Fr [] w v2) := F2.out.trans hf2
          clear hc2 hf2 X2 D2 T2 M2 F2
          have x0 := blk_cell X3.out 0
          have x1 := blk_cell X3.out 1
          have x2 := blk_cell X3.out 2
          have x3 := blk_cell X3.out 3
          have x4 := blk_cell X3.out 4
          have x5 := blk_cell X3.out 5
          go_wp2_with fail
          go_at_call 15
          refine (play_any w.heap.size _ k p d m [d] n B D3.out T3.out R2.out M3.out N2.out (ops j)).mono ?_
          rintro e v3 ⟨rfl, hp3⟩
          obtain ⟨R', n', bs', l', Bb', B', hI4⟩ := iv_played hd0 hm0 F3.out hp3 C3.out (by omega) (by omega)
          have I4 : Hid (Iv w v3 d k p m v1.heap.size R' n' bs' l' Bb' B') := hI4
          clear hI4 hp3 C3 X3 D3 T3 M3 F3 R2 N2 x0 x1 x2 x3 x4 x5
          go_wp2_with fail
          go_at_call 12
          refine (law_steps _ _ _ _ _ _ _ I4.out.dr).mono ?_
          rintro e v4 ⟨rfl, hv4⟩
          subst hv4
          go_wp2_with fail
          go_at_call 13
          refine (alike_any _ _ _ _ _ _ _ _ _ _ B' B' I4.out.dr I4.out.tw I4.out.rc.good I4.out.rc.ok I4.out.mm I4.out.rc.ok).mono ?_
          rintro e v5 ⟨rfl, hf5⟩
          rw [alB_self]
          have I9 : Hid (Iv w v5 d k p m v1.heap.size R' n' bs' l' Bb' B') := I4.out.keep0 hf5
          clear hf5 I4
          go_wp2_with fail
          go_at_call 12
          refine (law_steps _ _ _ _ _ _ _ I9.out.dr).mono ?_
          rintro e v6 ⟨rfl, hv6⟩
          subst hv6
          go_wp2
          go_roundw
          case rel => exact ⟨j + 1, d, k, p, m, v1.heap.size, by go_num, rfl, rfl, rfl, rfl, by omega, ⟨_, _, _, _, _, _, I9.out⟩⟩
          case measure => simp [intOf]; omega
      · obtain ⟨_, _, _, _, _, _, h⟩ := HI.out
        have hfr := h.fr
        clear h
        have hq2 : ¬ ((len : Int) < 4398046511104) := by omega
        go_wp2
        go_ret2
        exact ⟨⟨_, rfl⟩, hfr⟩
    · obtain ⟨_, _, _, _, _, _, h⟩ := HI.out
      have hfr := h.fr
      clear h
      have hk2 : j = len := by omega
      subst hk2
      by_cases hq2 : (j : Int) < 4398046511104
      · go_wp2
        go_ret2
        exact ⟨⟨_, rfl⟩, hfr⟩
      · go_wp2
        go_ret2
        exact ⟨⟨_, rfl⟩, hfr⟩

theorem walk_loud (w : World) (v : Value) (h : ScrV w v) : Calls Try.prog 7 #[v, .bool false, .bool false] w fun e w' => (∃ n, e = .returned (.tuple #[.int .i64 (-1), .int .i64 n])) ∧ Fr [] w w' := by
  rcases h with ⟨a0, cap, rfl⟩ | ⟨bs, off, len, cap, ops, rfl, h1, h2, h3⟩
  · exact walk_loud_nil a0 cap w
  · exact walk_loud_some w bs off len cap ops h1 h2 h3

end Go.Proofs.Qxb6500339a
