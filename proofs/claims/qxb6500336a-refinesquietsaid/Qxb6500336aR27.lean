import Derived.Test.Qxb6500336aR26
namespace Go.Proofs.Qxb6500336a
open Go.RowKit
set_option linter.unusedVariables false
set_option linter.unusedSimpArgs false

set_option maxRecDepth 100000 in
set_option maxHeartbeats 6400000 in
theorem walk_quiet_nil (a0 : Option Addr) (cap : Nat) (w : World) :
    Calls Try.prog 30 #[.slice a0 0 cap, .bool true] w fun e w' => (∃ n, e = .returned (.tuple #[.int .i64 (-1), .int .i64 n])) ∧ Fr [] w w' := by
  go_enter Try.func30, Try.ntmps30
  go_wp2_with fail
  go_at_call 26
  refine (tnew_any _).mono ?_
  rintro e w1 ⟨rfl, hb1, hf1⟩
  have X1 : Hid (JR w1 w.heap.size (w.heap.size + 1) 0 []) := ⟨w.heap.size, _, hb1, by omega, by omega, fun k hk => by simp [Value.ownBlock] at hk⟩
  clear hb1
  go_wp2_with fail
  go_at_call 37
  refine (mmnew_any _).mono ?_
  rintro e w2 ⟨rfl, hm2, hf2⟩
  have M2 : Hid (JM w2 w.heap.size (w1.heap.size + 1) 0 []) := ⟨w1.heap.size, _, _, hm2, by have := hf1.size; omega, fun b hb => by have := hf1.size; simp [Oa, Value.ownBlock] at hb; omega⟩
  have X2 : Hid (JR w2 w.heap.size (w.heap.size + 1) 0 []) := X1.out.keep0 hf2
  have F2 : Hid (Fr [] w w2) := hf1.trans hf2
  clear hm2 hf1 hf2 X1
  generalize w1.heap.size + 1 = y at M2 ⊢
  generalize hxx : w.heap.size + 1 = x at X2 ⊢
  clear hxx
  have M3 : Hid (JM w2 w.heap.size y 0 []) := M2
  have X3 : Hid (JR w2 w.heap.size x 0 []) := X2
  have F3 : Hid (Fr [] w w2) := F2
  clear M2 X2 F2
  go_wp2_with fail
  go_loopw [8] (fun i wr => i = .int .i64 0 ∧ Fr [] w wr) (fun _ _ => 0)
  case atStart => exact ⟨rfl, F3.out⟩
  case round =>
    obtain ⟨rfl, hfr⟩ := hrel
    go_wp2
    go_ret2
    exact ⟨⟨_, rfl⟩, hfr⟩

set_option maxRecDepth 100000 in
set_option maxHeartbeats 12800000 in
theorem walk_quiet_short (w : World) (sb off len cap : Nat) (ops : Nat → OpT) (hlen : len ≤ maxLen) (hb : sb < w.heap.size) (hsc : Scr w sb off len ops) (hq : ¬ ((4398046511104 : Int) < len)) :
    Calls Try.prog 30 #[.slice (some ⟨sb, off, none⟩) len cap, .bool true] w fun e w' => (∃ n, e = .returned (.tuple #[.int .i64 (-1), .int .i64 n])) ∧ Fr [] w w' := by
  have hl63 : len ≤ 9223372036854775807 := by unfold maxLen at hlen; omega
  have HS : Hid (Scr w sb off len ops) := hsc
  clear hsc hlen
  go_enter Try.func30, Try.ntmps30
  go_wp2_with fail
  go_at_call 26
  refine (tnew_any _).mono ?_
  rintro e w1 ⟨rfl, hb1, hf1⟩
  have X1 : Hid (JR w1 w.heap.size (w.heap.size + 1) 0 []) := ⟨w.heap.size, _, hb1, by omega, by omega, fun k hk => by simp [Value.ownBlock] at hk⟩
  clear hb1
  go_wp2_with fail
  go_at_call 37
  refine (mmnew_any _).mono ?_
  rintro e w2 ⟨rfl, hm2, hf2⟩
  have M2 : Hid (JM w2 w.heap.size (w1.heap.size + 1) 0 []) := ⟨w1.heap.size, _, _, hm2, by have := hf1.size; omega, fun b hb => by have := hf1.size; simp [Oa, Value.ownBlock] at hb; omega⟩
  have X2 : Hid (JR w2 w.heap.size (w.heap.size + 1) 0 []) := X1.out.keep0 hf2
  have F2 : Hid (Fr [] w w2) := hf1.trans hf2
  clear hm2 hf1 hf2 X1
  generalize w1.heap.size + 1 = y at M2 ⊢
  generalize hxx : w.heap.size + 1 = x at X2 ⊢
  clear hxx
  have M3 : Hid (JM w2 w.heap.size y 0 []) := M2
  have X3 : Hid (JR w2 w.heap.size x 0 []) := X2
  have F3 : Hid (Fr [] w w2) := F2
  clear M2 X2 F2
  go_wp2_with fail
  go_loopw [8] (fun i wr => ∃ (k : Nat) (acc : Int) (rs : List Code), i = .int .i64 k ∧ k ≤ len ∧ Hid (Wf rs) ∧ Hid (JR wr w.heap.size x acc rs) ∧ Hid (JM wr w.heap.size y acc rs) ∧ Fr [] w wr) (fun i _ => len - (intOf i).toNat)
  case atStart => exact ⟨0, 0, [], rfl, by omega, Wf.nil, X3, M3, F3.out⟩
  case round =>
    clear X3 M3 F3
    obtain ⟨k, acc, rs, rfl, hk, HI, X, M, hfr⟩ := hrel
    by_cases hlt : (k : Int) < (len : Int)
    · have hlt2 : k < len := by omega
      have hmx : (k : Int) < 4398046511104 := by omega
      have hkl : (k : Int) < (len : Int) := by omega
      obtain ⟨e0, e1, e2, e3, e4, e5⟩ := HS.out.cells hb hfr hlt2
      have HFR : Hid (Fr [] w wr) := hfr
      clear hfr
      go_wp2_with fail
      clear e0 e1 e2 e3 e4 e5
      go_at_call 39
      refine (do_any (ops k) X.out HI.out HFR.out.size).mono ?_
      rintro e w5 ⟨rfl, hr5, hf5⟩
      have X5 : Hid (JR w5 w.heap.size x (nA acc rs (ops k)) (nR acc rs (ops k))) := hr5
      have M5 : Hid (JM w5 w.heap.size y acc rs) := M.out.keepR hf5
      have F5 : Hid (Fr [] w w5) := FrT.below HFR.out hf5
      clear hr5 hf5 X M HFR
      obtain ⟨o0, o1, o2, o3, o4, o5⟩ := HS.out.cells hb F5.out hlt2
      have hs5 := F5.out.size
      have hsb5 : sb < w5.heap.size := by omega
      unfold ansV
      go_wp2_with fail
      have A6 : Hid ((w5.alloc (.cells #[.int .i64 (aE acc rs (ops k)), .int .i64 (aN acc rs (ops k)), .int .i64 0, .string (aS acc rs (ops k))] 48)).heap[w5.heap.size]? = some (.cells #[.int .i64 (aE acc rs (ops k)), .int .i64 (aN acc rs (ops k)), .int .i64 0, .string (aS acc rs (ops k))] 48)) := blk_new _ _
      have X6 : Hid (JR (w5.alloc (.cells #[.int .i64 (aE acc rs (ops k)), .int .i64 (aN acc rs (ops k)), .int .i64 0, .string (aS acc rs (ops k))] 48)) w.heap.size x (nA acc rs (ops k)) (nR acc rs (ops k))) := X5.out.keep0 ((Fr.refl [] _).alloc _)
      have M6 : Hid (JM (w5.alloc (.cells #[.int .i64 (aE acc rs (ops k)), .int .i64 (aN acc rs (ops k)), .int .i64 0, .string (aS acc rs (ops k))] 48)) w.heap.size y acc rs) := M5.out.keep0 ((Fr.refl [] _).alloc _)
      have F6 : Hid (Fr [] w (w5.alloc (.cells #[.int .i64 (aE acc rs (ops k)), .int .i64 (aN acc rs (ops k)), .int .i64 0, .string (aS acc rs (ops k))] 48))) := F5.out.alloc _
      generalize w5.alloc (.cells #[.int .i64 (aE acc rs (ops k)), .int .i64 (aN acc rs (ops k)), .int .i64 0, .string (aS acc rs (ops k))] 48) = W6 at A6 X6 M6 F6 ⊢
      generalize hq5 : w5.heap.size = q5 at A6 ⊢
      clear hq5 X5 M5 F5 o0 o1 o2 o3 o4 o5 hs5 hsb5
      go_at_call 40
      refine (dom_any (ops k) M6.out HI.out F6.out.size).mono ?_
      rintro e w7 ⟨rfl, hr7, hf7⟩
      have M7 : Hid (JM w7 w.heap.size y (nA acc rs (ops k)) (nR acc rs (ops k))) := hr7
      have X7 : Hid (JR w7 w.heap.size x (nA acc rs (ops k)) (nR acc rs (ops k))) := X6.out.keepM hf7
      have A7 : Hid (w7.heap[q5]? = some (.cells #[.int .i64 (aE acc rs (ops k)), .int .i64 (aN acc rs (ops k)), .int .i64 0, .string (aS acc rs (ops k))] 48)) := hf7.keep A6.out (by simp)
      have F7 : Hid (Fr [] w w7) := FrT.below F6.out hf7
      clear hr7 hf7 M6 X6 A6 F6
      have I8 : Hid (Wf (nR acc rs (ops k))) := nR_wf HI.out (ops k)
      unfold ansV
      have he := fun W => eq_ansR W (aE acc rs (ops k)) (aN acc rs (ops k)) 0 (aS acc rs (ops k))
      have a0 := blk_cell A7.out 0
      have a1 := blk_cell A7.out 1
      have a2 := blk_cell A7.out 2
      have a3 := blk_cell A7.out 3
      have hq7 := blk_lt A7.out
      have X8 : Hid (JR (w7.alloc (.cells #[.int .i64 (aE acc rs (ops k)), .int .i64 (aN acc rs (ops k)), .int .i64 0, .string (aS acc rs (ops k))] 48)) w.heap.size x (nA acc rs (ops k)) (nR acc rs (ops k))) := X7.out.keep0 ((Fr.refl [] _).alloc _)
      have M8 : Hid (JM (w7.alloc (.cells #[.int .i64 (aE acc rs (ops k)), .int .i64 (aN acc rs (ops k)), .int .i64 0, .string (aS acc rs (ops k))] 48)) w.heap.size y (nA acc rs (ops k)) (nR acc rs (ops k))) := M7.out.keep0 ((Fr.refl [] _).alloc _)
      have F8 : Hid (Fr [] w (w7.alloc (.cells #[.int .i64 (aE acc rs (ops k)), .int .i64 (aN acc rs (ops k)), .int .i64 0, .string (aS acc rs (ops k))] 48))) := F7.out.alloc _
      go_wp2_with fail
      go_roundw
      case rel => exact ⟨k + 1, _, _, by go_num, by omega, I8, X8, M8, F8.out⟩
      case measure => simp [intOf]; omega
    · skip
      go_wp2
      go_ret2
      exact ⟨⟨_, rfl⟩, hfr⟩

set_option maxRecDepth 100000 in
set_option maxHeartbeats 12800000 in
theorem walk_quiet_long (w : World) (sb off len cap : Nat) (ops : Nat → OpT) (hlen : len ≤ maxLen) (hb : sb < w.heap.size) (hsc : Scr w sb off len ops) (hq : (4398046511104 : Int) < len) :
    Calls Try.prog 30 #[.slice (some ⟨sb, off, none⟩) len cap, .bool true] w fun e w' => (∃ n, e = .returned (.tuple #[.int .i64 (-1), .int .i64 n])) ∧ Fr [] w w' := by
  have hl63 : len ≤ 9223372036854775807 := by unfold maxLen at hlen; omega
  have HS : Hid (Scr w sb off len ops) := hsc
  clear hsc hlen
  go_enter Try.func30, Try.ntmps30
  go_wp2_with fail
  go_at_call 26
  refine (tnew_any _).mono ?_
  rintro e w1 ⟨rfl, hb1, hf1⟩
  have X1 : Hid (JR w1 w.heap.size (w.heap.size + 1) 0 []) := ⟨w.heap.size, _, hb1, by omega, by omega, fun k hk => by simp [Value.ownBlock] at hk⟩
  clear hb1
  go_wp2_with fail
  go_at_call 37
  refine (mmnew_any _).mono ?_
  rintro e w2 ⟨rfl, hm2, hf2⟩
  have M2 : Hid (JM w2 w.heap.size (w1.heap.size + 1) 0 []) := ⟨w1.heap.size, _, _, hm2, by have := hf1.size; omega, fun b hb => by have := hf1.size; simp [Oa, Value.ownBlock] at hb; omega⟩
  have X2 : Hid (JR w2 w.heap.size (w.heap.size + 1) 0 []) := X1.out.keep0 hf2
  have F2 : Hid (Fr [] w w2) := hf1.trans hf2
  clear hm2 hf1 hf2 X1
  generalize w1.heap.size + 1 = y at M2 ⊢
  generalize hxx : w.heap.size + 1 = x at X2 ⊢
  clear hxx
  have M3 : Hid (JM w2 w.heap.size y 0 []) := M2
  have X3 : Hid (JR w2 w.heap.size x 0 []) := X2
  have F3 : Hid (Fr [] w w2) := F2
  clear M2 X2 F2
  go_wp2_with fail
  go_loopw [8] (fun i wr => ∃ (k : Nat) (acc : Int) (rs : List Code), i = .int .i64 k ∧ k ≤ 4398046511104 ∧ Hid (Wf rs) ∧ Hid (JR wr w.heap.size x acc rs) ∧ Hid (JM wr w.heap.size y acc rs) ∧ Fr [] w wr) (fun i _ => 4398046511104 - (intOf i).toNat)
  case atStart => exact ⟨0, 0, [], rfl, by omega, Wf.nil, X3, M3, F3.out⟩
  case round =>
    clear X3 M3 F3
    obtain ⟨k, acc, rs, rfl, hk, HI, X, M, hfr⟩ := hrel
    by_cases hlt : (k : Int) < 4398046511104
    · have hlt2 : k < len := by omega
      have hmx : (k : Int) < 4398046511104 := by omega
      have hkl : (k : Int) < (len : Int) := by omega
      obtain ⟨e0, e1, e2, e3, e4, e5⟩ := HS.out.cells hb hfr hlt2
      have HFR : Hid (Fr [] w wr) := hfr
      clear hfr
      go_wp2_with fail
      clear e0 e1 e2 e3 e4 e5
      go_at_call 39
      refine (do_any (ops k) X.out HI.out HFR.out.size).mono ?_
      rintro e w5 ⟨rfl, hr5, hf5⟩
      have X5 : Hid (JR w5 w.heap.size x (nA acc rs (ops k)) (nR acc rs (ops k))) := hr5
      have M5 : Hid (JM w5 w.heap.size y acc rs) := M.out.keepR hf5
      have F5 : Hid (Fr [] w w5) := FrT.below HFR.out hf5
      clear hr5 hf5 X M HFR
      obtain ⟨o0, o1, o2, o3, o4, o5⟩ := HS.out.cells hb F5.out hlt2
      have hs5 := F5.out.size
      have hsb5 : sb < w5.heap.size := by omega
      unfold ansV
      go_wp2_with fail
      have A6 : Hid ((w5.alloc (.cells #[.int .i64 (aE acc rs (ops k)), .int .i64 (aN acc rs (ops k)), .int .i64 0, .string (aS acc rs (ops k))] 48)).heap[w5.heap.size]? = some (.cells #[.int .i64 (aE acc rs (ops k)), .int .i64 (aN acc rs (ops k)), .int .i64 0, .string (aS acc rs (ops k))] 48)) := blk_new _ _
      have X6 : Hid (JR (w5.alloc (.cells #[.int .i64 (aE acc rs (ops k)), .int .i64 (aN acc rs (ops k)), .int .i64 0, .string (aS acc rs (ops k))] 48)) w.heap.size x (nA acc rs (ops k)) (nR acc rs (ops k))) := X5.out.keep0 ((Fr.refl [] _).alloc _)
      have M6 : Hid (JM (w5.alloc (.cells #[.int .i64 (aE acc rs (ops k)), .int .i64 (aN acc rs (ops k)), .int .i64 0, .string (aS acc rs (ops k))] 48)) w.heap.size y acc rs) := M5.out.keep0 ((Fr.refl [] _).alloc _)
      have F6 : Hid (Fr [] w (w5.alloc (.cells #[.int .i64 (aE acc rs (ops k)), .int .i64 (aN acc rs (ops k)), .int .i64 0, .string (aS acc rs (ops k))] 48))) := F5.out.alloc _
      generalize w5.alloc (.cells #[.int .i64 (aE acc rs (ops k)), .int .i64 (aN acc rs (ops k)), .int .i64 0, .string (aS acc rs (ops k))] 48) = W6 at A6 X6 M6 F6 ⊢
      generalize hq5 : w5.heap.size = q5 at A6 ⊢
      clear hq5 X5 M5 F5 o0 o1 o2 o3 o4 o5 hs5 hsb5
      go_at_call 40
      refine (dom_any (ops k) M6.out HI.out F6.out.size).mono ?_
      rintro e w7 ⟨rfl, hr7, hf7⟩
      have M7 : Hid (JM w7 w.heap.size y (nA acc rs (ops k)) (nR acc rs (ops k))) := hr7
      have X7 : Hid (JR w7 w.heap.size x (nA acc rs (ops k)) (nR acc rs (ops k))) := X6.out.keepM hf7
      have A7 : Hid (w7.heap[q5]? = some (.cells #[.int .i64 (aE acc rs (ops k)), .int .i64 (aN acc rs (ops k)), .int .i64 0, .string (aS acc rs (ops k))] 48)) := hf7.keep A6.out (by simp)
      have F7 : Hid (Fr [] w w7) := FrT.below F6.out hf7
      clear hr7 hf7 M6 X6 A6 F6
      have I8 : Hid (Wf (nR acc rs (ops k))) := nR_wf HI.out (ops k)
      unfold ansV
      have he := fun W => eq_ansR W (aE acc rs (ops k)) (aN acc rs (ops k)) 0 (aS acc rs (ops k))
      have a0 := blk_cell A7.out 0
      have a1 := blk_cell A7.out 1
      have a2 := blk_cell A7.out 2
      have a3 := blk_cell A7.out 3
      have hq7 := blk_lt A7.out
      have X8 : Hid (JR (w7.alloc (.cells #[.int .i64 (aE acc rs (ops k)), .int .i64 (aN acc rs (ops k)), .int .i64 0, .string (aS acc rs (ops k))] 48)) w.heap.size x (nA acc rs (ops k)) (nR acc rs (ops k))) := X7.out.keep0 ((Fr.refl [] _).alloc _)
      have M8 : Hid (JM (w7.alloc (.cells #[.int .i64 (aE acc rs (ops k)), .int .i64 (aN acc rs (ops k)), .int .i64 0, .string (aS acc rs (ops k))] 48)) w.heap.size y (nA acc rs (ops k)) (nR acc rs (ops k))) := M7.out.keep0 ((Fr.refl [] _).alloc _)
      have F8 : Hid (Fr [] w (w7.alloc (.cells #[.int .i64 (aE acc rs (ops k)), .int .i64 (aN acc rs (ops k)), .int .i64 0, .string (aS acc rs (ops k))] 48))) := F7.out.alloc _
      go_wp2_with fail
      go_roundw
      case rel => exact ⟨k + 1, _, _, by go_num, by omega, I8, X8, M8, F8.out⟩
      case measure => simp [intOf]; omega
    · have hkl : (k : Int) < (len : Int) := by omega
      go_wp2
      go_ret2
      exact ⟨⟨_, rfl⟩, hfr⟩

theorem walk_quiet (w : World) (v : Value) (h : ScrV w v) : Calls Try.prog 30 #[v, .bool true] w fun e w' => (∃ n, e = .returned (.tuple #[.int .i64 (-1), .int .i64 n])) ∧ Fr [] w w' := by
  rcases h with ⟨a0, cap, rfl⟩ | ⟨bs, off, len, cap, ops, rfl, h1, h2, h3⟩
  · exact walk_quiet_nil a0 cap w
  · by_cases hq : (4398046511104 : Int) < len
    · exact walk_quiet_long w bs off len cap ops h1 h2 h3 hq
    · exact walk_quiet_short w bs off len cap ops h1 h2 h3 hq
end Go.Proofs.Qxb6500336a
