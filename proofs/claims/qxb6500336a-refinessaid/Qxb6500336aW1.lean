import Derived.Test.Qxb6500336aTr
import Derived.Lib.ConvBytes
namespace Go.Proofs.Qxb6500336a
open Go.RowKit
set_option linter.unusedVariables false
theorem tail_text {W : World} {B : Nat} (pre vs : List Value) (l : List UInt8) (hv : vs = l.map fun c => Value.int .u8 (c.toNat : Int)) (hb : W.heap[B]? = some (.cells (pre ++ vs).toArray 62)) (i : Nat) (hi : i = pre.length) (c : Nat) :
    (convert 63 9 (.slice (some ⟨B, i, none⟩) l.length c)).run Try.prog W = .ok (.string ⟨l.toArray⟩) W := by
  subst hv hi
  refine run_convert_bytes_back _ 63 9 5 ⟨B, pre.length, none⟩ c l Try.underlying63 Try.underlying5 Try.underlying9 (fun j hj => ?_)
  rw [show (⟨B, pre.length, none⟩ : Addr).add j = ⟨B, pre.length + j, none⟩ from by unfold Addr.add; split <;> simp_all]
  rw [blk_cell hb (pre.length + j)]
  simp [List.getElem?_append_right, List.getElem?_eq_getElem hj]

def bufA (j : Nat) (L : List UInt8) : Array Value := (List.replicate (24 - j) (Value.int .u8 0) ++ L.map fun (c : UInt8) => Value.int .u8 (c.toNat : Int)).toArray

theorem bufA_at (j : Nat) (L : List UInt8) (hj : j ≤ 20) : (bufA j L)[24 - j - 1]? = some (Value.int .u8 0) := by
  unfold bufA
  simp only [List.getElem?_toArray]
  rw [List.getElem?_append_left (by simp; omega), List.getElem?_replicate, if_pos (by omega)]
theorem bufA_set (j : Nat) (L : List UInt8) (hj : j ≤ 20) (d : Nat) (hd : d < 10) : (bufA j L).setIfInBounds (24 - j - 1) (Value.int .u8 (48 + (d : Int))) = bufA (j + 1) (UInt8.ofNat (48 + d) :: L) := by
  unfold bufA
  rw [show 24 - j = (24 - (j + 1)) + 1 from by omega, List.replicate_succ']
  simp; omega
theorem bufA_neg (j : Nat) (L : List UInt8) (hj : j ≤ 20) : (bufA j L).setIfInBounds (24 - j - 1) (Value.int .u8 45) = bufA (j + 1) (45 :: L) := by
  unfold bufA
  rw [show 24 - j = (24 - (j + 1)) + 1 from by omega, List.replicate_succ']
  simp
theorem dgs_step (f m : Nat) (L : List UInt8) (hm : m ≠ 0) : dgs (f + 1) m L = dgs f (m / 10) (UInt8.ofNat (48 + m % 10) :: L) := by rw [dgs, if_neg hm]
theorem dgs_zero (f : Nat) (L : List UInt8) : dgs f 0 L = L := by cases f <;> simp [dgs]

theorem slice_arr (W : World) (B : Nat) (j : Nat) (hj : j ≤ 23) (h0 : 0 < j) : (Instr.sliceAt 62 (.pointer (some ⟨B, 0, none⟩)) (some (.int .i64 (24 - (j : Int)))) none none).run Try.prog W = .ok (.slice (some ⟨B, 24 - j, none⟩) j j) W := by
  have h2 : (24 - (j : Int)).toNat = 24 - j := by omega
  have h4 : 24 - (24 - j) = j := by omega
  have h5 : ¬ (24 : Nat) = 24 - j := by omega
  have h7 : ¬ 24 - j = 0 := by omega
  have hs : ∀ w, (sizeOf 5).run Try.prog w = .ok 1 w := fun w => by kernel_rfl
  have hl : Try.prog.arrayLen 62 = 24 := by kernel_rfl
  have hm : Try.prog.elem 62 = 5 := by kernel_rfl
  rw [run_sliceAt_array_l W 62 ⟨B, 0, none⟩ (by rw [hl, hm]; exact Try.underlying62) .i64 (24 - (j : Int)) (by omega) (by rw [hl]; omega), hm, hs, hl]
  simp [slicedAt, h2, h4, h5, h7, Addr.add]
set_option maxHeartbeats 1600000 in
set_option maxRecDepth 100000 in
theorem itoa_pos (w : World) (n : Int) (hn : w64 n) (hp : 0 < n) :
    Calls Try.prog 34 #[.int .i64 n] w fun e w' => e = .returned (.string (itoa n)) ∧ Fr [] w w' := by
  have hn0 : (n == 0) = false := by simp; omega
  have hn1 : ¬ n < 0 := by omega
  unfold w64 at hn
  go_enter Try.func34, Try.ntmps34
  go_wp2
  have hB := blk_new w (.cells (Array.replicate 24 (.int .u8 0)) 62)
  go_loopw [0, 4] (fun n' i' wr => ∃ (j : Nat) (m : Int) (L : List UInt8), n' = .int .i64 m ∧ i' = .int .i64 (24 - j) ∧ L.length = j ∧ j ≤ 20 ∧ (j = 0 → m = n) ∧ 0 ≤ m ∧ m < 9223372036854775808 ∧ Hid (m.natAbs < 10 ^ (20 - j)) ∧ Hid (dgs 20 n.natAbs [] = dgs (20 - j) m.natAbs L) ∧ Hid (wr.heap[w.heap.size]? = some (.cells (bufA j L) 62)) ∧ Fr [] w wr) (fun n' _ _ => (intOf n').natAbs)
  case atStart =>
    refine ⟨0, n, [], rfl, rfl, rfl, by omega, fun _ => rfl, by omega, by omega, ?_, rfl, ?_, (Fr.refl _ _).alloc _⟩
    · show _ < 10 ^ 20; omega
    · exact hB
  case round =>
    obtain ⟨j, m, L, rfl, rfl, hL, hj, hj0, hm0, hm1, HP, HD, HB, hf⟩ := hrel
    by_cases hz : m = 0
    · subst hz
      have hj1 : 0 < j := by omega
      have hs := slice_arr wr w.heap.size j (by omega) hj1
      have hc := tail_text (List.replicate (24 - j) (Value.int .u8 0)) _ L rfl HB.out (24 - j) (by simp) j
      rw [hL] at hc
      have HJ : Hid (0 < j) := hj1
      clear hj1
      go_wp2
      go_ret
      refine ⟨?_, hf⟩
      have hd := HD.out
      rw [show Int.natAbs 0 = 0 from rfl, dgs_zero] at hd
      unfold itoa itL
      rw [if_neg (by omega), if_neg (by omega), hd]
      rfl
    · have hz1 : (m != 0) = true := by simp [hz]
      have hz2 : (m == 0) = false := by simp [hz]
      have c0 := blk_cell HB.out (24 - j - 1)
      rw [bufA_at j L hj] at c0
      have f0 := blk_frozen HB.out (24 - j - 1)
      have hr3 : ¬ m % 10 < 0 := by omega
      have hjj : j + 1 ≤ 20 := by
        have hp := HP.out
        rcases Nat.lt_or_ge j 20 with h | h
        · omega
        · rw [show 20 - j = 0 from by omega] at hp; omega
      go_wp2
      go_roundw
      case rel =>
        refine ⟨j + 1, m / 10, UInt8.ofNat (48 + m.natAbs % 10) :: L, rfl, by go_num, by simp [hL], hjj, fun h => by omega, by omega, by omega, ?_, ?_, ?_, ?_⟩
        · have hp : m.natAbs < 10 ^ (20 - j) := HP.out
          show (m / 10).natAbs < _
          rw [show 20 - j = (20 - (j + 1)) + 1 from by omega, Nat.pow_succ] at hp
          omega
        · show dgs 20 n.natAbs [] = dgs (20 - (j + 1)) _ _
          rw [HD.out, show 20 - j = (20 - (j + 1)) + 1 from by omega, dgs_step _ _ _ (by omega)]
          rw [show (m / 10).natAbs = m.natAbs / 10 from by omega]
        · show _ = _
          rw [blk_set HB.out, show (48 + m % 10 : Int) = 48 + ((m.natAbs % 10 : Nat) : Int) from by omega, bufA_set j L hj _ (by omega)]
        · exact (hf.setCell (Or.inr (Nat.le_refl _)) _)
      case measure => simp [intOf]; omega
theorem tmod_neg (r q : Nat) (hq : q < 10) : (-((10 * r + q : Nat) : Int)).tmod 10 = -(q : Int) := by
  rw [Int.neg_tmod]
  have : ((10 * r + q : Nat) : Int).tmod 10 = (q : Int) := by
    rw [Int.tmod_eq_emod_of_nonneg (by omega)]; omega
  rw [this]
theorem tdiv_neg (r q : Nat) (hq : q < 10) : (-((10 * r + q : Nat) : Int)).tdiv 10 = -(r : Int) := by
  rw [Int.neg_tdiv]
  have : ((10 * r + q : Nat) : Int).tdiv 10 = (r : Int) := by
    rw [Int.tdiv_eq_ediv_of_nonneg (by omega)]; omega
  rw [this]

set_option maxHeartbeats 1600000 in
set_option maxRecDepth 100000 in
theorem itoa_neg (w : World) (n : Int) (hn : w64 n) (hp : n < 0) :
    Calls Try.prog 34 #[.int .i64 n] w fun e w' => e = .returned (.string (itoa n)) ∧ Fr [] w w' := by
  have hn0 : (n == 0) = false := by simp; omega
  have hn1 : n < 0 := by omega
  unfold w64 at hn
  go_enter Try.func34, Try.ntmps34
  go_wp2
  have hB := blk_new w (.cells (Array.replicate 24 (.int .u8 0)) 62)
  go_loopw [0, 4] (fun n' i' wr => ∃ (j p : Nat) (L : List UInt8), n' = .int .i64 (-(p : Int)) ∧ i' = .int .i64 (24 - j) ∧ L.length = j ∧ j ≤ 20 ∧ p ≤ 9223372036854775808 ∧ Hid (p < 10 ^ (20 - j)) ∧ Hid (dgs 20 n.natAbs [] = dgs (20 - j) p L) ∧ Hid (wr.heap[w.heap.size]? = some (.cells (bufA j L) 62)) ∧ Fr [] w wr) (fun n' _ _ => (intOf n').natAbs)
  case atStart =>
    refine ⟨0, n.natAbs, [], by congr 1; omega, rfl, rfl, by omega, by omega, ?_, rfl, ?_, (Fr.refl _ _).alloc _⟩
    · show _ < 10 ^ 20; omega
    · exact hB
  case round =>
    obtain ⟨j, p, L, rfl, rfl, hL, hj, hm1, HP, HD, HB, hf⟩ := hrel
    by_cases hz : p = 0
    · subst hz
      have c0 := blk_cell HB.out (24 - j - 1)
      rw [bufA_at j L hj] at c0
      have f0 := blk_frozen HB.out (24 - j - 1)
      have HB2 := blk_set HB.out (24 - j - 1) (.int .u8 45)
      rw [bufA_neg j L hj] at HB2
      have hs := slice_arr (wr.setCell ⟨w.heap.size, 24 - j - 1, none⟩ (.int .u8 45)) w.heap.size (j + 1) (by omega) (by omega)
      have hc := tail_text (List.replicate (24 - (j + 1)) (Value.int .u8 0)) _ (45 :: L) rfl HB2 (24 - (j + 1)) (by simp) (j + 1)
      rw [List.length_cons, hL] at hc
      rw [show (24 - ((j + 1 : Nat) : Int)) = 24 - (j : Int) - 1 from by omega] at hs
      rw [show 24 - (j + 1) = 24 - j - 1 from by omega] at hs hc
      have HB3 : Hid _ := HB2
      clear HB2
      go_wp2
      go_ret
      refine ⟨?_, hf.setCell (Or.inr (Nat.le_refl _)) _⟩
      have hd := HD.out
      rw [dgs_zero] at hd
      unfold itoa itL
      rw [if_neg (by omega), if_pos (by omega), hd]
      rfl
    · obtain ⟨r, q, rfl, hq⟩ : ∃ r q : Nat, p = 10 * r + q ∧ q < 10 := ⟨p / 10, p % 10, by omega, by omega⟩
      have ht := tmod_neg r q hq
      have hd := tdiv_neg r q hq
      have c0 := blk_cell HB.out (24 - j - 1)
      rw [bufA_at j L hj] at c0
      have f0 := blk_frozen HB.out (24 - j - 1)
      have hjj : j + 1 ≤ 20 := by
        have hp := HP.out
        rcases Nat.lt_or_ge j 20 with h | h
        · omega
        · rw [show 20 - j = 0 from by omega] at hp; omega
      have hw : wrap64 (-(r : Int)) = -(r : Int) := by simp only [wrap64]; omega
      generalize hP : (10 * r + q) = p at *
      have HPP : Hid (10 * r + q = p) := hP
      clear hP
      have hz1 : (-(p : Int) != 0) = true := by simp; omega
      have hz2 : (-(p : Int) == 0) = false := by simp; omega
      go_wp2
      all_goals
        go_roundw
        case rel =>
          refine ⟨j + 1, r, UInt8.ofNat (48 + q) :: L, by rw [hw], by go_num, by simp [hL], hjj, ?_, ?_, ?_, ?_, ?_⟩
          · have := HPP.out; omega
          · have hp : p < 10 ^ (20 - j) := HP.out
            show r < _
            have := HPP.out
            rw [show 20 - j = (20 - (j + 1)) + 1 from by omega, Nat.pow_succ] at hp
            omega
          · show dgs 20 n.natAbs [] = dgs (20 - (j + 1)) _ _
            have := HPP.out
            rw [HD.out, show 20 - j = (20 - (j + 1)) + 1 from by omega, dgs_step _ _ _ (by omega)]
            rw [show p / 10 = r from by omega, show p % 10 = q from by omega]
          · show _ = _
            rw [blk_set HB.out, ← bufA_set j L hj _ hq]
            try rw [show (48 + -(q : Int)) = 48 + (q : Int) from by omega]
          · exact (hf.setCell (Or.inr (Nat.le_refl _)) _)
        case measure => have := HPP.out; simp [intOf]; omega

theorem itoa_any (w : World) (n : Int) (hn : w64 n) :
    Calls Try.prog 34 #[.int .i64 n] w fun e w' => e = .returned (.string (itoa n)) ∧ Fr [] w w' := by
  by_cases h1 : 0 < n
  · exact itoa_pos w n hn h1
  · by_cases h2 : n < 0
    · exact itoa_neg w n hn h2
    · have h3 : n = 0 := by omega
      subst h3
      go_enter Try.func34, Try.ntmps34
      go_wp2
      go_ret
      exact ⟨rfl, Fr.refl _ _⟩
end Go.Proofs.Qxb6500336a
