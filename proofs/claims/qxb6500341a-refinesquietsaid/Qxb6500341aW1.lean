import Derived.Test.Qxb6500341aFr
import Derived.Test.Qxb6500341aPlain
namespace Go.Proofs.Qxb6500341a
open Go.RowKit
set_option linter.unusedVariables false

set_option maxHeartbeats 400000 in
theorem new_any (w : World) :
    Calls Try.prog 13 #[] w fun e w' => e = .returned (.pointer (some ⟨w.heap.size, 0, none⟩)) ∧ Fr [] w w' ∧ Slp w' w.heap.size ⟨#[]⟩ 0 (-1) (-1) (-1) := by
  go_enter Try.func13, Try.ntmps13
  go_wp2
  go_ret
  exact ⟨rfl, (Fr.refl _ _).alloc _, blk_new _ _⟩

set_option maxHeartbeats 400000 in
theorem newm_any (w : World) :
    Calls Try.prog 16 #[] w fun e w' => e = .returned (.pointer (some ⟨w.heap.size, 0, none⟩)) ∧ Fr [] w w' ∧ Slm w' w.heap.size ⟨#[]⟩ := by
  go_enter Try.func16, Try.ntmps16
  go_wp2
  go_ret
  exact ⟨rfl, (Fr.refl _ _).alloc _, blk_new _ _⟩

set_option maxHeartbeats 400000 in
theorem show_any (w : World) (b : Nat) (t : ByteArray) (l m0 m1 m2 : Int) (hx : Slp w b t l m0 m1 m2) :
    Calls Try.prog 25 #[.pointer (some ⟨b, 0, none⟩)] w fun e w' => e = .returned (.string t) ∧ w' = w := by
  have c0 := blk_cell hx 0
  go_enter Try.func25, Try.ntmps25
  go_wp2
  go_ret
  exact ⟨rfl, rfl⟩

set_option maxHeartbeats 400000 in
theorem showm_any (w : World) (b : Nat) (t : ByteArray) (hx : Slm w b t) :
    Calls Try.prog 26 #[.pointer (some ⟨b, 0, none⟩)] w fun e w' => e = .returned (.string t) ∧ w' = w := by
  have c0 := blk_cell hx 0
  go_enter Try.func26, Try.ntmps26
  go_wp2
  go_ret
  exact ⟨rfl, rfl⟩

set_option maxHeartbeats 400000 in
theorem value_any (c : Int) (w : World) (h0 : 0 ≤ c) (h1 : c ≤ 255) :
    Calls Try.prog 35 #[.int .i64 c] w fun e w' => e = .returned (.int .i64 (val c)) ∧ w' = w := by
  go_enter Try.func35, Try.ntmps35
  go_wp2
  all_goals
    go_ret
    exact ⟨ret_int (by unfold val; repeat' split <;> omega), rfl⟩

theorem val_bd (c : Int) : -1 ≤ val c ∧ val c ≤ 35 := by unfold val; repeat' split <;> omega

theorem byte_lt (b : UInt8) : (b.toNat : Int) ≤ 255 := by have := b.toNat_lt; omega

theorem okB_true {top : Int} {c : UInt8} (h1 : 0 ≤ val c.toNat) (h2 : val c.toNat < top) : okB top c = true := by simp [okB, h1, h2]
theorem okB_false {top : Int} {c : UInt8} (h : val c.toNat < 0 ∨ top ≤ val c.toNat) : okB top c = false := by simp [okB]; omega

set_option maxHeartbeats 400000 in
theorem first_any (s : ByteArray) (top : Int) (w : World) (hs : s.size ≤ 1000) (ht : 0 ≤ top) (ht2 : top ≤ 36) :
    Calls Try.prog 20 #[.string s, .int .i64 top] w fun e w' => e = .returned (.int .i64 (fbI top s.data.toList)) ∧ w' = w := by
  go_enter Try.func20, Try.ntmps20
  go_wp2_with fail
  go_loop [5] (fun i => ∃ k : Nat, k ≤ s.size ∧ i = .int .i64 k ∧ allOk top (s.data.toList.take k)) (fun i => s.size - (intOf i).toNat)
  case atStart => exact ⟨0, Nat.zero_le _, rfl, fun c hc => by simp at hc⟩
  case round =>
    obtain ⟨k, hk, rfl, hall⟩ := hrel
    by_cases hlt : k < s.size
    · have hb := byte_lt s[k]
      have hv := val_bd (s[k].toNat : Int)
      have hat : val s[k].toNat < 0 ∨ top ≤ val s[k].toNat → fbI top s.data.toList = k := fun h => fbI_at s.data.toList k (by simpa using hlt) hall (okB_false h)
      have HS : Hid (s.data.toList.take (k + 1) = s.data.toList.take k ++ [s[k]]) := take_snoc s k hlt
      have HA : Hid (val s[k].toNat < 0 ∨ top ≤ val s[k].toNat → fbI top s.data.toList = k) := hat
      clear hat
      go_wp2_with (go_at_call 35; refine (value_any _ _ (by omega) (by omega)).mono ?_; rintro e w' ⟨rfl, rfl⟩)
      all_goals first
        | (go_round
           case rel => exact ⟨k + 1, by omega, by go_num, by rw [HS.out]; exact allOk_snoc hall (okB_true (by omega) (by omega))⟩
           case measure => simp [intOf]; omega)
        | (go_ret
           exact ⟨ret_int (HA.out (by omega)).symm, rfl⟩)
    · go_wp2
      go_ret
      have e : s.data.toList.take k = s.data.toList := take_all s k (by omega)
      rw [e] at hall
      exact ⟨ret_int (fbI_all hall).symm, rfl⟩

set_option maxHeartbeats 400000 in
theorem bad_any (s : ByteArray) (top : Int) (w : World) (hs : s.size ≤ 1000) (ht : 0 ≤ top) (ht2 : top ≤ 36) :
    Calls Try.prog 40 #[.string s, .int .i64 top] w fun e w' => e = .returned (.int .i64 (fbI top s.data.toList)) ∧ w' = w := by
  go_enter Try.func40, Try.ntmps40
  go_wp2_with fail
  go_loop [5] (fun i => ∃ k : Nat, k ≤ s.size ∧ i = .int .i64 k ∧ allOk top (s.data.toList.take k)) (fun i => s.size - (intOf i).toNat)
  case atStart => exact ⟨0, Nat.zero_le _, rfl, fun c hc => by simp at hc⟩
  case round =>
    obtain ⟨k, hk, rfl, hall⟩ := hrel
    by_cases hlt : k < s.size
    · have hb := byte_lt s[k]
      have hv := val_bd (s[k].toNat : Int)
      have hat : val s[k].toNat < 0 ∨ top ≤ val s[k].toNat → fbI top s.data.toList = k := fun h => fbI_at s.data.toList k (by simpa using hlt) hall (okB_false h)
      have HS : Hid (s.data.toList.take (k + 1) = s.data.toList.take k ++ [s[k]]) := take_snoc s k hlt
      have HA : Hid (val s[k].toNat < 0 ∨ top ≤ val s[k].toNat → fbI top s.data.toList = k) := hat
      clear hat
      go_wp2_with (go_at_call 35; refine (value_any _ _ (by omega) (by omega)).mono ?_; rintro e w' ⟨rfl, rfl⟩)
      all_goals first
        | (go_round
           case rel => exact ⟨k + 1, by omega, by go_num, by rw [HS.out]; exact allOk_snoc hall (okB_true (by omega) (by omega))⟩
           case measure => simp [intOf]; omega)
        | (go_ret
           exact ⟨ret_int (HA.out (by omega)).symm, rfl⟩)
    · go_wp2
      go_ret
      have e : s.data.toList.take k = s.data.toList := take_all s k (by omega)
      rw [e] at hall
      exact ⟨ret_int (fbI_all hall).symm, rfl⟩

end Go.Proofs.Qxb6500341a
