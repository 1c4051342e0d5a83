import Derived.Test.Qxb6500341aW8
namespace Go.Proofs.Qxb6500341a
open Go.RowKit
set_option linter.unusedVariables false

set_option maxHeartbeats 1600000 in
theorem check_any (w : World) (b : Nat) (t : ByteArray) (hr : Real w b t) :
    Calls Try.prog 27 #[.pointer (some ⟨b, 0, none⟩)] w fun e w' => e = .returned (.bool true) ∧ Fr [] w w' := by
  obtain ⟨l, m1, m2, hx, hinv⟩ := hr
  have hsz := hinv.size
  have HX : Hid (Slp w b t l (-1) m1 m2) := hx
  have HI : Hid (Inv t l m1 m2) := hinv
  have c0 := blk_cell hx 0
  have c1 := blk_cell hx 1
  have hlaw : ∀ k (h : k < t.size), (48 ≤ t[k].toNat ∧ t[k].toNat ≤ 57) ∨ (65 ≤ t[k].toNat ∧ t[k].toNat ≤ 90) := fun k h => okB_law (hinv.law _ (mem_get t k h))
  have HL : Hid (l = lets t.data.toList) := hinv.lets
  clear hx hinv
  go_enter Try.func27, Try.ntmps27
  go_wp2
  go_loop [3, 4] (fun n i => ∃ (k : Nat) (acc : Int), k ≤ t.size ∧ i = .int .i64 k ∧ n = .int .i64 acc ∧ 0 ≤ acc ∧ acc ≤ k ∧ Hid (acc = lets (t.data.toList.take k))) (fun _ i => t.size - (intOf i).toNat)
  case atStart => exact ⟨0, 0, by omega, rfl, rfl, by omega, by omega, by show _ = _; simp [lets]⟩
  case round =>
    obtain ⟨k, acc, hk, rfl, rfl, ha0, ha1, HA⟩ := hrel
    by_cases hp : k < t.size
    · have hl := hlaw k hp
      have hbd := byte_lt t[k]
      by_cases h65 : 65 ≤ t[k].toNat
      · have h90 : t[k].toNat ≤ 90 := by omega
        clear hl hlaw
        go_wp2
        go_round
        case rel => exact ⟨k + 1, _, by omega, by go_num, rfl, by omega, by omega, by show _ = _; rw [lets_snoc_let t k hp h65 h90, HA.out]⟩
        case measure => simp [intOf]; omega
      · have h48 : 48 ≤ t[k].toNat := by omega
        have h57 : t[k].toNat ≤ 57 := by omega
        clear hl hlaw
        go_wp2
        go_round
        case rel => exact ⟨k + 1, _, by omega, by go_num, rfl, by omega, by omega, by show _ = _; rw [lets_snoc_dig t k hp (by omega), HA.out]⟩
        case measure => simp [intOf]; omega
    · have hal : acc = l := by rw [HL.out, HA.out, take_all t k (by omega)]
      clear HA hlaw
      have hl0 : Hid (0 ≤ l) := by rw [← hal]; exact ha0
      subst hal
      have hlr1 := luhnR_bd 0 t.data.toList
      have hlr2 := f97_bd 0 t.data.toList (by omega)
      have hin := HI.out
      have h1 : m1 = -1 ∨ (allOk 10 t.data.toList ∧ acc = 0 ∧ 0 ≤ m1 ∧ restA 1 t.data.toList = m1) := by
        rcases hin.luhn with h | ⟨hD, h⟩
        · exact Or.inl h
        · exact Or.inr ⟨hD, by rw [HL.out]; exact lets_digs _ hD, by omega, by rw [rest1, h]⟩
      have h2 : m2 = -1 ∨ (0 ≤ m2 ∧ restA 2 t.data.toList = m2) := by
        rcases hin.by97 with h | h
        · exact Or.inl h
        · exact Or.inr ⟨by omega, by rw [rest2, h]⟩
      have H1 : Hid (m1 = -1 ∨ (allOk 10 t.data.toList ∧ acc = 0 ∧ 0 ≤ m1 ∧ restA 1 t.data.toList = m1)) := h1
      have H2 : Hid (m2 = -1 ∨ (0 ≤ m2 ∧ restA 2 t.data.toList = m2)) := h2
      have HA36 : Hid (allOk 36 t.data.toList) := hin.law
      clear h1 h2 hlr1 hlr2 hin HI HL
      go_wp2
      clear c0 c1
      go_loopw [6] (fun n wr => ∃ j : Nat, n = .int .i64 j ∧ 1 ≤ j ∧ j ≤ 3 ∧ Fr [] w wr) (fun n _ => 3 - (intOf n).toNat)
      case atStart => exact ⟨1, rfl, by omega, by omega, Fr.refl _ _⟩
      case round =>
        obtain ⟨j, rfl, hj1, hj3, hfr⟩ := hrel
        have hx : Slp wr b t acc (-1) m1 m2 := hfr.keep HX.out (by simp)
        have c0 := blk_cell hx 0
        have c3 := blk_cell hx 3
        have c4 := blk_cell hx 4
        clear hx
        by_cases e1 : j = 1
        · subst e1
          rcases H1.out with hm | ⟨hD, ha, hm0, hm⟩
          · subst hm
            go_wp2
            go_roundw
            case rel => exact ⟨2, rfl, by omega, by omega, hfr⟩
            case measure => simp [intOf]
          · have hne : (m1 != -1) = true := by rw [bne_iff_ne]; omega
            subst ha
            go_wp2_with (go_at_call 36; refine (rest_any _ 1 _ (by omega) (Or.inl ⟨rfl, hD⟩)).mono ?_; rintro e w1 ⟨rfl, hf1⟩; have hx1 := (hfr.trans hf1).keep HX.out (by simp); have c3' := blk_cell hx1 3; clear hx1)
            go_roundw
            case rel => exact ⟨2, rfl, by omega, by omega, hfr.trans hf1⟩
            case measure => simp [intOf]
        · by_cases e2 : j = 2
          · subst e2
            rcases H2.out with hm | ⟨hm0, hm⟩
            · subst hm
              go_wp2
              go_roundw
              case rel => exact ⟨3, rfl, by omega, by omega, hfr⟩
              case measure => simp [intOf]
            · have hne : (m2 != -1) = true := by rw [bne_iff_ne]; omega
              go_wp2_with (go_at_call 36; refine (rest_any _ 2 _ (by omega) (Or.inr ⟨rfl, HA36.out⟩)).mono ?_; rintro e w1 ⟨rfl, hf1⟩; have hx1 := (hfr.trans hf1).keep HX.out (by simp); have c4' := blk_cell hx1 4; clear hx1)
              go_roundw
              case rel => exact ⟨3, rfl, by omega, by omega, hfr.trans hf1⟩
              case measure => simp [intOf]
          · obtain rfl : j = 3 := by omega
            go_wp2
            go_ret
            exact ⟨rfl, hfr⟩
end Go.Proofs.Qxb6500341a
