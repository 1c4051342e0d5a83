import Derived.Test.Qxb6500336aR23
import Derived.Test.Qxb6500336aW26
import Derived.Test.Qxb6500336aW29
namespace Go.Proofs.Qxb6500336a
open Go.RowKit
set_option linter.unusedVariables false
set_option linter.unusedSimpArgs false

set_option maxHeartbeats 3200000 in
set_option maxRecDepth 100000 in
theorem mrun_any {w : World} {M m : Nat} {sl : Value} {acc : Int} {rs : List Code} {vs : List (List Value)} (h : Mm w M m sl acc rs vs) (hw : Wf rs) (p : ByteArray) :
    Calls Try.prog 61 #[.pointer (some ⟨M, 0, none⟩), .string p] w fun e w' => e = .returned (.tuple #[.int .i64 (run p acc rs).1, .int .i64 (run p acc rs).2.1]) ∧ ZOut w M m sl (run p acc rs).2.2.1 (run p acc rs).2.2.2 w' := by
  have H : Hid (Mm w M m sl acc rs vs) := h
  have HW : Hid (Wf rs) := hw
  clear h hw
  by_cases hp : p.size ≤ 24
  · have ER : Hid (run p acc rs = runP p 25 0 acc rs) := by show _ = _; unfold run; rw [if_neg (by omega)]
    go_enter Try.func61, Try.ntmps61
    go_wp2
    go_loopw [6, 7, 8] (fun c a b wr => ∃ (i f : Nat) (acc' : Int) (rs' : List Code) (m' : Nat) (sl' : Value) (vs' : List (List Value)), c = .int .i64 i ∧ i ≤ p.size ∧ Hid (Mm wr M m' sl' acc' rs' vs') ∧ Hid (Wf rs') ∧ Hid (MZ w wr M m sl m' sl') ∧ Hid (p.size - i < f) ∧ Hid (runP p 25 0 acc rs = runP p f i acc' rs')) (fun c a b _ => p.size - (intOf c).toNat)
    case atStart => exact ⟨0, 25, acc, rs, m, sl, vs, rfl, by omega, H, HW, MZ.refl _ _ _ _, by show _ < _; omega, rfl⟩
    case round =>
      obtain ⟨i, f, acc', rs', m', sl', vs', rfl, hi, HM, HWF, HV, HF, HR⟩ := hrel
      obtain ⟨f', hf'⟩ : ∃ f', f = f' + 1 := ⟨f - 1, by have := HF.out; omega⟩
      subst hf'
      by_cases hlt : i < p.size
      · by_cases h32 : bt p i = 32
        · have HR2 : Hid (runP p 25 0 acc rs = runP p f' (i + 1) acc' rs') := by
            show _ = _
            rw [HR.out, runP, if_pos hlt, if_pos h32]
          have H32 : Hid (bt p i = 32) := h32
          clear h32
          go_wp2_with (go_at_call 77; refine (mstep_blank HM.out HWF.out p hp i hlt H32.out).mono ?_; rintro e w1 ⟨wd, rfl, hwd, h1⟩; have hwd1 : wd = 1 := hwd rfl; subst hwd1; clear hwd)
          go_roundw
          case rel =>
            obtain ⟨m2, sl2, vs2, h2, m3⟩ := h1
            exact ⟨i + 1, f', acc', rs', m2, sl2, vs2, by go_num, by omega, h2, HWF, HV.out.trans m3, by have := HF.out; show _ < _; omega, HR2⟩
          case measure => simp [intOf]; omega
        · have hwd := stepP_width (acc := acc') (rs := rs') hlt
          have HSW : Hid (Wf (stepP p i acc' rs').2.2.2) := stepP_wf HWF.out
          have H32 : Hid (bt p i ≠ 32) := h32
          by_cases he : (stepP p i acc' rs').2.1 = 0
          · have HR2 : Hid (runP p 25 0 acc rs = runP p f' (i + (stepP p i acc' rs').1.toNat) (stepP p i acc' rs').2.2.1 (stepP p i acc' rs').2.2.2) := by
              show _ = _
              rw [HR.out, runP, if_pos hlt, if_neg h32, if_pos he]
            have HE : Hid ((stepP p i acc' rs').2.1 = 0) := he
            obtain ⟨k, hk⟩ : ∃ k : Nat, (stepP p i acc' rs').1 = (k : Int) := ⟨(stepP p i acc' rs').1.toNat, by omega⟩
            have HK : Hid ((stepP p i acc' rs').1 = (k : Int)) := hk
            rw [hk] at hwd
            clear h32 he hk
            go_wp2_with (go_at_call 77; refine (mstep_any HM.out HWF.out p hp i hlt H32.out).mono ?_; rintro e w1 ⟨wd, rfl, hwd2, h1⟩; have hwd1 : wd = (k : Int) := (hwd2 HE.out).trans HK.out; subst hwd1; rw [HE.out]; clear hwd2)
            go_roundw
            case rel =>
              obtain ⟨m2, sl2, vs2, h2, m3⟩ := h1
              have hR3 := HR2.out
              rw [HK.out] at hR3
              exact ⟨i + k, f', _, _, m2, sl2, vs2, by go_num, by omega, h2, HSW, HV.out.trans m3, by have := HF.out; show _ < _; omega, by show _ = _; simpa using hR3⟩
            case measure => simp [intOf]; omega
          · have HR2 : Hid (runP p 25 0 acc rs = ((i : Int), (stepP p i acc' rs').2.1, (stepP p i acc' rs').2.2.1, (stepP p i acc' rs').2.2.2)) := by
              show _ = _
              rw [HR.out, runP, if_pos hlt, if_neg h32, if_neg he]
            have hne : ((stepP p i acc' rs').2.1 != 0) = true := by simpa using he
            clear h32 he
            go_wp2_with (go_at_call 77; refine (mstep_any HM.out HWF.out p hp i hlt H32.out).mono ?_; rintro e w1 ⟨wd, rfl, hwd2, h1⟩; clear hwd2)
            go_ret2
            rw [ER.out, HR2.out]
            obtain ⟨m2, sl2, vs2, h2, m3⟩ := h1
            exact ⟨rfl, m2, sl2, vs2, h2, HV.out.trans m3⟩
      · have HR2 : Hid (runP p 25 0 acc rs = ((p.size : Int), 0, acc', rs')) := by
          show _ = _
          rw [HR.out, runP, if_neg hlt]
        have hie : i = p.size := by omega
        have HIE : Hid (i = p.size) := hie
        clear hie
        go_wp2
        go_ret2
        rw [ER.out, HR2.out, ← HIE.out]
        exact ⟨rfl, m', sl', vs', HM.out, HV.out⟩
  · have e : run p acc rs = (0, 1, acc, rs) := by unfold run; rw [if_pos (by omega)]
    rw [e]
    go_enter Try.func61, Try.ntmps61
    go_wp2
    go_ret2
    exact ⟨rfl, m, sl, vs, H.out, MZ.refl _ _ _ _⟩

set_option maxHeartbeats 1600000 in
set_option maxRecDepth 100000 in
theorem mmshow_any {w : World} {M m : Nat} {sl : Value} {acc : Int} {rs : List Code} {vs : List (List Value)} (h : Mm w M m sl acc rs vs) (hw : Wf rs) :
    Calls Try.prog 59 #[.pointer (some ⟨M, 0, none⟩)] w fun e w' => e = .returned (.string (showM acc rs)) ∧ Fr [] w w' := by
  have H : Hid (Mm w M m sl acc rs vs) := h
  have HW : Hid (Wf rs) := hw
  have c0 := blk_cell h.obj 0
  have c1 := blk_cell h.obj 1
  simp at c0 c1
  have h1 := itoa_size acc
  have h2 := showS_size hw
  have g1 : ¬ 9223372036854775807 < 4 + (itoa acc).size := by omega
  have g2 : ¬ 9223372036854775807 < 4 + (itoa acc).size + 3 := by omega
  have g3 : ¬ 9223372036854775807 < 4 + (itoa acc).size + 3 + (showS rs).size := by omega
  clear h hw
  go_enter Try.func59, Try.ntmps59
  go_wp2_with (first | (go_at_call 34; refine (itoa_any _ _ H.out.a64).mono ?_; rintro e w1 ⟨rfl, hf1⟩; have c2 := hf1.cell c0; have HM1 : Hid _ := H.out.keep0 hf1) | (go_at_call 75; refine (mshowS_any HM1.out.st HW.out).mono ?_; rintro e w2 ⟨rfl, hf2⟩))
  go_ret
  exact ⟨rfl, hf1.trans hf2⟩

theorem mmcheck_any {w : World} {M m : Nat} {sl : Value} {acc : Int} {rs : List Code} {vs : List (List Value)} (h : Mm w M m sl acc rs vs) (hw : Wf rs) :
    Calls Try.prog 60 #[.pointer (some ⟨M, 0, none⟩)] w fun e w' => e = .returned (.bool true) ∧ Fr [] w w' := by
  have H : Hid (Mm w M m sl acc rs vs) := h
  have HW : Hid (Wf rs) := hw
  have c0 := blk_cell h.obj 0
  simp at c0
  clear h hw
  go_enter Try.func60, Try.ntmps60
  go_wp2_with (go_at_call 76; refine (mcheckS_any H.out.st HW.out).mono ?_; rintro e w1 ⟨rfl, hf1⟩)
  go_ret
  exact ⟨rfl, hf1⟩

theorem mmnew_any (w : World) : Calls Try.prog 37 #[] w fun e w' => e = .returned (.pointer (some ⟨w.heap.size + 1, 0, none⟩)) ∧ Mm w' (w.heap.size + 1) w.heap.size (.slice none 0 0) 0 [] [] ∧ Fr [] w w' := by
  go_enter Try.func37, Try.ntmps37
  go_wp2_with (go_at_call 58; refine mnewS_any.mono ?_; rintro e w1 ⟨rfl, rfl⟩)
  go_ret
  have hn := blk_new (w.alloc (.cells #[.slice none 0 0] 105)) (.cells #[.pointer (some ⟨w.heap.size, 0, none⟩), .int .i64 0] 70)
  simp only [World.size_alloc] at hn
  exact ⟨by simp, ⟨hn, Mt.new (blk_alloc (blk_new _ _) _), by unfold w64; omega⟩, ((Fr.refl [] w).alloc _).alloc _⟩
end Go.Proofs.Qxb6500336a
