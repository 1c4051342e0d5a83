import Derived.Test.Qxb6500336aP2
import Derived.ScopeJumps
namespace Go.Proofs.Qxb6500336a
open Go.RowKit
set_option linter.unusedVariables false
set_option linter.unusedSimpArgs false

/-- A scope whose only jumps go forward, to its end. -/
theorem wp_scope_fwd {P : Program} {c rest : Code} {Q : Exit → Act → World → Prop} {a : Act} {w : World} (l : Nat) (hf : findLabel c l = some rest) (hr : ∀ (Q' : Exit → Act → World → Prop) (a : Act) (w : World), Q' .normal a w → rest.wp P Q' a w)
    (h : c.wp P (Exit.jump l (fun a w => Q .normal a w) Q) a w) : (Code.scope c).wp P Q a w :=
  wp_scope_jumps l (fun a w => Q .normal a w) (fun _ _ => 0) hf h (fun a w hJ => hr _ a w hJ)

set_option maxHeartbeats 3200000 in
set_option maxRecDepth 100000 in
theorem run_any {w : World} {M S : Nat} {sl : Value} {acc : Int} {rs : List Code} (h : Mc w M S sl acc rs) (hw : Wf rs) (p : ByteArray) (hp9 : p.size ≤ 1000000) :
    Calls Try.prog 27 #[.pointer (some ⟨M, 0, none⟩), .string p] w (SOut w M S sl (run p acc rs)) := by
  have H : Hid (Mc w M S sl acc rs) := h
  have HW : Hid (Wf rs) := hw
  clear h hw
  by_cases hp : p.size ≤ 24
  · have ER : Hid (run p acc rs = runP p 25 0 acc rs) := by show _ = _; unfold run; rw [if_neg (by omega)]
    go_enter Try.func27, Try.ntmps27
    go_wp2
    go_loopw [6, 7, 8] (fun a b c wr => ∃ (i f : Nat) (acc' : Int) (rs' : List Code) (sl' : Value), c = .int .i64 i ∧ i ≤ p.size ∧ Hid (Mc wr M S sl' acc' rs') ∧ Hid (Wf rs') ∧ Hid (Mw w wr M S sl sl') ∧ Hid (p.size - i < f) ∧ Hid (runP p 25 0 acc rs = runP p f i acc' rs')) (fun a b c _ => p.size - (intOf c).toNat)
    case atStart => exact ⟨0, 25, acc, rs, sl, rfl, by omega, H, HW, Mw.refl _ _ _ _, by show _ < _; omega, rfl⟩
    case round =>
      obtain ⟨i, f, acc', rs', sl', rfl, hi, HM, HWF, HV, HF, HR⟩ := hrel
      obtain ⟨f', hf'⟩ : ∃ f', f = f' + 1 := ⟨f - 1, by have := HF.out; omega⟩
      subst hf'
      by_cases hlt : i < p.size
      · have hb := bt_at hlt
        by_cases h32 : bt p i = 32
        · have HR2 : Hid (runP p 25 0 acc rs = runP p f' (i + 1) acc' rs') := by
            show _ = _
            rw [HR.out, runP, if_pos hlt, if_pos h32]
          rw [h32] at hb
          clear h32
          go_wp2
          refine wp_scope_fwd 0 rfl (fun Q' a w h => ?_) ?_
          · first | exact wp_skip h | (go_wp2; exact h)
          go_wp2
          go_step3
          refine ⟨rfl, ?_⟩
          go_wp2
          go_roundw
          case rel => exact ⟨i + 1, f', acc', rs', sl', by go_num, by omega, HM, HWF, HV, by have := HF.out; show _ < _; omega, HR2⟩
          case measure => simp [intOf]; omega
        · have h33 : ((bt p i : Int) == 32) = false := by simp; omega
          have hwd := stepP_width (acc := acc') (rs := rs') hlt
          have HSW : Hid (Wf (stepP p i acc' rs').2.2.2) := stepP_wf HWF.out
          by_cases he : (stepP p i acc' rs').2.1 = 0
          · have HR2 : Hid (runP p 25 0 acc rs = runP p f' (i + (stepP p i acc' rs').1.toNat) (stepP p i acc' rs').2.2.1 (stepP p i acc' rs').2.2.2) := by
              show _ = _
              rw [HR.out, runP, if_pos hlt, if_neg h32, if_pos he]
            have HE : Hid ((stepP p i acc' rs').2.1 = 0) := he
            obtain ⟨k, hk⟩ : ∃ k : Nat, (stepP p i acc' rs').1 = (k : Int) := ⟨(stepP p i acc' rs').1.toNat, by omega⟩
            have HK : Hid ((stepP p i acc' rs').1 = (k : Int)) := hk
            rw [hk] at hwd
            generalize bt p i = c at *
            clear h32 he hk
            go_wp2
            refine wp_scope_fwd 0 rfl (fun Q' a w h => ?_) ?_
            · first | exact wp_skip h | (go_wp2; exact h)
            go_wp2_with (go_at_call 33; refine (step_any HM.out HWF.out p hp i hlt).mono ?_; rintro e w1 ⟨rfl, h1⟩; rw [HE.out, HK.out])
            go_step3
            go_wp2
            simp only [Exit.jump]
            go_wp2
            go_roundw
            case rel =>
              obtain ⟨sl2, h2, m2⟩ := h1
              have hR3 := HR2.out
              rw [HK.out] at hR3
              exact ⟨i + k, f', _, _, sl2, by go_num, by omega, h2, HSW, HV.out.trans m2, by have := HF.out; show _ < _; omega, by show _ = _; simpa using hR3⟩
            case measure => simp [intOf]; omega
          · have HR2 : Hid (runP p 25 0 acc rs = ((i : Int), (stepP p i acc' rs').2.1, (stepP p i acc' rs').2.2.1, (stepP p i acc' rs').2.2.2)) := by
              show _ = _
              rw [HR.out, runP, if_pos hlt, if_neg h32, if_neg he]
            have hne : ((stepP p i acc' rs').2.1 != 0) = true := by simpa using he
            generalize bt p i = c at *
            clear h32 he
            go_wp2
            refine wp_scope_fwd 0 rfl (fun Q' a w h => ?_) ?_
            · first | exact wp_skip h | (go_wp2; exact h)
            go_wp2_with (go_at_call 33; refine (step_any HM.out HWF.out p hp i hlt).mono ?_; rintro e w1 ⟨rfl, h1⟩)
            go_ret2
            rw [ER.out, HR2.out]
            obtain ⟨sl2, h2, m2⟩ := h1
            exact ⟨rfl, sl2, h2, HV.out.trans m2⟩
      · have HR2 : Hid (runP p 25 0 acc rs = ((p.size : Int), 0, acc', rs')) := by
          show _ = _
          rw [HR.out, runP, if_neg hlt]
        go_wp2
        go_ret2
        rw [ER.out, HR2.out]
        exact ⟨rfl, sl', HM.out, HV.out⟩
  · have e : run p acc rs = (0, 1, acc, rs) := by unfold run; rw [if_pos (by omega)]
    rw [e]
    go_enter Try.func27, Try.ntmps27
    go_wp2
    go_ret2
    exact ⟨rfl, sl, H.out, Mw.refl _ _ _ _⟩
end Go.Proofs.Qxb6500336a
