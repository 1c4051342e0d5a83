import Derived.Test.Qxb6500336aW26
import Derived.Test.Qxb6500336aW27
namespace Go.Proofs.Qxb6500336a
open Go.RowKit
set_option linter.unusedVariables false
set_option linter.unusedSimpArgs false

theorem Mw.fr0 {a b c : World} {M S : Nat} {sl sl' : Value} (h : Fr [] a b) (m : Mw b c M S sl sl') (hM : a.heap.size ≤ M) (hS : a.heap.size ≤ S) (hsl : sl.ownBlock = none) : Fr [] a c :=
  h.narrow m.fr (fun i hi => by
    simp [hsl] at hi
    rcases hi with rfl | rfl
    · exact Or.inr hM
    · exact Or.inr hS)

set_option maxHeartbeats 1600000 in
set_option maxRecDepth 100000 in
theorem says_any (w : World) (p s : ByteArray) (n k : Int) (hp : p.size ≤ 1000000) (h1 : (run p 0 []).1 = n) (h2 : (run p 0 []).2.1 = k) (h3 : showM (run p 0 []).2.2.1 (run p 0 []).2.2.2 = s) :
    Calls Try.prog 25 #[.string p, .int .i64 n, .int .i64 k, .string s] w fun e w' => e = .returned (.bool true) ∧ Fr [] w w' := by
  have H1 : Hid ((run p 0 []).1 = n) := h1
  have H2 : Hid ((run p 0 []).2.1 = k) := h2
  have H3 : Hid (showM (run p 0 []).2.2.1 (run p 0 []).2.2.2 = s) := h3
  have HP : Hid (p.size ≤ 1000000) := hp
  clear h1 h2 h3 hp
  go_enter Try.func25, Try.ntmps25
  go_wp2_with (first | (go_at_call 26; refine (tnew_any _).mono ?_; rintro e w1 ⟨rfl, hm1, hf1⟩; have HM1 : Hid _ := hm1; have HF1 : Hid _ := hf1; clear hm1 hf1) | (go_at_call 27; refine (run_any HM1.out Wf.nil p HP.out).mono ?_; rintro e w2 ⟨rfl, sl2, hm2, mw2⟩; rw [H1.out, H2.out]; have HM2 : Hid _ := hm2; have HF2 : Hid (Fr [] w w2) := mw2.fr0 HF1.out (by omega) (Nat.le_refl _) rfl; clear hm2 mw2) | (go_at_call 28; refine (mshow_any HM2.out (run_wf Wf.nil)).mono ?_; rintro e w3 ⟨rfl, hf3⟩; rw [H3.out]))
  go_ret
  exact ⟨by simp, HF2.out.trans hf3⟩

set_option maxHeartbeats 1600000 in
set_option maxRecDepth 100000 in
theorem edge_5 (w : World) : Calls Try.prog 5 #[] w fun e w' => e = .returned (.bool true) ∧ Fr [] w w' := by
  have HF : Hid (Fr [] w w) := Fr.refl _ _
  go_enter Try.func5, Try.ntmps5
  go_wp2_with (go_at_call 25; refine (says_any _ _ _ _ _ (of_decide_eq_true (by kernel_rfl)) (by kernel_rfl) (by kernel_rfl) (by kernel_rfl)).mono ?_; rintro e w1 ⟨rfl, hf⟩; replace HF : Hid (Fr [] w w1) := HF.out.trans hf; clear hf)
  go_ret
  exact ⟨rfl, HF.out⟩
set_option maxHeartbeats 1600000 in
set_option maxRecDepth 100000 in
theorem edge_6 (w : World) : Calls Try.prog 6 #[] w fun e w' => e = .returned (.bool true) ∧ Fr [] w w' := by
  have HF : Hid (Fr [] w w) := Fr.refl _ _
  go_enter Try.func6, Try.ntmps6
  go_wp2_with (go_at_call 25; refine (says_any _ _ _ _ _ (of_decide_eq_true (by kernel_rfl)) (by kernel_rfl) (by kernel_rfl) (by kernel_rfl)).mono ?_; rintro e w1 ⟨rfl, hf⟩; replace HF : Hid (Fr [] w w1) := HF.out.trans hf; clear hf)
  go_ret
  exact ⟨rfl, HF.out⟩
set_option maxHeartbeats 1600000 in
set_option maxRecDepth 100000 in
theorem edge_7 (w : World) : Calls Try.prog 7 #[] w fun e w' => e = .returned (.bool true) ∧ Fr [] w w' := by
  have HF : Hid (Fr [] w w) := Fr.refl _ _
  go_enter Try.func7, Try.ntmps7
  go_wp2_with (go_at_call 25; refine (says_any _ _ _ _ _ (of_decide_eq_true (by kernel_rfl)) (by kernel_rfl) (by kernel_rfl) (by kernel_rfl)).mono ?_; rintro e w1 ⟨rfl, hf⟩; replace HF : Hid (Fr [] w w1) := HF.out.trans hf; clear hf)
  go_ret
  exact ⟨rfl, HF.out⟩
set_option maxHeartbeats 1600000 in
set_option maxRecDepth 100000 in
theorem edge_8 (w : World) : Calls Try.prog 8 #[] w fun e w' => e = .returned (.bool true) ∧ Fr [] w w' := by
  have HF : Hid (Fr [] w w) := Fr.refl _ _
  go_enter Try.func8, Try.ntmps8
  go_wp2_with (go_at_call 25; refine (says_any _ _ _ _ _ (of_decide_eq_true (by kernel_rfl)) (by kernel_rfl) (by kernel_rfl) (by kernel_rfl)).mono ?_; rintro e w1 ⟨rfl, hf⟩; replace HF : Hid (Fr [] w w1) := HF.out.trans hf; clear hf)
  go_ret
  exact ⟨rfl, HF.out⟩
set_option maxHeartbeats 1600000 in
set_option maxRecDepth 100000 in
theorem edge_9 (w : World) : Calls Try.prog 9 #[] w fun e w' => e = .returned (.bool true) ∧ Fr [] w w' := by
  have HF : Hid (Fr [] w w) := Fr.refl _ _
  go_enter Try.func9, Try.ntmps9
  go_wp2_with (go_at_call 25; refine (says_any _ _ _ _ _ (of_decide_eq_true (by kernel_rfl)) (by kernel_rfl) (by kernel_rfl) (by kernel_rfl)).mono ?_; rintro e w1 ⟨rfl, hf⟩; replace HF : Hid (Fr [] w w1) := HF.out.trans hf; clear hf)
  go_ret
  exact ⟨rfl, HF.out⟩
set_option maxHeartbeats 1600000 in
set_option maxRecDepth 100000 in
theorem edge_10 (w : World) : Calls Try.prog 10 #[] w fun e w' => e = .returned (.bool true) ∧ Fr [] w w' := by
  have HF : Hid (Fr [] w w) := Fr.refl _ _
  go_enter Try.func10, Try.ntmps10
  go_wp2_with (go_at_call 25; refine (says_any _ _ _ _ _ (of_decide_eq_true (by kernel_rfl)) (by kernel_rfl) (by kernel_rfl) (by kernel_rfl)).mono ?_; rintro e w1 ⟨rfl, hf⟩; replace HF : Hid (Fr [] w w1) := HF.out.trans hf; clear hf)
  go_ret
  exact ⟨rfl, HF.out⟩
set_option maxHeartbeats 1600000 in
set_option maxRecDepth 100000 in
theorem edge_11 (w : World) : Calls Try.prog 11 #[] w fun e w' => e = .returned (.bool true) ∧ Fr [] w w' := by
  have HF : Hid (Fr [] w w) := Fr.refl _ _
  go_enter Try.func11, Try.ntmps11
  go_wp2_with (go_at_call 25; refine (says_any _ _ _ _ _ (of_decide_eq_true (by kernel_rfl)) (by kernel_rfl) (by kernel_rfl) (by kernel_rfl)).mono ?_; rintro e w1 ⟨rfl, hf⟩; replace HF : Hid (Fr [] w w1) := HF.out.trans hf; clear hf)
  go_ret
  exact ⟨rfl, HF.out⟩
set_option maxHeartbeats 1600000 in
set_option maxRecDepth 100000 in
theorem edge_12 (w : World) : Calls Try.prog 12 #[] w fun e w' => e = .returned (.bool true) ∧ Fr [] w w' := by
  have HF : Hid (Fr [] w w) := Fr.refl _ _
  go_enter Try.func12, Try.ntmps12
  go_wp2_with (go_at_call 25; refine (says_any _ _ _ _ _ (of_decide_eq_true (by kernel_rfl)) (by kernel_rfl) (by kernel_rfl) (by kernel_rfl)).mono ?_; rintro e w1 ⟨rfl, hf⟩; replace HF : Hid (Fr [] w w1) := HF.out.trans hf; clear hf)
  go_ret
  exact ⟨rfl, HF.out⟩
set_option maxHeartbeats 1600000 in
set_option maxRecDepth 100000 in
theorem edge_13 (w : World) : Calls Try.prog 13 #[] w fun e w' => e = .returned (.bool true) ∧ Fr [] w w' := by
  have HF : Hid (Fr [] w w) := Fr.refl _ _
  go_enter Try.func13, Try.ntmps13
  go_wp2_with (go_at_call 25; refine (says_any _ _ _ _ _ (of_decide_eq_true (by kernel_rfl)) (by kernel_rfl) (by kernel_rfl) (by kernel_rfl)).mono ?_; rintro e w1 ⟨rfl, hf⟩; replace HF : Hid (Fr [] w w1) := HF.out.trans hf; clear hf)
  go_ret
  exact ⟨rfl, HF.out⟩
set_option maxHeartbeats 1600000 in
set_option maxRecDepth 100000 in
theorem edge_14 (w : World) : Calls Try.prog 14 #[] w fun e w' => e = .returned (.bool true) ∧ Fr [] w w' := by
  have HF : Hid (Fr [] w w) := Fr.refl _ _
  go_enter Try.func14, Try.ntmps14
  go_wp2_with (go_at_call 25; refine (says_any _ _ _ _ _ (of_decide_eq_true (by kernel_rfl)) (by kernel_rfl) (by kernel_rfl) (by kernel_rfl)).mono ?_; rintro e w1 ⟨rfl, hf⟩; replace HF : Hid (Fr [] w w1) := HF.out.trans hf; clear hf)
  go_ret
  exact ⟨rfl, HF.out⟩
set_option maxHeartbeats 1600000 in
set_option maxRecDepth 100000 in
theorem edge_15 (w : World) : Calls Try.prog 15 #[] w fun e w' => e = .returned (.bool true) ∧ Fr [] w w' := by
  have HF : Hid (Fr [] w w) := Fr.refl _ _
  go_enter Try.func15, Try.ntmps15
  go_wp2_with (go_at_call 25; refine (says_any _ _ _ _ _ (of_decide_eq_true (by kernel_rfl)) (by kernel_rfl) (by kernel_rfl) (by kernel_rfl)).mono ?_; rintro e w1 ⟨rfl, hf⟩; replace HF : Hid (Fr [] w w1) := HF.out.trans hf; clear hf)
  go_ret
  exact ⟨rfl, HF.out⟩
set_option maxHeartbeats 1600000 in
set_option maxRecDepth 100000 in
theorem edge_16 (w : World) : Calls Try.prog 16 #[] w fun e w' => e = .returned (.bool true) ∧ Fr [] w w' := by
  have HF : Hid (Fr [] w w) := Fr.refl _ _
  go_enter Try.func16, Try.ntmps16
  go_wp2_with (go_at_call 25; refine (says_any _ _ _ _ _ (of_decide_eq_true (by kernel_rfl)) (by kernel_rfl) (by kernel_rfl) (by kernel_rfl)).mono ?_; rintro e w1 ⟨rfl, hf⟩; replace HF : Hid (Fr [] w w1) := HF.out.trans hf; clear hf)
  go_ret
  exact ⟨rfl, HF.out⟩
set_option maxHeartbeats 1600000 in
set_option maxRecDepth 100000 in
theorem edge_19 (w : World) : Calls Try.prog 19 #[] w fun e w' => e = .returned (.bool true) ∧ Fr [] w w' := by
  have HF : Hid (Fr [] w w) := Fr.refl _ _
  go_enter Try.func19, Try.ntmps19
  go_wp2_with (go_at_call 25; refine (says_any _ _ _ _ _ (of_decide_eq_true (by kernel_rfl)) (by kernel_rfl) (by kernel_rfl) (by kernel_rfl)).mono ?_; rintro e w1 ⟨rfl, hf⟩; replace HF : Hid (Fr [] w w1) := HF.out.trans hf; clear hf)
  go_ret
  exact ⟨rfl, HF.out⟩
set_option maxHeartbeats 1600000 in
set_option maxRecDepth 100000 in
theorem edge_20 (w : World) : Calls Try.prog 20 #[] w fun e w' => e = .returned (.bool true) ∧ Fr [] w w' := by
  have HF : Hid (Fr [] w w) := Fr.refl _ _
  go_enter Try.func20, Try.ntmps20
  go_wp2_with (go_at_call 25; refine (says_any _ _ _ _ _ (of_decide_eq_true (by kernel_rfl)) (by kernel_rfl) (by kernel_rfl) (by kernel_rfl)).mono ?_; rintro e w1 ⟨rfl, hf⟩; replace HF : Hid (Fr [] w w1) := HF.out.trans hf; clear hf)
  go_ret
  exact ⟨rfl, HF.out⟩
set_option maxHeartbeats 1600000 in
set_option maxRecDepth 100000 in
theorem edge_21 (w : World) : Calls Try.prog 21 #[] w fun e w' => e = .returned (.bool true) ∧ Fr [] w w' := by
  have HF : Hid (Fr [] w w) := Fr.refl _ _
  go_enter Try.func21, Try.ntmps21
  go_wp2_with (go_at_call 25; refine (says_any _ _ _ _ _ (of_decide_eq_true (by kernel_rfl)) (by kernel_rfl) (by kernel_rfl) (by kernel_rfl)).mono ?_; rintro e w1 ⟨rfl, hf⟩; replace HF : Hid (Fr [] w w1) := HF.out.trans hf; clear hf)
  go_ret
  exact ⟨rfl, HF.out⟩
end Go.Proofs.Qxb6500336a
