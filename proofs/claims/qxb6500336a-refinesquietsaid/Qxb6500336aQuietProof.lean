import Derived.Test.Qxb6500336aOpen
import Derived.Test.Qxb6500336aR27
namespace Go.Proofs.Qxb6500336a.quietProof
open Go.ChangeShapes Go.WideShapes Go.ChangeAt Go.RowKit Go.Deep
set_option linter.unusedVariables false

set_option maxHeartbeats 800000 in
theorem law_upto (w : World) (v : Value) (h : ScrV w v) : Calls Try.prog 24 #[v] w fun e w' => e = .returned (.int .i64 (-1)) ∧ Fr [] w w' := by
  have H : Hid (ScrV w v) := h
  clear h
  go_enter Try.func24, Try.ntmps24
  go_wp2_with (go_at_call 30; refine (walk_quiet _ _ H.out).mono ?_; rintro e w1 ⟨⟨n, rfl⟩, hf⟩)
  go_ret
  exact ⟨rfl, hf⟩

set_option maxHeartbeats 800000 in
theorem law_walk (w : World) (v : Value) (h : ScrV w v) : Calls Try.prog 4 #[v] w fun e w' => e = .returned (.bool true) ∧ Fr [] w w' := by
  have H : Hid (ScrV w v) := h
  clear h
  go_enter Try.func4, Try.ntmps4
  go_wp2_with (go_at_call 24; refine (law_upto _ _ H.out).mono ?_; rintro e w1 ⟨rfl, hf⟩)
  go_ret
  exact ⟨rfl, hf⟩

set_option maxRecDepth 100000 in
theorem lifted (os : Os) (started : os.Started) (H : Type) (enc : TypeId × Value → H) :
    ReturnsInHanded {} Try.checked os 4 .any (Rows.refinesQuietSpec.pre6 enc Try.prog Try.f4 Rows.refinesQuietRow.domain false) (Rows.refinesQuietSpec.post enc Try.prog Try.f4 false true false false) := by
  refine returnsInHanded_of_change (C := Try.checked) own started (by kernel_rfl) Try.func4
    (ChangeSpec.witness6 (enc := enc) (C := Try.checked) false ⟨#[], #[.slice none 0 0], []⟩ 8 (by kernel_rfl) (by kernel_rfl) (by kernel_rfl) (by kernel_rfl)) ?_
  intro W base args ds gs before hval0 hW hcnd _
  have hval : ∀ (j : Nat) t v, Try.f4.params[j]? = some t → args[j]? = some v → Value.okWide Try.prog W .any base t v := hval0
  have hW' := hW
  obtain ⟨p, q, hA0, hV, rfl, hfz, hnd⟩ := hW
  have hA : DataW.TrodAll enc Try.prog W 0 (fun _ => true) true Try.f4.params.toList args.toList ds p := hA0
  rw [Try.params4] at hA hval
  obtain ⟨v0, d0, rfl, rfl, h0⟩ := trodAll_one hA
  obtain ⟨rfl, rfl⟩ := trodVars_none hV
  obtain ⟨a0, len, cap, hv⟩ := okWide_slice Try.underlying22 (hval 0 22 v0 rfl rfl)
  clear hA0 hval0 hA
  simp only [List.append_nil] at hW'
  have hlt : ∀ x ∈ p, x.block < W.heap.size := fun x hx => by simpa using hW'.lt x hx
  refine (law_walk W v0 (scr_of_trod hv h0 hlt)).mono fun e W' ⟨he, hf⟩ => ?_
  subst he
  refine ⟨_, rfl, _, _, _, [], p, [], hW', ?_, ?_, rfl, hf.below.frame _, fun h => by cases h⟩
  · exact trodAll_mk1 (shut_bool Try.underlying4 true)
  · exact trodAll_mk1 (Below.trod laidOut (by kernel_rfl) (of_decide_eq_true (by kernel_rfl)) h0 hf.below hlt)

theorem over : Rows.refinesQuietRow.holds Try.pinned (OpenSpec.ofChange Rows.refinesQuietSpec) :=
  OpenClaim.holds_of_wide 4 Try.f4 rfl rfl rfl rfl rfl rfl rfl ⟨rfl, rfl, rfl, rfl, rfl⟩ rfl rfl rfl rfl rfl (by kernel_rfl) Try.func4 (by kernel_rfl)
    (of_decide_eq_true (by kernel_rfl)) (by unfold Func.isWrapper; first | (rw [if_pos (by decide +kernel)]; kernel_rfl) | (rw [if_neg (by decide +kernel)]; exact ⟨rfl, rfl⟩))
    (fun os started H enc _ => lifted os started H enc)

/-- THE STATEMENT -/
theorem proved : Rows.RefinesQuietSaid := over
#print axioms proved
end Go.Proofs.Qxb6500336a.quietProof
