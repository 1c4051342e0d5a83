import Derived.Test.Qxb6500340aK5
import Derived.Test.Qxb6500340aW12
namespace Go.Proofs.Qxb6500340a
open Go.RowKit
set_option linter.unusedVariables false
set_option linter.unusedSimpArgs false

theorem ordT_list (l : List Nat) : (ordT l).data.toList = dgs l := by simp [ordT]
theorem judge_ord {s : St} (h : Inv s) : judgeB s (ordT (run s 4).ord).data.toList = true := by rw [ordT_list]; exact ord_judge h.gok
theorem least_ord (s : St) : ll s (fun _ => false) s.av (ordT (run s 4).ord).data.toList = true := by rw [ordT_list]; exact ord_least s
theorem ord_lt (s : St) : ∀ p, p ∈ (run s 4).ord → p < 4 := by rw [ord_can]; exact can_lt
theorem ord_at {l : List Nat} {i : Nat} (h : i < (ordT l).size) (hl : ∀ p, p ∈ l → p < 4) : 48 ≤ ((ordT l)[i]).toNat ∧ ((ordT l)[i]).toNat < 52 := by
  have hm : (ordT l)[i] ∈ (ordT l).data.toList := by
    rw [ByteArray.getElem_eq_getElem_data, ← Array.getElem_toList]; exact List.getElem_mem _
  rw [ordT_list] at hm
  obtain ⟨p, hp, he⟩ := List.mem_map.1 hm
  have := hl p hp
  rw [← he, dg_nat this]; omega

set_option maxHeartbeats 3200000 in
set_option maxRecDepth 100000 in
theorem sound_any (w : World) (x g : Nat) (s : St) (hx : BkI w x s) (hg : Gh w g (gof s)) (hi : Inv s) :
    Calls Try.prog 14 #[.pointer (some ⟨x, 0, none⟩), .pointer (some ⟨g, 0, none⟩)] w fun e w' => e = .returned (.bool true) ∧ Fr [] w w' := by
  have HX : Hid (BkI w x s) := hx
  have HG : Hid (Gh w g (gof s)) := hg
  have HI : Hid (Inv s) := hi
  clear hx hg hi
  go_enter Try.func14, Try.ntmps14
  go_wp2_with fail
  go_at_call 18
  refine (avail_any _ x s _ HX.out).mono ?_
  rintro e w1 ⟨rfl, hf1⟩
  go_wp2_with fail
  go_at_call 19
  refine (free_any _ g s (blk_alloc (hf1.keep HG.out (by simp)) _) HI.out.sm).mono ?_
  rintro e w2 ⟨rfl, hf2⟩
  go_wp2_with fail
  go_at_call 20
  refine (order_any _ x s _ (blk_alloc (hf2.keep (blk_alloc (hf1.keep HX.out (by simp)) _) (by simp)) _)).mono ?_
  rintro e w3 ⟨rfl, hf3⟩
  have A3 : Hid (Vb w3 w1.heap.size s.av) := hf3.keep (blk_alloc (hf2.keep (blk_new _ _) (by simp)) _) (by simp)
  have B3 : Hid (Vb w3 w2.heap.size s.av) := hf3.keep (blk_new _ _) (by simp)
  have F3 : Hid (Fr [] w w3) := (((hf1.alloc _).trans hf2).alloc _).trans hf3
  have X3 : Hid (BkI w3 x s) := F3.out.keep HX.out (by simp)
  have G3 : Hid (Gh w3 g (gof s)) := F3.out.keep HG.out (by simp)
  clear hf1 hf2 hf3
  have a0 := A3.out.a
  have a1 := A3.out.b
  have b0 := B3.out.a
  have b1 := B3.out.b
  have he : ∀ W, _ := fun W => eq_vec W s.av.a s.av.b s.av.a s.av.b
  simp only [BEq.rfl, Bool.and_self] at he
  have z1 := ord_size s 4
  go_wp2_with fail
  go_at_call 21
  refine (judge_any _ g s _ (by omega) G3.out HI.out.sm).mono ?_
  rintro e w4 ⟨rfl, hf4⟩
  rw [judge_ord HI.out]
  go_wp2_with fail
  go_at_call 22
  refine (least_any _ g s _ z1 (fun i h => ord_at h (ord_lt s)) (least_ord s) (hf4.keep G3.out (by simp)) HI.out.sm).mono ?_
  rintro e w5 ⟨rfl, hf5⟩
  go_wp2_with fail
  go_at_call 23
  refine (shown_any _ g s (hf5.keep (hf4.keep G3.out (by simp)) (by simp)) HI.out).mono ?_
  rintro e w6 ⟨rfl, hf6⟩
  go_wp2_with fail
  go_at_call 24
  refine (show_any _ x s _ (hf6.keep (hf5.keep (hf4.keep X3.out (by simp)) (by simp)) (by simp)) HI.out).mono ?_
  rintro e w7 ⟨rfl, hf7⟩
  go_wp2
  go_ret
  exact ⟨by simp, (((F3.out.trans hf4).trans hf5).trans hf6).trans hf7⟩

set_option maxHeartbeats 3200000 in
set_option maxRecDepth 100000 in
theorem facts_any (w : World) : Calls Try.prog 6 #[] w fun e w' => e = .returned (.bool true) ∧ Fr [] w w' := by
  go_enter Try.func6, Try.ntmps6
  go_wp2_with fail
  go_at_call 10
  refine (row_any _ true ⟨4, 2⟩ ⟨1, 0⟩ (by unfold okV; decide) (by unfold okV; decide)).mono ?_
  rintro e w1 ⟨rfl, hf1⟩
  rw [show rowT true ⟨4, 2⟩ ⟨1, 0⟩ = (⟨#[59, 52, 44, 50, 47, 49, 44, 48]⟩ : ByteArray) from by decide +kernel]
  go_wp2_with fail
  go_at_call 10
  refine (row_any _ false ⟨4, 2⟩ ⟨1, 0⟩ (by unfold okV; decide) (by unfold okV; decide)).mono ?_
  rintro e w2 ⟨rfl, hf2⟩
  rw [show rowT false ⟨4, 2⟩ ⟨1, 0⟩ = (⟨#[59, 45]⟩ : ByteArray) from by decide +kernel]
  go_wp2_with fail
  go_at_call 11
  refine (text_any _ ⟨4, 3⟩ (by unfold okV; decide)).mono ?_
  rintro e w3 ⟨rfl, hf3⟩
  rw [show txt ⟨4, 3⟩ = (⟨#[52, 44, 51]⟩ : ByteArray) from by decide +kernel]
  go_wp2_with fail
  go_at_call 12
  refine (itoa_fact _).mono ?_
  rintro e w4 ⟨rfl, hf4⟩
  go_wp2
  go_ret
  exact ⟨rfl, ((hf1.trans hf2).trans hf3).trans hf4⟩
end Go.Proofs.Qxb6500340a
