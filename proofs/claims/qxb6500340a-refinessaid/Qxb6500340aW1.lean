import Derived.Test.Qxb6500340aFr
import Derived.Test.Qxb6500340aPlainC
namespace Go.Proofs.Qxb6500340a
open Go.RowKit
set_option linter.unusedVariables false

set_option maxHeartbeats 400000 in
theorem total_any (w : World) :
    Calls Try.prog 17 #[] w fun e w' => e = .returned (.agg #[.int .i64 5, .int .i64 3]) ∧ Fr [] w w' := by
  go_enter Try.func17, Try.ntmps17
  go_wp2
  exact bodyPost_ret (v := .agg #[.int .i64 5, .int .i64 3]) (by simp [results, Try.results17, go_sem]) rfl ⟨rfl, (Fr.refl _ _).alloc _⟩

set_option maxHeartbeats 400000 in
theorem add_any (w : World) (x y u v : Int) (h1 : -1000 ≤ x ∧ x ≤ 1000) (h2 : -1000 ≤ y ∧ y ≤ 1000) (h3 : -1000 ≤ u ∧ u ≤ 1000) (h4 : -1000 ≤ v ∧ v ≤ 1000) :
    Calls Try.prog 29 #[.agg #[.int .i64 x, .int .i64 y], .agg #[.int .i64 u, .int .i64 v]] w fun e w' => e = .returned (.agg #[.int .i64 (x + u), .int .i64 (y + v)]) ∧ Fr [] w w' := by
  go_enter Try.func29, Try.ntmps29
  go_wp2
  exact bodyPost_ret (v := .agg #[.int .i64 (x + u), .int .i64 (y + v)]) (by simp [results, Try.results29, go_sem]) rfl ⟨rfl, (((Fr.refl _ _).alloc _).alloc _).alloc _⟩

set_option maxHeartbeats 400000 in
theorem sub_any (w : World) (x y u v : Int) (h1 : -1000 ≤ x ∧ x ≤ 1000) (h2 : -1000 ≤ y ∧ y ≤ 1000) (h3 : -1000 ≤ u ∧ u ≤ 1000) (h4 : -1000 ≤ v ∧ v ≤ 1000) :
    Calls Try.prog 30 #[.agg #[.int .i64 x, .int .i64 y], .agg #[.int .i64 u, .int .i64 v]] w fun e w' => e = .returned (.agg #[.int .i64 (x - u), .int .i64 (y - v)]) ∧ Fr [] w w' := by
  go_enter Try.func30, Try.ntmps30
  go_wp2
  exact bodyPost_ret (v := .agg #[.int .i64 (x - u), .int .i64 (y - v)]) (by simp [results, Try.results30, go_sem]) rfl ⟨rfl, (((Fr.refl _ _).alloc _).alloc _).alloc _⟩

theorem ret_bool {a b : Bool} (h : a = b) : Ending.returned (.bool a) = .returned (.bool b) := by rw [h]

set_option maxHeartbeats 400000 in
theorem le_any (w : World) (x y u v : Int) :
    Calls Try.prog 34 #[.agg #[.int .i64 x, .int .i64 y], .agg #[.int .i64 u, .int .i64 v]] w fun e w' => e = .returned (.bool (leB ⟨x, y⟩ ⟨u, v⟩)) ∧ Fr [] w w' := by
  by_cases h1 : x ≤ u
  · by_cases h2 : y ≤ v
    · have HE : Hid (leB ⟨x, y⟩ ⟨u, v⟩ = true) := leB_iff.2 ⟨h1, h2⟩
      go_enter Try.func34, Try.ntmps34
      go_wp2
      go_ret
      exact ⟨ret_bool HE.out.symm, ((Fr.refl _ _).alloc _).alloc _⟩
    · have HE : Hid (leB ⟨x, y⟩ ⟨u, v⟩ = false) := leB_no.2 (fun h => h2 h.2)
      have d2 : decide (y ≤ v) = false := decide_eq_false h2
      go_enter Try.func34, Try.ntmps34
      go_wp2
      go_ret
      exact ⟨ret_bool HE.out.symm, ((Fr.refl _ _).alloc _).alloc _⟩
  · have HE : Hid (leB ⟨x, y⟩ ⟨u, v⟩ = false) := leB_no.2 (fun h => h1 h.1)
    have d1 : decide (x ≤ u) = false := decide_eq_false h1
    go_enter Try.func34, Try.ntmps34
    go_wp2
    go_ret
    exact ⟨ret_bool HE.out.symm, ((Fr.refl _ _).alloc _).alloc _⟩

def cntB (x y : Int) : Bool := decide (0 ≤ x ∧ x ≤ 5 ∧ 0 ≤ y ∧ y ≤ 3)

set_option maxHeartbeats 400000 in
theorem counts_any (w : World) (x y : Int) :
    Calls Try.prog 54 #[.agg #[.int .i64 x, .int .i64 y]] w fun e w' => e = .returned (.bool (cntB x y)) ∧ Fr [] w w' := by
  go_enter Try.func54, Try.ntmps54
  go_wp2
  all_goals
    go_ret
    refine ⟨ret_bool ?_, (Fr.refl _ _).alloc _⟩
    unfold cntB
    first
      | exact (decide_eq_false (by omega)).symm
      | (rw [Bool.eq_iff_iff]; simp only [decide_eq_true_eq]; omega)

end Go.Proofs.Qxb6500340a
