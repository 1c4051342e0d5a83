import Derived.Test.Qxb6500340aW12
namespace Go.Proofs.Qxb6500340a
open Go.RowKit
set_option linter.unusedVariables false
set_option linter.unusedSimpArgs false

set_option maxHeartbeats 3200000 in
set_option maxRecDepth 100000 in
theorem do_none (w : World) (x : Nat) (s : St) (k a b c : Int) (t u : ByteArray) (hr : BkI w x s) (h1 : (k == 1) = false) (h2 : (k == 2) = false) (h3 : (k == 3) = false) (h4 : (k == 4) = false) (h5 : (k == 5) = false) (h6 : (k == 6) = false) (h7 : (k == 7) = false) (h8 : (k == 8) = false) :
    Calls Try.prog 26 #[.pointer (some ⟨x, 0, none⟩), .agg #[.int .i64 k, .int .i64 a, .int .i64 b, .int .i64 c, .string t, .string u]] w fun e w' => e = .returned (.agg #[.int .i64 0, .int .i64 0, .int .i64 0, .string ⟨#[]⟩]) ∧ BkI w' x s ∧ Fr [x] w w' := by
  have hxl := blk_lt hr
  have HR : Hid (BkI w x s) := hr
  clear hr
  go_enter Try.func26, Try.ntmps26
  go_wp2
  obtain ⟨-, hA, hV, hB, hF⟩ := four_blocks w (.cells #[.int .i64 k, .int .i64 a, .int .i64 b, .int .i64 c, .string t, .string u] 41) ans0 (.cells #[.int .i64 b, .int .i64 c] 27) ans0
  refine bodyPost_ret (v := .agg #[.int .i64 0, .int .i64 0, .int .i64 0, .string ⟨#[]⟩]) (by simp [results, Try.results26, go_sem]) rfl ⟨rfl, ?_, ?_⟩
  · exact HR.out.keep hF (by simp)
  · exact hF.widen
end Go.Proofs.Qxb6500340a
