import Derived.Test.Qxb6500339aFr
import Derived.Test.Qxb6500339aPlain
import Derived.Handy
namespace Go.Proofs.Qxb6500339a
open Go.RowKit
set_option linter.unusedVariables false
set_option linter.unusedSimpArgs false

/-- A block's content as a value. -/
def bV (x : Bl) : Value := .agg #[.int .u8 x.a, .int .u8 x.b, .int .u8 x.c, .int .u8 x.d]
def bC (x : Bl) : Array Value := #[.int .u8 x.a, .int .u8 x.b, .int .u8 x.c, .int .u8 x.d]

set_option maxHeartbeats 400000 in
theorem home_any (w : World) (a : Nat) (h : a < 5) : Calls Try.prog 29 #[.int .i64 a] w fun e w' => e = .returned (.int .i64 ((3 + a : Nat) : Int)) ∧ w' = w := by
  go_enter Try.func29, Try.ntmps29
  go_wp2
  go_ret
  exact ⟨ret_int (by omega), rfl⟩

set_option maxHeartbeats 800000 in
theorem header_any (w : World) (a b : Nat) (ha : a < 5) (hb : b < 5) : Calls Try.prog 43 #[.int .i64 a, .int .i64 b] w fun e w' => e = .returned (bV (hdr a b)) ∧ Fr [] w w' := by
  go_enter Try.func43, Try.ntmps43
  go_wp2
  exact bodyPost_ret (v := bV (hdr a b)) (by simp [results, Try.results43, go_sem, bV, hdr]) rfl ⟨rfl, ((Fr.refl _ _).alloc _).alloc _⟩

set_option maxHeartbeats 800000 in
theorem encode_any (w : World) (n : Int) (h0 : 0 ≤ n) (h1 : n ≤ 4000) : Calls Try.prog 40 #[.int .i64 n] w fun e w' => e = .returned (bV (enc n)) ∧ Fr [] w w' := by
  go_enter Try.func40, Try.ntmps40
  go_wp2
  have e1 : n / 256 = n / 256 % 256 := by omega
  have e2 : n / 65536 = 0 := by omega
  have e3 : n / 16777216 = 0 := by omega
  rw [e2, e3]
  refine bodyPost_ret (v := bV (enc n)) ?_ rfl ⟨rfl, ((Fr.refl _ _).alloc _).alloc _⟩
  simp only [bV, enc]
  rw [← e1]
  simp [results, Try.results40, go_sem]

theorem dec_nat : ∀ q : Nat, q < 16 → ∀ r : Nat, r < 256 → bits BinOp.or IntKind.i64 (bits BinOp.or IntKind.i64 (bits BinOp.or IntKind.i64 (r : Int) ((q : Int) * 256)) 0) 0 = (q : Int) * 256 + r := by decide +kernel
theorem dec_int (n : Int) (h0 : 0 ≤ n) (h1 : n ≤ 4000) : bits BinOp.or IntKind.i64 (bits BinOp.or IntKind.i64 (bits BinOp.or IntKind.i64 (n % 256) (n / 256 % 256 * 256)) 0) 0 = n := by
  have h := dec_nat (n / 256).toNat (by omega) (n % 256).toNat (by omega)
  rw [show (((n / 256).toNat : Nat) : Int) = n / 256 from by omega, show (((n % 256).toNat : Nat) : Int) = n % 256 from by omega] at h
  rw [show n / 256 % 256 = n / 256 from by omega, h]; omega

set_option maxHeartbeats 800000 in
theorem decode_any (w : World) (n : Int) (h0 : 0 ≤ n) (h1 : n ≤ 4000) : Calls Try.prog 42 #[bV (enc n)] w fun e w' => e = .returned (.int .i64 n) ∧ Fr [] w w' := by
  unfold bV enc
  dsimp only
  go_enter Try.func42, Try.ntmps42
  go_wp2
  go_ret
  exact ⟨ret_int (dec_int n h0 h1), (Fr.refl _ _).alloc _⟩
end Go.Proofs.Qxb6500339a
