import Derived.Test.Qxb6500340aW1
import Derived.Handy
import Derived.Lib.ConvBytes
namespace Go.Proofs.Qxb6500340a
open Go.RowKit
set_option linter.unusedVariables false
/-- A digit's text. -/
def dgT (n : Int) : ByteArray := ⟨#[UInt8.ofNat (48 + n.toNat)]⟩

/-- The tail of a row of bytes, as a string. -/
theorem tail_text (w : World) (pre vs : List Value) (l : List UInt8) (hv : vs = l.map fun c => Value.int .u8 (c.toNat : Int)) :
    (convert 45 9 (.slice (some ⟨w.heap.size, pre.length, none⟩) l.length l.length)).run Try.prog (w.alloc (.cells (pre ++ vs).toArray 44)) =
      .ok (.string ⟨l.toArray⟩) (w.alloc (.cells (pre ++ vs).toArray 44)) := by
  subst hv
  refine run_convert_bytes_back _ 45 9 5 ⟨w.heap.size, pre.length, none⟩ l.length l Try.underlying45 Try.underlying5 Try.underlying9 (fun j hj => ?_)
  rw [show (⟨w.heap.size, pre.length, none⟩ : Addr).add j = ⟨w.heap.size, pre.length + j, none⟩ from by unfold Addr.add; split <;> simp_all]
  rw [blk_cell (blk_new w (.cells (pre ++ l.map fun c => Value.int .u8 (c.toNat : Int)).toArray 44)) (pre.length + j)]
  simp [List.getElem?_append_right, List.getElem?_eq_getElem hj]

set_option maxHeartbeats 1600000 in
set_option maxRecDepth 100000 in
theorem itoa_small (w : World) (n : Int) (h1 : 0 ≤ n) (h2 : n ≤ 5) :
    Calls Try.prog 12 #[.int .i64 n] w fun e w' => e = .returned (.string (dgT n)) ∧ Fr [] w w' := by
  have hs : n = 0 ∨ n = 1 ∨ n = 2 ∨ n = 3 ∨ n = 4 ∨ n = 5 := by omega
  clear h1 h2
  rcases hs with rfl | rfl | rfl | rfl | rfl | rfl
  · go_enter Try.func12, Try.ntmps12
    go_wp2
    go_ret
    exact ⟨rfl, Fr.refl _ _⟩
  · have hc := tail_text w (List.replicate 23 (.int .u8 0)) [.int .u8 49] [49] rfl
    simp only [List.replicate, List.length, Nat.reduceAdd, List.cons_append, List.nil_append] at hc
    go_enter Try.func12, Try.ntmps12
    go_wp2
    go_rounds 2
    go_ret
    exact ⟨rfl, (Fr.refl _ _).alloc _⟩
  · have hc := tail_text w (List.replicate 23 (.int .u8 0)) [.int .u8 50] [50] rfl
    simp only [List.replicate, List.length, Nat.reduceAdd, List.cons_append, List.nil_append] at hc
    go_enter Try.func12, Try.ntmps12
    go_wp2
    go_rounds 2
    go_ret
    exact ⟨rfl, (Fr.refl _ _).alloc _⟩
  · have hc := tail_text w (List.replicate 23 (.int .u8 0)) [.int .u8 51] [51] rfl
    simp only [List.replicate, List.length, Nat.reduceAdd, List.cons_append, List.nil_append] at hc
    go_enter Try.func12, Try.ntmps12
    go_wp2
    go_rounds 2
    go_ret
    exact ⟨rfl, (Fr.refl _ _).alloc _⟩
  · have hc := tail_text w (List.replicate 23 (.int .u8 0)) [.int .u8 52] [52] rfl
    simp only [List.replicate, List.length, Nat.reduceAdd, List.cons_append, List.nil_append] at hc
    go_enter Try.func12, Try.ntmps12
    go_wp2
    go_rounds 2
    go_ret
    exact ⟨rfl, (Fr.refl _ _).alloc _⟩
  · have hc := tail_text w (List.replicate 23 (.int .u8 0)) [.int .u8 53] [53] rfl
    simp only [List.replicate, List.length, Nat.reduceAdd, List.cons_append, List.nil_append] at hc
    go_enter Try.func12, Try.ntmps12
    go_wp2
    go_rounds 2
    go_ret
    exact ⟨rfl, (Fr.refl _ _).alloc _⟩

set_option maxHeartbeats 1600000 in
set_option maxRecDepth 100000 in
theorem itoa_fact (w : World) :
    Calls Try.prog 12 #[.int .i64 (-120)] w fun e w' => e = .returned (.string ⟨#[45, 49, 50, 48]⟩) ∧ Fr [] w w' := by
  have hc := tail_text w (List.replicate 20 (.int .u8 0)) [.int .u8 45, .int .u8 49, .int .u8 50, .int .u8 48] [45, 49, 50, 48] rfl
  simp only [List.replicate, List.length, Nat.reduceAdd, List.cons_append, List.nil_append] at hc
  go_enter Try.func12, Try.ntmps12
  go_wp2
  go_rounds 4
  go_ret
  exact ⟨rfl, (Fr.refl _ _).alloc _⟩

theorem blk_new1 (w : World) (a b : Obj) : ((w.alloc a).alloc b).heap[w.heap.size + 1]? = some b := by
  have h := blk_new (w.alloc a) b
  rw [show (w.alloc a).heap.size = w.heap.size + 1 from by simp] at h; exact h
theorem blk_new0 (w : World) (a b : Obj) : ((w.alloc a).alloc b).heap[w.heap.size]? = some a := blk_alloc (blk_new w a) b
/-- Text. -/
def txt (v : Vc) : ByteArray := (dgT v.a ++ ⟨#[44]⟩) ++ dgT v.b
set_option maxHeartbeats 800000 in
theorem text_any (w : World) (v : Vc) (h : okV v) :
    Calls Try.prog 11 #[.agg #[.int .i64 v.a, .int .i64 v.b]] w fun e w' => e = .returned (.string (txt v)) ∧ Fr [] w w' := by
  obtain ⟨h1, h2, h3, h4⟩ := h
  go_enter Try.func11, Try.ntmps11
  go_wp2_with fail
  go_at_call 12; refine (itoa_small _ _ (by assumption) (by omega)).mono ?_; rintro e w1 ⟨rfl, hf1⟩
  have c1 := blk_cell (hf1.keep (blk_new _ _) (by simp)) 1
  simp only [List.getElem?_toArray] at c1
  go_wp2_with (go_at_call 12; refine (itoa_small _ _ (by assumption) (by omega)).mono ?_; rintro e w2 ⟨rfl, hf2⟩)
  go_ret
  exact ⟨rfl, (((Fr.refl _ _).alloc _).trans hf1).trans hf2⟩
/-- Row. -/
def rowT (live : Bool) (c h : Vc) : ByteArray := if live then ((⟨#[59]⟩ ++ txt c) ++ ⟨#[47]⟩) ++ txt h else ⟨#[59, 45]⟩
set_option maxHeartbeats 800000 in
theorem row_any (w : World) (live : Bool) (c h : Vc) (hc : okV c) (hh : okV h) :
    Calls Try.prog 10 #[.bool live, .agg #[.int .i64 c.a, .int .i64 c.b], .agg #[.int .i64 h.a, .int .i64 h.b]] w fun e w' => e = .returned (.string (rowT live c h)) ∧ Fr [] w w' := by
  cases live
  · go_enter Try.func10, Try.ntmps10
    go_wp2
    go_ret
    exact ⟨rfl, ((Fr.refl _ _).alloc _).alloc _⟩
  · go_enter Try.func10, Try.ntmps10
    go_wp2_with fail
    go_at_call 11; refine (text_any _ c (by assumption)).mono ?_; rintro e w1 ⟨rfl, hf1⟩
    have c0 := blk_cell (hf1.keep (blk_new1 _ _ _) (by simp)) 0
    have c1 := blk_cell (hf1.keep (blk_new1 _ _ _) (by simp)) 1
    simp only [List.getElem?_toArray] at c0 c1
    go_wp2_with (go_at_call 11; refine (text_any _ h (by assumption)).mono ?_; rintro e w2 ⟨rfl, hf2⟩)
    go_ret
    exact ⟨rfl, ((((Fr.refl _ _).alloc _).alloc _).trans hf1).trans hf2⟩
end Go.Proofs.Qxb6500340a
