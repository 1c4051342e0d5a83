import Derived.Test.Qxb6500341aW9
import Derived.Handy
namespace Go.Proofs.Qxb6500341a
open Go.RowKit
set_option linter.unusedVariables false

def opV (k a b c : Int) (s u : ByteArray) : Value := .agg #[.int .i64 k, .int .i64 a, .int .i64 b, .int .i64 c, .string s, .string u]
def ansV (e n m : Int) (s : ByteArray) : Value := .agg #[.int .i64 e, .int .i64 n, .int .i64 m, .string s]

theorem three_blocks (w : World) (o1 o2 o3 : Obj) : (((w.alloc o1).alloc o2).alloc o3).heap[w.heap.size]? = some o1 ∧ (((w.alloc o1).alloc o2).alloc o3).heap[w.heap.size + 1]? = some o2 ∧
    (((w.alloc o1).alloc o2).alloc o3).heap[w.heap.size + 1 + 1]? = some o3 ∧ Fr [] w (((w.alloc o1).alloc o2).alloc o3) := by
  have s1 : (w.alloc o1).heap.size = w.heap.size + 1 := by simp
  have s2 : ((w.alloc o1).alloc o2).heap.size = w.heap.size + 1 + 1 := by simp
  refine ⟨blk_alloc (blk_alloc (blk_new _ _) _) _, ?_, ?_, ((((Fr.refl _ _).alloc _).alloc _).alloc _)⟩
  · rw [← s1]; exact blk_alloc (blk_new _ _) _
  · rw [← s2]; exact blk_new _ _

abbrev ans0 : Obj := .cells #[.int .i64 0, .int .i64 0, .int .i64 0, .string ⟨#[]⟩] 42

theorem Real.far {w : World} {x : Nat} {t : ByteArray} {p : Addr} {v : Value} (h : Real w x t) (hp : x ≠ p.block) : Real (w.setCell p v) x t := by
  obtain ⟨l, m1, m2, h1, h2⟩ := h
  exact ⟨l, m1, m2, blk_set_far h1 p v hp, h2⟩

theorem Slm.far {w : World} {x : Nat} {t : ByteArray} {p : Addr} {v : Value} (h : Slm w x t) (hp : x ≠ p.block) : Slm (w.setCell p v) x t := blk_set_far h p v hp

set_option maxHeartbeats 1600000 in
theorem do_load (w : World) (x : Nat) (t : ByteArray) (a b c : Int) (s u : ByteArray) (hs : s.size ≤ maxLen) (hr : Real w x t) :
    Calls Try.prog 18 #[.pointer (some ⟨x, 0, none⟩), .agg #[.int .i64 1, .int .i64 a, .int .i64 b, .int .i64 c, .string s, .string u]] w fun e w' => e = .returned (.agg #[.int .i64 (loadE s), .int .i64 (loadN s), .int .i64 0, .string ⟨#[]⟩]) ∧ Real w' x (loadT t s) ∧ Fr [x] w w' := by
  have hxl : x < w.heap.size := by obtain ⟨l, m1, m2, h, _⟩ := hr; exact blk_lt h
  have HR : Hid (Real w x t) := hr
  clear hr
  go_enter Try.func18, Try.ntmps18
  go_wp2_with fail
  obtain ⟨-, hA, hB, hF⟩ := three_blocks w (.cells #[.int .i64 1, .int .i64 a, .int .i64 b, .int .i64 c, .string s, .string u] 36) ans0 ans0
  generalize hW : ((w.alloc _).alloc _).alloc _ = W at hA hB hF ⊢
  have hRW : Real W x t := HR.out.keep hF (by simp)
  refine (load_any W x t s hs hRW).mono ?_
  rintro e w1 ⟨rfl, hr1, hf1⟩
  have hA1 := hf1.keep hA (by simp; omega)
  have hB1 := hf1.keep hB (by simp; omega)
  have hfw : Fr [x] w w1 := hF.widen.trans hf1
  have a0 := blk_cell hA1 0
  have b0 := blk_cell hB1 0
  have g0 := blk_frozen hA1 0
  have k0 := blk_frozen hB1 0
  have a1 := blk_cell hA1 1
  have b1 := blk_cell hB1 1
  have g1 := blk_frozen hA1 1
  have k1 := blk_frozen hB1 1
  have a2 := blk_cell hA1 2
  have b2 := blk_cell hB1 2
  have g2 := blk_frozen hA1 2
  have k2 := blk_frozen hB1 2
  have a3 := blk_cell hA1 3
  have b3 := blk_cell hB1 3
  have g3 := blk_frozen hA1 3
  have k3 := blk_frozen hB1 3
  have HR1 : Hid (Real w1 x (loadT t s)) := hr1
  have HF1 : Hid (Fr [x] w w1) := hfw
  clear hA1 hB1 hA hB hF hW hRW hr1 hf1 hfw
  go_wp2
  exact bodyPost_ret (v := .agg #[.int .i64 (loadE s), .int .i64 (loadN s), .int .i64 0, .string ⟨#[]⟩]) (by simp [results, Try.results18, go_sem, a0, a1, a2, a3]) rfl ⟨rfl, ((((((HR1.out.far (by dsimp only; omega)).far (by dsimp only; omega)).far (by dsimp only; omega)).far (by dsimp only; omega)).far (by dsimp only; omega)).far (by dsimp only; omega)), ((((((HF1.out.setCell (Or.inr (by dsimp only; omega)) _).setCell (Or.inr (by dsimp only; omega)) _).setCell (Or.inr (by dsimp only; omega)) _).setCell (Or.inr (by dsimp only; omega)) _).setCell (Or.inr (by dsimp only; omega)) _).setCell (Or.inr (by dsimp only; omega)) _)⟩

set_option maxHeartbeats 1600000 in
theorem do_seal (w : World) (x : Nat) (t : ByteArray) (a b c : Int) (s u : ByteArray) (hs : s.size ≤ maxLen) (hr : Real w x t) :
    Calls Try.prog 18 #[.pointer (some ⟨x, 0, none⟩), .agg #[.int .i64 2, .int .i64 a, .int .i64 b, .int .i64 c, .string s, .string u]] w fun e w' => e = .returned (.agg #[.int .i64 (sealE t a), .int .i64 (sealN t a), .int .i64 0, .string ⟨#[]⟩]) ∧ Real w' x (sealT t a) ∧ Fr [x] w w' := by
  have hxl : x < w.heap.size := by obtain ⟨l, m1, m2, h, _⟩ := hr; exact blk_lt h
  have HR : Hid (Real w x t) := hr
  clear hr
  go_enter Try.func18, Try.ntmps18
  go_wp2_with fail
  obtain ⟨-, hA, hB, hF⟩ := three_blocks w (.cells #[.int .i64 2, .int .i64 a, .int .i64 b, .int .i64 c, .string s, .string u] 36) ans0 ans0
  generalize hW : ((w.alloc _).alloc _).alloc _ = W at hA hB hF ⊢
  have hRW : Real W x t := HR.out.keep hF (by simp)
  refine (seal_any W x t a hRW).mono ?_
  rintro e w1 ⟨rfl, hr1, hf1⟩
  have hA1 := hf1.keep hA (by simp; omega)
  have hB1 := hf1.keep hB (by simp; omega)
  have hfw : Fr [x] w w1 := hF.widen.trans hf1
  have a0 := blk_cell hA1 0
  have b0 := blk_cell hB1 0
  have g0 := blk_frozen hA1 0
  have k0 := blk_frozen hB1 0
  have a1 := blk_cell hA1 1
  have b1 := blk_cell hB1 1
  have g1 := blk_frozen hA1 1
  have k1 := blk_frozen hB1 1
  have a2 := blk_cell hA1 2
  have b2 := blk_cell hB1 2
  have g2 := blk_frozen hA1 2
  have k2 := blk_frozen hB1 2
  have a3 := blk_cell hA1 3
  have b3 := blk_cell hB1 3
  have g3 := blk_frozen hA1 3
  have k3 := blk_frozen hB1 3
  have HR1 : Hid (Real w1 x (sealT t a)) := hr1
  have HF1 : Hid (Fr [x] w w1) := hfw
  clear hA1 hB1 hA hB hF hW hRW hr1 hf1 hfw
  go_wp2
  exact bodyPost_ret (v := .agg #[.int .i64 (sealE t a), .int .i64 (sealN t a), .int .i64 0, .string ⟨#[]⟩]) (by simp [results, Try.results18, go_sem, a0, a1, a2, a3]) rfl ⟨rfl, ((((((HR1.out.far (by dsimp only; omega)).far (by dsimp only; omega)).far (by dsimp only; omega)).far (by dsimp only; omega)).far (by dsimp only; omega)).far (by dsimp only; omega)), ((((((HF1.out.setCell (Or.inr (by dsimp only; omega)) _).setCell (Or.inr (by dsimp only; omega)) _).setCell (Or.inr (by dsimp only; omega)) _).setCell (Or.inr (by dsimp only; omega)) _).setCell (Or.inr (by dsimp only; omega)) _).setCell (Or.inr (by dsimp only; omega)) _)⟩

set_option maxHeartbeats 1600000 in
theorem do_test (w : World) (x : Nat) (t : ByteArray) (a b c : Int) (s u : ByteArray) (hs : s.size ≤ maxLen) (hr : Real w x t) :
    Calls Try.prog 18 #[.pointer (some ⟨x, 0, none⟩), .agg #[.int .i64 3, .int .i64 a, .int .i64 b, .int .i64 c, .string s, .string u]] w fun e w' => e = .returned (.agg #[.int .i64 (testE t a), .int .i64 (testO t a), .int .i64 (testR t a), .string ⟨#[]⟩]) ∧ Real w' x t ∧ Fr [x] w w' := by
  have hxl : x < w.heap.size := by obtain ⟨l, m1, m2, h, _⟩ := hr; exact blk_lt h
  have HR : Hid (Real w x t) := hr
  clear hr
  go_enter Try.func18, Try.ntmps18
  go_wp2_with fail
  obtain ⟨-, hA, hB, hF⟩ := three_blocks w (.cells #[.int .i64 3, .int .i64 a, .int .i64 b, .int .i64 c, .string s, .string u] 36) ans0 ans0
  generalize hW : ((w.alloc _).alloc _).alloc _ = W at hA hB hF ⊢
  have hRW : Real W x t := HR.out.keep hF (by simp)
  refine (test_any W x t a hRW).mono ?_
  rintro e w1 ⟨rfl, hr1, hf1⟩
  have hA1 := hf1.keep hA (by simp; omega)
  have hB1 := hf1.keep hB (by simp; omega)
  have hfw : Fr [x] w w1 := hF.widen.trans hf1
  have a0 := blk_cell hA1 0
  have b0 := blk_cell hB1 0
  have g0 := blk_frozen hA1 0
  have k0 := blk_frozen hB1 0
  have a1 := blk_cell hA1 1
  have b1 := blk_cell hB1 1
  have g1 := blk_frozen hA1 1
  have k1 := blk_frozen hB1 1
  have a2 := blk_cell hA1 2
  have b2 := blk_cell hB1 2
  have g2 := blk_frozen hA1 2
  have k2 := blk_frozen hB1 2
  have a3 := blk_cell hA1 3
  have b3 := blk_cell hB1 3
  have g3 := blk_frozen hA1 3
  have k3 := blk_frozen hB1 3
  have HR1 : Hid (Real w1 x t) := hr1
  have HF1 : Hid (Fr [x] w w1) := hfw
  clear hA1 hB1 hA hB hF hW hRW hr1 hf1 hfw
  go_wp2
  exact bodyPost_ret (v := .agg #[.int .i64 (testE t a), .int .i64 (testO t a), .int .i64 (testR t a), .string ⟨#[]⟩]) (by simp [results, Try.results18, go_sem, a0, a1, a2, a3]) rfl ⟨rfl, (((((((HR1.out.far (by dsimp only; omega)).far (by dsimp only; omega)).far (by dsimp only; omega)).far (by dsimp only; omega)).far (by dsimp only; omega)).far (by dsimp only; omega)).far (by dsimp only; omega)), (((((((HF1.out.setCell (Or.inr (by dsimp only; omega)) _).setCell (Or.inr (by dsimp only; omega)) _).setCell (Or.inr (by dsimp only; omega)) _).setCell (Or.inr (by dsimp only; omega)) _).setCell (Or.inr (by dsimp only; omega)) _).setCell (Or.inr (by dsimp only; omega)) _).setCell (Or.inr (by dsimp only; omega)) _)⟩

set_option maxHeartbeats 1600000 in
theorem do_show (w : World) (x : Nat) (t : ByteArray) (a b c : Int) (s u : ByteArray) (hs : s.size ≤ maxLen) (hr : Real w x t) :
    Calls Try.prog 18 #[.pointer (some ⟨x, 0, none⟩), .agg #[.int .i64 4, .int .i64 a, .int .i64 b, .int .i64 c, .string s, .string u]] w fun e w' => e = .returned (.agg #[.int .i64 0, .int .i64 0, .int .i64 0, .string t]) ∧ Real w' x t ∧ Fr [x] w w' := by
  have hxl : x < w.heap.size := by obtain ⟨l, m1, m2, h, _⟩ := hr; exact blk_lt h
  have HR : Hid (Real w x t) := hr
  clear hr
  go_enter Try.func18, Try.ntmps18
  go_wp2_with fail
  obtain ⟨-, hA, hB, hF⟩ := three_blocks w (.cells #[.int .i64 4, .int .i64 a, .int .i64 b, .int .i64 c, .string s, .string u] 36) ans0 ans0
  generalize hW : ((w.alloc _).alloc _).alloc _ = W at hA hB hF ⊢
  have hRW : Real W x t := HR.out.keep hF (by simp)
  obtain ⟨l, m1, m2, hsl, hin⟩ := hRW
  refine (show_any W x t l (-1) m1 m2 hsl).mono ?_
  rintro e w1 ⟨rfl, rfl⟩
  have hr1 : Real w1 x t := ⟨l, m1, m2, hsl, hin⟩
  have hf1 : Fr [x] w1 w1 := Fr.refl _ _
  have hRW := hr1
  have hA1 := hf1.keep hA (by simp; omega)
  have hB1 := hf1.keep hB (by simp; omega)
  have hfw : Fr [x] w w1 := hF.widen.trans hf1
  have a0 := blk_cell hA1 0
  have b0 := blk_cell hB1 0
  have g0 := blk_frozen hA1 0
  have k0 := blk_frozen hB1 0
  have a1 := blk_cell hA1 1
  have b1 := blk_cell hB1 1
  have g1 := blk_frozen hA1 1
  have k1 := blk_frozen hB1 1
  have a2 := blk_cell hA1 2
  have b2 := blk_cell hB1 2
  have g2 := blk_frozen hA1 2
  have k2 := blk_frozen hB1 2
  have a3 := blk_cell hA1 3
  have b3 := blk_cell hB1 3
  have g3 := blk_frozen hA1 3
  have k3 := blk_frozen hB1 3
  have HR1 : Hid (Real w1 x t) := hr1
  have HF1 : Hid (Fr [x] w w1) := hfw
  clear hA1 hB1 hA hB hF hW hRW hr1 hf1 hfw
  go_wp2
  exact bodyPost_ret (v := .agg #[.int .i64 0, .int .i64 0, .int .i64 0, .string t]) (by simp [results, Try.results18, go_sem, a0, a1, a2, a3]) rfl ⟨rfl, (((((HR1.out.far (by dsimp only; omega)).far (by dsimp only; omega)).far (by dsimp only; omega)).far (by dsimp only; omega)).far (by dsimp only; omega)), (((((HF1.out.setCell (Or.inr (by dsimp only; omega)) _).setCell (Or.inr (by dsimp only; omega)) _).setCell (Or.inr (by dsimp only; omega)) _).setCell (Or.inr (by dsimp only; omega)) _).setCell (Or.inr (by dsimp only; omega)) _)⟩

set_option maxHeartbeats 1600000 in
theorem do_check (w : World) (x : Nat) (t : ByteArray) (a b c : Int) (s u : ByteArray) (hs : s.size ≤ maxLen) (hr : Real w x t) :
    Calls Try.prog 18 #[.pointer (some ⟨x, 0, none⟩), .agg #[.int .i64 5, .int .i64 a, .int .i64 b, .int .i64 c, .string s, .string u]] w fun e w' => e = .returned (.agg #[.int .i64 0, .int .i64 1, .int .i64 0, .string ⟨#[]⟩]) ∧ Real w' x t ∧ Fr [x] w w' := by
  have hxl : x < w.heap.size := by obtain ⟨l, m1, m2, h, _⟩ := hr; exact blk_lt h
  have HR : Hid (Real w x t) := hr
  clear hr
  go_enter Try.func18, Try.ntmps18
  go_wp2_with fail
  obtain ⟨-, hA, hB, hF⟩ := three_blocks w (.cells #[.int .i64 5, .int .i64 a, .int .i64 b, .int .i64 c, .string s, .string u] 36) ans0 ans0
  generalize hW : ((w.alloc _).alloc _).alloc _ = W at hA hB hF ⊢
  have hRW : Real W x t := HR.out.keep hF (by simp)
  refine (check_any W x t hRW).mono ?_
  rintro e w1 ⟨rfl, hf0⟩
  have hr1 : Real w1 x t := hRW.keep hf0 (by simp)
  have hf1 : Fr [x] W w1 := hf0.widen
  clear hf0
  have hA1 := hf1.keep hA (by simp; omega)
  have hB1 := hf1.keep hB (by simp; omega)
  have hfw : Fr [x] w w1 := hF.widen.trans hf1
  have a0 := blk_cell hA1 0
  have b0 := blk_cell hB1 0
  have g0 := blk_frozen hA1 0
  have k0 := blk_frozen hB1 0
  have a1 := blk_cell hA1 1
  have b1 := blk_cell hB1 1
  have g1 := blk_frozen hA1 1
  have k1 := blk_frozen hB1 1
  have a2 := blk_cell hA1 2
  have b2 := blk_cell hB1 2
  have g2 := blk_frozen hA1 2
  have k2 := blk_frozen hB1 2
  have a3 := blk_cell hA1 3
  have b3 := blk_cell hB1 3
  have g3 := blk_frozen hA1 3
  have k3 := blk_frozen hB1 3
  have HR1 : Hid (Real w1 x t) := hr1
  have HF1 : Hid (Fr [x] w w1) := hfw
  clear hA1 hB1 hA hB hF hW hRW hr1 hf1 hfw
  go_wp2
  exact bodyPost_ret (v := .agg #[.int .i64 0, .int .i64 1, .int .i64 0, .string ⟨#[]⟩]) (by simp [results, Try.results18, go_sem, a0, a1, a2, a3]) rfl ⟨rfl, (((((HR1.out.far (by dsimp only; omega)).far (by dsimp only; omega)).far (by dsimp only; omega)).far (by dsimp only; omega)).far (by dsimp only; omega)), (((((HF1.out.setCell (Or.inr (by dsimp only; omega)) _).setCell (Or.inr (by dsimp only; omega)) _).setCell (Or.inr (by dsimp only; omega)) _).setCell (Or.inr (by dsimp only; omega)) _).setCell (Or.inr (by dsimp only; omega)) _)⟩

set_option maxHeartbeats 1600000 in
theorem do_none (w : World) (x : Nat) (t : ByteArray) (k : Int) (a b c : Int) (s u : ByteArray) (hs : s.size ≤ maxLen) (hr : Real w x t) (h1 : (k == 1) = false) (h2 : (k == 2) = false) (h3 : (k == 3) = false) (h4 : (k == 4) = false) (h5 : (k == 5) = false) :
    Calls Try.prog 18 #[.pointer (some ⟨x, 0, none⟩), .agg #[.int .i64 k, .int .i64 a, .int .i64 b, .int .i64 c, .string s, .string u]] w fun e w' => e = .returned (.agg #[.int .i64 0, .int .i64 0, .int .i64 0, .string ⟨#[]⟩]) ∧ Real w' x t ∧ Fr [x] w w' := by
  have hxl : x < w.heap.size := by obtain ⟨l, m1, m2, h, _⟩ := hr; exact blk_lt h
  have HR : Hid (Real w x t) := hr
  clear hr
  go_enter Try.func18, Try.ntmps18
  go_wp2_with fail
  refine bodyPost_ret (v := .agg #[.int .i64 0, .int .i64 0, .int .i64 0, .string ⟨#[]⟩]) (by simp [results, Try.results18, go_sem]) rfl ⟨rfl, ?_, ?_⟩
  · exact HR.out.keep ((((Fr.refl _ _).alloc _).alloc _).alloc _) (List.not_mem_nil)
  · exact (((Fr.refl _ _).alloc _).alloc _).alloc _

set_option maxHeartbeats 1600000 in
theorem dom_load (w : World) (x : Nat) (t : ByteArray) (a b c : Int) (s u : ByteArray) (hs : s.size ≤ maxLen) (hr : Slm w x t) (hL : Law t) :
    Calls Try.prog 19 #[.pointer (some ⟨x, 0, none⟩), .agg #[.int .i64 1, .int .i64 a, .int .i64 b, .int .i64 c, .string s, .string u]] w fun e w' => e = .returned (.agg #[.int .i64 (loadE s), .int .i64 (loadN s), .int .i64 0, .string ⟨#[]⟩]) ∧ Slm w' x (loadT t s) ∧ Fr [x] w w' := by
  have hxl : x < w.heap.size := by exact blk_lt hr
  have HR : Hid (Slm w x t) := hr
  clear hr
  go_enter Try.func19, Try.ntmps19
  go_wp2_with fail
  obtain ⟨-, hA, hB, hF⟩ := three_blocks w (.cells #[.int .i64 1, .int .i64 a, .int .i64 b, .int .i64 c, .string s, .string u] 36) ans0 ans0
  generalize hW : ((w.alloc _).alloc _).alloc _ = W at hA hB hF ⊢
  have hRW : Slm W x t := HR.out.keep hF (by simp)
  refine (loadm_any W x t s hs hRW).mono ?_
  rintro e w1 ⟨rfl, hr1, hf1⟩
  have hA1 := hf1.keep hA (by simp; omega)
  have hB1 := hf1.keep hB (by simp; omega)
  have hfw : Fr [x] w w1 := hF.widen.trans hf1
  have a0 := blk_cell hA1 0
  have b0 := blk_cell hB1 0
  have g0 := blk_frozen hA1 0
  have k0 := blk_frozen hB1 0
  have a1 := blk_cell hA1 1
  have b1 := blk_cell hB1 1
  have g1 := blk_frozen hA1 1
  have k1 := blk_frozen hB1 1
  have a2 := blk_cell hA1 2
  have b2 := blk_cell hB1 2
  have g2 := blk_frozen hA1 2
  have k2 := blk_frozen hB1 2
  have a3 := blk_cell hA1 3
  have b3 := blk_cell hB1 3
  have g3 := blk_frozen hA1 3
  have k3 := blk_frozen hB1 3
  have HR1 : Hid (Slm w1 x (loadT t s)) := hr1
  have HF1 : Hid (Fr [x] w w1) := hfw
  clear hA1 hB1 hA hB hF hW hRW hr1 hf1 hfw
  go_wp2
  exact bodyPost_ret (v := .agg #[.int .i64 (loadE s), .int .i64 (loadN s), .int .i64 0, .string ⟨#[]⟩]) (by simp [results, Try.results19, go_sem, a0, a1, a2, a3]) rfl ⟨rfl, ((((((HR1.out.far (by dsimp only; omega)).far (by dsimp only; omega)).far (by dsimp only; omega)).far (by dsimp only; omega)).far (by dsimp only; omega)).far (by dsimp only; omega)), ((((((HF1.out.setCell (Or.inr (by dsimp only; omega)) _).setCell (Or.inr (by dsimp only; omega)) _).setCell (Or.inr (by dsimp only; omega)) _).setCell (Or.inr (by dsimp only; omega)) _).setCell (Or.inr (by dsimp only; omega)) _).setCell (Or.inr (by dsimp only; omega)) _)⟩

set_option maxHeartbeats 1600000 in
theorem dom_seal (w : World) (x : Nat) (t : ByteArray) (a b c : Int) (s u : ByteArray) (hs : s.size ≤ maxLen) (hr : Slm w x t) (hL : Law t) :
    Calls Try.prog 19 #[.pointer (some ⟨x, 0, none⟩), .agg #[.int .i64 2, .int .i64 a, .int .i64 b, .int .i64 c, .string s, .string u]] w fun e w' => e = .returned (.agg #[.int .i64 (sealE t a), .int .i64 (sealN t a), .int .i64 0, .string ⟨#[]⟩]) ∧ Slm w' x (sealT t a) ∧ Fr [x] w w' := by
  have hxl : x < w.heap.size := by exact blk_lt hr
  have HR : Hid (Slm w x t) := hr
  clear hr
  go_enter Try.func19, Try.ntmps19
  go_wp2_with fail
  obtain ⟨-, hA, hB, hF⟩ := three_blocks w (.cells #[.int .i64 2, .int .i64 a, .int .i64 b, .int .i64 c, .string s, .string u] 36) ans0 ans0
  generalize hW : ((w.alloc _).alloc _).alloc _ = W at hA hB hF ⊢
  have hRW : Slm W x t := HR.out.keep hF (by simp)
  refine (sealm_any W x t a hRW hL).mono ?_
  rintro e w1 ⟨rfl, hr1, hf1⟩
  have hA1 := hf1.keep hA (by simp; omega)
  have hB1 := hf1.keep hB (by simp; omega)
  have hfw : Fr [x] w w1 := hF.widen.trans hf1
  have a0 := blk_cell hA1 0
  have b0 := blk_cell hB1 0
  have g0 := blk_frozen hA1 0
  have k0 := blk_frozen hB1 0
  have a1 := blk_cell hA1 1
  have b1 := blk_cell hB1 1
  have g1 := blk_frozen hA1 1
  have k1 := blk_frozen hB1 1
  have a2 := blk_cell hA1 2
  have b2 := blk_cell hB1 2
  have g2 := blk_frozen hA1 2
  have k2 := blk_frozen hB1 2
  have a3 := blk_cell hA1 3
  have b3 := blk_cell hB1 3
  have g3 := blk_frozen hA1 3
  have k3 := blk_frozen hB1 3
  have HR1 : Hid (Slm w1 x (sealT t a)) := hr1
  have HF1 : Hid (Fr [x] w w1) := hfw
  clear hA1 hB1 hA hB hF hW hRW hr1 hf1 hfw
  go_wp2
  exact bodyPost_ret (v := .agg #[.int .i64 (sealE t a), .int .i64 (sealN t a), .int .i64 0, .string ⟨#[]⟩]) (by simp [results, Try.results19, go_sem, a0, a1, a2, a3]) rfl ⟨rfl, ((((((HR1.out.far (by dsimp only; omega)).far (by dsimp only; omega)).far (by dsimp only; omega)).far (by dsimp only; omega)).far (by dsimp only; omega)).far (by dsimp only; omega)), ((((((HF1.out.setCell (Or.inr (by dsimp only; omega)) _).setCell (Or.inr (by dsimp only; omega)) _).setCell (Or.inr (by dsimp only; omega)) _).setCell (Or.inr (by dsimp only; omega)) _).setCell (Or.inr (by dsimp only; omega)) _).setCell (Or.inr (by dsimp only; omega)) _)⟩

set_option maxHeartbeats 1600000 in
theorem dom_test (w : World) (x : Nat) (t : ByteArray) (a b c : Int) (s u : ByteArray) (hs : s.size ≤ maxLen) (hr : Slm w x t) (hL : Law t) :
    Calls Try.prog 19 #[.pointer (some ⟨x, 0, none⟩), .agg #[.int .i64 3, .int .i64 a, .int .i64 b, .int .i64 c, .string s, .string u]] w fun e w' => e = .returned (.agg #[.int .i64 (testE t a), .int .i64 (testO t a), .int .i64 (testR t a), .string ⟨#[]⟩]) ∧ Slm w' x t ∧ Fr [x] w w' := by
  have hxl : x < w.heap.size := by exact blk_lt hr
  have HR : Hid (Slm w x t) := hr
  clear hr
  go_enter Try.func19, Try.ntmps19
  go_wp2_with fail
  obtain ⟨-, hA, hB, hF⟩ := three_blocks w (.cells #[.int .i64 3, .int .i64 a, .int .i64 b, .int .i64 c, .string s, .string u] 36) ans0 ans0
  generalize hW : ((w.alloc _).alloc _).alloc _ = W at hA hB hF ⊢
  have hRW : Slm W x t := HR.out.keep hF (by simp)
  refine (testm_any W x t a hRW hL).mono ?_
  rintro e w1 ⟨rfl, hr1, hf1⟩
  have hA1 := hf1.keep hA (by simp; omega)
  have hB1 := hf1.keep hB (by simp; omega)
  have hfw : Fr [x] w w1 := hF.widen.trans hf1
  have a0 := blk_cell hA1 0
  have b0 := blk_cell hB1 0
  have g0 := blk_frozen hA1 0
  have k0 := blk_frozen hB1 0
  have a1 := blk_cell hA1 1
  have b1 := blk_cell hB1 1
  have g1 := blk_frozen hA1 1
  have k1 := blk_frozen hB1 1
  have a2 := blk_cell hA1 2
  have b2 := blk_cell hB1 2
  have g2 := blk_frozen hA1 2
  have k2 := blk_frozen hB1 2
  have a3 := blk_cell hA1 3
  have b3 := blk_cell hB1 3
  have g3 := blk_frozen hA1 3
  have k3 := blk_frozen hB1 3
  have HR1 : Hid (Slm w1 x t) := hr1
  have HF1 : Hid (Fr [x] w w1) := hfw
  clear hA1 hB1 hA hB hF hW hRW hr1 hf1 hfw
  go_wp2
  exact bodyPost_ret (v := .agg #[.int .i64 (testE t a), .int .i64 (testO t a), .int .i64 (testR t a), .string ⟨#[]⟩]) (by simp [results, Try.results19, go_sem, a0, a1, a2, a3]) rfl ⟨rfl, (((((((HR1.out.far (by dsimp only; omega)).far (by dsimp only; omega)).far (by dsimp only; omega)).far (by dsimp only; omega)).far (by dsimp only; omega)).far (by dsimp only; omega)).far (by dsimp only; omega)), (((((((HF1.out.setCell (Or.inr (by dsimp only; omega)) _).setCell (Or.inr (by dsimp only; omega)) _).setCell (Or.inr (by dsimp only; omega)) _).setCell (Or.inr (by dsimp only; omega)) _).setCell (Or.inr (by dsimp only; omega)) _).setCell (Or.inr (by dsimp only; omega)) _).setCell (Or.inr (by dsimp only; omega)) _)⟩

set_option maxHeartbeats 1600000 in
theorem dom_show (w : World) (x : Nat) (t : ByteArray) (a b c : Int) (s u : ByteArray) (hs : s.size ≤ maxLen) (hr : Slm w x t) (hL : Law t) :
    Calls Try.prog 19 #[.pointer (some ⟨x, 0, none⟩), .agg #[.int .i64 4, .int .i64 a, .int .i64 b, .int .i64 c, .string s, .string u]] w fun e w' => e = .returned (.agg #[.int .i64 0, .int .i64 0, .int .i64 0, .string t]) ∧ Slm w' x t ∧ Fr [x] w w' := by
  have hxl : x < w.heap.size := by exact blk_lt hr
  have HR : Hid (Slm w x t) := hr
  clear hr
  go_enter Try.func19, Try.ntmps19
  go_wp2_with fail
  obtain ⟨-, hA, hB, hF⟩ := three_blocks w (.cells #[.int .i64 4, .int .i64 a, .int .i64 b, .int .i64 c, .string s, .string u] 36) ans0 ans0
  generalize hW : ((w.alloc _).alloc _).alloc _ = W at hA hB hF ⊢
  have hRW : Slm W x t := HR.out.keep hF (by simp)
  refine (showm_any W x t hRW).mono ?_
  rintro e w1 ⟨rfl, rfl⟩
  have hr1 : Slm w1 x t := hRW
  have hf1 : Fr [x] w1 w1 := Fr.refl _ _
  have hA1 := hf1.keep hA (by simp; omega)
  have hB1 := hf1.keep hB (by simp; omega)
  have hfw : Fr [x] w w1 := hF.widen.trans hf1
  have a0 := blk_cell hA1 0
  have b0 := blk_cell hB1 0
  have g0 := blk_frozen hA1 0
  have k0 := blk_frozen hB1 0
  have a1 := blk_cell hA1 1
  have b1 := blk_cell hB1 1
  have g1 := blk_frozen hA1 1
  have k1 := blk_frozen hB1 1
  have a2 := blk_cell hA1 2
  have b2 := blk_cell hB1 2
  have g2 := blk_frozen hA1 2
  have k2 := blk_frozen hB1 2
  have a3 := blk_cell hA1 3
  have b3 := blk_cell hB1 3
  have g3 := blk_frozen hA1 3
  have k3 := blk_frozen hB1 3
  have HR1 : Hid (Slm w1 x t) := hr1
  have HF1 : Hid (Fr [x] w w1) := hfw
  clear hA1 hB1 hA hB hF hW hRW hr1 hf1 hfw
  go_wp2
  exact bodyPost_ret (v := .agg #[.int .i64 0, .int .i64 0, .int .i64 0, .string t]) (by simp [results, Try.results19, go_sem, a0, a1, a2, a3]) rfl ⟨rfl, (((((HR1.out.far (by dsimp only; omega)).far (by dsimp only; omega)).far (by dsimp only; omega)).far (by dsimp only; omega)).far (by dsimp only; omega)), (((((HF1.out.setCell (Or.inr (by dsimp only; omega)) _).setCell (Or.inr (by dsimp only; omega)) _).setCell (Or.inr (by dsimp only; omega)) _).setCell (Or.inr (by dsimp only; omega)) _).setCell (Or.inr (by dsimp only; omega)) _)⟩

set_option maxHeartbeats 1600000 in
theorem dom_check (w : World) (x : Nat) (t : ByteArray) (a b c : Int) (s u : ByteArray) (hs : s.size ≤ maxLen) (hr : Slm w x t) (hL : Law t) :
    Calls Try.prog 19 #[.pointer (some ⟨x, 0, none⟩), .agg #[.int .i64 5, .int .i64 a, .int .i64 b, .int .i64 c, .string s, .string u]] w fun e w' => e = .returned (.agg #[.int .i64 0, .int .i64 1, .int .i64 0, .string ⟨#[]⟩]) ∧ Slm w' x t ∧ Fr [x] w w' := by
  have hxl : x < w.heap.size := by exact blk_lt hr
  have HR : Hid (Slm w x t) := hr
  clear hr
  go_enter Try.func19, Try.ntmps19
  go_wp2_with fail
  obtain ⟨-, hA, hB, hF⟩ := three_blocks w (.cells #[.int .i64 5, .int .i64 a, .int .i64 b, .int .i64 c, .string s, .string u] 36) ans0 ans0
  generalize hW : ((w.alloc _).alloc _).alloc _ = W at hA hB hF ⊢
  have hRW : Slm W x t := HR.out.keep hF (by simp)
  refine (checkm_any W x t hRW hL).mono ?_
  rintro e w1 ⟨rfl, rfl⟩
  have hr1 : Slm w1 x t := hRW
  have hf1 : Fr [x] w1 w1 := Fr.refl _ _
  have hA1 := hf1.keep hA (by simp; omega)
  have hB1 := hf1.keep hB (by simp; omega)
  have hfw : Fr [x] w w1 := hF.widen.trans hf1
  have a0 := blk_cell hA1 0
  have b0 := blk_cell hB1 0
  have g0 := blk_frozen hA1 0
  have k0 := blk_frozen hB1 0
  have a1 := blk_cell hA1 1
  have b1 := blk_cell hB1 1
  have g1 := blk_frozen hA1 1
  have k1 := blk_frozen hB1 1
  have a2 := blk_cell hA1 2
  have b2 := blk_cell hB1 2
  have g2 := blk_frozen hA1 2
  have k2 := blk_frozen hB1 2
  have a3 := blk_cell hA1 3
  have b3 := blk_cell hB1 3
  have g3 := blk_frozen hA1 3
  have k3 := blk_frozen hB1 3
  have HR1 : Hid (Slm w1 x t) := hr1
  have HF1 : Hid (Fr [x] w w1) := hfw
  clear hA1 hB1 hA hB hF hW hRW hr1 hf1 hfw
  go_wp2
  exact bodyPost_ret (v := .agg #[.int .i64 0, .int .i64 1, .int .i64 0, .string ⟨#[]⟩]) (by simp [results, Try.results19, go_sem, a0, a1, a2, a3]) rfl ⟨rfl, (((((HR1.out.far (by dsimp only; omega)).far (by dsimp only; omega)).far (by dsimp only; omega)).far (by dsimp only; omega)).far (by dsimp only; omega)), (((((HF1.out.setCell (Or.inr (by dsimp only; omega)) _).setCell (Or.inr (by dsimp only; omega)) _).setCell (Or.inr (by dsimp only; omega)) _).setCell (Or.inr (by dsimp only; omega)) _).setCell (Or.inr (by dsimp only; omega)) _)⟩

set_option maxHeartbeats 1600000 in
theorem dom_none (w : World) (x : Nat) (t : ByteArray) (k : Int) (a b c : Int) (s u : ByteArray) (hs : s.size ≤ maxLen) (hr : Slm w x t) (hL : Law t) (h1 : (k == 1) = false) (h2 : (k == 2) = false) (h3 : (k == 3) = false) (h4 : (k == 4) = false) (h5 : (k == 5) = false) :
    Calls Try.prog 19 #[.pointer (some ⟨x, 0, none⟩), .agg #[.int .i64 k, .int .i64 a, .int .i64 b, .int .i64 c, .string s, .string u]] w fun e w' => e = .returned (.agg #[.int .i64 0, .int .i64 0, .int .i64 0, .string ⟨#[]⟩]) ∧ Slm w' x t ∧ Fr [x] w w' := by
  have hxl : x < w.heap.size := by exact blk_lt hr
  have HR : Hid (Slm w x t) := hr
  clear hr
  go_enter Try.func19, Try.ntmps19
  go_wp2_with fail
  refine bodyPost_ret (v := .agg #[.int .i64 0, .int .i64 0, .int .i64 0, .string ⟨#[]⟩]) (by simp [results, Try.results19, go_sem]) rfl ⟨rfl, ?_, ?_⟩
  · exact HR.out.keep ((((Fr.refl _ _).alloc _).alloc _).alloc _) (List.not_mem_nil)
  · exact (((Fr.refl _ _).alloc _).alloc _).alloc _

end Go.Proofs.Qxb6500341a
