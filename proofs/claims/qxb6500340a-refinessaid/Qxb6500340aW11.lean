import Derived.Test.Qxb6500340aK1
namespace Go.Proofs.Qxb6500340a
open Go.RowKit
set_option linter.unusedVariables false
set_option linter.unusedSimpArgs false

theorem four_blocks (w : World) (o1 o2 o3 o4 : Obj) : ((((w.alloc o1).alloc o2).alloc o3).alloc o4).heap[w.heap.size]? = some o1 ∧ ((((w.alloc o1).alloc o2).alloc o3).alloc o4).heap[w.heap.size + 1]? = some o2 ∧
    ((((w.alloc o1).alloc o2).alloc o3).alloc o4).heap[w.heap.size + 1 + 1]? = some o3 ∧ ((((w.alloc o1).alloc o2).alloc o3).alloc o4).heap[w.heap.size + 1 + 1 + 1]? = some o4 ∧ Fr [] w ((((w.alloc o1).alloc o2).alloc o3).alloc o4) := by
  have s1 : (w.alloc o1).heap.size = w.heap.size + 1 := by simp
  have s2 : ((w.alloc o1).alloc o2).heap.size = w.heap.size + 1 + 1 := by simp
  have s3 : (((w.alloc o1).alloc o2).alloc o3).heap.size = w.heap.size + 1 + 1 + 1 := by simp
  refine ⟨blk_alloc (blk_alloc (blk_alloc (blk_new _ _) _) _) _, ?_, ?_, ?_, ((((Fr.refl _ _).alloc _).alloc _).alloc _).alloc _⟩
  · rw [← s1]; exact blk_alloc (blk_alloc (blk_new _ _) _) _
  · rw [← s2]; exact blk_alloc (blk_new _ _) _
  · rw [← s3]; exact blk_new _ _

abbrev ans0 : Obj := .cells #[.int .i64 0, .int .i64 0, .int .i64 0, .string ⟨#[]⟩] 57

theorem BkI.far {w : World} {x : Nat} {s : St} {p : Addr} {v : Value} (h : BkI w x s) (hp : x ≠ p.block) : BkI (w.setCell p v) x s := blk_set_far h p v hp
theorem BkI.keep {w w' : World} {x : Nat} {s : St} {S : List Nat} (h : BkI w x s) (hf : Fr S w w') (hn : x ∉ S) : BkI w' x s := Fr.keep hf h hn

set_option maxHeartbeats 3200000 in
set_option maxRecDepth 100000 in
theorem do_declare (w : World) (x : Nat) (s : St) (a b c : Int) (t u : ByteArray) (hr : BkI w x s) (hi : Inv s) :
    Calls Try.prog 26 #[.pointer (some ⟨x, 0, none⟩), .agg #[.int .i64 1, .int .i64 a, .int .i64 b, .int .i64 c, .string t, .string u]] w fun e w' => e = .returned (.agg #[.int .i64 (gateE s a false ⟨b, c⟩), .int .i64 (0), .int .i64 (0), .string ⟨#[]⟩]) ∧ BkI w' x (declR s a ⟨b, c⟩) ∧ Fr [x] w w' := by
  have hxl := blk_lt hr
  have HR : Hid (BkI w x s) := hr
  have HI : Hid (Inv s) := hi
  clear hr hi
  go_enter Try.func26, Try.ntmps26
  go_wp2_with fail
  obtain ⟨-, hA, hV, hB, hF⟩ := four_blocks w (.cells #[.int .i64 1, .int .i64 a, .int .i64 b, .int .i64 c, .string t, .string u] 41) ans0 (.cells #[.int .i64 b, .int .i64 c] 27) ans0
  generalize hW : (((w.alloc _).alloc _).alloc _).alloc _ = W at hA hV hB hF ⊢
  have hRW : BkI W x s := HR.out.keep hF (by simp)
  go_at_call 37
  refine (declare_any W x s hRW HI.out a ⟨b, c⟩).mono ?_
  rintro e w1 ⟨rfl, hr1, hf1⟩
  have hA1 := hf1.keep hA (by simp; omega)
  have hB1 := hf1.keep hB (by simp; omega)
  have hfw : Fr [x] w w1 := hF.widen.trans hf1
  have a0 := blk_cell hA1 0
  have b0 := blk_cell hB1 0
  have g0 := blk_frozen hA1 0
  have k0 := blk_frozen hB1 0
  have a1 := blk_cell hA1 1
  have b1 := blk_cell hB1 1
  have g1 := blk_frozen hA1 1
  have k1 := blk_frozen hB1 1
  have a2 := blk_cell hA1 2
  have b2 := blk_cell hB1 2
  have g2 := blk_frozen hA1 2
  have k2 := blk_frozen hB1 2
  have a3 := blk_cell hA1 3
  have b3 := blk_cell hB1 3
  have g3 := blk_frozen hA1 3
  have k3 := blk_frozen hB1 3
  have HR1 : Hid (BkI w1 x (declR s a ⟨b, c⟩)) := hr1
  have HF1 : Hid (Fr [x] w w1) := hfw
  clear hA1 hB1 hA hV hB hF hW hRW hr1 hf1 hfw
  go_wp2
  refine bodyPost_ret (v := .agg #[.int .i64 (gateE s a false ⟨b, c⟩), .int .i64 (0), .int .i64 (0), .string ⟨#[]⟩]) (by simp [results, Try.results26, go_sem, a0, a1, a2, a3]) rfl ⟨rfl, ?_, ?_⟩
  · repeat first
      | with_reducible exact HR1.out
      | (with_reducible refine BkI.far ?_ ?far; case far => (dsimp only; omega))
  · repeat first
      | with_reducible exact HF1.out
      | (with_reducible refine Fr.setCell ?_ (Or.inr ?far) _; case far => (dsimp only; omega))

set_option maxHeartbeats 3200000 in
set_option maxRecDepth 100000 in
theorem do_request (w : World) (x : Nat) (s : St) (a b c : Int) (t u : ByteArray) (hr : BkI w x s) (hi : Inv s) :
    Calls Try.prog 26 #[.pointer (some ⟨x, 0, none⟩), .agg #[.int .i64 2, .int .i64 a, .int .i64 b, .int .i64 c, .string t, .string u]] w fun e w' => e = .returned (.agg #[.int .i64 (reqE s a ⟨b, c⟩), .int .i64 (0), .int .i64 (0), .string (reqT s a ⟨b, c⟩)]) ∧ BkI w' x (reqR s a ⟨b, c⟩) ∧ Fr [x] w w' := by
  have hxl := blk_lt hr
  have HR : Hid (BkI w x s) := hr
  have HI : Hid (Inv s) := hi
  clear hr hi
  go_enter Try.func26, Try.ntmps26
  go_wp2_with fail
  obtain ⟨-, hA, hV, hB, hF⟩ := four_blocks w (.cells #[.int .i64 2, .int .i64 a, .int .i64 b, .int .i64 c, .string t, .string u] 41) ans0 (.cells #[.int .i64 b, .int .i64 c] 27) ans0
  generalize hW : (((w.alloc _).alloc _).alloc _).alloc _ = W at hA hV hB hF ⊢
  have hRW : BkI W x s := HR.out.keep hF (by simp)
  go_at_call 35
  refine (request_any W x s hRW HI.out a ⟨b, c⟩).mono ?_
  rintro e w1 ⟨rfl, hr1, hf1⟩
  have hA1 := hf1.keep hA (by simp; omega)
  have hB1 := hf1.keep hB (by simp; omega)
  have hfw : Fr [x] w w1 := hF.widen.trans hf1
  have a0 := blk_cell hA1 0
  have b0 := blk_cell hB1 0
  have g0 := blk_frozen hA1 0
  have k0 := blk_frozen hB1 0
  have a1 := blk_cell hA1 1
  have b1 := blk_cell hB1 1
  have g1 := blk_frozen hA1 1
  have k1 := blk_frozen hB1 1
  have a2 := blk_cell hA1 2
  have b2 := blk_cell hB1 2
  have g2 := blk_frozen hA1 2
  have k2 := blk_frozen hB1 2
  have a3 := blk_cell hA1 3
  have b3 := blk_cell hB1 3
  have g3 := blk_frozen hA1 3
  have k3 := blk_frozen hB1 3
  have HR1 : Hid (BkI w1 x (reqR s a ⟨b, c⟩)) := hr1
  have HF1 : Hid (Fr [x] w w1) := hfw
  clear hA1 hB1 hA hV hB hF hW hRW hr1 hf1 hfw
  go_wp2
  refine bodyPost_ret (v := .agg #[.int .i64 (reqE s a ⟨b, c⟩), .int .i64 (0), .int .i64 (0), .string (reqT s a ⟨b, c⟩)]) (by simp [results, Try.results26, go_sem, a0, a1, a2, a3]) rfl ⟨rfl, ?_, ?_⟩
  · repeat first
      | with_reducible exact HR1.out
      | (with_reducible refine BkI.far ?_ ?far; case far => (dsimp only; omega))
  · repeat first
      | with_reducible exact HF1.out
      | (with_reducible refine Fr.setCell ?_ (Or.inr ?far) _; case far => (dsimp only; omega))

set_option maxHeartbeats 3200000 in
set_option maxRecDepth 100000 in
theorem do_release (w : World) (x : Nat) (s : St) (a b c : Int) (t u : ByteArray) (hr : BkI w x s) (hi : Inv s) :
    Calls Try.prog 26 #[.pointer (some ⟨x, 0, none⟩), .agg #[.int .i64 3, .int .i64 a, .int .i64 b, .int .i64 c, .string t, .string u]] w fun e w' => e = .returned (.agg #[.int .i64 (relE s a ⟨b, c⟩), .int .i64 (0), .int .i64 (0), .string ⟨#[]⟩]) ∧ BkI w' x (relR s a ⟨b, c⟩) ∧ Fr [x] w w' := by
  have hxl := blk_lt hr
  have HR : Hid (BkI w x s) := hr
  have HI : Hid (Inv s) := hi
  clear hr hi
  go_enter Try.func26, Try.ntmps26
  go_wp2_with fail
  obtain ⟨-, hA, hV, hB, hF⟩ := four_blocks w (.cells #[.int .i64 3, .int .i64 a, .int .i64 b, .int .i64 c, .string t, .string u] 41) ans0 (.cells #[.int .i64 b, .int .i64 c] 27) ans0
  generalize hW : (((w.alloc _).alloc _).alloc _).alloc _ = W at hA hV hB hF ⊢
  have hRW : BkI W x s := HR.out.keep hF (by simp)
  go_at_call 38
  refine (release_any W x s hRW HI.out a ⟨b, c⟩).mono ?_
  rintro e w1 ⟨rfl, hr1, hf1⟩
  have hA1 := hf1.keep hA (by simp; omega)
  have hB1 := hf1.keep hB (by simp; omega)
  have hfw : Fr [x] w w1 := hF.widen.trans hf1
  have a0 := blk_cell hA1 0
  have b0 := blk_cell hB1 0
  have g0 := blk_frozen hA1 0
  have k0 := blk_frozen hB1 0
  have a1 := blk_cell hA1 1
  have b1 := blk_cell hB1 1
  have g1 := blk_frozen hA1 1
  have k1 := blk_frozen hB1 1
  have a2 := blk_cell hA1 2
  have b2 := blk_cell hB1 2
  have g2 := blk_frozen hA1 2
  have k2 := blk_frozen hB1 2
  have a3 := blk_cell hA1 3
  have b3 := blk_cell hB1 3
  have g3 := blk_frozen hA1 3
  have k3 := blk_frozen hB1 3
  have HR1 : Hid (BkI w1 x (relR s a ⟨b, c⟩)) := hr1
  have HF1 : Hid (Fr [x] w w1) := hfw
  clear hA1 hB1 hA hV hB hF hW hRW hr1 hf1 hfw
  go_wp2
  refine bodyPost_ret (v := .agg #[.int .i64 (relE s a ⟨b, c⟩), .int .i64 (0), .int .i64 (0), .string ⟨#[]⟩]) (by simp [results, Try.results26, go_sem, a0, a1, a2, a3]) rfl ⟨rfl, ?_, ?_⟩
  · repeat first
      | with_reducible exact HR1.out
      | (with_reducible refine BkI.far ?_ ?far; case far => (dsimp only; omega))
  · repeat first
      | with_reducible exact HF1.out
      | (with_reducible refine Fr.setCell ?_ (Or.inr ?far) _; case far => (dsimp only; omega))

set_option maxHeartbeats 3200000 in
set_option maxRecDepth 100000 in
theorem do_finish (w : World) (x : Nat) (s : St) (a b c : Int) (t u : ByteArray) (hr : BkI w x s) (hi : Inv s) :
    Calls Try.prog 26 #[.pointer (some ⟨x, 0, none⟩), .agg #[.int .i64 4, .int .i64 a, .int .i64 b, .int .i64 c, .string t, .string u]] w fun e w' => e = .returned (.agg #[.int .i64 (gateE s a true zeroV), .int .i64 (0), .int .i64 (0), .string ⟨#[]⟩]) ∧ BkI w' x (finR s a) ∧ Fr [x] w w' := by
  have hxl := blk_lt hr
  have HR : Hid (BkI w x s) := hr
  have HI : Hid (Inv s) := hi
  clear hr hi
  go_enter Try.func26, Try.ntmps26
  go_wp2_with fail
  obtain ⟨-, hA, hV, hB, hF⟩ := four_blocks w (.cells #[.int .i64 4, .int .i64 a, .int .i64 b, .int .i64 c, .string t, .string u] 41) ans0 (.cells #[.int .i64 b, .int .i64 c] 27) ans0
  generalize hW : (((w.alloc _).alloc _).alloc _).alloc _ = W at hA hV hB hF ⊢
  have hRW : BkI W x s := HR.out.keep hF (by simp)
  go_at_call 36
  refine (finish_any W x s hRW HI.out a).mono ?_
  rintro e w1 ⟨rfl, hr1, hf1⟩
  have hA1 := hf1.keep hA (by simp; omega)
  have hB1 := hf1.keep hB (by simp; omega)
  have hfw : Fr [x] w w1 := hF.widen.trans hf1
  have a0 := blk_cell hA1 0
  have b0 := blk_cell hB1 0
  have g0 := blk_frozen hA1 0
  have k0 := blk_frozen hB1 0
  have a1 := blk_cell hA1 1
  have b1 := blk_cell hB1 1
  have g1 := blk_frozen hA1 1
  have k1 := blk_frozen hB1 1
  have a2 := blk_cell hA1 2
  have b2 := blk_cell hB1 2
  have g2 := blk_frozen hA1 2
  have k2 := blk_frozen hB1 2
  have a3 := blk_cell hA1 3
  have b3 := blk_cell hB1 3
  have g3 := blk_frozen hA1 3
  have k3 := blk_frozen hB1 3
  have HR1 : Hid (BkI w1 x (finR s a)) := hr1
  have HF1 : Hid (Fr [x] w w1) := hfw
  clear hA1 hB1 hA hV hB hF hW hRW hr1 hf1 hfw
  go_wp2
  refine bodyPost_ret (v := .agg #[.int .i64 (gateE s a true zeroV), .int .i64 (0), .int .i64 (0), .string ⟨#[]⟩]) (by simp [results, Try.results26, go_sem, a0, a1, a2, a3]) rfl ⟨rfl, ?_, ?_⟩
  · repeat first
      | with_reducible exact HR1.out
      | (with_reducible refine BkI.far ?_ ?far; case far => (dsimp only; omega))
  · repeat first
      | with_reducible exact HF1.out
      | (with_reducible refine Fr.setCell ?_ (Or.inr ?far) _; case far => (dsimp only; omega))

end Go.Proofs.Qxb6500340a
