import Derived.Test.Qxb6500340aR8
namespace Go.Proofs.Qxb6500340a
open Go.RowKit
set_option linter.unusedVariables false
set_option linter.unusedSimpArgs false

set_option maxHeartbeats 3200000 in
set_option maxRecDepth 100000 in
theorem dom_order (w : World) (x : Nat) (s : St) (a b c : Int) (t u : ByteArray) (hr : Mh w x (gof s)) (hi : Inv s) :
    Calls Try.prog 33 #[.pointer (some ⟨x, 0, none⟩), .agg #[.int .i64 5, .int .i64 a, .int .i64 b, .int .i64 c, .string t, .string u]] w fun e w' => e = .returned (.agg #[.int .i64 (0), .int .i64 (0), .int .i64 (0), .string (ordT (run s 4).ord)]) ∧ Mh w' x (gof s) ∧ Fr [x] w w' := by
  have hxl := blk_lt hr
  have HR : Hid (Mh w x (gof s)) := hr
  have HI : Hid (Inv s) := hi
  clear hr hi
  go_enter Try.func33, Try.ntmps33
  go_wp2_with fail
  obtain ⟨-, hA, hV, hB, hF⟩ := four_blocks w (.cells #[.int .i64 5, .int .i64 a, .int .i64 b, .int .i64 c, .string t, .string u] 41) ans0 (.cells #[.int .i64 b, .int .i64 c] 27) ans0
  generalize hW : (((w.alloc _).alloc _).alloc _).alloc _ = W at hA hV hB hF ⊢
  have hRW : Mh W x (gof s) := HR.out.keep hF (by simp)
  go_at_call 45
  refine (morder_inv W x s hRW HI.out).mono ?_
  rintro e w1 ⟨rfl, hf1⟩
  have hr1 : Mh w1 x (gof s) := hRW.keep hf1 (by simp)
  have hf1 : Fr [x] W w1 := hf1.widen
  have hA1 := hf1.keep hA (by simp; omega)
  have hB1 := hf1.keep hB (by simp; omega)
  have hfw : Fr [x] w w1 := hF.widen.trans hf1
  have a0 := blk_cell hA1 0
  have b0 := blk_cell hB1 0
  have g0 := blk_frozen hA1 0
  have k0 := blk_frozen hB1 0
  have a1 := blk_cell hA1 1
  have b1 := blk_cell hB1 1
  have g1 := blk_frozen hA1 1
  have k1 := blk_frozen hB1 1
  have a2 := blk_cell hA1 2
  have b2 := blk_cell hB1 2
  have g2 := blk_frozen hA1 2
  have k2 := blk_frozen hB1 2
  have a3 := blk_cell hA1 3
  have b3 := blk_cell hB1 3
  have g3 := blk_frozen hA1 3
  have k3 := blk_frozen hB1 3
  have HR1 : Hid (Mh w1 x (gof s)) := hr1
  have HF1 : Hid (Fr [x] w w1) := hfw
  clear hA1 hB1 hA hV hB hF hW hRW hr1 hf1 hfw
  go_wp2
  refine bodyPost_ret (v := .agg #[.int .i64 (0), .int .i64 (0), .int .i64 (0), .string (ordT (run s 4).ord)]) (by simp [results, Try.results33, go_sem, a0, a1, a2, a3]) rfl ⟨rfl, ?_, ?_⟩
  · repeat first
      | with_reducible exact HR1.out
      | (with_reducible refine Mh.far ?_ ?far; case far => (dsimp only; omega))
  · repeat first
      | with_reducible exact HF1.out
      | (with_reducible refine Fr.setCell ?_ (Or.inr ?far) _; case far => (dsimp only; omega))

set_option maxHeartbeats 3200000 in
set_option maxRecDepth 100000 in
theorem dom_avail (w : World) (x : Nat) (s : St) (a b c : Int) (t u : ByteArray) (hr : Mh w x (gof s)) (hi : Inv s) :
    Calls Try.prog 33 #[.pointer (some ⟨x, 0, none⟩), .agg #[.int .i64 6, .int .i64 a, .int .i64 b, .int .i64 c, .string t, .string u]] w fun e w' => e = .returned (.agg #[.int .i64 (0), .int .i64 (s.av.a), .int .i64 (s.av.b), .string ⟨#[]⟩]) ∧ Mh w' x (gof s) ∧ Fr [x] w w' := by
  have hxl := blk_lt hr
  have HR : Hid (Mh w x (gof s)) := hr
  have HI : Hid (Inv s) := hi
  clear hr hi
  go_enter Try.func33, Try.ntmps33
  go_wp2_with fail
  obtain ⟨-, hA, hV, hB, hF⟩ := four_blocks w (.cells #[.int .i64 6, .int .i64 a, .int .i64 b, .int .i64 c, .string t, .string u] 41) ans0 (.cells #[.int .i64 b, .int .i64 c] 27) ans0
  generalize hW : (((w.alloc _).alloc _).alloc _).alloc _ = W at hA hV hB hF ⊢
  have hRW : Mh W x (gof s) := HR.out.keep hF (by simp)
  go_at_call 46
  refine (mavail_any W x s hRW HI.out.sm).mono ?_
  rintro e w1 ⟨rfl, hf1⟩
  have hr1 : Mh w1 x (gof s) := hRW.keep hf1 (by simp)
  have hf1 : Fr [x] W w1 := hf1.widen
  have hA1 := hf1.keep hA (by simp; omega)
  have hB1 := hf1.keep hB (by simp; omega)
  have hfw : Fr [x] w w1 := hF.widen.trans hf1
  have a0 := blk_cell hA1 0
  have b0 := blk_cell hB1 0
  have g0 := blk_frozen hA1 0
  have k0 := blk_frozen hB1 0
  have a1 := blk_cell hA1 1
  have b1 := blk_cell hB1 1
  have g1 := blk_frozen hA1 1
  have k1 := blk_frozen hB1 1
  have a2 := blk_cell hA1 2
  have b2 := blk_cell hB1 2
  have g2 := blk_frozen hA1 2
  have k2 := blk_frozen hB1 2
  have a3 := blk_cell hA1 3
  have b3 := blk_cell hB1 3
  have g3 := blk_frozen hA1 3
  have k3 := blk_frozen hB1 3
  have HR1 : Hid (Mh w1 x (gof s)) := hr1
  have HF1 : Hid (Fr [x] w w1) := hfw
  clear hA1 hB1 hA hV hB hF hW hRW hr1 hf1 hfw
  go_wp2
  refine bodyPost_ret (v := .agg #[.int .i64 (0), .int .i64 (s.av.a), .int .i64 (s.av.b), .string ⟨#[]⟩]) (by simp [results, Try.results33, go_sem, a0, a1, a2, a3]) rfl ⟨rfl, ?_, ?_⟩
  · repeat first
      | with_reducible exact HR1.out
      | (with_reducible refine Mh.far ?_ ?far; case far => (dsimp only; omega))
  · repeat first
      | with_reducible exact HF1.out
      | (with_reducible refine Fr.setCell ?_ (Or.inr ?far) _; case far => (dsimp only; omega))

set_option maxHeartbeats 3200000 in
set_option maxRecDepth 100000 in
theorem dom_show (w : World) (x : Nat) (s : St) (a b c : Int) (t u : ByteArray) (hr : Mh w x (gof s)) (hi : Inv s) :
    Calls Try.prog 33 #[.pointer (some ⟨x, 0, none⟩), .agg #[.int .i64 7, .int .i64 a, .int .i64 b, .int .i64 c, .string t, .string u]] w fun e w' => e = .returned (.agg #[.int .i64 (0), .int .i64 (0), .int .i64 (0), .string (shw s 4)]) ∧ Mh w' x (gof s) ∧ Fr [x] w w' := by
  have hxl := blk_lt hr
  have HR : Hid (Mh w x (gof s)) := hr
  have HI : Hid (Inv s) := hi
  clear hr hi
  go_enter Try.func33, Try.ntmps33
  go_wp2_with fail
  obtain ⟨-, hA, hV, hB, hF⟩ := four_blocks w (.cells #[.int .i64 7, .int .i64 a, .int .i64 b, .int .i64 c, .string t, .string u] 41) ans0 (.cells #[.int .i64 b, .int .i64 c] 27) ans0
  generalize hW : (((w.alloc _).alloc _).alloc _).alloc _ = W at hA hV hB hF ⊢
  have hRW : Mh W x (gof s) := HR.out.keep hF (by simp)
  go_at_call 40
  refine (mshow_any W x s hRW HI.out).mono ?_
  rintro e w1 ⟨rfl, hf1⟩
  have hr1 : Mh w1 x (gof s) := hRW.keep hf1 (by simp)
  have hf1 : Fr [x] W w1 := hf1.widen
  have hA1 := hf1.keep hA (by simp; omega)
  have hB1 := hf1.keep hB (by simp; omega)
  have hfw : Fr [x] w w1 := hF.widen.trans hf1
  have a0 := blk_cell hA1 0
  have b0 := blk_cell hB1 0
  have g0 := blk_frozen hA1 0
  have k0 := blk_frozen hB1 0
  have a1 := blk_cell hA1 1
  have b1 := blk_cell hB1 1
  have g1 := blk_frozen hA1 1
  have k1 := blk_frozen hB1 1
  have a2 := blk_cell hA1 2
  have b2 := blk_cell hB1 2
  have g2 := blk_frozen hA1 2
  have k2 := blk_frozen hB1 2
  have a3 := blk_cell hA1 3
  have b3 := blk_cell hB1 3
  have g3 := blk_frozen hA1 3
  have k3 := blk_frozen hB1 3
  have HR1 : Hid (Mh w1 x (gof s)) := hr1
  have HF1 : Hid (Fr [x] w w1) := hfw
  clear hA1 hB1 hA hV hB hF hW hRW hr1 hf1 hfw
  go_wp2
  refine bodyPost_ret (v := .agg #[.int .i64 (0), .int .i64 (0), .int .i64 (0), .string (shw s 4)]) (by simp [results, Try.results33, go_sem, a0, a1, a2, a3]) rfl ⟨rfl, ?_, ?_⟩
  · repeat first
      | with_reducible exact HR1.out
      | (with_reducible refine Mh.far ?_ ?far; case far => (dsimp only; omega))
  · repeat first
      | with_reducible exact HF1.out
      | (with_reducible refine Fr.setCell ?_ (Or.inr ?far) _; case far => (dsimp only; omega))

set_option maxHeartbeats 3200000 in
set_option maxRecDepth 100000 in
theorem dom_check (w : World) (x : Nat) (s : St) (a b c : Int) (t u : ByteArray) (hr : Mh w x (gof s)) (hi : Inv s) :
    Calls Try.prog 33 #[.pointer (some ⟨x, 0, none⟩), .agg #[.int .i64 8, .int .i64 a, .int .i64 b, .int .i64 c, .string t, .string u]] w fun e w' => e = .returned (.agg #[.int .i64 (0), .int .i64 (0), .int .i64 (0), .string ⟨#[]⟩]) ∧ Mh w' x (gof s) ∧ Fr [x] w w' := by
  have hxl := blk_lt hr
  have HR : Hid (Mh w x (gof s)) := hr
  have HI : Hid (Inv s) := hi
  clear hr hi
  go_enter Try.func33, Try.ntmps33
  go_wp2_with fail
  obtain ⟨-, hA, hV, hB, hF⟩ := four_blocks w (.cells #[.int .i64 8, .int .i64 a, .int .i64 b, .int .i64 c, .string t, .string u] 41) ans0 (.cells #[.int .i64 b, .int .i64 c] 27) ans0
  generalize hW : (((w.alloc _).alloc _).alloc _).alloc _ = W at hA hV hB hF ⊢
  have hRW : Mh W x (gof s) := HR.out.keep hF (by simp)
  go_at_call 47
  refine (mcheck_fr W x).mono ?_
  rintro e w1 ⟨rfl, hf1⟩
  have hr1 : Mh w1 x (gof s) := hRW.keep hf1 (by simp)
  have hf1 : Fr [x] W w1 := hf1.widen
  have hA1 := hf1.keep hA (by simp; omega)
  have hB1 := hf1.keep hB (by simp; omega)
  have hfw : Fr [x] w w1 := hF.widen.trans hf1
  have a0 := blk_cell hA1 0
  have b0 := blk_cell hB1 0
  have g0 := blk_frozen hA1 0
  have k0 := blk_frozen hB1 0
  have a1 := blk_cell hA1 1
  have b1 := blk_cell hB1 1
  have g1 := blk_frozen hA1 1
  have k1 := blk_frozen hB1 1
  have a2 := blk_cell hA1 2
  have b2 := blk_cell hB1 2
  have g2 := blk_frozen hA1 2
  have k2 := blk_frozen hB1 2
  have a3 := blk_cell hA1 3
  have b3 := blk_cell hB1 3
  have g3 := blk_frozen hA1 3
  have k3 := blk_frozen hB1 3
  have HR1 : Hid (Mh w1 x (gof s)) := hr1
  have HF1 : Hid (Fr [x] w w1) := hfw
  clear hA1 hB1 hA hV hB hF hW hRW hr1 hf1 hfw
  go_wp2
  refine bodyPost_ret (v := .agg #[.int .i64 (0), .int .i64 (0), .int .i64 (0), .string ⟨#[]⟩]) (by simp [results, Try.results33, go_sem, a0, a1, a2, a3]) rfl ⟨rfl, ?_, ?_⟩
  · repeat first
      | with_reducible exact HR1.out
      | (with_reducible refine Mh.far ?_ ?far; case far => (dsimp only; omega))
  · repeat first
      | with_reducible exact HF1.out
      | (with_reducible refine Fr.setCell ?_ (Or.inr ?far) _; case far => (dsimp only; omega))

end Go.Proofs.Qxb6500340a
