import Derived.Test.Qxb6500340aR6
import Derived.Test.Qxb6500340aR7
import Derived.Test.Qxb6500340aW13
namespace Go.Proofs.Qxb6500340a
open Go.RowKit
set_option linter.unusedVariables false
set_option linter.unusedSimpArgs false

theorem morder_inv (w : World) (b : Nat) (s : St) (hb : Mh w b (gof s)) (hi : Inv s) : Calls Try.prog 45 #[.pointer (some ⟨b, 0, none⟩)] w fun e w' => e = .returned (.tuple #[.string (ordT (run s 4).ord), .int .i64 0]) ∧ Fr [] w w' := by
  have h := morder_any _ s w b rfl hb hi.ib
  have e1 : ordS s = ordT (run s 4).ord := by unfold ordS; rw [hi.gb]; rfl
  have e2 : ordE s = 0 := by unfold ordE; rw [hi.gb]; rfl
  rw [e1, e2] at h; exact h
theorem mcheck_fr (w : World) (b : Nat) : Calls Try.prog 47 #[.pointer (some ⟨b, 0, none⟩)] w fun e w' => e = .returned (.int .i64 0) ∧ Fr [] w w' :=
  (mcheck_any w b).mono fun e w' ⟨h1, h2⟩ => ⟨h1, by rw [h2]; exact Fr.refl _ _⟩

set_option maxHeartbeats 3200000 in
set_option maxRecDepth 100000 in
theorem dom_declare (w : World) (x : Nat) (s : St) (a b c : Int) (t u : ByteArray) (hr : Mh w x (gof s)) (hi : Inv s) :
    Calls Try.prog 33 #[.pointer (some ⟨x, 0, none⟩), .agg #[.int .i64 1, .int .i64 a, .int .i64 b, .int .i64 c, .string t, .string u]] w fun e w' => e = .returned (.agg #[.int .i64 (gateE s a false ⟨b, c⟩), .int .i64 (0), .int .i64 (0), .string ⟨#[]⟩]) ∧ Mh w' x (gof (declR s a ⟨b, c⟩)) ∧ Fr [x] w w' := by
  have hxl := blk_lt hr
  have HR : Hid (Mh w x (gof s)) := hr
  have HI : Hid (Inv s) := hi
  clear hr hi
  go_enter Try.func33, Try.ntmps33
  go_wp2_with fail
  obtain ⟨-, hA, hV, hB, hF⟩ := four_blocks w (.cells #[.int .i64 1, .int .i64 a, .int .i64 b, .int .i64 c, .string t, .string u] 41) ans0 (.cells #[.int .i64 b, .int .i64 c] 27) ans0
  generalize hW : (((w.alloc _).alloc _).alloc _).alloc _ = W at hA hV hB hF ⊢
  have hRW : Mh W x (gof s) := HR.out.keep hF (by simp)
  go_at_call 41
  refine (mdeclare_any W x s hRW HI.out.ib a ⟨b, c⟩).mono ?_
  rintro e w1 ⟨rfl, hr1, hf1⟩
  have hA1 := hf1.keep hA (by simp; omega)
  have hB1 := hf1.keep hB (by simp; omega)
  have hfw : Fr [x] w w1 := hF.widen.trans hf1
  have a0 := blk_cell hA1 0
  have b0 := blk_cell hB1 0
  have g0 := blk_frozen hA1 0
  have k0 := blk_frozen hB1 0
  have a1 := blk_cell hA1 1
  have b1 := blk_cell hB1 1
  have g1 := blk_frozen hA1 1
  have k1 := blk_frozen hB1 1
  have a2 := blk_cell hA1 2
  have b2 := blk_cell hB1 2
  have g2 := blk_frozen hA1 2
  have k2 := blk_frozen hB1 2
  have a3 := blk_cell hA1 3
  have b3 := blk_cell hB1 3
  have g3 := blk_frozen hA1 3
  have k3 := blk_frozen hB1 3
  have HR1 : Hid (Mh w1 x (gof (declR s a ⟨b, c⟩))) := hr1
  have HF1 : Hid (Fr [x] w w1) := hfw
  clear hA1 hB1 hA hV hB hF hW hRW hr1 hf1 hfw
  go_wp2
  refine bodyPost_ret (v := .agg #[.int .i64 (gateE s a false ⟨b, c⟩), .int .i64 (0), .int .i64 (0), .string ⟨#[]⟩]) (by simp [results, Try.results33, go_sem, a0, a1, a2, a3]) rfl ⟨rfl, ?_, ?_⟩
  · repeat first
      | with_reducible exact HR1.out
      | (with_reducible refine Mh.far ?_ ?far; case far => (dsimp only; omega))
  · repeat first
      | with_reducible exact HF1.out
      | (with_reducible refine Fr.setCell ?_ (Or.inr ?far) _; case far => (dsimp only; omega))

set_option maxHeartbeats 3200000 in
set_option maxRecDepth 100000 in
theorem dom_request (w : World) (x : Nat) (s : St) (a b c : Int) (t u : ByteArray) (hr : Mh w x (gof s)) (hi : Inv s) :
    Calls Try.prog 33 #[.pointer (some ⟨x, 0, none⟩), .agg #[.int .i64 2, .int .i64 a, .int .i64 b, .int .i64 c, .string t, .string u]] w fun e w' => e = .returned (.agg #[.int .i64 (reqE s a ⟨b, c⟩), .int .i64 (0), .int .i64 (0), .string (reqT s a ⟨b, c⟩)]) ∧ Mh w' x (gof (reqR s a ⟨b, c⟩)) ∧ Fr [x] w w' := by
  have hxl := blk_lt hr
  have HR : Hid (Mh w x (gof s)) := hr
  have HI : Hid (Inv s) := hi
  clear hr hi
  go_enter Try.func33, Try.ntmps33
  go_wp2_with fail
  obtain ⟨-, hA, hV, hB, hF⟩ := four_blocks w (.cells #[.int .i64 2, .int .i64 a, .int .i64 b, .int .i64 c, .string t, .string u] 41) ans0 (.cells #[.int .i64 b, .int .i64 c] 27) ans0
  generalize hW : (((w.alloc _).alloc _).alloc _).alloc _ = W at hA hV hB hF ⊢
  have hRW : Mh W x (gof s) := HR.out.keep hF (by simp)
  go_at_call 42
  refine (mrequest_any W x s hRW HI.out.ib a ⟨b, c⟩).mono ?_
  rintro e w1 ⟨rfl, hr1, hf1⟩
  have hA1 := hf1.keep hA (by simp; omega)
  have hB1 := hf1.keep hB (by simp; omega)
  have hfw : Fr [x] w w1 := hF.widen.trans hf1
  have a0 := blk_cell hA1 0
  have b0 := blk_cell hB1 0
  have g0 := blk_frozen hA1 0
  have k0 := blk_frozen hB1 0
  have a1 := blk_cell hA1 1
  have b1 := blk_cell hB1 1
  have g1 := blk_frozen hA1 1
  have k1 := blk_frozen hB1 1
  have a2 := blk_cell hA1 2
  have b2 := blk_cell hB1 2
  have g2 := blk_frozen hA1 2
  have k2 := blk_frozen hB1 2
  have a3 := blk_cell hA1 3
  have b3 := blk_cell hB1 3
  have g3 := blk_frozen hA1 3
  have k3 := blk_frozen hB1 3
  have HR1 : Hid (Mh w1 x (gof (reqR s a ⟨b, c⟩))) := hr1
  have HF1 : Hid (Fr [x] w w1) := hfw
  clear hA1 hB1 hA hV hB hF hW hRW hr1 hf1 hfw
  go_wp2
  refine bodyPost_ret (v := .agg #[.int .i64 (reqE s a ⟨b, c⟩), .int .i64 (0), .int .i64 (0), .string (reqT s a ⟨b, c⟩)]) (by simp [results, Try.results33, go_sem, a0, a1, a2, a3]) rfl ⟨rfl, ?_, ?_⟩
  · repeat first
      | with_reducible exact HR1.out
      | (with_reducible refine Mh.far ?_ ?far; case far => (dsimp only; omega))
  · repeat first
      | with_reducible exact HF1.out
      | (with_reducible refine Fr.setCell ?_ (Or.inr ?far) _; case far => (dsimp only; omega))

set_option maxHeartbeats 3200000 in
set_option maxRecDepth 100000 in
theorem dom_release (w : World) (x : Nat) (s : St) (a b c : Int) (t u : ByteArray) (hr : Mh w x (gof s)) (hi : Inv s) :
    Calls Try.prog 33 #[.pointer (some ⟨x, 0, none⟩), .agg #[.int .i64 3, .int .i64 a, .int .i64 b, .int .i64 c, .string t, .string u]] w fun e w' => e = .returned (.agg #[.int .i64 (relE s a ⟨b, c⟩), .int .i64 (0), .int .i64 (0), .string ⟨#[]⟩]) ∧ Mh w' x (gof (relR s a ⟨b, c⟩)) ∧ Fr [x] w w' := by
  have hxl := blk_lt hr
  have HR : Hid (Mh w x (gof s)) := hr
  have HI : Hid (Inv s) := hi
  clear hr hi
  go_enter Try.func33, Try.ntmps33
  go_wp2_with fail
  obtain ⟨-, hA, hV, hB, hF⟩ := four_blocks w (.cells #[.int .i64 3, .int .i64 a, .int .i64 b, .int .i64 c, .string t, .string u] 41) ans0 (.cells #[.int .i64 b, .int .i64 c] 27) ans0
  generalize hW : (((w.alloc _).alloc _).alloc _).alloc _ = W at hA hV hB hF ⊢
  have hRW : Mh W x (gof s) := HR.out.keep hF (by simp)
  go_at_call 43
  refine (mrelease_any W x s hRW HI.out.ib a ⟨b, c⟩).mono ?_
  rintro e w1 ⟨rfl, hr1, hf1⟩
  have hA1 := hf1.keep hA (by simp; omega)
  have hB1 := hf1.keep hB (by simp; omega)
  have hfw : Fr [x] w w1 := hF.widen.trans hf1
  have a0 := blk_cell hA1 0
  have b0 := blk_cell hB1 0
  have g0 := blk_frozen hA1 0
  have k0 := blk_frozen hB1 0
  have a1 := blk_cell hA1 1
  have b1 := blk_cell hB1 1
  have g1 := blk_frozen hA1 1
  have k1 := blk_frozen hB1 1
  have a2 := blk_cell hA1 2
  have b2 := blk_cell hB1 2
  have g2 := blk_frozen hA1 2
  have k2 := blk_frozen hB1 2
  have a3 := blk_cell hA1 3
  have b3 := blk_cell hB1 3
  have g3 := blk_frozen hA1 3
  have k3 := blk_frozen hB1 3
  have HR1 : Hid (Mh w1 x (gof (relR s a ⟨b, c⟩))) := hr1
  have HF1 : Hid (Fr [x] w w1) := hfw
  clear hA1 hB1 hA hV hB hF hW hRW hr1 hf1 hfw
  go_wp2
  refine bodyPost_ret (v := .agg #[.int .i64 (relE s a ⟨b, c⟩), .int .i64 (0), .int .i64 (0), .string ⟨#[]⟩]) (by simp [results, Try.results33, go_sem, a0, a1, a2, a3]) rfl ⟨rfl, ?_, ?_⟩
  · repeat first
      | with_reducible exact HR1.out
      | (with_reducible refine Mh.far ?_ ?far; case far => (dsimp only; omega))
  · repeat first
      | with_reducible exact HF1.out
      | (with_reducible refine Fr.setCell ?_ (Or.inr ?far) _; case far => (dsimp only; omega))

set_option maxHeartbeats 3200000 in
set_option maxRecDepth 100000 in
theorem dom_finish (w : World) (x : Nat) (s : St) (a b c : Int) (t u : ByteArray) (hr : Mh w x (gof s)) (hi : Inv s) :
    Calls Try.prog 33 #[.pointer (some ⟨x, 0, none⟩), .agg #[.int .i64 4, .int .i64 a, .int .i64 b, .int .i64 c, .string t, .string u]] w fun e w' => e = .returned (.agg #[.int .i64 (gateE s a true zeroV), .int .i64 (0), .int .i64 (0), .string ⟨#[]⟩]) ∧ Mh w' x (gof (finR s a)) ∧ Fr [x] w w' := by
  have hxl := blk_lt hr
  have HR : Hid (Mh w x (gof s)) := hr
  have HI : Hid (Inv s) := hi
  clear hr hi
  go_enter Try.func33, Try.ntmps33
  go_wp2_with fail
  obtain ⟨-, hA, hV, hB, hF⟩ := four_blocks w (.cells #[.int .i64 4, .int .i64 a, .int .i64 b, .int .i64 c, .string t, .string u] 41) ans0 (.cells #[.int .i64 b, .int .i64 c] 27) ans0
  generalize hW : (((w.alloc _).alloc _).alloc _).alloc _ = W at hA hV hB hF ⊢
  have hRW : Mh W x (gof s) := HR.out.keep hF (by simp)
  go_at_call 44
  refine (mfinish_any W x s hRW a).mono ?_
  rintro e w1 ⟨rfl, hr1, hf1⟩
  have hA1 := hf1.keep hA (by simp; omega)
  have hB1 := hf1.keep hB (by simp; omega)
  have hfw : Fr [x] w w1 := hF.widen.trans hf1
  have a0 := blk_cell hA1 0
  have b0 := blk_cell hB1 0
  have g0 := blk_frozen hA1 0
  have k0 := blk_frozen hB1 0
  have a1 := blk_cell hA1 1
  have b1 := blk_cell hB1 1
  have g1 := blk_frozen hA1 1
  have k1 := blk_frozen hB1 1
  have a2 := blk_cell hA1 2
  have b2 := blk_cell hB1 2
  have g2 := blk_frozen hA1 2
  have k2 := blk_frozen hB1 2
  have a3 := blk_cell hA1 3
  have b3 := blk_cell hB1 3
  have g3 := blk_frozen hA1 3
  have k3 := blk_frozen hB1 3
  have HR1 : Hid (Mh w1 x (gof (finR s a))) := hr1
  have HF1 : Hid (Fr [x] w w1) := hfw
  clear hA1 hB1 hA hV hB hF hW hRW hr1 hf1 hfw
  go_wp2
  refine bodyPost_ret (v := .agg #[.int .i64 (gateE s a true zeroV), .int .i64 (0), .int .i64 (0), .string ⟨#[]⟩]) (by simp [results, Try.results33, go_sem, a0, a1, a2, a3]) rfl ⟨rfl, ?_, ?_⟩
  · repeat first
      | with_reducible exact HR1.out
      | (with_reducible refine Mh.far ?_ ?far; case far => (dsimp only; omega))
  · repeat first
      | with_reducible exact HF1.out
      | (with_reducible refine Fr.setCell ?_ (Or.inr ?far) _; case far => (dsimp only; omega))

end Go.Proofs.Qxb6500340a
