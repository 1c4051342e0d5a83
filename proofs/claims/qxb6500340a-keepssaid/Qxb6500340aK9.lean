import Derived.Test.Qxb6500340aK8
namespace Go.Proofs.Qxb6500340a
open Go.RowKit
set_option linter.unusedVariables false
set_option linter.unusedSimpArgs false

theorem eq_vecd (d : Nat) (W : World) (x y u v : Int) :
    (Op.equalIn (d + 2) 27 (.agg #[.int .i64 x, .int .i64 y]) (.agg #[.int .i64 u, .int .i64 v])).run Try.prog W = .ok (x == u && y == v) W := by
  obtain ⟨i, hi⟩ := info_at (t := 3) (by kernel_rfl)
  have hc : Try.prog.cellsOf 3 = 1 := by kernel_rfl
  rw [run_equalIn_array W (d + 1) _ _ Try.underlying27 hi, hc]
  simp only [List.range, List.range.loop, Op.eqItems, Sem.run_bind]
  simp [go_sem]
  by_cases h1 : x = u <;> by_cases h2 : y = v <;> simp [h1, h2]

theorem eq_ansd (d : Nat) (W : World) (e a b : Int) (s : ByteArray) :
    (Op.equalIn (d + 3) 57 (.agg #[.int .i64 e, .int .i64 a, .int .i64 b, .string s]) (.agg #[.int .i64 e, .int .i64 a, .int .i64 b, .string s])).run Try.prog W = .ok true W := by
  have hv := fun W => eq_vecd d W a b a b
  simp only [BEq.rfl, Bool.and_self] at hv
  rw [Op.equalIn]
  simp only [Sem.run_bind, run_underlying Try.underlying57, Result.andThen_ok]
  have hst : Try.prog.stoodInHeld 57 = false := by kernel_rfl
  simp [go_sem, hst, hv]
theorem eq_ans (W : World) (e a b : Int) (s : ByteArray) :
    (Op.equalIn 10000 57 (.agg #[.int .i64 e, .int .i64 a, .int .i64 b, .string s]) (.agg #[.int .i64 e, .int .i64 a, .int .i64 b, .string s])).run Try.prog W = .ok true W := eq_ansd 9997 W e a b s


set_option maxHeartbeats 3200000 in
set_option maxRecDepth 100000 in
theorem eyes_order (w : World) (g : Nat) (s : St) (hg : Gh w g (gof s)) (hi : Inv s) (a x y : Int) (t u : ByteArray) :
    Calls Try.prog 27 #[.pointer (some ⟨g, 0, none⟩), .agg #[.int .i64 5, .int .i64 a, .int .i64 x, .int .i64 y, .string t, .string u], .agg #[.int .i64 0, .int .i64 0, .int .i64 0, .string (ordT (run s 4).ord)]] w fun e w' => e = .returned (.bool true) ∧ Fr [] w w' := by
  have HG : Hid (Gh w g (gof s)) := hg
  have HI : Hid (Inv s) := hi
  have hgl := blk_lt hg
  clear hg hi
  have he := fun W => eq_ans W 0 0 0 (ordT (run s 4).ord)
  have z1 := ord_size s 4
  go_enter Try.func27, Try.ntmps27
  go_wp2_with fail
  go_at_call 21
  refine (judge_any _ g s _ (by omega) (Gh.alloc (Gh.alloc HG.out _) _) HI.out.sm).mono ?_
  rintro e w1 ⟨rfl, hf1⟩
  rw [judge_ord HI.out]
  have G1 : Hid (Gh w1 g (gof s)) := hf1.keep (Gh.alloc (Gh.alloc HG.out _) _) (by simp)
  have A1 : Hid (w1.heap[w.heap.size + 1]? = some (.cells #[.int .i64 0, .int .i64 0, .int .i64 0, .string (ordT (run s 4).ord)] 57)) := hf1.keep (blk_new1 _ _ _) (by simp)
  have a3 := blk_cell A1.out 3
  go_wp2_with fail
  go_at_call 22
  refine (least_any _ g s _ z1 (fun i h => ord_at h (ord_lt s)) (least_ord s) G1.out HI.out.sm).mono ?_
  rintro e w2 ⟨rfl, hf2⟩
  go_wp2
  go_ret
  exact ⟨rfl, (((Fr.refl _ _).alloc _).alloc _).trans (hf1.trans hf2)⟩

set_option maxHeartbeats 3200000 in
set_option maxRecDepth 100000 in
theorem eyes_avail (w : World) (g : Nat) (s : St) (hg : Gh w g (gof s)) (hi : Inv s) (a x y : Int) (t u : ByteArray) :
    Calls Try.prog 27 #[.pointer (some ⟨g, 0, none⟩), .agg #[.int .i64 6, .int .i64 a, .int .i64 x, .int .i64 y, .string t, .string u], .agg #[.int .i64 0, .int .i64 s.av.a, .int .i64 s.av.b, .string ⟨#[]⟩]] w fun e w' => e = .returned (.bool true) ∧ Fr [] w w' := by
  have HG : Hid (Gh w g (gof s)) := hg
  have HI : Hid (Inv s) := hi
  have hgl := blk_lt hg
  clear hg hi
  have he := fun W => eq_ans W 0 s.av.a s.av.b ⟨#[]⟩
  go_enter Try.func27, Try.ntmps27
  go_wp2_with fail
  go_at_call 19
  refine (free_any _ g s (Gh.alloc (Gh.alloc HG.out _) _) HI.out.sm).mono ?_
  rintro e w1 ⟨rfl, hf1⟩
  have A1 : Hid (w1.heap[w.heap.size + 1]? = some (.cells #[.int .i64 0, .int .i64 s.av.a, .int .i64 s.av.b, .string ⟨#[]⟩] 57)) := hf1.keep (blk_new1 _ _ _) (by simp)
  have hl1 := blk_lt A1.out
  have a0 := blk_cell A1.out 0
  have a1 := blk_cell A1.out 1
  have a2 := blk_cell A1.out 2
  have a3 := blk_cell A1.out 3
  go_wp2
  go_ret
  exact ⟨rfl, ((((Fr.refl _ _).alloc _).alloc _).trans hf1).alloc _⟩

set_option maxHeartbeats 3200000 in
set_option maxRecDepth 100000 in
theorem eyes_show (w : World) (g : Nat) (s : St) (hg : Gh w g (gof s)) (hi : Inv s) (a x y : Int) (t u : ByteArray) :
    Calls Try.prog 27 #[.pointer (some ⟨g, 0, none⟩), .agg #[.int .i64 7, .int .i64 a, .int .i64 x, .int .i64 y, .string t, .string u], .agg #[.int .i64 0, .int .i64 0, .int .i64 0, .string (shw s 4)]] w fun e w' => e = .returned (.bool true) ∧ Fr [] w w' := by
  have HG : Hid (Gh w g (gof s)) := hg
  have HI : Hid (Inv s) := hi
  have hgl := blk_lt hg
  clear hg hi
  have he := fun W => eq_ans W 0 0 0 (shw s 4)
  go_enter Try.func27, Try.ntmps27
  go_wp2_with fail
  go_at_call 23
  refine (shown_any _ g s (Gh.alloc (Gh.alloc HG.out _) _) HI.out).mono ?_
  rintro e w1 ⟨rfl, hf1⟩
  have A1 : Hid (w1.heap[w.heap.size + 1]? = some (.cells #[.int .i64 0, .int .i64 0, .int .i64 0, .string (shw s 4)] 57)) := hf1.keep (blk_new1 _ _ _) (by simp)
  have a0 := blk_cell A1.out 0
  have a1 := blk_cell A1.out 1
  have a2 := blk_cell A1.out 2
  have a3 := blk_cell A1.out 3
  go_wp2
  go_ret
  exact ⟨rfl, (((Fr.refl _ _).alloc _).alloc _).trans hf1⟩

set_option maxHeartbeats 3200000 in
set_option maxRecDepth 100000 in
theorem eyes_none (w : World) (g : Nat) (s : St) (hg : Gh w g (gof s)) (hi : Inv s) (k a x y : Int) (t u : ByteArray) (h5 : (k == 5) = false) (h6 : (k == 6) = false) (h7 : (k == 7) = false) :
    Calls Try.prog 27 #[.pointer (some ⟨g, 0, none⟩), .agg #[.int .i64 k, .int .i64 a, .int .i64 x, .int .i64 y, .string t, .string u], .agg #[.int .i64 0, .int .i64 0, .int .i64 0, .string ⟨#[]⟩]] w fun e w' => e = .returned (.bool true) ∧ Fr [] w w' := by
  have HG : Hid (Gh w g (gof s)) := hg
  have HI : Hid (Inv s) := hi
  have hgl := blk_lt hg
  clear hg hi
  have he := fun W => eq_ans W 0 0 0 ⟨#[]⟩
  go_enter Try.func27, Try.ntmps27
  go_wp2
  go_ret
  exact ⟨rfl, ((Fr.refl _ _).alloc _).alloc _⟩
end Go.Proofs.Qxb6500340a
