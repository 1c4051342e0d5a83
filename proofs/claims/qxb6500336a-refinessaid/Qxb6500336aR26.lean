import Derived.Test.Qxb6500336aR25
namespace Go.Proofs.Qxb6500336a
open Go.RowKit
set_option linter.unusedVariables false
set_option linter.unusedSimpArgs false

def zAns : Obj := .cells #[.int .i64 0, .int .i64 0, .int .i64 0, .string ⟨#[]⟩] 48
theorem three_blocks (w : World) (a b c : Obj) :
    (((w.alloc a).alloc b).alloc c).heap[w.heap.size]? = some a ∧ (((w.alloc a).alloc b).alloc c).heap[w.heap.size + 1]? = some b ∧ (((w.alloc a).alloc b).alloc c).heap[w.heap.size + 2]? = some c ∧ Fr [] w (((w.alloc a).alloc b).alloc c) := by
  refine ⟨?_, ?_, ?_, (((Fr.refl [] w).alloc _).alloc _).alloc _⟩
  · exact (((Fr.refl [] _).alloc b).alloc c).keep (blk_new w a) (by simp)
  · have h1 := blk_new (w.alloc a) b
    have h2 := ((Fr.refl [] ((w.alloc a).alloc b)).alloc c).keep h1 (by simp)
    simpa using h2
  · have h1 := blk_new ((w.alloc a).alloc b) c
    simpa using h1
def aE (acc : Int) (rs : List Code) (o : OpT) : Int := if o.k = 1 then (run o.s acc rs).2.1 else 0
def aN (acc : Int) (rs : List Code) (o : OpT) : Int := if o.k = 1 then (run o.s acc rs).1 else if o.k = 3 then 1 else 0
def aS (acc : Int) (rs : List Code) (o : OpT) : ByteArray := if o.k = 2 then showM acc rs else ⟨#[]⟩
def nA (acc : Int) (rs : List Code) (o : OpT) : Int := if o.k = 1 then (run o.s acc rs).2.2.1 else acc
def nR (acc : Int) (rs : List Code) (o : OpT) : List Code := if o.k = 1 then (run o.s acc rs).2.2.2 else rs
def ansV (acc : Int) (rs : List Code) (o : OpT) : Value := .agg #[.int .i64 (aE acc rs o), .int .i64 (aN acc rs o), .int .i64 0, .string (aS acc rs o)]
theorem nR_wf {acc : Int} {rs : List Code} (h : Wf rs) (o : OpT) : Wf (nR acc rs o) := by
  unfold nR; split
  · exact run_wf h
  · exact h
/-- What Do leaves behind its answer. -/
theorem tail48 {w W w1 Wf : World} {N : Nat} {ty : List TypeId} (hN : N ≤ w.heap.size) (hF : Fr [] w W) (hT : FrT ty N W w1)
    (hA : w1.heap[w.heap.size + 1]? = some zAns) (hB : w1.heap[w.heap.size + 2]? = some zAns) (hf : Fr [w.heap.size + 1, w.heap.size + 2] w1 Wf) : FrT ty N w Wf ∧ FrT [48] N w1 Wf := by
  refine ⟨(FrT.frl hF hN hT).frz hf (fun i hi => by simp at hi; omega), _, hf, fun b hb => ?_⟩
  simp only [List.mem_cons, List.not_mem_nil, or_false] at hb
  rcases hb with rfl | rfl
  · exact ⟨by omega, _, _, hA, by simp⟩
  · exact ⟨by omega, _, _, hB, by simp⟩

set_option maxHeartbeats 3200000 in
set_option maxRecDepth 100000 in
theorem do_run {w : World} {N X : Nat} {acc : Int} {rs : List Code} {a b c : Int} {t u : ByteArray} (h : JR w N X acc rs) (hw : Wf rs) (hN : N ≤ w.heap.size) :
    Calls Try.prog 39 #[.pointer (some ⟨X, 0, none⟩), .agg #[.int .i64 1, .int .i64 a, .int .i64 b, .int .i64 c, .string t, .string u]] w fun e w' => e = .returned (.agg #[.int .i64 ((run t acc rs).2.1), .int .i64 ((run t acc rs).1), .int .i64 0, .string ⟨#[]⟩]) ∧ JR w' N X ((run t acc rs).2.2.1) ((run t acc rs).2.2.2) ∧ FrT [43, 55, 65] N w w' := by
  have HJ : Hid (JR w N X acc rs) := h
  have HW : Hid (Wf rs) := hw
  clear h hw
  obtain ⟨hO, hA, hB, hF⟩ := three_blocks w (.cells #[.int .i64 1, .int .i64 a, .int .i64 b, .int .i64 c, .string t, .string u] 51) zAns zAns
  unfold zAns at hA hB
  go_enter Try.func39, Try.ntmps39
  go_wp2_with fail
  unfold zAns at hO hF
  generalize hW : ((w.alloc _).alloc _).alloc _ = W at hO hA hB hF ⊢
  have HJW : Hid (JR W N X acc rs) := HJ.out.keep0 hF
  have hNW : N ≤ W.heap.size := by have := hF.size; omega
  obtain ⟨S, sl, h1, h2⟩ := HJW.out
  go_at_call 27
  refine (run_all h1 HW.out t).mono ?_
  rintro e w1 ⟨rfl, ho⟩
  have hnx := JR.next h1 h2 hNW ho
  have HJ1 : Hid (JR w1 N X ((run t acc rs).2.2.1) ((run t acc rs).2.2.2)) := hnx.1
  have HT1 : Hid (FrT [43, 55, 65] N W w1) := hnx.2
  clear hnx ho h1 h2
  have hA1 := HT1.out.keep hA (by simp)
  have hB1 := HT1.out.keep hB (by simp)
  have a0 := blk_cell hA1 0
  have b0 := blk_cell hB1 0
  have g0 := blk_frozen hA1 0
  have k0 := blk_frozen hB1 0
  have a1 := blk_cell hA1 1
  have b1 := blk_cell hB1 1
  have g1 := blk_frozen hA1 1
  have k1 := blk_frozen hB1 1
  have a2 := blk_cell hA1 2
  have b2 := blk_cell hB1 2
  have g2 := blk_frozen hA1 2
  have k2 := blk_frozen hB1 2
  have a3 := blk_cell hA1 3
  have b3 := blk_cell hB1 3
  have g3 := blk_frozen hA1 3
  have k3 := blk_frozen hB1 3
  simp at a0 a1 a2 a3 b0 b1 b2 b3
  have HT : Hid (∀ Wf, Fr [w.heap.size + 1, w.heap.size + 2] w1 Wf → FrT [43, 55, 65] N w Wf ∧ FrT [48] N w1 Wf) := fun Wf hf => tail48 hN hF HT1.out hA1 hB1 hf
  clear hA1 hB1 hA hB hF hW hO HJW HT1
  go_wp2
  refine bodyPost_ret (v := .agg #[.int .i64 ((run t acc rs).2.1), .int .i64 ((run t acc rs).1), .int .i64 0, .string ⟨#[]⟩]) (by simp [results, Try.results39, go_sem, a0, a1, a2, a3]) rfl ⟨rfl, ?_, ?_⟩
  · refine HJ1.out.keepT (HT.out _ ?hfr).2 (by decide)
    case hfr =>
      repeat first
        | with_reducible exact Fr.refl _ _
        | (with_reducible refine Fr.setCell ?_ (Or.inl ?mem) _; case mem => simp)
  · refine (HT.out _ ?hfr).1
    case hfr =>
      repeat first
        | with_reducible exact Fr.refl _ _
        | (with_reducible refine Fr.setCell ?_ (Or.inl ?mem) _; case mem => simp)

set_option maxHeartbeats 3200000 in
set_option maxRecDepth 100000 in
theorem do_show {w : World} {N X : Nat} {acc : Int} {rs : List Code} {a b c : Int} {t u : ByteArray} (h : JR w N X acc rs) (hw : Wf rs) (hN : N ≤ w.heap.size) :
    Calls Try.prog 39 #[.pointer (some ⟨X, 0, none⟩), .agg #[.int .i64 2, .int .i64 a, .int .i64 b, .int .i64 c, .string t, .string u]] w fun e w' => e = .returned (.agg #[.int .i64 (0), .int .i64 (0), .int .i64 0, .string (showM acc rs)]) ∧ JR w' N X (acc) (rs) ∧ FrT [43, 55, 65] N w w' := by
  have HJ : Hid (JR w N X acc rs) := h
  have HW : Hid (Wf rs) := hw
  clear h hw
  obtain ⟨hO, hA, hB, hF⟩ := three_blocks w (.cells #[.int .i64 2, .int .i64 a, .int .i64 b, .int .i64 c, .string t, .string u] 51) zAns zAns
  unfold zAns at hA hB
  go_enter Try.func39, Try.ntmps39
  go_wp2_with fail
  unfold zAns at hO hF
  generalize hW : ((w.alloc _).alloc _).alloc _ = W at hO hA hB hF ⊢
  have HJW : Hid (JR W N X acc rs) := HJ.out.keep0 hF
  have hNW : N ≤ W.heap.size := by have := hF.size; omega
  obtain ⟨S, sl, h1, h2⟩ := HJW.out
  go_at_call 28
  refine (mshow_any h1 HW.out).mono ?_
  rintro e w1 ⟨rfl, ho⟩
  have HJ1 : Hid (JR w1 N X (acc) (rs)) := HJW.out.keep0 ho
  have HT1 : Hid (FrT [43, 55, 65] N W w1) := FrT.of0 ho
  clear ho h1 h2
  have hA1 := HT1.out.keep hA (by simp)
  have hB1 := HT1.out.keep hB (by simp)
  have a0 := blk_cell hA1 0
  have b0 := blk_cell hB1 0
  have g0 := blk_frozen hA1 0
  have k0 := blk_frozen hB1 0
  have a1 := blk_cell hA1 1
  have b1 := blk_cell hB1 1
  have g1 := blk_frozen hA1 1
  have k1 := blk_frozen hB1 1
  have a2 := blk_cell hA1 2
  have b2 := blk_cell hB1 2
  have g2 := blk_frozen hA1 2
  have k2 := blk_frozen hB1 2
  have a3 := blk_cell hA1 3
  have b3 := blk_cell hB1 3
  have g3 := blk_frozen hA1 3
  have k3 := blk_frozen hB1 3
  simp at a0 a1 a2 a3 b0 b1 b2 b3
  have HT : Hid (∀ Wf, Fr [w.heap.size + 1, w.heap.size + 2] w1 Wf → FrT [43, 55, 65] N w Wf ∧ FrT [48] N w1 Wf) := fun Wf hf => tail48 hN hF HT1.out hA1 hB1 hf
  clear hA1 hB1 hA hB hF hW hO HJW HT1
  go_wp2
  refine bodyPost_ret (v := .agg #[.int .i64 (0), .int .i64 (0), .int .i64 0, .string (showM acc rs)]) (by simp [results, Try.results39, go_sem, a0, a1, a2, a3]) rfl ⟨rfl, ?_, ?_⟩
  · refine HJ1.out.keepT (HT.out _ ?hfr).2 (by decide)
    case hfr =>
      repeat first
        | with_reducible exact Fr.refl _ _
        | (with_reducible refine Fr.setCell ?_ (Or.inl ?mem) _; case mem => simp)
  · refine (HT.out _ ?hfr).1
    case hfr =>
      repeat first
        | with_reducible exact Fr.refl _ _
        | (with_reducible refine Fr.setCell ?_ (Or.inl ?mem) _; case mem => simp)

set_option maxHeartbeats 3200000 in
set_option maxRecDepth 100000 in
theorem do_check {w : World} {N X : Nat} {acc : Int} {rs : List Code} {a b c : Int} {t u : ByteArray} (h : JR w N X acc rs) (hw : Wf rs) (hN : N ≤ w.heap.size) :
    Calls Try.prog 39 #[.pointer (some ⟨X, 0, none⟩), .agg #[.int .i64 3, .int .i64 a, .int .i64 b, .int .i64 c, .string t, .string u]] w fun e w' => e = .returned (.agg #[.int .i64 (0), .int .i64 (1), .int .i64 0, .string ⟨#[]⟩]) ∧ JR w' N X (acc) (rs) ∧ FrT [43, 55, 65] N w w' := by
  have HJ : Hid (JR w N X acc rs) := h
  have HW : Hid (Wf rs) := hw
  clear h hw
  obtain ⟨hO, hA, hB, hF⟩ := three_blocks w (.cells #[.int .i64 3, .int .i64 a, .int .i64 b, .int .i64 c, .string t, .string u] 51) zAns zAns
  unfold zAns at hA hB
  go_enter Try.func39, Try.ntmps39
  go_wp2_with fail
  unfold zAns at hO hF
  generalize hW : ((w.alloc _).alloc _).alloc _ = W at hO hA hB hF ⊢
  have HJW : Hid (JR W N X acc rs) := HJ.out.keep0 hF
  have hNW : N ≤ W.heap.size := by have := hF.size; omega
  obtain ⟨S, sl, h1, h2⟩ := HJW.out
  go_at_call 29
  refine (mcheck_any h1 HW.out).mono ?_
  rintro e w1 ⟨rfl, ho⟩
  have HJ1 : Hid (JR w1 N X (acc) (rs)) := HJW.out.keep0 ho
  have HT1 : Hid (FrT [43, 55, 65] N W w1) := FrT.of0 ho
  clear ho h1 h2
  have hA1 := HT1.out.keep hA (by simp)
  have hB1 := HT1.out.keep hB (by simp)
  have a0 := blk_cell hA1 0
  have b0 := blk_cell hB1 0
  have g0 := blk_frozen hA1 0
  have k0 := blk_frozen hB1 0
  have a1 := blk_cell hA1 1
  have b1 := blk_cell hB1 1
  have g1 := blk_frozen hA1 1
  have k1 := blk_frozen hB1 1
  have a2 := blk_cell hA1 2
  have b2 := blk_cell hB1 2
  have g2 := blk_frozen hA1 2
  have k2 := blk_frozen hB1 2
  have a3 := blk_cell hA1 3
  have b3 := blk_cell hB1 3
  have g3 := blk_frozen hA1 3
  have k3 := blk_frozen hB1 3
  simp at a0 a1 a2 a3 b0 b1 b2 b3
  have HT : Hid (∀ Wf, Fr [w.heap.size + 1, w.heap.size + 2] w1 Wf → FrT [43, 55, 65] N w Wf ∧ FrT [48] N w1 Wf) := fun Wf hf => tail48 hN hF HT1.out hA1 hB1 hf
  clear hA1 hB1 hA hB hF hW hO HJW HT1
  go_wp2
  refine bodyPost_ret (v := .agg #[.int .i64 (0), .int .i64 (1), .int .i64 0, .string ⟨#[]⟩]) (by simp [results, Try.results39, go_sem, a0, a1, a2, a3]) rfl ⟨rfl, ?_, ?_⟩
  · refine HJ1.out.keepT (HT.out _ ?hfr).2 (by decide)
    case hfr =>
      repeat first
        | with_reducible exact Fr.refl _ _
        | (with_reducible refine Fr.setCell ?_ (Or.inl ?mem) _; case mem => simp)
  · refine (HT.out _ ?hfr).1
    case hfr =>
      repeat first
        | with_reducible exact Fr.refl _ _
        | (with_reducible refine Fr.setCell ?_ (Or.inl ?mem) _; case mem => simp)

set_option maxHeartbeats 3200000 in
set_option maxRecDepth 100000 in
theorem do_none {w : World} {N X : Nat} {acc : Int} {rs : List Code} {a b c : Int} {t u : ByteArray} {k : Int} (k1 : (k == 1) = false) (k2 : (k == 2) = false) (k3 : (k == 3) = false) (h : JR w N X acc rs) (hw : Wf rs) (hN : N ≤ w.heap.size) :
    Calls Try.prog 39 #[.pointer (some ⟨X, 0, none⟩), .agg #[.int .i64 k, .int .i64 a, .int .i64 b, .int .i64 c, .string t, .string u]] w fun e w' => e = .returned (.agg #[.int .i64 (0), .int .i64 (0), .int .i64 0, .string ⟨#[]⟩]) ∧ JR w' N X (acc) (rs) ∧ FrT [43, 55, 65] N w w' := by
  have HJ : Hid (JR w N X acc rs) := h
  have HW : Hid (Wf rs) := hw
  clear h hw
  obtain ⟨hO, hA, hB, hF⟩ := three_blocks w (.cells #[.int .i64 k, .int .i64 a, .int .i64 b, .int .i64 c, .string t, .string u] 51) zAns zAns
  unfold zAns at hA hB
  have HF : Hid _ := hF
  have HA : Hid _ := hA
  have HB : Hid _ := hB
  clear hO hA hB hF
  go_enter Try.func39, Try.ntmps39
  go_wp2
  refine bodyPost_ret (v := .agg #[.int .i64 (0), .int .i64 (0), .int .i64 0, .string ⟨#[]⟩]) (by simp [results, Try.results39, go_sem]) rfl ⟨rfl, HJ.out.keep0 (((Fr.refl [] w).alloc _).alloc _ |>.alloc _), FrT.of0 (((Fr.refl [] w).alloc _).alloc _ |>.alloc _)⟩

set_option maxHeartbeats 3200000 in
set_option maxRecDepth 100000 in
theorem dom_run {w : World} {N Y : Nat} {acc : Int} {rs : List Code} {a b c : Int} {t u : ByteArray} (h : JM w N Y acc rs) (hw : Wf rs) (hN : N ≤ w.heap.size) :
    Calls Try.prog 40 #[.pointer (some ⟨Y, 0, none⟩), .agg #[.int .i64 1, .int .i64 a, .int .i64 b, .int .i64 c, .string t, .string u]] w fun e w' => e = .returned (.agg #[.int .i64 ((run t acc rs).2.1), .int .i64 ((run t acc rs).1), .int .i64 0, .string ⟨#[]⟩]) ∧ JM w' N Y ((run t acc rs).2.2.1) ((run t acc rs).2.2.2) ∧ FrT [70, 105, 119] N w w' := by
  have HJ : Hid (JM w N Y acc rs) := h
  have HW : Hid (Wf rs) := hw
  clear h hw
  obtain ⟨hO, hA, hB, hF⟩ := three_blocks w (.cells #[.int .i64 1, .int .i64 a, .int .i64 b, .int .i64 c, .string t, .string u] 51) zAns zAns
  unfold zAns at hA hB
  go_enter Try.func40, Try.ntmps40
  go_wp2_with fail
  unfold zAns at hO hF
  generalize hW : ((w.alloc _).alloc _).alloc _ = W at hO hA hB hF ⊢
  have HJW : Hid (JM W N Y acc rs) := HJ.out.keep0 hF
  have hNW : N ≤ W.heap.size := by have := hF.size; omega
  obtain ⟨m, sl, vs, h1, h2⟩ := HJW.out
  go_at_call 61
  refine (mrun_any h1 HW.out t).mono ?_
  rintro e w1 ⟨rfl, ho⟩
  have hnx := JM.next h1 h2 hNW ho
  have HJ1 : Hid (JM w1 N Y ((run t acc rs).2.2.1) ((run t acc rs).2.2.2)) := hnx.1
  have HT1 : Hid (FrT [70, 105, 119] N W w1) := hnx.2
  clear hnx ho h1 h2
  have hA1 := HT1.out.keep hA (by simp)
  have hB1 := HT1.out.keep hB (by simp)
  have a0 := blk_cell hA1 0
  have b0 := blk_cell hB1 0
  have g0 := blk_frozen hA1 0
  have k0 := blk_frozen hB1 0
  have a1 := blk_cell hA1 1
  have b1 := blk_cell hB1 1
  have g1 := blk_frozen hA1 1
  have k1 := blk_frozen hB1 1
  have a2 := blk_cell hA1 2
  have b2 := blk_cell hB1 2
  have g2 := blk_frozen hA1 2
  have k2 := blk_frozen hB1 2
  have a3 := blk_cell hA1 3
  have b3 := blk_cell hB1 3
  have g3 := blk_frozen hA1 3
  have k3 := blk_frozen hB1 3
  simp at a0 a1 a2 a3 b0 b1 b2 b3
  have HT : Hid (∀ Wf, Fr [w.heap.size + 1, w.heap.size + 2] w1 Wf → FrT [70, 105, 119] N w Wf ∧ FrT [48] N w1 Wf) := fun Wf hf => tail48 hN hF HT1.out hA1 hB1 hf
  clear hA1 hB1 hA hB hF hW hO HJW HT1
  go_wp2
  refine bodyPost_ret (v := .agg #[.int .i64 ((run t acc rs).2.1), .int .i64 ((run t acc rs).1), .int .i64 0, .string ⟨#[]⟩]) (by simp [results, Try.results40, go_sem, a0, a1, a2, a3]) rfl ⟨rfl, ?_, ?_⟩
  · refine HJ1.out.keepT (HT.out _ ?hfr).2 (by decide)
    case hfr =>
      repeat first
        | with_reducible exact Fr.refl _ _
        | (with_reducible refine Fr.setCell ?_ (Or.inl ?mem) _; case mem => simp)
  · refine (HT.out _ ?hfr).1
    case hfr =>
      repeat first
        | with_reducible exact Fr.refl _ _
        | (with_reducible refine Fr.setCell ?_ (Or.inl ?mem) _; case mem => simp)

set_option maxHeartbeats 3200000 in
set_option maxRecDepth 100000 in
theorem dom_show {w : World} {N Y : Nat} {acc : Int} {rs : List Code} {a b c : Int} {t u : ByteArray} (h : JM w N Y acc rs) (hw : Wf rs) (hN : N ≤ w.heap.size) :
    Calls Try.prog 40 #[.pointer (some ⟨Y, 0, none⟩), .agg #[.int .i64 2, .int .i64 a, .int .i64 b, .int .i64 c, .string t, .string u]] w fun e w' => e = .returned (.agg #[.int .i64 (0), .int .i64 (0), .int .i64 0, .string (showM acc rs)]) ∧ JM w' N Y (acc) (rs) ∧ FrT [70, 105, 119] N w w' := by
  have HJ : Hid (JM w N Y acc rs) := h
  have HW : Hid (Wf rs) := hw
  clear h hw
  obtain ⟨hO, hA, hB, hF⟩ := three_blocks w (.cells #[.int .i64 2, .int .i64 a, .int .i64 b, .int .i64 c, .string t, .string u] 51) zAns zAns
  unfold zAns at hA hB
  go_enter Try.func40, Try.ntmps40
  go_wp2_with fail
  unfold zAns at hO hF
  generalize hW : ((w.alloc _).alloc _).alloc _ = W at hO hA hB hF ⊢
  have HJW : Hid (JM W N Y acc rs) := HJ.out.keep0 hF
  have hNW : N ≤ W.heap.size := by have := hF.size; omega
  obtain ⟨m, sl, vs, h1, h2⟩ := HJW.out
  go_at_call 59
  refine (mmshow_any h1 HW.out).mono ?_
  rintro e w1 ⟨rfl, ho⟩
  have HJ1 : Hid (JM w1 N Y (acc) (rs)) := HJW.out.keep0 ho
  have HT1 : Hid (FrT [70, 105, 119] N W w1) := FrT.of0 ho
  clear ho h1 h2
  have hA1 := HT1.out.keep hA (by simp)
  have hB1 := HT1.out.keep hB (by simp)
  have a0 := blk_cell hA1 0
  have b0 := blk_cell hB1 0
  have g0 := blk_frozen hA1 0
  have k0 := blk_frozen hB1 0
  have a1 := blk_cell hA1 1
  have b1 := blk_cell hB1 1
  have g1 := blk_frozen hA1 1
  have k1 := blk_frozen hB1 1
  have a2 := blk_cell hA1 2
  have b2 := blk_cell hB1 2
  have g2 := blk_frozen hA1 2
  have k2 := blk_frozen hB1 2
  have a3 := blk_cell hA1 3
  have b3 := blk_cell hB1 3
  have g3 := blk_frozen hA1 3
  have k3 := blk_frozen hB1 3
  simp at a0 a1 a2 a3 b0 b1 b2 b3
  have HT : Hid (∀ Wf, Fr [w.heap.size + 1, w.heap.size + 2] w1 Wf → FrT [70, 105, 119] N w Wf ∧ FrT [48] N w1 Wf) := fun Wf hf => tail48 hN hF HT1.out hA1 hB1 hf
  clear hA1 hB1 hA hB hF hW hO HJW HT1
  go_wp2
  refine bodyPost_ret (v := .agg #[.int .i64 (0), .int .i64 (0), .int .i64 0, .string (showM acc rs)]) (by simp [results, Try.results40, go_sem, a0, a1, a2, a3]) rfl ⟨rfl, ?_, ?_⟩
  · refine HJ1.out.keepT (HT.out _ ?hfr).2 (by decide)
    case hfr =>
      repeat first
        | with_reducible exact Fr.refl _ _
        | (with_reducible refine Fr.setCell ?_ (Or.inl ?mem) _; case mem => simp)
  · refine (HT.out _ ?hfr).1
    case hfr =>
      repeat first
        | with_reducible exact Fr.refl _ _
        | (with_reducible refine Fr.setCell ?_ (Or.inl ?mem) _; case mem => simp)

set_option maxHeartbeats 3200000 in
set_option maxRecDepth 100000 in
theorem dom_check {w : World} {N Y : Nat} {acc : Int} {rs : List Code} {a b c : Int} {t u : ByteArray} (h : JM w N Y acc rs) (hw : Wf rs) (hN : N ≤ w.heap.size) :
    Calls Try.prog 40 #[.pointer (some ⟨Y, 0, none⟩), .agg #[.int .i64 3, .int .i64 a, .int .i64 b, .int .i64 c, .string t, .string u]] w fun e w' => e = .returned (.agg #[.int .i64 (0), .int .i64 (1), .int .i64 0, .string ⟨#[]⟩]) ∧ JM w' N Y (acc) (rs) ∧ FrT [70, 105, 119] N w w' := by
  have HJ : Hid (JM w N Y acc rs) := h
  have HW : Hid (Wf rs) := hw
  clear h hw
  obtain ⟨hO, hA, hB, hF⟩ := three_blocks w (.cells #[.int .i64 3, .int .i64 a, .int .i64 b, .int .i64 c, .string t, .string u] 51) zAns zAns
  unfold zAns at hA hB
  go_enter Try.func40, Try.ntmps40
  go_wp2_with fail
  unfold zAns at hO hF
  generalize hW : ((w.alloc _).alloc _).alloc _ = W at hO hA hB hF ⊢
  have HJW : Hid (JM W N Y acc rs) := HJ.out.keep0 hF
  have hNW : N ≤ W.heap.size := by have := hF.size; omega
  obtain ⟨m, sl, vs, h1, h2⟩ := HJW.out
  go_at_call 60
  refine (mmcheck_any h1 HW.out).mono ?_
  rintro e w1 ⟨rfl, ho⟩
  have HJ1 : Hid (JM w1 N Y (acc) (rs)) := HJW.out.keep0 ho
  have HT1 : Hid (FrT [70, 105, 119] N W w1) := FrT.of0 ho
  clear ho h1 h2
  have hA1 := HT1.out.keep hA (by simp)
  have hB1 := HT1.out.keep hB (by simp)
  have a0 := blk_cell hA1 0
  have b0 := blk_cell hB1 0
  have g0 := blk_frozen hA1 0
  have k0 := blk_frozen hB1 0
  have a1 := blk_cell hA1 1
  have b1 := blk_cell hB1 1
  have g1 := blk_frozen hA1 1
  have k1 := blk_frozen hB1 1
  have a2 := blk_cell hA1 2
  have b2 := blk_cell hB1 2
  have g2 := blk_frozen hA1 2
  have k2 := blk_frozen hB1 2
  have a3 := blk_cell hA1 3
  have b3 := blk_cell hB1 3
  have g3 := blk_frozen hA1 3
  have k3 := blk_frozen hB1 3
  simp at a0 a1 a2 a3 b0 b1 b2 b3
  have HT : Hid (∀ Wf, Fr [w.heap.size + 1, w.heap.size + 2] w1 Wf → FrT [70, 105, 119] N w Wf ∧ FrT [48] N w1 Wf) := fun Wf hf => tail48 hN hF HT1.out hA1 hB1 hf
  clear hA1 hB1 hA hB hF hW hO HJW HT1
  go_wp2
  refine bodyPost_ret (v := .agg #[.int .i64 (0), .int .i64 (1), .int .i64 0, .string ⟨#[]⟩]) (by simp [results, Try.results40, go_sem, a0, a1, a2, a3]) rfl ⟨rfl, ?_, ?_⟩
  · refine HJ1.out.keepT (HT.out _ ?hfr).2 (by decide)
    case hfr =>
      repeat first
        | with_reducible exact Fr.refl _ _
        | (with_reducible refine Fr.setCell ?_ (Or.inl ?mem) _; case mem => simp)
  · refine (HT.out _ ?hfr).1
    case hfr =>
      repeat first
        | with_reducible exact Fr.refl _ _
        | (with_reducible refine Fr.setCell ?_ (Or.inl ?mem) _; case mem => simp)

set_option maxHeartbeats 3200000 in
set_option maxRecDepth 100000 in
theorem dom_none {w : World} {N Y : Nat} {acc : Int} {rs : List Code} {a b c : Int} {t u : ByteArray} {k : Int} (k1 : (k == 1) = false) (k2 : (k == 2) = false) (k3 : (k == 3) = false) (h : JM w N Y acc rs) (hw : Wf rs) (hN : N ≤ w.heap.size) :
    Calls Try.prog 40 #[.pointer (some ⟨Y, 0, none⟩), .agg #[.int .i64 k, .int .i64 a, .int .i64 b, .int .i64 c, .string t, .string u]] w fun e w' => e = .returned (.agg #[.int .i64 (0), .int .i64 (0), .int .i64 0, .string ⟨#[]⟩]) ∧ JM w' N Y (acc) (rs) ∧ FrT [70, 105, 119] N w w' := by
  have HJ : Hid (JM w N Y acc rs) := h
  have HW : Hid (Wf rs) := hw
  clear h hw
  obtain ⟨hO, hA, hB, hF⟩ := three_blocks w (.cells #[.int .i64 k, .int .i64 a, .int .i64 b, .int .i64 c, .string t, .string u] 51) zAns zAns
  unfold zAns at hA hB
  have HF : Hid _ := hF
  have HA : Hid _ := hA
  have HB : Hid _ := hB
  clear hO hA hB hF
  go_enter Try.func40, Try.ntmps40
  go_wp2
  refine bodyPost_ret (v := .agg #[.int .i64 (0), .int .i64 (0), .int .i64 0, .string ⟨#[]⟩]) (by simp [results, Try.results40, go_sem]) rfl ⟨rfl, HJ.out.keep0 (((Fr.refl [] w).alloc _).alloc _ |>.alloc _), FrT.of0 (((Fr.refl [] w).alloc _).alloc _ |>.alloc _)⟩


theorem do_any {w : World} {N X : Nat} {acc : Int} {rs : List Code} (o : OpT) (h : JR w N X acc rs) (hw : Wf rs) (hN : N ≤ w.heap.size) :
    Calls Try.prog 39 #[.pointer (some ⟨X, 0, none⟩), o.val] w fun e w' => e = .returned (ansV acc rs o) ∧ JR w' N X (nA acc rs o) (nR acc rs o) ∧ FrT [43, 55, 65] N w w' := by
  obtain ⟨k, a, b, c, t, u⟩ := o
  unfold OpT.val ansV
  by_cases h1 : k = 1
  · subst h1; exact do_run h hw hN
  by_cases h2 : k = 2
  · subst h2; exact do_show h hw hN
  by_cases h3 : k = 3
  · subst h3; exact do_check h hw hN
  have := do_none (a := a) (b := b) (c := c) (t := t) (u := u) (beq_eq_false_iff_ne.2 h1) (beq_eq_false_iff_ne.2 h2) (beq_eq_false_iff_ne.2 h3) h hw hN
  simpa [aE, aN, aS, nA, nR, h1, h2, h3] using this
theorem dom_any {w : World} {N Y : Nat} {acc : Int} {rs : List Code} (o : OpT) (h : JM w N Y acc rs) (hw : Wf rs) (hN : N ≤ w.heap.size) :
    Calls Try.prog 40 #[.pointer (some ⟨Y, 0, none⟩), o.val] w fun e w' => e = .returned (ansV acc rs o) ∧ JM w' N Y (nA acc rs o) (nR acc rs o) ∧ FrT [70, 105, 119] N w w' := by
  obtain ⟨k, a, b, c, t, u⟩ := o
  unfold OpT.val ansV
  by_cases h1 : k = 1
  · subst h1; exact dom_run h hw hN
  by_cases h2 : k = 2
  · subst h2; exact dom_show h hw hN
  by_cases h3 : k = 3
  · subst h3; exact dom_check h hw hN
  have := dom_none (a := a) (b := b) (c := c) (t := t) (u := u) (beq_eq_false_iff_ne.2 h1) (beq_eq_false_iff_ne.2 h2) (beq_eq_false_iff_ne.2 h3) h hw hN
  simpa [aE, aN, aS, nA, nR, h1, h2, h3] using this

set_option maxHeartbeats 1600000 in
theorem seen_any {w : World} {N X Y : Nat} {acc : Int} {rs : List Code} (h : JR w N X acc rs) (k : JM w N Y acc rs) (hw : Wf rs) :
    Calls Try.prog 38 #[.pointer (some ⟨X, 0, none⟩), .pointer (some ⟨Y, 0, none⟩)] w fun e w' => e = .returned (.bool true) ∧ Fr [] w w' := by
  have HR : Hid (JR w N X acc rs) := h
  have HM : Hid (JM w N Y acc rs) := k
  have HW : Hid (Wf rs) := hw
  clear h k hw
  go_enter Try.func38, Try.ntmps38
  go_wp2_with fail
  go_at_call 28
  obtain ⟨S, sl, h1, h2⟩ := HR.out
  refine (mshow_any h1 HW.out).mono ?_
  rintro e w1 ⟨rfl, hf1⟩
  clear h1 h2
  go_wp2_with fail
  go_at_call 59
  obtain ⟨m, sl', vs, h1, h2⟩ := HM.out.keep0 hf1
  refine (mmshow_any h1 HW.out).mono ?_
  rintro e w2 ⟨rfl, hf2⟩
  clear h1 h2
  go_wp2_with fail
  go_at_call 29
  obtain ⟨S3, sl3, h1, h2⟩ := HR.out.keep0 (hf1.trans hf2)
  refine (mcheck_any h1 HW.out).mono ?_
  rintro e w3 ⟨rfl, hf3⟩
  clear h1 h2
  go_wp2_with fail
  go_at_call 60
  obtain ⟨m4, sl4, vs4, h1, h2⟩ := HM.out.keep0 ((hf1.trans hf2).trans hf3)
  refine (mmcheck_any h1 HW.out).mono ?_
  rintro e w4 ⟨rfl, hf4⟩
  clear h1 h2
  generalize showM acc rs = T
  go_wp2
  go_ret
  exact ⟨by simp, ((hf1.trans hf2).trans hf3).trans hf4⟩

theorem eq_ansRd (d : Nat) (W : World) (e a b : Int) (s : ByteArray) :
    (Op.equalIn (d + 3) 48 (.agg #[.int .i64 e, .int .i64 a, .int .i64 b, .string s]) (.agg #[.int .i64 e, .int .i64 a, .int .i64 b, .string s])).run Try.prog W = .ok true W := by
  rw [Op.equalIn]
  simp only [Sem.run_bind, run_underlying Try.underlying48, Result.andThen_ok]
  have hst : Try.prog.stoodInHeld 48 = false := by kernel_rfl
  simp [go_sem, hst]
theorem eq_ansR (W : World) (e a b : Int) (s : ByteArray) :
    (Op.equalIn 10000 48 (.agg #[.int .i64 e, .int .i64 a, .int .i64 b, .string s]) (.agg #[.int .i64 e, .int .i64 a, .int .i64 b, .string s])).run Try.prog W = .ok true W := eq_ansRd 9997 W e a b s
end Go.Proofs.Qxb6500336a
