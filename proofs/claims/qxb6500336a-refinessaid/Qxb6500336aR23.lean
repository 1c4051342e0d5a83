import Derived.Test.Qxb6500336aR22
import Derived.Test.Qxb6500336aR14
namespace Go.Proofs.Qxb6500336a
open Go.RowKit
set_option linter.unusedVariables false
set_option linter.unusedSimpArgs false

/-- What one word of the model leaves: the width counts only if there is no error. -/
def SOutM (w : World) (M m : Nat) (sl : Value) (r : Int × Int × Int × List Code) (e : Ending) (w' : World) : Prop :=
  ∃ wd : Int, e = .returned (.tuple #[.int .i64 wd, .int .i64 r.2.1]) ∧ (r.2.1 = 0 → wd = r.1) ∧ ZOut w M m sl r.2.2.1 r.2.2.2 w'
theorem mnew58 {w : World} : Calls Try.prog 58 #[] w fun e w' => ∃ q, e = .returned (.pointer (some ⟨q, 0, none⟩)) ∧ w.heap.size ≤ q ∧ w'.heap[q]? = some (.cells #[.slice none 0 0] 105) ∧ Fr [] w w' := by
  refine mnewS_any.mono ?_
  rintro e w' ⟨rfl, rfl⟩
  exact ⟨_, rfl, Nat.le_refl _, blk_new _ _, (Fr.refl [] w).alloc _⟩
theorem ZOut.fresh {w w1 : World} {M m q : Nat} {sl : Value} {acc : Int} {rs : List Code} {vs : List (List Value)} (h : Mm w M m sl acc rs vs) (hf : Fr [] w w1) (hq : w.heap.size ≤ q) (hb : w1.heap[q]? = some (.cells #[.slice none 0 0] 105)) :
    ZOut w M m sl acc [] (w1.setCell ⟨M, 0, none⟩ (.pointer (some ⟨q, 0, none⟩))) := by
  have hM := blk_lt h.obj
  refine ⟨q, .slice none 0 0, [], ⟨?_, Mt.new (blk_set_far hb _ _ (by show q ≠ M; omega)), h.a64⟩, ?_, ?_⟩
  · have := blk_set (hf.keep h.obj (by simp)) 0 (.pointer (some ⟨q, 0, none⟩))
    simpa using this
  · exact hf.widen.setCell (Or.inl (by simp)) _
  · intro b hb
    simp [Oa, Value.ownBlock] at hb
    right; omega
theorem ZOut.frl {a b c : World} {M m : Nat} {sl : Value} {acc : Int} {rs : List Code} (h : MZ a b M m sl m sl) (k : ZOut b M m sl acc rs c) : ZOut a M m sl acc rs c := by
  obtain ⟨m', sl', vs', h1, h2⟩ := k
  exact ⟨m', sl', vs', h1, h.trans h2⟩

set_option maxHeartbeats 3200000 in
set_option maxRecDepth 100000 in
theorem mstep_add {w : World} {M m : Nat} {sl : Value} {acc : Int} {rs : List Code} {vs : List (List Value)} (h : Mm w M m sl acc rs vs) (hw : Wf rs) (p : ByteArray) (hp : p.size ≤ 24) (i : Nat) (hi : i < p.size) (hc : bt p i = 97) :
    Calls Try.prog 77 #[.pointer (some ⟨M, 0, none⟩), .string p, .int .i64 i] w (SOutM w M m sl (stepP p i acc rs)) := by
  have H : Hid (Mm w M m sl acc rs vs) := h
  have HW : Hid (Wf rs) := hw
  have c0 := blk_cell h.obj 0
  have c1 := blk_cell h.obj 1
  have f0 := blk_frozen h.obj 0
  have f1 := blk_frozen h.obj 1
  simp at c0 c1
  have hb := bt_at hi
  have es : stepP p i acc rs = (1, (addW rs).1, acc, (addW rs).2) := by unfold stepP; rw [hc]; rfl
  rw [es]
  rw [hc] at hb
  clear h hw es hc
  go_enter Try.func77, Try.ntmps77
  go_wp2_with (go_at_call 88; refine (madd_any H.out.st HW.out).mono ?_; rintro e w2 ⟨rfl, sl2, vs2, h2, m2⟩)
  go_ret2
  exact ⟨1, rfl, fun _ => rfl, ZOut.of H.out h2 m2⟩
set_option maxHeartbeats 3200000 in
set_option maxRecDepth 100000 in
theorem mstep_cons {w : World} {M m : Nat} {sl : Value} {acc : Int} {rs : List Code} {vs : List (List Value)} (h : Mm w M m sl acc rs vs) (hw : Wf rs) (p : ByteArray) (hp : p.size ≤ 24) (i : Nat) (hi : i < p.size) (hc : bt p i = 99) :
    Calls Try.prog 77 #[.pointer (some ⟨M, 0, none⟩), .string p, .int .i64 i] w (SOutM w M m sl (stepP p i acc rs)) := by
  have H : Hid (Mm w M m sl acc rs vs) := h
  have HW : Hid (Wf rs) := hw
  have c0 := blk_cell h.obj 0
  have c1 := blk_cell h.obj 1
  have f0 := blk_frozen h.obj 0
  have f1 := blk_frozen h.obj 1
  simp at c0 c1
  have hb := bt_at hi
  have es : stepP p i acc rs = (1, (consW rs).1, acc, (consW rs).2) := by unfold stepP; rw [hc]; rfl
  rw [es]
  rw [hc] at hb
  clear h hw es hc
  go_enter Try.func77, Try.ntmps77
  go_wp2_with (go_at_call 89; refine (mcons_any H.out.st HW.out).mono ?_; rintro e w2 ⟨rfl, sl2, vs2, h2, m2⟩)
  go_ret2
  exact ⟨1, rfl, fun _ => rfl, ZOut.of H.out h2 m2⟩
set_option maxHeartbeats 3200000 in
set_option maxRecDepth 100000 in
theorem mstep_dup {w : World} {M m : Nat} {sl : Value} {acc : Int} {rs : List Code} {vs : List (List Value)} (h : Mm w M m sl acc rs vs) (hw : Wf rs) (p : ByteArray) (hp : p.size ≤ 24) (i : Nat) (hi : i < p.size) (hc : bt p i = 100) :
    Calls Try.prog 77 #[.pointer (some ⟨M, 0, none⟩), .string p, .int .i64 i] w (SOutM w M m sl (stepP p i acc rs)) := by
  have H : Hid (Mm w M m sl acc rs vs) := h
  have HW : Hid (Wf rs) := hw
  have c0 := blk_cell h.obj 0
  have c1 := blk_cell h.obj 1
  have f0 := blk_frozen h.obj 0
  have f1 := blk_frozen h.obj 1
  simp at c0 c1
  have hb := bt_at hi
  have es : stepP p i acc rs = (1, (dupW rs).1, acc, (dupW rs).2) := by unfold stepP; rw [hc]; rfl
  rw [es]
  rw [hc] at hb
  clear h hw es hc
  go_enter Try.func77, Try.ntmps77
  go_wp2_with (go_at_call 90; refine (mdup_any H.out.st HW.out).mono ?_; rintro e w2 ⟨rfl, sl2, vs2, h2, m2⟩)
  go_ret2
  exact ⟨1, rfl, fun _ => rfl, ZOut.of H.out h2 m2⟩
set_option maxHeartbeats 3200000 in
set_option maxRecDepth 100000 in
theorem mstep_find {w : World} {M m : Nat} {sl : Value} {acc : Int} {rs : List Code} {vs : List (List Value)} (h : Mm w M m sl acc rs vs) (hw : Wf rs) (p : ByteArray) (hp : p.size ≤ 24) (i : Nat) (hi : i < p.size) (hc : bt p i = 102) :
    Calls Try.prog 77 #[.pointer (some ⟨M, 0, none⟩), .string p, .int .i64 i] w (SOutM w M m sl (stepP p i acc rs)) := by
  have H : Hid (Mm w M m sl acc rs vs) := h
  have HW : Hid (Wf rs) := hw
  have c0 := blk_cell h.obj 0
  have c1 := blk_cell h.obj 1
  have f0 := blk_frozen h.obj 0
  have f1 := blk_frozen h.obj 1
  simp at c0 c1
  have hb := bt_at hi
  have es : stepP p i acc rs = (1, (findW rs).1, acc, (findW rs).2) := by unfold stepP; rw [hc]; rfl
  rw [es]
  rw [hc] at hb
  clear h hw es hc
  go_enter Try.func77, Try.ntmps77
  go_wp2_with (go_at_call 91; refine (mfind_any H.out.st HW.out).mono ?_; rintro e w2 ⟨rfl, sl2, vs2, h2, m2⟩)
  go_ret2
  exact ⟨1, rfl, fun _ => rfl, ZOut.of H.out h2 m2⟩
set_option maxHeartbeats 3200000 in
set_option maxRecDepth 100000 in
theorem mstep_len {w : World} {M m : Nat} {sl : Value} {acc : Int} {rs : List Code} {vs : List (List Value)} (h : Mm w M m sl acc rs vs) (hw : Wf rs) (p : ByteArray) (hp : p.size ≤ 24) (i : Nat) (hi : i < p.size) (hc : bt p i = 108) :
    Calls Try.prog 77 #[.pointer (some ⟨M, 0, none⟩), .string p, .int .i64 i] w (SOutM w M m sl (stepP p i acc rs)) := by
  have H : Hid (Mm w M m sl acc rs vs) := h
  have HW : Hid (Wf rs) := hw
  have c0 := blk_cell h.obj 0
  have c1 := blk_cell h.obj 1
  have f0 := blk_frozen h.obj 0
  have f1 := blk_frozen h.obj 1
  simp at c0 c1
  have hb := bt_at hi
  have es : stepP p i acc rs = (1, (lenW rs).1, acc, (lenW rs).2) := by unfold stepP; rw [hc]; rfl
  rw [es]
  rw [hc] at hb
  clear h hw es hc
  go_enter Try.func77, Try.ntmps77
  go_wp2_with (go_at_call 92; refine (mlen_any H.out.st HW.out).mono ?_; rintro e w2 ⟨rfl, sl2, vs2, h2, m2⟩)
  go_ret2
  exact ⟨1, rfl, fun _ => rfl, ZOut.of H.out h2 m2⟩
set_option maxHeartbeats 3200000 in
set_option maxRecDepth 100000 in
theorem mstep_neg {w : World} {M m : Nat} {sl : Value} {acc : Int} {rs : List Code} {vs : List (List Value)} (h : Mm w M m sl acc rs vs) (hw : Wf rs) (p : ByteArray) (hp : p.size ≤ 24) (i : Nat) (hi : i < p.size) (hc : bt p i = 110) :
    Calls Try.prog 77 #[.pointer (some ⟨M, 0, none⟩), .string p, .int .i64 i] w (SOutM w M m sl (stepP p i acc rs)) := by
  have H : Hid (Mm w M m sl acc rs vs) := h
  have HW : Hid (Wf rs) := hw
  have c0 := blk_cell h.obj 0
  have c1 := blk_cell h.obj 1
  have f0 := blk_frozen h.obj 0
  have f1 := blk_frozen h.obj 1
  simp at c0 c1
  have hb := bt_at hi
  have es : stepP p i acc rs = (1, (negW rs).1, acc, (negW rs).2) := by unfold stepP; rw [hc]; rfl
  rw [es]
  rw [hc] at hb
  clear h hw es hc
  go_enter Try.func77, Try.ntmps77
  go_wp2_with (go_at_call 93; refine (mneg_any H.out.st HW.out).mono ?_; rintro e w2 ⟨rfl, sl2, vs2, h2, m2⟩)
  go_ret2
  exact ⟨1, rfl, fun _ => rfl, ZOut.of H.out h2 m2⟩
set_option maxHeartbeats 3200000 in
set_option maxRecDepth 100000 in
theorem mstep_pair {w : World} {M m : Nat} {sl : Value} {acc : Int} {rs : List Code} {vs : List (List Value)} (h : Mm w M m sl acc rs vs) (hw : Wf rs) (p : ByteArray) (hp : p.size ≤ 24) (i : Nat) (hi : i < p.size) (hc : bt p i = 112) :
    Calls Try.prog 77 #[.pointer (some ⟨M, 0, none⟩), .string p, .int .i64 i] w (SOutM w M m sl (stepP p i acc rs)) := by
  have H : Hid (Mm w M m sl acc rs vs) := h
  have HW : Hid (Wf rs) := hw
  have c0 := blk_cell h.obj 0
  have c1 := blk_cell h.obj 1
  have f0 := blk_frozen h.obj 0
  have f1 := blk_frozen h.obj 1
  simp at c0 c1
  have hb := bt_at hi
  have es : stepP p i acc rs = (1, (pairW rs).1, acc, (pairW rs).2) := by unfold stepP; rw [hc]; rfl
  rw [es]
  rw [hc] at hb
  clear h hw es hc
  go_enter Try.func77, Try.ntmps77
  go_wp2_with (go_at_call 94; refine (mpair_any H.out.st HW.out).mono ?_; rintro e w2 ⟨rfl, sl2, vs2, h2, m2⟩)
  go_ret2
  exact ⟨1, rfl, fun _ => rfl, ZOut.of H.out h2 m2⟩
set_option maxHeartbeats 3200000 in
set_option maxRecDepth 100000 in
theorem mstep_fold {w : World} {M m : Nat} {sl : Value} {acc : Int} {rs : List Code} {vs : List (List Value)} (h : Mm w M m sl acc rs vs) (hw : Wf rs) (p : ByteArray) (hp : p.size ≤ 24) (i : Nat) (hi : i < p.size) (hc : bt p i = 115) :
    Calls Try.prog 77 #[.pointer (some ⟨M, 0, none⟩), .string p, .int .i64 i] w (SOutM w M m sl (stepP p i acc rs)) := by
  have H : Hid (Mm w M m sl acc rs vs) := h
  have HW : Hid (Wf rs) := hw
  have c0 := blk_cell h.obj 0
  have c1 := blk_cell h.obj 1
  have f0 := blk_frozen h.obj 0
  have f1 := blk_frozen h.obj 1
  simp at c0 c1
  have hb := bt_at hi
  have es : stepP p i acc rs = (1, (foldW rs).1, acc, (foldW rs).2) := by unfold stepP; rw [hc]; rfl
  rw [es]
  rw [hc] at hb
  clear h hw es hc
  go_enter Try.func77, Try.ntmps77
  go_wp2_with (go_at_call 95; refine (mfold_any H.out.st HW.out).mono ?_; rintro e w2 ⟨rfl, sl2, vs2, h2, m2⟩)
  go_ret2
  exact ⟨1, rfl, fun _ => rfl, ZOut.of H.out h2 m2⟩
set_option maxHeartbeats 3200000 in
set_option maxRecDepth 100000 in
theorem mstep_drop {w : World} {M m : Nat} {sl : Value} {acc : Int} {rs : List Code} {vs : List (List Value)} (h : Mm w M m sl acc rs vs) (hw : Wf rs) (p : ByteArray) (hp : p.size ≤ 24) (i : Nat) (hi : i < p.size) (hc : bt p i = 120) :
    Calls Try.prog 77 #[.pointer (some ⟨M, 0, none⟩), .string p, .int .i64 i] w (SOutM w M m sl (stepP p i acc rs)) := by
  have H : Hid (Mm w M m sl acc rs vs) := h
  have HW : Hid (Wf rs) := hw
  have c0 := blk_cell h.obj 0
  have c1 := blk_cell h.obj 1
  have f0 := blk_frozen h.obj 0
  have f1 := blk_frozen h.obj 1
  simp at c0 c1
  have hb := bt_at hi
  have es : stepP p i acc rs = (1, (dropW rs).1, acc, (dropW rs).2) := by unfold stepP; rw [hc]; rfl
  rw [es]
  rw [hc] at hb
  clear h hw es hc
  go_enter Try.func77, Try.ntmps77
  go_wp2_with (go_at_call 96; refine (mdrop_any H.out.st HW.out).mono ?_; rintro e w2 ⟨rfl, sl2, vs2, h2, m2⟩)
  go_ret2
  exact ⟨1, rfl, fun _ => rfl, ZOut.of H.out h2 m2⟩
set_option maxHeartbeats 3200000 in
set_option maxRecDepth 100000 in
theorem mstep_regS {w : World} {M m : Nat} {sl : Value} {acc : Int} {rs : List Code} {vs : List (List Value)} (h : Mm w M m sl acc rs vs) (hw : Wf rs) (p : ByteArray) (hp : p.size ≤ 24) (i : Nat) (hi : i < p.size) (hc : bt p i = 83) :
    Calls Try.prog 77 #[.pointer (some ⟨M, 0, none⟩), .string p, .int .i64 i] w (SOutM w M m sl (stepP p i acc rs)) := by
  have H : Hid (Mm w M m sl acc rs vs) := h
  have HW : Hid (Wf rs) := hw
  have c0 := blk_cell h.obj 0
  have c1 := blk_cell h.obj 1
  have f0 := blk_frozen h.obj 0
  have f1 := blk_frozen h.obj 1
  simp at c0 c1
  have hb := bt_at hi
  have es : stepP p i acc rs = (1, (setP acc rs).1, (setP acc rs).2.1, (setP acc rs).2.2) := by unfold stepP; rw [hc]; rfl
  rw [es]
  rw [hc] at hb
  clear h hw es hc
  go_enter Try.func77, Try.ntmps77
  go_wp2_with (go_at_call 97; refine (mreg_S H.out HW.out).mono ?_; rintro e w2 ⟨rfl, h2⟩)
  go_ret2
  exact ⟨1, rfl, fun _ => rfl, h2⟩
set_option maxHeartbeats 3200000 in
set_option maxRecDepth 100000 in
theorem mstep_regD {w : World} {M m : Nat} {sl : Value} {acc : Int} {rs : List Code} {vs : List (List Value)} (h : Mm w M m sl acc rs vs) (hw : Wf rs) (p : ByteArray) (hp : p.size ≤ 24) (i : Nat) (hi : i < p.size) (hc : bt p i = 68) :
    Calls Try.prog 77 #[.pointer (some ⟨M, 0, none⟩), .string p, .int .i64 i] w (SOutM w M m sl (stepP p i acc rs)) := by
  have H : Hid (Mm w M m sl acc rs vs) := h
  have HW : Hid (Wf rs) := hw
  have c0 := blk_cell h.obj 0
  have c1 := blk_cell h.obj 1
  have f0 := blk_frozen h.obj 0
  have f1 := blk_frozen h.obj 1
  simp at c0 c1
  have hb := bt_at hi
  have es : stepP p i acc rs = (1, (divP acc rs).1, (divP acc rs).2.1, (divP acc rs).2.2) := by unfold stepP; rw [hc]; rfl
  rw [es]
  rw [hc] at hb
  clear h hw es hc
  go_enter Try.func77, Try.ntmps77
  go_wp2_with (go_at_call 97; refine (mreg_D H.out HW.out).mono ?_; rintro e w2 ⟨rfl, h2⟩)
  go_ret2
  exact ⟨1, rfl, fun _ => rfl, h2⟩
set_option maxHeartbeats 3200000 in
set_option maxRecDepth 100000 in
theorem mstep_regM {w : World} {M m : Nat} {sl : Value} {acc : Int} {rs : List Code} {vs : List (List Value)} (h : Mm w M m sl acc rs vs) (hw : Wf rs) (p : ByteArray) (hp : p.size ≤ 24) (i : Nat) (hi : i < p.size) (hc : bt p i = 77) :
    Calls Try.prog 77 #[.pointer (some ⟨M, 0, none⟩), .string p, .int .i64 i] w (SOutM w M m sl (stepP p i acc rs)) := by
  have H : Hid (Mm w M m sl acc rs vs) := h
  have HW : Hid (Wf rs) := hw
  have c0 := blk_cell h.obj 0
  have c1 := blk_cell h.obj 1
  have f0 := blk_frozen h.obj 0
  have f1 := blk_frozen h.obj 1
  simp at c0 c1
  have hb := bt_at hi
  have es : stepP p i acc rs = (1, (modP acc rs).1, (modP acc rs).2.1, (modP acc rs).2.2) := by unfold stepP; rw [hc]; rfl
  rw [es]
  rw [hc] at hb
  clear h hw es hc
  go_enter Try.func77, Try.ntmps77
  go_wp2_with (go_at_call 97; refine (mreg_M H.out HW.out).mono ?_; rintro e w2 ⟨rfl, h2⟩)
  go_ret2
  exact ⟨1, rfl, fun _ => rfl, h2⟩
set_option maxHeartbeats 3200000 in
set_option maxRecDepth 100000 in
theorem mstep_list {w : World} {M m : Nat} {sl : Value} {acc : Int} {rs : List Code} {vs : List (List Value)} (h : Mm w M m sl acc rs vs) (hw : Wf rs) (p : ByteArray) (hp : p.size ≤ 24) (i : Nat) (hi : i < p.size) (hc : bt p i = 91) :
    Calls Try.prog 77 #[.pointer (some ⟨M, 0, none⟩), .string p, .int .i64 i] w (SOutM w M m sl (stepP p i acc rs)) := by
  have H : Hid (Mm w M m sl acc rs vs) := h
  have HW : Hid (Wf rs) := hw
  have c0 := blk_cell h.obj 0
  have c1 := blk_cell h.obj 1
  have f0 := blk_frozen h.obj 0
  have f1 := blk_frozen h.obj 1
  simp at c0 c1
  have hb := bt_at hi
  have es : stepP p i acc rs = (1, (pushW .skip rs).1, acc, (pushW .skip rs).2) := by unfold stepP; rw [hc]; rfl
  rw [es]
  rw [hc] at hb
  clear h hw es hc
  go_enter Try.func77, Try.ntmps77
  go_wp2_with (go_at_call 87; refine (mpushL H.out.st HW.out.1).mono ?_; rintro e w2 ⟨rfl, sl2, vs2, h2, m2⟩)
  go_ret2
  exact ⟨1, rfl, fun _ => rfl, ZOut.of H.out h2 m2⟩
set_option maxHeartbeats 3200000 in
set_option maxRecDepth 100000 in
theorem mstep_get {w : World} {M m : Nat} {sl : Value} {acc : Int} {rs : List Code} {vs : List (List Value)} (h : Mm w M m sl acc rs vs) (hw : Wf rs) (p : ByteArray) (hp : p.size ≤ 24) (i : Nat) (hi : i < p.size) (hc : bt p i = 71) :
    Calls Try.prog 77 #[.pointer (some ⟨M, 0, none⟩), .string p, .int .i64 i] w (SOutM w M m sl (stepP p i acc rs)) := by
  have H : Hid (Mm w M m sl acc rs vs) := h
  have HW : Hid (Wf rs) := hw
  have c0 := blk_cell h.obj 0
  have c1 := blk_cell h.obj 1
  have f0 := blk_frozen h.obj 0
  have f1 := blk_frozen h.obj 1
  simp at c0 c1
  have hb := bt_at hi
  have es : stepP p i acc rs = (1, (pushW (tI acc) rs).1, acc, (pushW (tI acc) rs).2) := by unfold stepP; rw [hc]; rfl
  rw [es]
  rw [hc] at hb
  clear h hw es hc
  go_enter Try.func77, Try.ntmps77
  go_wp2
  go_region_with (go_at_call 87; refine (Calls.frl ((Fr.refl [] w).drew) (mpushI (H.out.st.keep0 ((Fr.refl [] _).drew)) HW.out.1 H.out.a64)).mono ?_; rintro e w2 ⟨rfl, sl2, vs2, h2, m2⟩)
  all_goals
    go_wp2
    go_ret2
    exact ⟨1, rfl, fun _ => rfl, ZOut.of H.out h2 m2⟩
set_option maxHeartbeats 3200000 in
set_option maxRecDepth 100000 in
theorem mstep_new {w : World} {M m : Nat} {sl : Value} {acc : Int} {rs : List Code} {vs : List (List Value)} (h : Mm w M m sl acc rs vs) (hw : Wf rs) (p : ByteArray) (hp : p.size ≤ 24) (i : Nat) (hi : i < p.size) (hc : bt p i = 59) :
    Calls Try.prog 77 #[.pointer (some ⟨M, 0, none⟩), .string p, .int .i64 i] w (SOutM w M m sl (stepP p i acc rs)) := by
  have H : Hid (Mm w M m sl acc rs vs) := h
  have HW : Hid (Wf rs) := hw
  have c0 := blk_cell h.obj 0
  have c1 := blk_cell h.obj 1
  have f0 := blk_frozen h.obj 0
  have f1 := blk_frozen h.obj 1
  simp at c0 c1
  have hb := bt_at hi
  have es : stepP p i acc rs = (1, 0, acc, []) := by unfold stepP; rw [hc]; rfl
  rw [es]
  rw [hc] at hb
  clear h hw es hc
  go_enter Try.func77, Try.ntmps77
  go_wp2_with (go_at_call 58; refine mnew58.mono ?_; rintro e w1 ⟨q, rfl, hq, hb1, hf1⟩; have c2 := hf1.cell c0; have f2 := blk_frozen (hf1.keep H.out.obj (by simp)) 0; have HE : Hid _ := ZOut.fresh H.out hf1 hq hb1; clear hb1 hf1)
  go_ret2
  exact ⟨1, rfl, fun _ => rfl, HE.out⟩
set_option maxHeartbeats 3200000 in
set_option maxRecDepth 100000 in
theorem mstep_bang {w : World} {M m : Nat} {sl : Value} {acc : Int} {rs : List Code} {vs : List (List Value)} (h : Mm w M m sl acc rs vs) (hw : Wf rs) (p : ByteArray) (hp : p.size ≤ 24) (i : Nat) (hi : i < p.size) (hc : bt p i = 33) :
    Calls Try.prog 77 #[.pointer (some ⟨M, 0, none⟩), .string p, .int .i64 i] w (SOutM w M m sl (stepP p i acc rs)) := by
  have H : Hid (Mm w M m sl acc rs vs) := h
  have HW : Hid (Wf rs) := hw
  have c0 := blk_cell h.obj 0
  have c1 := blk_cell h.obj 1
  have f0 := blk_frozen h.obj 0
  have f1 := blk_frozen h.obj 1
  simp at c0 c1
  have hb := bt_at hi
  have es : stepP p i acc rs = (1, 0, 0, []) := by unfold stepP; rw [hc]; rfl
  rw [es]
  rw [hc] at hb
  clear h hw es hc
  go_enter Try.func77, Try.ntmps77
  have HA : Hid (Mm (w.setCell ⟨M, 1, none⟩ (.int .i64 0)) M m sl 0 rs vs) := H.out.setAcc (by unfold w64; omega)
  go_wp2_with (go_at_call 58; refine mnew58.mono ?_; rintro e w1 ⟨q, rfl, hq, hb1, hf1⟩; have c2 := blk_cell (hf1.keep HA.out.obj (by simp)) 0; have f2 := blk_frozen (hf1.keep HA.out.obj (by simp)) 0; simp at c2; have HE : Hid _ := ZOut.fresh HA.out hf1 hq hb1; clear hb1 hf1)
  go_ret2
  exact ⟨1, rfl, fun _ => rfl, ZOut.frl (MZ.setM _ _ _ _ _ _) HE.out⟩
set_option maxHeartbeats 3200000 in
set_option maxRecDepth 100000 in
theorem mstep_num {w : World} {M m : Nat} {sl : Value} {acc : Int} {rs : List Code} {vs : List (List Value)} (h : Mm w M m sl acc rs vs) (hw : Wf rs) (p : ByteArray) (hp : p.size ≤ 24) (i : Nat) (hi : i < p.size) (hc : bt p i = 35) :
    Calls Try.prog 77 #[.pointer (some ⟨M, 0, none⟩), .string p, .int .i64 i] w (SOutM w M m sl (stepP p i acc rs)) := by
  have H : Hid (Mm w M m sl acc rs vs) := h
  have HW : Hid (Wf rs) := hw
  have c0 := blk_cell h.obj 0
  have c1 := blk_cell h.obj 1
  have f0 := blk_frozen h.obj 0
  have f1 := blk_frozen h.obj 1
  simp at c0 c1
  have hb := bt_at hi
  have es : stepP p i acc rs = ((numP p i rs).1, (numP p i rs).2.1, acc, (numP p i rs).2.2) := by unfold stepP; rw [hc]; rfl
  rw [es]
  rw [hc] at hb
  clear h hw es hc
  go_enter Try.func77, Try.ntmps77
  go_wp2_with (go_at_call 86; refine (mnum_any H.out HW.out p hp i hi).mono ?_; rintro e w2 ⟨wd, rfl, h1, h2⟩)
  go_ret2
  exact ⟨wd, rfl, h1, h2⟩
set_option maxHeartbeats 3200000 in
set_option maxRecDepth 100000 in
theorem mstep_letter {w : World} {M m : Nat} {sl : Value} {acc : Int} {rs : List Code} {vs : List (List Value)} (h : Mm w M m sl acc rs vs) (hw : Wf rs) (p : ByteArray) (hp : p.size ≤ 24) (i : Nat) (hi : i < p.size) (hc : bt p i = 39) :
    Calls Try.prog 77 #[.pointer (some ⟨M, 0, none⟩), .string p, .int .i64 i] w (SOutM w M m sl (stepP p i acc rs)) := by
  have H : Hid (Mm w M m sl acc rs vs) := h
  have HW : Hid (Wf rs) := hw
  have c0 := blk_cell h.obj 0
  have c1 := blk_cell h.obj 1
  have f0 := blk_frozen h.obj 0
  have f1 := blk_frozen h.obj 1
  simp at c0 c1
  have hb := bt_at hi
  have es : stepP p i acc rs = ((letP p i rs).1, (letP p i rs).2.1, acc, (letP p i rs).2.2) := by unfold stepP; rw [hc]; rfl
  rw [es]
  rw [hc] at hb
  clear h hw es hc
  by_cases hq : i + 1 ≥ p.size
  · have e : letP p i rs = (1, 11, rs) := by unfold letP; rw [if_pos hq]
    rw [e]
    clear e
    go_enter Try.func77, Try.ntmps77
    go_wp2
    go_ret2
    exact ⟨0, rfl, (fun h => by cases h), ZOut.same H.out (Fr.refl _ _)⟩
  · have e : letP p i rs = (2, (pushW (tS (p.extract (i + 1) (i + 2))) rs).1, (pushW (tS (p.extract (i + 1) (i + 2))) rs).2) := by unfold letP; rw [if_neg hq]
    rw [e]
    have hz : (p.extract (i + 1) (i + 2)).size ≤ 6 := by simp; omega
    have HZ : Hid ((p.extract (i + 1) (i + 2)).size ≤ 6) := hz
    have b1 : i + 2 ≤ p.size := by omega
    have b2 : (i : Int) + 2 ≤ p.size := by omega
    have b3 : ¬ (p.size : Int) ≤ (i : Int) + 1 := by omega
    have hsl : ∀ W, (Instr.sliceAt 9 (.string p) (some (.int .i64 ((i : Int) + 1))) (some (.int .i64 ((i : Int) + 2))) none).run Try.prog W = .ok (.string (p.extract (i + 1) (i + 2))) W := by
      intro W
      have := run_slice_string (P := Try.prog) W 9 p .i64 .i64 ((i : Int) + 1) ((i : Int) + 2) Try.underlying9 (by omega) (by omega) (by omega)
      rw [run_sliceAt_string W 9 _ _ _ _ Try.underlying9, this, show ((i : Int) + 1).toNat = i + 1 from by omega, show ((i : Int) + 2).toNat = i + 2 from by omega]
    have hw1 : IntKind.i64.wrap ((i : Int) + 1) = (i : Int) + 1 := by simp only [IntKind.wrap, IntKind.bits, IntKind.signed]; simp; omega
    have hw2 : IntKind.i64.wrap ((i : Int) + 2) = (i : Int) + 2 := by simp only [IntKind.wrap, IntKind.bits, IntKind.signed]; simp; omega
    have ht1 : ((i : Int) + 1).toNat = i + 1 := by omega
    have ht2 : ((i : Int) + 2).toNat = i + 2 := by omega
    clear e hz
    go_enter Try.func77, Try.ntmps77
    go_wp2
    go_region_with (go_at_call 87; refine (Calls.frl ((Fr.refl [] w).drew) (mpushS (H.out.st.keep0 ((Fr.refl [] _).drew)) HW.out.1 HZ.out)).mono ?_; rintro e w2 ⟨rfl, sl2, vs2, h2, m2⟩)
    all_goals
      go_wp2
      go_ret2
      exact ⟨2, rfl, fun _ => rfl, ZOut.of H.out h2 m2⟩
set_option maxHeartbeats 3200000 in
set_option maxRecDepth 100000 in
theorem mstep_dig {w : World} {M m : Nat} {sl : Value} {acc : Int} {rs : List Code} {vs : List (List Value)} (h : Mm w M m sl acc rs vs) (hw : Wf rs) (p : ByteArray) (hp : p.size ≤ 24) (i : Nat) (hi : i < p.size) (h1 : 48 ≤ bt p i) (h2 : bt p i ≤ 57) :
    Calls Try.prog 77 #[.pointer (some ⟨M, 0, none⟩), .string p, .int .i64 i] w (SOutM w M m sl (1, (extW ((bt p i : Int) - 48) rs).1, acc, (extW ((bt p i : Int) - 48) rs).2)) := by
  have H : Hid (Mm w M m sl acc rs vs) := h
  have HW : Hid (Wf rs) := hw
  have c0 := blk_cell h.obj 0
  have c1 := blk_cell h.obj 1
  have f0 := blk_frozen h.obj 0
  have f1 := blk_frozen h.obj 1
  simp at c0 c1
  have hb := bt_at hi
  clear h hw
  generalize bt p i = c at *
  go_enter Try.func77, Try.ntmps77
  go_wp2_with (go_at_call 85; refine (mext_any H.out.st HW.out _).mono ?_; rintro e w2 ⟨rfl, sl2, vs2, h2', m2⟩)
  go_ret2
  exact ⟨1, rfl, fun _ => rfl, ZOut.of H.out h2' m2⟩
set_option maxHeartbeats 3200000 in
set_option maxRecDepth 100000 in
theorem mstep_blank {w : World} {M m : Nat} {sl : Value} {acc : Int} {rs : List Code} {vs : List (List Value)} (h : Mm w M m sl acc rs vs) (hw : Wf rs) (p : ByteArray) (hp : p.size ≤ 24) (i : Nat) (hi : i < p.size) (hc : bt p i = 32) :
    Calls Try.prog 77 #[.pointer (some ⟨M, 0, none⟩), .string p, .int .i64 i] w (SOutM w M m sl (1, 0, acc, rs)) := by
  have H : Hid (Mm w M m sl acc rs vs) := h
  have HW : Hid (Wf rs) := hw
  have c0 := blk_cell h.obj 0
  have c1 := blk_cell h.obj 1
  have f0 := blk_frozen h.obj 0
  have f1 := blk_frozen h.obj 1
  simp at c0 c1
  have hb := bt_at hi
  rw [hc] at hb
  clear h hw hc
  go_enter Try.func77, Try.ntmps77
  go_wp2
  go_ret2
  exact ⟨1, rfl, fun _ => rfl, ZOut.same H.out (Fr.refl _ _)⟩
set_option maxHeartbeats 3200000 in
set_option maxRecDepth 100000 in
theorem mstep_no {w : World} {M m : Nat} {sl : Value} {acc : Int} {rs : List Code} {vs : List (List Value)} (h : Mm w M m sl acc rs vs) (hw : Wf rs) (p : ByteArray) (hp : p.size ≤ 24) (i : Nat) (hi : i < p.size) (n32 : bt p i ≠ 32) (n35 : bt p i ≠ 35) (n39 : bt p i ≠ 39) (n91 : bt p i ≠ 91) (n97 : bt p i ≠ 97) (n99 : bt p i ≠ 99) (n100 : bt p i ≠ 100) (n102 : bt p i ≠ 102) (n108 : bt p i ≠ 108) (n110 : bt p i ≠ 110) (n112 : bt p i ≠ 112) (n115 : bt p i ≠ 115) (n120 : bt p i ≠ 120) (n83 : bt p i ≠ 83) (n68 : bt p i ≠ 68) (n77 : bt p i ≠ 77) (n71 : bt p i ≠ 71) (n33 : bt p i ≠ 33) (n59 : bt p i ≠ 59) (nd : ¬ (48 ≤ bt p i ∧ bt p i ≤ 57)) :
    Calls Try.prog 77 #[.pointer (some ⟨M, 0, none⟩), .string p, .int .i64 i] w (SOutM w M m sl (1, 9, acc, rs)) := by
  have H : Hid (Mm w M m sl acc rs vs) := h
  have HW : Hid (Wf rs) := hw
  have c0 := blk_cell h.obj 0
  have c1 := blk_cell h.obj 1
  have f0 := blk_frozen h.obj 0
  have f1 := blk_frozen h.obj 1
  simp at c0 c1
  have hb := bt_at hi
  have g32 : ((bt p i : Int) == 32) = false := by simp; omega
  have g35 : ((bt p i : Int) == 35) = false := by simp; omega
  have g39 : ((bt p i : Int) == 39) = false := by simp; omega
  have g91 : ((bt p i : Int) == 91) = false := by simp; omega
  have g97 : ((bt p i : Int) == 97) = false := by simp; omega
  have g99 : ((bt p i : Int) == 99) = false := by simp; omega
  have g100 : ((bt p i : Int) == 100) = false := by simp; omega
  have g102 : ((bt p i : Int) == 102) = false := by simp; omega
  have g108 : ((bt p i : Int) == 108) = false := by simp; omega
  have g110 : ((bt p i : Int) == 110) = false := by simp; omega
  have g112 : ((bt p i : Int) == 112) = false := by simp; omega
  have g115 : ((bt p i : Int) == 115) = false := by simp; omega
  have g120 : ((bt p i : Int) == 120) = false := by simp; omega
  have g83 : ((bt p i : Int) == 83) = false := by simp; omega
  have g68 : ((bt p i : Int) == 68) = false := by simp; omega
  have g77 : ((bt p i : Int) == 77) = false := by simp; omega
  have g71 : ((bt p i : Int) == 71) = false := by simp; omega
  have g33 : ((bt p i : Int) == 33) = false := by simp; omega
  have g59 : ((bt p i : Int) == 59) = false := by simp; omega
  have hd : bt p i < 48 ∨ 57 < bt p i := by omega
  clear h hw n32 n35 n39 n91 n97 n99 n100 n102 n108 n110 n112 n115 n120 n83 n68 n77 n71 n33 n59 nd
  generalize bt p i = c at *
  rcases hd with hd | hd
  all_goals
    go_enter Try.func77, Try.ntmps77
    go_wp2
    go_ret2
    exact ⟨0, rfl, (fun h => by cases h), ZOut.same H.out (Fr.refl _ _)⟩

theorem mstep_any {w : World} {M m : Nat} {sl : Value} {acc : Int} {rs : List Code} {vs : List (List Value)} (h : Mm w M m sl acc rs vs) (hw : Wf rs) (p : ByteArray) (hp : p.size ≤ 24) (i : Nat) (hi : i < p.size) (h32 : bt p i ≠ 32) :
    Calls Try.prog 77 #[.pointer (some ⟨M, 0, none⟩), .string p, .int .i64 i] w (SOutM w M m sl (stepP p i acc rs)) := by
  by_cases n97 : bt p i = 97
  · exact mstep_add h hw p hp i hi n97
  by_cases n99 : bt p i = 99
  · exact mstep_cons h hw p hp i hi n99
  by_cases n100 : bt p i = 100
  · exact mstep_dup h hw p hp i hi n100
  by_cases n102 : bt p i = 102
  · exact mstep_find h hw p hp i hi n102
  by_cases n108 : bt p i = 108
  · exact mstep_len h hw p hp i hi n108
  by_cases n110 : bt p i = 110
  · exact mstep_neg h hw p hp i hi n110
  by_cases n112 : bt p i = 112
  · exact mstep_pair h hw p hp i hi n112
  by_cases n115 : bt p i = 115
  · exact mstep_fold h hw p hp i hi n115
  by_cases n120 : bt p i = 120
  · exact mstep_drop h hw p hp i hi n120
  by_cases n83 : bt p i = 83
  · exact mstep_regS h hw p hp i hi n83
  by_cases n71 : bt p i = 71
  · exact mstep_get h hw p hp i hi n71
  by_cases n68 : bt p i = 68
  · exact mstep_regD h hw p hp i hi n68
  by_cases n77 : bt p i = 77
  · exact mstep_regM h hw p hp i hi n77
  by_cases nd : 48 ≤ bt p i ∧ bt p i ≤ 57
  · have e : stepP p i acc rs = (1, (extW ((bt p i : Int) - 48) rs).1, acc, (extW ((bt p i : Int) - 48) rs).2) := by
      simp [stepP, lowP, n97, n99, n100, n102, n108, n110, n112, n115, n120, n83, n71, n68, n77, nd]
    rw [e]
    exact mstep_dig h hw p hp i hi nd.1 nd.2
  by_cases n33 : bt p i = 33
  · exact mstep_bang h hw p hp i hi n33
  by_cases n59 : bt p i = 59
  · exact mstep_new h hw p hp i hi n59
  by_cases n91 : bt p i = 91
  · exact mstep_list h hw p hp i hi n91
  by_cases n35 : bt p i = 35
  · exact mstep_num h hw p hp i hi n35
  by_cases n39 : bt p i = 39
  · exact mstep_letter h hw p hp i hi n39
  have e : stepP p i acc rs = (1, 9, acc, rs) := by
    simp [stepP, lowP, n97, n99, n100, n102, n108, n110, n112, n115, n120, n83, n71, n68, n77, nd, n33, n59, n91, n35, n39]
  rw [e]
  exact mstep_no h hw p hp i hi h32 n35 n39 n91 n97 n99 n100 n102 n108 n110 n112 n115 n120 n83 n68 n77 n71 n33 n59 nd
end Go.Proofs.Qxb6500336a
