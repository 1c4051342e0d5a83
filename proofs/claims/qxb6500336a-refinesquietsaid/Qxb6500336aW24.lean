import Derived.Test.Qxb6500336aW23
namespace Go.Proofs.Qxb6500336a
open Go.RowKit
set_option linter.unusedVariables false
set_option linter.unusedSimpArgs false

def lowP (c : Nat) (rs : List Code) : Option (Int × List Code) :=
  if c = 97 then some (addW rs) else if c = 99 then some (consW rs) else if c = 100 then some (dupW rs) else if c = 102 then some (findW rs) else if c = 108 then some (lenW rs) else if c = 110 then some (negW rs) else if c = 112 then some (pairW rs) else if c = 115 then some (foldW rs) else if c = 120 then some (dropW rs) else none
/-- One word: its width, its error, the accumulator, the stack. -/
def stepP (p : ByteArray) (i : Nat) (acc : Int) (rs : List Code) : Int × Int × Int × List Code :=
  match lowP (bt p i) rs with
  | some r => (1, r.1, acc, r.2)
  | none =>
    if bt p i = 83 then (1, (setP acc rs).1, (setP acc rs).2.1, (setP acc rs).2.2)
    else if bt p i = 71 then (1, (pushW (tI acc) rs).1, acc, (pushW (tI acc) rs).2)
    else if bt p i = 68 then (1, (divP acc rs).1, (divP acc rs).2.1, (divP acc rs).2.2)
    else if bt p i = 77 then (1, (modP acc rs).1, (modP acc rs).2.1, (modP acc rs).2.2)
    else if 48 ≤ bt p i ∧ bt p i ≤ 57 then (1, (extW ((bt p i : Int) - 48) rs).1, acc, (extW ((bt p i : Int) - 48) rs).2)
    else if bt p i = 33 then (1, 0, 0, [])
    else if bt p i = 59 then (1, 0, acc, [])
    else if bt p i = 91 then (1, (pushW .skip rs).1, acc, (pushW .skip rs).2)
    else if bt p i = 35 then ((numP p i rs).1, (numP p i rs).2.1, acc, (numP p i rs).2.2)
    else if bt p i = 39 then ((letP p i rs).1, (letP p i rs).2.1, acc, (letP p i rs).2.2)
    else (1, 9, acc, rs)

def SOut (w : World) (M S : Nat) (sl : Value) (r : Int × Int × Int × List Code) (e : Ending) (w' : World) : Prop :=
  e = .returned (.tuple #[.int .i64 r.1, .int .i64 r.2.1]) ∧ MOut w M S sl r.2.1 r.2.2.1 r.2.2.2 w'

theorem nqf_nil (W : World) : (binOp .neq 40 .nilFunc .nilFunc).run Try.prog W = .ok (.bool false) W := by kernel_rfl
theorem nqf_fn (f : Nat) (W : World) : (binOp .neq 40 (.func (.func f) #[] #[]) .nilFunc).run Try.prog W = .ok (.bool true) W := by kernel_rfl
theorem eqo_nil (W : World) : (binOp .eql 57 .nilFunc .nilFunc).run Try.prog W = .ok (.bool true) W := by kernel_rfl
theorem eqo_fn (f : Nat) (W : World) : (binOp .eql 57 (.func (.func f) #[] #[]) .nilFunc).run Try.prog W = .ok (.bool false) W := by kernel_rfl

theorem own_83 (w : World) : Calls Try.prog 50 #[.int .u8 83] w fun e w' => e = .returned (.func (.func 66) #[] #[]) ∧ w' = w := by
  go_enter Try.func50, Try.ntmps50
  go_wp2
  go_ret
  exact ⟨rfl, rfl⟩
theorem own_71 (w : World) : Calls Try.prog 50 #[.int .u8 71] w fun e w' => e = .returned (.func (.func 67) #[] #[]) ∧ w' = w := by
  go_enter Try.func50, Try.ntmps50
  go_wp2
  go_ret
  exact ⟨rfl, rfl⟩
theorem own_68 (w : World) : Calls Try.prog 50 #[.int .u8 68] w fun e w' => e = .returned (.func (.func 68) #[] #[]) ∧ w' = w := by
  go_enter Try.func50, Try.ntmps50
  go_wp2
  go_ret
  exact ⟨rfl, rfl⟩
theorem own_77 (w : World) : Calls Try.prog 50 #[.int .u8 77] w fun e w' => e = .returned (.func (.func 69) #[] #[]) ∧ w' = w := by
  go_enter Try.func50, Try.ntmps50
  go_wp2
  go_ret
  exact ⟨rfl, rfl⟩
theorem own_no (w : World) (c : Nat) (h1 : c ≠ 83) (h2 : c ≠ 71) (h3 : c ≠ 68) (h4 : c ≠ 77) : Calls Try.prog 50 #[.int .u8 c] w fun e w' => e = .returned .nilFunc ∧ w' = w := by
  have g1 : ((c : Int) == 83) = false := by simp; omega
  have g2 : ((c : Int) == 71) = false := by simp; omega
  have g3 : ((c : Int) == 68) = false := by simp; omega
  have g4 : ((c : Int) == 77) = false := by simp; omega
  go_enter Try.func50, Try.ntmps50
  go_wp2
  go_ret
  exact ⟨rfl, rfl⟩

set_option maxHeartbeats 3200000 in
set_option maxRecDepth 100000 in
theorem step_add {w : World} {M S : Nat} {sl : Value} {acc : Int} {rs : List Code} (h : Mc w M S sl acc rs) (hw : Wf rs) (p : ByteArray) (hp : p.size ≤ 24) (i : Nat) (hi : i < p.size) (hc : bt p i = 97) :
    Calls Try.prog 33 #[.pointer (some ⟨M, 0, none⟩), .string p, .int .i64 i] w (SOut w M S sl (stepP p i acc rs)) := by
  have H : Hid (Mc w M S sl acc rs) := h
  have HW : Hid (Wf rs) := hw
  have c0 := blk_cell h.obj 0
  simp [mch] at c0
  have hb := bt_at hi
  have q1 := nqf_nil
  have q2 := nqf_fn
  have q3 := eqo_nil
  have q4 := eqo_fn
  have es : stepP p i acc rs = (1, (addW rs).1, acc, (addW rs).2) := by unfold stepP; rw [hc]; rfl
  rw [es]
  rw [hc] at hb
  have c1 := blk_cell h.obj 2
  simp [mch] at c1
  clear h hw es hc
  go_enter Try.func33, Try.ntmps33
  go_wp2_with (first | (go_at_call 41; refine (add_any H.out.st HW.out).mono ?_; rintro e w2 ⟨rfl, sl2, h2, m2⟩))
  go_ret2
  exact ⟨rfl, sl2, H.out.keepM m2 h2, Mw.ofMv m2⟩
set_option maxHeartbeats 3200000 in
set_option maxRecDepth 100000 in
theorem step_cons {w : World} {M S : Nat} {sl : Value} {acc : Int} {rs : List Code} (h : Mc w M S sl acc rs) (hw : Wf rs) (p : ByteArray) (hp : p.size ≤ 24) (i : Nat) (hi : i < p.size) (hc : bt p i = 99) :
    Calls Try.prog 33 #[.pointer (some ⟨M, 0, none⟩), .string p, .int .i64 i] w (SOut w M S sl (stepP p i acc rs)) := by
  have H : Hid (Mc w M S sl acc rs) := h
  have HW : Hid (Wf rs) := hw
  have c0 := blk_cell h.obj 0
  simp [mch] at c0
  have hb := bt_at hi
  have q1 := nqf_nil
  have q2 := nqf_fn
  have q3 := eqo_nil
  have q4 := eqo_fn
  have es : stepP p i acc rs = (1, (consW rs).1, acc, (consW rs).2) := by unfold stepP; rw [hc]; rfl
  rw [es]
  rw [hc] at hb
  have c1 := blk_cell h.obj 4
  simp [mch] at c1
  clear h hw es hc
  go_enter Try.func33, Try.ntmps33
  go_wp2_with (first | (go_at_call 42; refine (cons_any H.out.st HW.out).mono ?_; rintro e w2 ⟨rfl, sl2, h2, m2⟩))
  go_ret2
  exact ⟨rfl, sl2, H.out.keepM m2 h2, Mw.ofMv m2⟩
set_option maxHeartbeats 3200000 in
set_option maxRecDepth 100000 in
theorem step_dup {w : World} {M S : Nat} {sl : Value} {acc : Int} {rs : List Code} (h : Mc w M S sl acc rs) (hw : Wf rs) (p : ByteArray) (hp : p.size ≤ 24) (i : Nat) (hi : i < p.size) (hc : bt p i = 100) :
    Calls Try.prog 33 #[.pointer (some ⟨M, 0, none⟩), .string p, .int .i64 i] w (SOut w M S sl (stepP p i acc rs)) := by
  have H : Hid (Mc w M S sl acc rs) := h
  have HW : Hid (Wf rs) := hw
  have c0 := blk_cell h.obj 0
  simp [mch] at c0
  have hb := bt_at hi
  have q1 := nqf_nil
  have q2 := nqf_fn
  have q3 := eqo_nil
  have q4 := eqo_fn
  have es : stepP p i acc rs = (1, (dupW rs).1, acc, (dupW rs).2) := by unfold stepP; rw [hc]; rfl
  rw [es]
  rw [hc] at hb
  have c1 := blk_cell h.obj 5
  simp [mch] at c1
  clear h hw es hc
  go_enter Try.func33, Try.ntmps33
  go_wp2_with (first | (go_at_call 43; refine (dup_any H.out.st HW.out).mono ?_; rintro e w2 ⟨rfl, sl2, h2, m2⟩))
  go_ret2
  exact ⟨rfl, sl2, H.out.keepM m2 h2, Mw.ofMv m2⟩
set_option maxHeartbeats 3200000 in
set_option maxRecDepth 100000 in
theorem step_find {w : World} {M S : Nat} {sl : Value} {acc : Int} {rs : List Code} (h : Mc w M S sl acc rs) (hw : Wf rs) (p : ByteArray) (hp : p.size ≤ 24) (i : Nat) (hi : i < p.size) (hc : bt p i = 102) :
    Calls Try.prog 33 #[.pointer (some ⟨M, 0, none⟩), .string p, .int .i64 i] w (SOut w M S sl (stepP p i acc rs)) := by
  have H : Hid (Mc w M S sl acc rs) := h
  have HW : Hid (Wf rs) := hw
  have c0 := blk_cell h.obj 0
  simp [mch] at c0
  have hb := bt_at hi
  have q1 := nqf_nil
  have q2 := nqf_fn
  have q3 := eqo_nil
  have q4 := eqo_fn
  have es : stepP p i acc rs = (1, (findW rs).1, acc, (findW rs).2) := by unfold stepP; rw [hc]; rfl
  rw [es]
  rw [hc] at hb
  have c1 := blk_cell h.obj 7
  simp [mch] at c1
  clear h hw es hc
  go_enter Try.func33, Try.ntmps33
  go_wp2_with (first | (go_at_call 44; refine (find_any H.out.st HW.out).mono ?_; rintro e w2 ⟨rfl, sl2, h2, m2⟩))
  go_ret2
  exact ⟨rfl, sl2, H.out.keepM m2 h2, Mw.ofMv m2⟩
set_option maxHeartbeats 3200000 in
set_option maxRecDepth 100000 in
theorem step_len {w : World} {M S : Nat} {sl : Value} {acc : Int} {rs : List Code} (h : Mc w M S sl acc rs) (hw : Wf rs) (p : ByteArray) (hp : p.size ≤ 24) (i : Nat) (hi : i < p.size) (hc : bt p i = 108) :
    Calls Try.prog 33 #[.pointer (some ⟨M, 0, none⟩), .string p, .int .i64 i] w (SOut w M S sl (stepP p i acc rs)) := by
  have H : Hid (Mc w M S sl acc rs) := h
  have HW : Hid (Wf rs) := hw
  have c0 := blk_cell h.obj 0
  simp [mch] at c0
  have hb := bt_at hi
  have q1 := nqf_nil
  have q2 := nqf_fn
  have q3 := eqo_nil
  have q4 := eqo_fn
  have es : stepP p i acc rs = (1, (lenW rs).1, acc, (lenW rs).2) := by unfold stepP; rw [hc]; rfl
  rw [es]
  rw [hc] at hb
  have c1 := blk_cell h.obj 13
  simp [mch] at c1
  clear h hw es hc
  go_enter Try.func33, Try.ntmps33
  go_wp2_with (first | (go_at_call 45; refine (len_any H.out.st HW.out).mono ?_; rintro e w2 ⟨rfl, sl2, h2, m2⟩))
  go_ret2
  exact ⟨rfl, sl2, H.out.keepM m2 h2, Mw.ofMv m2⟩
set_option maxHeartbeats 3200000 in
set_option maxRecDepth 100000 in
theorem step_neg {w : World} {M S : Nat} {sl : Value} {acc : Int} {rs : List Code} (h : Mc w M S sl acc rs) (hw : Wf rs) (p : ByteArray) (hp : p.size ≤ 24) (i : Nat) (hi : i < p.size) (hc : bt p i = 110) :
    Calls Try.prog 33 #[.pointer (some ⟨M, 0, none⟩), .string p, .int .i64 i] w (SOut w M S sl (stepP p i acc rs)) := by
  have H : Hid (Mc w M S sl acc rs) := h
  have HW : Hid (Wf rs) := hw
  have c0 := blk_cell h.obj 0
  simp [mch] at c0
  have hb := bt_at hi
  have q1 := nqf_nil
  have q2 := nqf_fn
  have q3 := eqo_nil
  have q4 := eqo_fn
  have es : stepP p i acc rs = (1, (negW rs).1, acc, (negW rs).2) := by unfold stepP; rw [hc]; rfl
  rw [es]
  rw [hc] at hb
  have c1 := blk_cell h.obj 15
  simp [mch] at c1
  clear h hw es hc
  go_enter Try.func33, Try.ntmps33
  go_wp2_with (first | (go_at_call 46; refine (neg_any H.out.st HW.out).mono ?_; rintro e w2 ⟨rfl, sl2, h2, m2⟩))
  go_ret2
  exact ⟨rfl, sl2, H.out.keepM m2 h2, Mw.ofMv m2⟩
set_option maxHeartbeats 3200000 in
set_option maxRecDepth 100000 in
theorem step_pair {w : World} {M S : Nat} {sl : Value} {acc : Int} {rs : List Code} (h : Mc w M S sl acc rs) (hw : Wf rs) (p : ByteArray) (hp : p.size ≤ 24) (i : Nat) (hi : i < p.size) (hc : bt p i = 112) :
    Calls Try.prog 33 #[.pointer (some ⟨M, 0, none⟩), .string p, .int .i64 i] w (SOut w M S sl (stepP p i acc rs)) := by
  have H : Hid (Mc w M S sl acc rs) := h
  have HW : Hid (Wf rs) := hw
  have c0 := blk_cell h.obj 0
  simp [mch] at c0
  have hb := bt_at hi
  have q1 := nqf_nil
  have q2 := nqf_fn
  have q3 := eqo_nil
  have q4 := eqo_fn
  have es : stepP p i acc rs = (1, (pairW rs).1, acc, (pairW rs).2) := by unfold stepP; rw [hc]; rfl
  rw [es]
  rw [hc] at hb
  have c1 := blk_cell h.obj 17
  simp [mch] at c1
  clear h hw es hc
  go_enter Try.func33, Try.ntmps33
  go_wp2_with (first | (go_at_call 47; refine (pair_any H.out.st HW.out).mono ?_; rintro e w2 ⟨rfl, sl2, h2, m2⟩))
  go_ret2
  exact ⟨rfl, sl2, H.out.keepM m2 h2, Mw.ofMv m2⟩
set_option maxHeartbeats 3200000 in
set_option maxRecDepth 100000 in
theorem step_fold {w : World} {M S : Nat} {sl : Value} {acc : Int} {rs : List Code} (h : Mc w M S sl acc rs) (hw : Wf rs) (p : ByteArray) (hp : p.size ≤ 24) (i : Nat) (hi : i < p.size) (hc : bt p i = 115) :
    Calls Try.prog 33 #[.pointer (some ⟨M, 0, none⟩), .string p, .int .i64 i] w (SOut w M S sl (stepP p i acc rs)) := by
  have H : Hid (Mc w M S sl acc rs) := h
  have HW : Hid (Wf rs) := hw
  have c0 := blk_cell h.obj 0
  simp [mch] at c0
  have hb := bt_at hi
  have q1 := nqf_nil
  have q2 := nqf_fn
  have q3 := eqo_nil
  have q4 := eqo_fn
  have es : stepP p i acc rs = (1, (foldW rs).1, acc, (foldW rs).2) := by unfold stepP; rw [hc]; rfl
  rw [es]
  rw [hc] at hb
  have c1 := blk_cell h.obj 20
  simp [mch] at c1
  clear h hw es hc
  go_enter Try.func33, Try.ntmps33
  go_wp2_with (first | (go_at_call 48; refine (fold_any H.out.st HW.out).mono ?_; rintro e w2 ⟨rfl, sl2, h2, m2⟩))
  go_ret2
  exact ⟨rfl, sl2, H.out.keepM m2 h2, Mw.ofMv m2⟩
set_option maxHeartbeats 3200000 in
set_option maxRecDepth 100000 in
theorem step_drop {w : World} {M S : Nat} {sl : Value} {acc : Int} {rs : List Code} (h : Mc w M S sl acc rs) (hw : Wf rs) (p : ByteArray) (hp : p.size ≤ 24) (i : Nat) (hi : i < p.size) (hc : bt p i = 120) :
    Calls Try.prog 33 #[.pointer (some ⟨M, 0, none⟩), .string p, .int .i64 i] w (SOut w M S sl (stepP p i acc rs)) := by
  have H : Hid (Mc w M S sl acc rs) := h
  have HW : Hid (Wf rs) := hw
  have c0 := blk_cell h.obj 0
  simp [mch] at c0
  have hb := bt_at hi
  have q1 := nqf_nil
  have q2 := nqf_fn
  have q3 := eqo_nil
  have q4 := eqo_fn
  have es : stepP p i acc rs = (1, (dropW rs).1, acc, (dropW rs).2) := by unfold stepP; rw [hc]; rfl
  rw [es]
  rw [hc] at hb
  have c1 := blk_cell h.obj 25
  simp [mch] at c1
  clear h hw es hc
  go_enter Try.func33, Try.ntmps33
  go_wp2_with (first | (go_at_call 49; refine (drop_any H.out.st HW.out).mono ?_; rintro e w2 ⟨rfl, sl2, h2, m2⟩))
  go_ret2
  exact ⟨rfl, sl2, H.out.keepM m2 h2, Mw.ofMv m2⟩
set_option maxHeartbeats 3200000 in
set_option maxRecDepth 100000 in
theorem step_mset {w : World} {M S : Nat} {sl : Value} {acc : Int} {rs : List Code} (h : Mc w M S sl acc rs) (hw : Wf rs) (p : ByteArray) (hp : p.size ≤ 24) (i : Nat) (hi : i < p.size) (hc : bt p i = 83) :
    Calls Try.prog 33 #[.pointer (some ⟨M, 0, none⟩), .string p, .int .i64 i] w (SOut w M S sl (stepP p i acc rs)) := by
  have H : Hid (Mc w M S sl acc rs) := h
  have HW : Hid (Wf rs) := hw
  have c0 := blk_cell h.obj 0
  simp [mch] at c0
  have hb := bt_at hi
  have q1 := nqf_nil
  have q2 := nqf_fn
  have q3 := eqo_nil
  have q4 := eqo_fn
  have es : stepP p i acc rs = (1, (setP acc rs).1, (setP acc rs).2.1, (setP acc rs).2.2) := by unfold stepP; rw [hc]; rfl
  rw [es]
  rw [hc] at hb
  clear h hw es hc
  go_enter Try.func33, Try.ntmps33
  go_wp2_with (first | (go_at_call 50; refine (own_83 _).mono ?_; rintro e w1 ⟨rfl, rfl⟩) | (go_at_call 66; refine (mset_any H.out HW.out).mono ?_; rintro e w2 ⟨rfl, h2⟩))
  go_ret2
  exact ⟨rfl, h2⟩
set_option maxHeartbeats 3200000 in
set_option maxRecDepth 100000 in
theorem step_mdiv {w : World} {M S : Nat} {sl : Value} {acc : Int} {rs : List Code} (h : Mc w M S sl acc rs) (hw : Wf rs) (p : ByteArray) (hp : p.size ≤ 24) (i : Nat) (hi : i < p.size) (hc : bt p i = 68) :
    Calls Try.prog 33 #[.pointer (some ⟨M, 0, none⟩), .string p, .int .i64 i] w (SOut w M S sl (stepP p i acc rs)) := by
  have H : Hid (Mc w M S sl acc rs) := h
  have HW : Hid (Wf rs) := hw
  have c0 := blk_cell h.obj 0
  simp [mch] at c0
  have hb := bt_at hi
  have q1 := nqf_nil
  have q2 := nqf_fn
  have q3 := eqo_nil
  have q4 := eqo_fn
  have es : stepP p i acc rs = (1, (divP acc rs).1, (divP acc rs).2.1, (divP acc rs).2.2) := by unfold stepP; rw [hc]; rfl
  rw [es]
  rw [hc] at hb
  clear h hw es hc
  go_enter Try.func33, Try.ntmps33
  go_wp2_with (first | (go_at_call 50; refine (own_68 _).mono ?_; rintro e w1 ⟨rfl, rfl⟩) | (go_at_call 68; refine (mdiv_any H.out HW.out).mono ?_; rintro e w2 ⟨rfl, h2⟩))
  go_ret2
  exact ⟨rfl, h2⟩
set_option maxHeartbeats 3200000 in
set_option maxRecDepth 100000 in
theorem step_mmod {w : World} {M S : Nat} {sl : Value} {acc : Int} {rs : List Code} (h : Mc w M S sl acc rs) (hw : Wf rs) (p : ByteArray) (hp : p.size ≤ 24) (i : Nat) (hi : i < p.size) (hc : bt p i = 77) :
    Calls Try.prog 33 #[.pointer (some ⟨M, 0, none⟩), .string p, .int .i64 i] w (SOut w M S sl (stepP p i acc rs)) := by
  have H : Hid (Mc w M S sl acc rs) := h
  have HW : Hid (Wf rs) := hw
  have c0 := blk_cell h.obj 0
  simp [mch] at c0
  have hb := bt_at hi
  have q1 := nqf_nil
  have q2 := nqf_fn
  have q3 := eqo_nil
  have q4 := eqo_fn
  have es : stepP p i acc rs = (1, (modP acc rs).1, (modP acc rs).2.1, (modP acc rs).2.2) := by unfold stepP; rw [hc]; rfl
  rw [es]
  rw [hc] at hb
  clear h hw es hc
  go_enter Try.func33, Try.ntmps33
  go_wp2_with (first | (go_at_call 50; refine (own_77 _).mono ?_; rintro e w1 ⟨rfl, rfl⟩) | (go_at_call 69; refine (mmod_any H.out HW.out).mono ?_; rintro e w2 ⟨rfl, h2⟩))
  go_ret2
  exact ⟨rfl, h2⟩
set_option maxHeartbeats 3200000 in
set_option maxRecDepth 100000 in
theorem step_mget {w : World} {M S : Nat} {sl : Value} {acc : Int} {rs : List Code} (h : Mc w M S sl acc rs) (hw : Wf rs) (p : ByteArray) (hp : p.size ≤ 24) (i : Nat) (hi : i < p.size) (hc : bt p i = 71) :
    Calls Try.prog 33 #[.pointer (some ⟨M, 0, none⟩), .string p, .int .i64 i] w (SOut w M S sl (stepP p i acc rs)) := by
  have H : Hid (Mc w M S sl acc rs) := h
  have HW : Hid (Wf rs) := hw
  have c0 := blk_cell h.obj 0
  simp [mch] at c0
  have hb := bt_at hi
  have q1 := nqf_nil
  have q2 := nqf_fn
  have q3 := eqo_nil
  have q4 := eqo_fn
  have es : stepP p i acc rs = (1, (pushW (tI acc) rs).1, acc, (pushW (tI acc) rs).2) := by unfold stepP; rw [hc]; rfl
  rw [es]
  rw [hc] at hb
  clear h hw es hc
  go_enter Try.func33, Try.ntmps33
  go_wp2_with (first | (go_at_call 50; refine (own_71 _).mono ?_; rintro e w1 ⟨rfl, rfl⟩) | (go_at_call 67; refine (mget_any H.out HW.out).mono ?_; rintro e w2 ⟨rfl, h2⟩))
  go_ret2
  exact ⟨rfl, h2⟩
set_option maxHeartbeats 3200000 in
set_option maxRecDepth 100000 in
theorem step_list {w : World} {M S : Nat} {sl : Value} {acc : Int} {rs : List Code} (h : Mc w M S sl acc rs) (hw : Wf rs) (p : ByteArray) (hp : p.size ≤ 24) (i : Nat) (hi : i < p.size) (hc : bt p i = 91) :
    Calls Try.prog 33 #[.pointer (some ⟨M, 0, none⟩), .string p, .int .i64 i] w (SOut w M S sl (stepP p i acc rs)) := by
  have H : Hid (Mc w M S sl acc rs) := h
  have HW : Hid (Wf rs) := hw
  have c0 := blk_cell h.obj 0
  simp [mch] at c0
  have hb := bt_at hi
  have q1 := nqf_nil
  have q2 := nqf_fn
  have q3 := eqo_nil
  have q4 := eqo_fn
  have es : stepP p i acc rs = (1, (pushW .skip rs).1, acc, (pushW .skip rs).2) := by unfold stepP; rw [hc]; rfl
  rw [es]
  rw [hc] at hb
  clear h hw es hc
  go_enter Try.func33, Try.ntmps33
  go_wp2_with (first | (go_at_call 53; refine (push_any H.out.st HW.out .skip (.iface 75 (.pointer none)) rfl 3 0 ⟨#[]⟩ (Nat.zero_le _) (Or.inr (Or.inr ⟨rfl, rfl⟩))).mono ?_; rintro e w2 ⟨rfl, sl2, h2, m2⟩))
  go_ret2
  exact ⟨rfl, sl2, H.out.keepM m2 h2, Mw.ofMv m2⟩
set_option maxHeartbeats 3200000 in
set_option maxRecDepth 100000 in
theorem step_num {w : World} {M S : Nat} {sl : Value} {acc : Int} {rs : List Code} (h : Mc w M S sl acc rs) (hw : Wf rs) (p : ByteArray) (hp : p.size ≤ 24) (i : Nat) (hi : i < p.size) (hc : bt p i = 35) :
    Calls Try.prog 33 #[.pointer (some ⟨M, 0, none⟩), .string p, .int .i64 i] w (SOut w M S sl (stepP p i acc rs)) := by
  have H : Hid (Mc w M S sl acc rs) := h
  have HW : Hid (Wf rs) := hw
  have c0 := blk_cell h.obj 0
  simp [mch] at c0
  have hb := bt_at hi
  have q1 := nqf_nil
  have q2 := nqf_fn
  have q3 := eqo_nil
  have q4 := eqo_fn
  have es : stepP p i acc rs = ((numP p i rs).1, (numP p i rs).2.1, acc, (numP p i rs).2.2) := by unfold stepP; rw [hc]; rfl
  rw [es]
  rw [hc] at hb
  clear h hw es hc
  go_enter Try.func33, Try.ntmps33
  go_wp2_with (first | (go_at_call 54; refine (num_any H.out HW.out p hp i hi).mono ?_; rintro e w2 ⟨rfl, h2⟩))
  go_ret2
  exact ⟨rfl, h2⟩
set_option maxHeartbeats 3200000 in
set_option maxRecDepth 100000 in
theorem step_letter {w : World} {M S : Nat} {sl : Value} {acc : Int} {rs : List Code} (h : Mc w M S sl acc rs) (hw : Wf rs) (p : ByteArray) (hp : p.size ≤ 24) (i : Nat) (hi : i < p.size) (hc : bt p i = 39) :
    Calls Try.prog 33 #[.pointer (some ⟨M, 0, none⟩), .string p, .int .i64 i] w (SOut w M S sl (stepP p i acc rs)) := by
  have H : Hid (Mc w M S sl acc rs) := h
  have HW : Hid (Wf rs) := hw
  have c0 := blk_cell h.obj 0
  simp [mch] at c0
  have hb := bt_at hi
  have q1 := nqf_nil
  have q2 := nqf_fn
  have q3 := eqo_nil
  have q4 := eqo_fn
  have es : stepP p i acc rs = ((letP p i rs).1, (letP p i rs).2.1, acc, (letP p i rs).2.2) := by unfold stepP; rw [hc]; rfl
  rw [es]
  rw [hc] at hb
  clear h hw es hc
  go_enter Try.func33, Try.ntmps33
  go_wp2_with (first | (go_at_call 55; refine (letter_any H.out HW.out p hp i hi).mono ?_; rintro e w2 ⟨rfl, h2⟩))
  go_ret2
  exact ⟨rfl, h2⟩
set_option maxHeartbeats 3200000 in
set_option maxRecDepth 100000 in
theorem step_lowno {w : World} {M S : Nat} {sl : Value} {acc : Int} {rs : List Code} (h : Mc w M S sl acc rs) (hw : Wf rs) (p : ByteArray) (hp : p.size ≤ 24) (i : Nat) (hi : i < p.size) (h1 : 97 ≤ bt p i) (h2 : bt p i ≤ 122) (h97 : bt p i ≠ 97) (h99 : bt p i ≠ 99) (h100 : bt p i ≠ 100) (h102 : bt p i ≠ 102) (h108 : bt p i ≠ 108) (h110 : bt p i ≠ 110) (h112 : bt p i ≠ 112) (h115 : bt p i ≠ 115) (h120 : bt p i ≠ 120)  :
    Calls Try.prog 33 #[.pointer (some ⟨M, 0, none⟩), .string p, .int .i64 i] w (SOut w M S sl (stepP p i acc rs)) := by
  have H : Hid (Mc w M S sl acc rs) := h
  have HW : Hid (Wf rs) := hw
  have c0 := blk_cell h.obj 0
  simp [mch] at c0
  have hb := bt_at hi
  have q1 := nqf_nil
  have q2 := nqf_fn
  have q3 := eqo_nil
  have q4 := eqo_fn
  have hl : lowP (bt p i) rs = none := by unfold lowP; simp only [h97, h99, h100, h102, h108, h110, h112, h115, h120, ↓reduceIte]
  have es : stepP p i acc rs = (1, 9, acc, rs) := by
    unfold stepP
    rw [hl]
    simp only []
    rw [if_neg (by omega), if_neg (by omega), if_neg (by omega), if_neg (by omega), if_neg (by omega), if_neg (by omega), if_neg (by omega), if_neg (by omega), if_neg (by omega), if_neg (by omega)]
  rw [es]
  have c1 : w.cell? ⟨M, 2 + (bt p i - 97), none⟩ = some .nilFunc := by
    rw [blk_cell h.obj]
    have hr : bt p i = 98 ∨ bt p i = 101 ∨ bt p i = 103 ∨ bt p i = 104 ∨ bt p i = 105 ∨ bt p i = 106 ∨ bt p i = 107 ∨ bt p i = 109 ∨ bt p i = 111 ∨ bt p i = 113 ∨ bt p i = 114 ∨ bt p i = 116 ∨ bt p i = 117 ∨ bt p i = 118 ∨ bt p i = 119 ∨ bt p i = 121 ∨ bt p i = 122 := by omega
    rcases hr with e | e | e | e | e | e | e | e | e | e | e | e | e | e | e | e | e <;> rw [e] <;> rfl
  have t33 : ((bt p i : Int) == 33) = false := by simp; omega
  have t59 : ((bt p i : Int) == 59) = false := by simp; omega
  have t91 : ((bt p i : Int) == 91) = false := by simp; omega
  have t35 : ((bt p i : Int) == 35) = false := by simp; omega
  have t39 : ((bt p i : Int) == 39) = false := by simp; omega
  clear h hw es hl h97 h99 h100 h102 h108 h110 h112 h115 h120
  generalize bt p i = c at *
  go_enter Try.func33, Try.ntmps33
  go_wp2
  go_ret2
  exact ⟨rfl, sl, H.out, Mw.refl _ _ _ _⟩

set_option maxHeartbeats 3200000 in
set_option maxRecDepth 100000 in
theorem step_upno {w : World} {M S : Nat} {sl : Value} {acc : Int} {rs : List Code} (h : Mc w M S sl acc rs) (hw : Wf rs) (p : ByteArray) (hp : p.size ≤ 24) (i : Nat) (hi : i < p.size) (h1 : 65 ≤ bt p i) (h2 : bt p i ≤ 90) (g1 : bt p i ≠ 83) (g2 : bt p i ≠ 71) (g3 : bt p i ≠ 68) (g4 : bt p i ≠ 77) :
    Calls Try.prog 33 #[.pointer (some ⟨M, 0, none⟩), .string p, .int .i64 i] w (SOut w M S sl (stepP p i acc rs)) := by
  have H : Hid (Mc w M S sl acc rs) := h
  have HW : Hid (Wf rs) := hw
  have c0 := blk_cell h.obj 0
  simp [mch] at c0
  have hb := bt_at hi
  have q1 := nqf_nil
  have q2 := nqf_fn
  have q3 := eqo_nil
  have q4 := eqo_fn
  have hl : lowP (bt p i) rs = none := by unfold lowP; rw [if_neg (by omega), if_neg (by omega), if_neg (by omega), if_neg (by omega), if_neg (by omega), if_neg (by omega), if_neg (by omega), if_neg (by omega), if_neg (by omega)]
  have es : stepP p i acc rs = (1, 9, acc, rs) := by
    unfold stepP
    rw [hl]
    simp only []
    rw [if_neg (by omega), if_neg (by omega), if_neg (by omega), if_neg (by omega), if_neg (by omega), if_neg (by omega), if_neg (by omega), if_neg (by omega), if_neg (by omega), if_neg (by omega)]
  rw [es]
  clear h hw es hl
  generalize bt p i = c at *
  have HG : Hid (c ≠ 83 ∧ c ≠ 71 ∧ c ≠ 68 ∧ c ≠ 77) := ⟨g1, g2, g3, g4⟩
  clear g1 g2 g3 g4
  go_enter Try.func33, Try.ntmps33
  go_wp2_with (go_at_call 50; refine (own_no _ c HG.out.1 HG.out.2.1 HG.out.2.2.1 HG.out.2.2.2).mono ?_; rintro e w1 ⟨rfl, rfl⟩)
  go_ret2
  exact ⟨rfl, sl, H.out, Mw.refl _ _ _ _⟩

set_option maxHeartbeats 3200000 in
set_option maxRecDepth 100000 in
theorem step_dig {w : World} {M S : Nat} {sl : Value} {acc : Int} {rs : List Code} (h : Mc w M S sl acc rs) (hw : Wf rs) (p : ByteArray) (hp : p.size ≤ 24) (i : Nat) (hi : i < p.size) (h1 : 48 ≤ bt p i) (h2 : bt p i ≤ 57) :
    Calls Try.prog 33 #[.pointer (some ⟨M, 0, none⟩), .string p, .int .i64 i] w (SOut w M S sl (stepP p i acc rs)) := by
  have H : Hid (Mc w M S sl acc rs) := h
  have HW : Hid (Wf rs) := hw
  have c0 := blk_cell h.obj 0
  simp [mch] at c0
  have hb := bt_at hi
  have q1 := nqf_nil
  have q2 := nqf_fn
  have q3 := eqo_nil
  have q4 := eqo_fn
  have hl : lowP (bt p i) rs = none := by unfold lowP; rw [if_neg (by omega), if_neg (by omega), if_neg (by omega), if_neg (by omega), if_neg (by omega), if_neg (by omega), if_neg (by omega), if_neg (by omega), if_neg (by omega)]
  have es : stepP p i acc rs = (1, (extW ((bt p i : Int) - 48) rs).1, acc, (extW ((bt p i : Int) - 48) rs).2) := by
    unfold stepP
    rw [hl]
    simp only []
    rw [if_neg (by omega), if_neg (by omega), if_neg (by omega), if_neg (by omega), if_pos ⟨h1, h2⟩]
  rw [es]
  clear h hw es hl
  generalize bt p i = c at *
  go_enter Try.func33, Try.ntmps33
  go_wp2_with (go_at_call 51; refine (extra_any H.out.st HW.out ((c : Int) - 48) (by omega) (by omega)).mono ?_; rintro e w2 ⟨rfl, sl2, h2, m2⟩)
  go_ret2
  exact ⟨rfl, sl2, H.out.keepM m2 h2, Mw.ofMv m2⟩

set_option maxHeartbeats 3200000 in
set_option maxRecDepth 100000 in
theorem step_no {w : World} {M S : Nat} {sl : Value} {acc : Int} {rs : List Code} (h : Mc w M S sl acc rs) (hw : Wf rs) (p : ByteArray) (hp : p.size ≤ 24) (i : Nat) (hi : i < p.size) (g1 : ¬ (97 ≤ bt p i ∧ bt p i ≤ 122)) (g2 : ¬ (65 ≤ bt p i ∧ bt p i ≤ 90)) (g3 : ¬ (48 ≤ bt p i ∧ bt p i ≤ 57)) (k1 : bt p i ≠ 33) (k2 : bt p i ≠ 59) (k3 : bt p i ≠ 91) (k4 : bt p i ≠ 35) (k5 : bt p i ≠ 39) :
    Calls Try.prog 33 #[.pointer (some ⟨M, 0, none⟩), .string p, .int .i64 i] w (SOut w M S sl (stepP p i acc rs)) := by
  have H : Hid (Mc w M S sl acc rs) := h
  have HW : Hid (Wf rs) := hw
  have c0 := blk_cell h.obj 0
  simp [mch] at c0
  have hb := bt_at hi
  have q1 := nqf_nil
  have q2 := nqf_fn
  have q3 := eqo_nil
  have q4 := eqo_fn
  have hl : lowP (bt p i) rs = none := by unfold lowP; rw [if_neg (by omega), if_neg (by omega), if_neg (by omega), if_neg (by omega), if_neg (by omega), if_neg (by omega), if_neg (by omega), if_neg (by omega), if_neg (by omega)]
  have es : stepP p i acc rs = (1, 9, acc, rs) := by
    unfold stepP
    rw [hl]
    simp only []
    rw [if_neg (by omega), if_neg (by omega), if_neg (by omega), if_neg (by omega), if_neg (by omega), if_neg (by omega), if_neg (by omega), if_neg (by omega), if_neg (by omega), if_neg (by omega)]
  rw [es]
  have t33 : ((bt p i : Int) == 33) = false := by simp; omega
  have t59 : ((bt p i : Int) == 59) = false := by simp; omega
  have t91 : ((bt p i : Int) == 91) = false := by simp; omega
  have t35 : ((bt p i : Int) == 35) = false := by simp; omega
  have t39 : ((bt p i : Int) == 39) = false := by simp; omega
  clear h hw es hl k1 k2 k3 k4 k5
  generalize bt p i = c at *
  go_enter Try.func33, Try.ntmps33
  go_wp2
  all_goals
    go_ret2
    exact ⟨rfl, sl, H.out, Mw.refl _ _ _ _⟩

end Go.Proofs.Qxb6500336a
