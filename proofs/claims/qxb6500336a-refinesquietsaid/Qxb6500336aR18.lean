import Derived.Test.Qxb6500336aR17
import Derived.WalkMore
namespace Go.Proofs.Qxb6500336a
open Go.RowKit
set_option linter.unusedVariables false
set_option linter.unusedSimpArgs false

set_option maxHeartbeats 3200000 in
set_option maxRecDepth 100000 in
theorem mreg_S {w : World} {M m : Nat} {sl : Value} {acc : Int} {rs : List Code} {vs : List (List Value)} (h : Mm w M m sl acc rs vs) (hw : Wf rs) :
    Calls Try.prog 97 #[.pointer (some ⟨M, 0, none⟩), .int .u8 83] w fun e w' => e = .returned (.int .i64 (setP acc rs).1) ∧ ZOut w M m sl (setP acc rs).2.1 (setP acc rs).2.2 w' := by
  have H : Hid (Mm w M m sl acc rs vs) := h
  have HW : Hid (Wf rs) := hw
  have c0 := blk_cell h.obj 0
  have c1 := blk_cell h.obj 1
  have f1 := blk_frozen h.obj 1
  simp at c0 c1
  have HT : Hid (w64 (topI rs).1) := mtopI_w64 h.st
  clear h hw
  by_cases h0 : (topI rs).2 = 0
  · have e : setP acc rs = ((dropW rs).1, (topI rs).1, (dropW rs).2) := by unfold setP; rw [if_pos h0]
    rw [e]
    have H0 : Hid ((topI rs).2 = 0) := h0
    clear h0 e
    go_enter Try.func97, Try.ntmps97
    go_wp2_with (first | (go_at_call 101; refine (mtop_any H.out.st HW.out).mono ?_; rintro e w1 ⟨rfl, rfl⟩; rw [H0.out]) | (go_at_call 96; refine (mdrop_any (H.out.setAcc HT.out).st HW.out).mono ?_; rintro e w2 ⟨rfl, sl2, vs2, h2, m2⟩))
    go_ret
    exact ⟨rfl, m, sl2, vs2, (H.out.setAcc HT.out).keepM m2 h2, (MZ.setM _ _ _ _ _ _).trans (MZ.ofMv m2)⟩
  · have e : setP acc rs = ((topI rs).2, acc, rs) := by unfold setP; rw [if_neg h0]
    rw [e]
    have hne : ((topI rs).2 != 0) = true := by simpa using h0
    clear h0 e
    go_enter Try.func97, Try.ntmps97
    go_wp2_with (go_at_call 101; refine (mtop_any H.out.st HW.out).mono ?_; rintro e w1 ⟨rfl, rfl⟩)
    go_ret
    exact ⟨rfl, ZOut.same H.out (Fr.refl _ _)⟩

set_option maxHeartbeats 3200000 in
set_option maxRecDepth 100000 in
theorem mreg_D {w : World} {M m : Nat} {sl : Value} {acc : Int} {rs : List Code} {vs : List (List Value)} (h : Mm w M m sl acc rs vs) (hw : Wf rs) :
    Calls Try.prog 97 #[.pointer (some ⟨M, 0, none⟩), .int .u8 68] w fun e w' => e = .returned (.int .i64 (divP acc rs).1) ∧ ZOut w M m sl (divP acc rs).2.1 (divP acc rs).2.2 w' := by
  have H : Hid (Mm w M m sl acc rs vs) := h
  have HW : Hid (Wf rs) := hw
  have c0 := blk_cell h.obj 0
  have c1 := blk_cell h.obj 1
  have f1 := blk_frozen h.obj 1
  simp at c0 c1
  have HT : Hid (w64 (topI rs).1) := mtopI_w64 h.st
  clear h hw
  by_cases h0 : (topI rs).2 = 0
  · have H0 : Hid ((topI rs).2 = 0) := h0
    by_cases hd : (topI rs).1 = 0
    · have e : divP acc rs = (10, acc, rs) := by unfold divP; rw [if_pos h0, if_pos hd]
      rw [e]
      have HD : Hid ((topI rs).1 = 0) := hd
      clear h0 e hd
      go_enter Try.func97, Try.ntmps97
      go_wp2_with (go_at_call 101; refine (mtop_any H.out.st HW.out).mono ?_; rintro e w1 ⟨rfl, rfl⟩; rw [H0.out, HD.out])
      go_ret
      exact ⟨rfl, ZOut.same H.out (Fr.refl _ _)⟩
    · have e : divP acc rs = ((dropW rs).1, wrap64 (acc.tdiv (topI rs).1), (dropW rs).2) := by unfold divP; rw [if_pos h0, if_neg hd]
      rw [e]
      have hd1 : ((topI rs).1 == 0) = false := by simpa using hd
      clear h0 e
      go_enter Try.func97, Try.ntmps97
      go_wp2_with (first | (go_at_call 101; refine (mtop_any H.out.st HW.out).mono ?_; rintro e w1 ⟨rfl, rfl⟩; rw [H0.out]) | (go_at_call 96; refine (mdrop_any (H.out.setAcc (w_out _)).st HW.out).mono ?_; rintro e w2 ⟨rfl, sl2, vs2, h2, m2⟩))
      go_ret
      exact ⟨rfl, m, sl2, vs2, (H.out.setAcc (w_out _)).keepM m2 h2, (MZ.setM _ _ _ _ _ _).trans (MZ.ofMv m2)⟩
  · have e : divP acc rs = ((topI rs).2, acc, rs) := by unfold divP; rw [if_neg h0]
    rw [e]
    have hne : ((topI rs).2 != 0) = true := by simpa using h0
    clear h0 e
    go_enter Try.func97, Try.ntmps97
    go_wp2_with (go_at_call 101; refine (mtop_any H.out.st HW.out).mono ?_; rintro e w1 ⟨rfl, rfl⟩)
    go_ret
    exact ⟨rfl, ZOut.same H.out (Fr.refl _ _)⟩

set_option maxHeartbeats 3200000 in
set_option maxRecDepth 100000 in
theorem mreg_M {w : World} {M m : Nat} {sl : Value} {acc : Int} {rs : List Code} {vs : List (List Value)} (h : Mm w M m sl acc rs vs) (hw : Wf rs) :
    Calls Try.prog 97 #[.pointer (some ⟨M, 0, none⟩), .int .u8 77] w fun e w' => e = .returned (.int .i64 (modP acc rs).1) ∧ ZOut w M m sl (modP acc rs).2.1 (modP acc rs).2.2 w' := by
  have H : Hid (Mm w M m sl acc rs vs) := h
  have HW : Hid (Wf rs) := hw
  have c0 := blk_cell h.obj 0
  have c1 := blk_cell h.obj 1
  have f1 := blk_frozen h.obj 1
  simp at c0 c1
  have HT : Hid (w64 (topI rs).1) := mtopI_w64 h.st
  clear h hw
  by_cases h0 : (topI rs).2 = 0
  · have H0 : Hid ((topI rs).2 = 0) := h0
    by_cases hd : (topI rs).1 = 0
    · have e : modP acc rs = (10, acc, rs) := by unfold modP; rw [if_pos h0, if_pos hd]
      rw [e]
      have HD : Hid ((topI rs).1 = 0) := hd
      clear h0 e hd
      go_enter Try.func97, Try.ntmps97
      go_wp2_with (go_at_call 101; refine (mtop_any H.out.st HW.out).mono ?_; rintro e w1 ⟨rfl, rfl⟩; rw [H0.out, HD.out])
      go_ret
      exact ⟨rfl, ZOut.same H.out (Fr.refl _ _)⟩
    · have e : modP acc rs = ((dropW rs).1, acc.tmod (topI rs).1, (dropW rs).2) := by unfold modP; rw [if_pos h0, if_neg hd]
      rw [e]
      have hd1 : ((topI rs).1 == 0) = false := by simpa using hd
      have HTM : Hid (w64 (acc.tmod (topI rs).1)) := tmod_w64 H.out.a64
      clear h0 e
      go_enter Try.func97, Try.ntmps97
      go_wp2_with (first | (go_at_call 101; refine (mtop_any H.out.st HW.out).mono ?_; rintro e w1 ⟨rfl, rfl⟩; rw [H0.out]) | (go_at_call 96; refine (mdrop_any (H.out.setAcc HTM.out).st HW.out).mono ?_; rintro e w2 ⟨rfl, sl2, vs2, h2, m2⟩))
      go_ret
      exact ⟨rfl, m, sl2, vs2, (H.out.setAcc HTM.out).keepM m2 h2, (MZ.setM _ _ _ _ _ _).trans (MZ.ofMv m2)⟩
  · have e : modP acc rs = ((topI rs).2, acc, rs) := by unfold modP; rw [if_neg h0]
    rw [e]
    have hne : ((topI rs).2 != 0) = true := by simpa using h0
    clear h0 e
    go_enter Try.func97, Try.ntmps97
    go_wp2_with (go_at_call 101; refine (mtop_any H.out.st HW.out).mono ?_; rintro e w1 ⟨rfl, rfl⟩)
    go_ret
    exact ⟨rfl, ZOut.same H.out (Fr.refl _ _)⟩

end Go.Proofs.Qxb6500336a
