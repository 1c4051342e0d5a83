import Derived.Test.Qxb6500336aW28
import Derived.Test.Qxb6500336aW29
namespace Go.Proofs.Qxb6500336a
open Go.RowKit
set_option linter.unusedVariables false
set_option linter.unusedSimpArgs false

/-- A machine's own blocks. -/
def Ob (M S : Nat) (sl : Value) : List Nat := M :: S :: sl.ownBlock.toList
theorem Mc.blocks {w : World} {M S : Nat} {sl : Value} {acc : Int} {rs : List Code} (h : Mc w M S sl acc rs) : ∀ b, b ∈ Ob M S sl → b < w.heap.size := by
  intro b hb
  obtain ⟨us, h1, h2⟩ := h.st
  simp [Ob] at hb
  rcases hb with rfl | rfl | hb
  · exact blk_lt h.obj
  · exact blk_lt h1.obj
  · obtain ⟨c, hc⟩ := owns_block h1.row hb; exact blk_lt hc
/-- Another machine's turn: this one is as it was. -/
theorem Mc.apart {w w' : World} {M S M' S' : Nat} {sl sl2 sl3 : Value} {acc acc2 : Int} {rs rs2 : List Code} (h : Mc w M S sl acc rs) (h2 : Mc w M' S' sl2 acc2 rs2) (m : Mw w w' M' S' sl2 sl3) (hd : ∀ b, b ∈ Ob M S sl → b ∉ Ob M' S' sl2) : Mc w' M S sl acc rs := by
  obtain ⟨us, k1, k2⟩ := h.st
  obtain ⟨us2, j1, j2⟩ := h2.st
  refine ⟨m.fr.keep h.obj (hd M (by simp [Ob])), ⟨us, k1.keep m.fr (hd S (by simp [Ob])) (fun k hk => hd k (by simp [Ob, hk])), k2.kept (m.fr.kc ?_)⟩, h.a64⟩
  intro b hb c t hc
  simp at hb
  rcases hb with rfl | rfl | hb
  · rw [h2.obj] at hc; simp at hc; rw [← hc.2]; simp
  · rw [j1.obj] at hc; simp at hc; rw [← hc.2]; simp
  · obtain ⟨cur, hc'⟩ := owns_block j1.row hb
    rw [hc'] at hc; simp at hc; rw [← hc.2]; simp
/-- The blocks stay apart. -/
theorem apart_next {w w' : World} {M S M' S' : Nat} {sl sl2 sl3 : Value} {acc : Int} {rs : List Code} (h : Mc w M S sl acc rs) (m : Mw w w' M' S' sl2 sl3) (hd : ∀ b, b ∈ Ob M S sl → b ∉ Ob M' S' sl2) : ∀ b, b ∈ Ob M S sl → b ∉ Ob M' S' sl3 := by
  intro b hb hm
  have hlt := h.blocks b hb
  simp [Ob] at hm
  rcases hm with rfl | rfl | hm
  · exact hd _ hb (by simp [Ob])
  · exact hd _ hb (by simp [Ob])
  · rcases m.own with e | ⟨g, e, hg⟩
    · rw [e] at hm; exact hd _ hb (by simp [Ob, hm])
    · rw [e] at hm; cases hm; omega
theorem apart_symm {A B : List Nat} (h : ∀ b, b ∈ A → b ∉ B) : ∀ b, b ∈ B → b ∉ A := fun b hb ha => h b ha hb

set_option maxHeartbeats 3200000 in
set_option maxRecDepth 100000 in
theorem edge_18 (w : World) : Calls Try.prog 18 #[] w fun e w' => e = .returned (.bool true) ∧ Fr [] w w' := by
  have H1 : Hid (run ⟨#[35, 52, 32, 48]⟩ 0 [] = (4, 0, 0, [tI 8])) := by show _ = _; kernel_rfl
  have H2 : Hid (run ⟨#[50]⟩ 0 [tI 8] = (0, 5, 0, [tI 8])) := by show _ = _; kernel_rfl
  have H3 : Hid (showM 0 [tI 8] = ⟨#[97, 99, 99, 61, 48, 32, 124, 32, 49, 32, 56]⟩) := by show _ = _; kernel_rfl
  have HW : Hid (Wf [tI 8]) := by
    have := run_wf (p := ⟨#[35, 52, 32, 48]⟩) (acc := 0) Wf.nil
    rw [H1.out] at this
    exact this
  go_enter Try.func18, Try.ntmps18
  go_wp2_with (first
    | (go_at_call 29; refine (mcheck_any HM4.out HW.out).mono ?_; rintro e w5 ⟨rfl, hf5⟩; have HM5 : Hid _ := HM4.out.keep0 hf5; have HF5 : Hid _ := HF4.out.trans hf5; clear hf5 HM4)
    | (go_at_call 28; refine (mshow_any HM5.out HW.out).mono ?_; rintro e w6 ⟨rfl, hf6⟩; rw [H3.out])
    | (go_at_call 27; refine (run_any HM3.out HW.out _ (of_decide_eq_true (by kernel_rfl))).mono ?_; rw [H2.out]; rintro e w4 ⟨rfl, sl4, hm4, mw4⟩; have HM4 : Hid _ := hm4; have HF4 : Hid (Fr [] w w4) := (MW2.out.trans ((Mw.ofFr HF3.out).trans mw4)).fr0 HF1.out (by omega) (Nat.le_refl _) rfl; clear hm4 mw4 HM3)
    | (go_at_call 29; refine (mcheck_any HM2.out HW.out).mono ?_; rintro e w3 ⟨rfl, hf3⟩; have HM3 : Hid _ := HM2.out.keep0 hf3; have HF3 : Hid _ := hf3; clear hf3 HM2)
    | (go_at_call 27; refine (run_any HM1.out Wf.nil _ (of_decide_eq_true (by kernel_rfl))).mono ?_; rw [H1.out]; rintro e w2 ⟨rfl, sl2, hm2, mw2⟩; have HM2 : Hid _ := hm2; have MW2 : Hid _ := mw2; clear hm2 mw2 HM1)
    | (go_at_call 26; refine (tnew_any _).mono ?_; rintro e w1 ⟨rfl, hm1, hf1⟩; have HM1 : Hid _ := hm1; have HF1 : Hid _ := hf1; clear hm1 hf1))
  go_ret
  exact ⟨by simp, HF5.out.trans hf6⟩

/-- Two towers, apart from one another and from what was. -/
structure Tw (w0 w : World) (M S : Nat) (sl : Value) (rs : List Code) (M' S' : Nat) (sl' : Value) (rs' : List Code) : Prop where
  hx : Mc w M S sl 0 rs
  hy : Mc w M' S' sl' 0 rs'
  ap : ∀ b, b ∈ Ob M S sl → b ∉ Ob M' S' sl'
  fx : ∀ b, b ∈ Ob M S sl → w0.heap.size ≤ b
  fy : ∀ b, b ∈ Ob M' S' sl' → w0.heap.size ≤ b
  fr : Fr [] w0 w
theorem fresh_next {w0 w w' : World} {M S : Nat} {sl sl' : Value} (h : ∀ b, b ∈ Ob M S sl → w0.heap.size ≤ b) (hw : w0.heap.size ≤ w.heap.size) (m : Mw w w' M S sl sl') : ∀ b, b ∈ Ob M S sl' → w0.heap.size ≤ b := by
  intro b hb
  simp [Ob] at hb
  rcases hb with rfl | rfl | hb
  · exact h _ (by simp [Ob])
  · exact h _ (by simp [Ob])
  · rcases m.own with e | ⟨g, e, hg⟩
    · rw [e] at hb; exact h _ (by simp [Ob, hb])
    · rw [e] at hb; cases hb; omega
theorem Tw.turn {w0 w : World} {M S M' S' : Nat} {sl sl' : Value} {rs rs' : List Code} (h : Tw w0 w M S sl rs M' S' sl' rs') : Tw w0 w M' S' sl' rs' M S sl rs := ⟨h.hy, h.hx, apart_symm h.ap, h.fy, h.fx, h.fr⟩
theorem Tw.keep0 {w0 w w' : World} {M S M' S' : Nat} {sl sl' : Value} {rs rs' : List Code} (h : Tw w0 w M S sl rs M' S' sl' rs') (hf : Fr [] w w') : Tw w0 w' M S sl rs M' S' sl' rs' := ⟨h.hx.keep0 hf, h.hy.keep0 hf, h.ap, h.fx, h.fy, h.fr.trans hf⟩
theorem Tw.run {w0 w w' : World} {M S M' S' : Nat} {sl sl' sl2 : Value} {rs rs' rs2 : List Code} (h : Tw w0 w M S sl rs M' S' sl' rs') (hm : Mc w' M S sl2 0 rs2) (m : Mw w w' M S sl sl2) : Tw w0 w' M S sl2 rs2 M' S' sl' rs' :=
  ⟨hm, h.hy.apart h.hx m (apart_symm h.ap), apart_symm (apart_next h.hy m (apart_symm h.ap)), fresh_next h.fx h.fr.size m, h.fy, h.fr.narrow m.fr (fun i hi => Or.inr (h.fx i hi))⟩

set_option maxHeartbeats 6400000 in
set_option maxRecDepth 100000 in
theorem edge_17 (w : World) : Calls Try.prog 17 #[] w fun e w' => e = .returned (.bool true) ∧ Fr [] w w' := by
  have R1 : Hid (run ⟨#[35, 52]⟩ 0 [] = (2, 0, 0, [tI 4])) := by show _ = _; kernel_rfl
  have R2 : Hid (run ⟨#[35, 49, 35, 50, 112]⟩ 0 [] = (5, 0, 0, [tP (tI 1) (tI 2)])) := by show _ = _; kernel_rfl
  have R3 : Hid (run ⟨#[48]⟩ 0 [tI 4] = (1, 0, 0, [tI 8])) := by show _ = _; kernel_rfl
  have R4 : Hid (run ⟨#[50]⟩ 0 [tP (tI 1) (tI 2)] = (1, 0, 0, [tI 2, tI 1])) := by show _ = _; kernel_rfl
  have S1 : Hid (showM 0 [tI 8] = ⟨#[97, 99, 99, 61, 48, 32, 124, 32, 49, 32, 56]⟩) := by show _ = _; kernel_rfl
  have S2 : Hid (showM 0 [tP (tI 1) (tI 2)] = ⟨#[97, 99, 99, 61, 48, 32, 124, 32, 49, 32, 60, 49, 32, 50, 62]⟩) := by show _ = _; kernel_rfl
  have S3 : Hid (showM 0 [tI 2, tI 1] = ⟨#[97, 99, 99, 61, 48, 32, 124, 32, 50, 32, 49, 32, 50]⟩) := by show _ = _; kernel_rfl
  have W1 : Hid (Wf [tI 4]) := by have := run_wf (p := ⟨#[35, 52]⟩) (acc := 0) Wf.nil; rw [R1.out] at this; exact this
  have W2 : Hid (Wf [tP (tI 1) (tI 2)]) := by have := run_wf (p := ⟨#[35, 49, 35, 50, 112]⟩) (acc := 0) Wf.nil; rw [R2.out] at this; exact this
  have W3 : Hid (Wf [tI 8]) := by have := run_wf (p := ⟨#[48]⟩) (acc := 0) W1.out; rw [R3.out] at this; exact this
  have W4 : Hid (Wf [tI 2, tI 1]) := by have := run_wf (p := ⟨#[50]⟩) (acc := 0) W2.out; rw [R4.out] at this; exact this
  go_enter Try.func17, Try.ntmps17
  go_wp2_with (first
    | (go_at_call 28; refine (mshow_any T9.out.hy W4.out).mono ?_; rintro e w10 ⟨rfl, hf10⟩; rw [S3.out]; have T10 : Hid _ := T9.out.keep0 hf10; clear hf10 T9)
    | (go_at_call 28; refine (mshow_any T8.out.hx W3.out).mono ?_; rintro e w9 ⟨rfl, hf9⟩; rw [S1.out]; have T9 : Hid _ := T8.out.keep0 hf9; clear hf9 T8)
    | (go_at_call 27; refine (run_any T7.out.hy W2.out _ (of_decide_eq_true (by kernel_rfl))).mono ?_; rw [R4.out]; rintro e w8 ⟨rfl, sl8, hm8, mw8⟩; have T8 : Hid _ := (T7.out.turn.run hm8 mw8).turn; clear hm8 mw8 T7)
    | (go_at_call 28; refine (mshow_any T6.out.hy W2.out).mono ?_; rintro e w7 ⟨rfl, hf7⟩; rw [S2.out]; have T7 : Hid _ := T6.out.keep0 hf7; clear hf7 T6)
    | (go_at_call 28; refine (mshow_any T5.out.hx W3.out).mono ?_; rintro e w6 ⟨rfl, hf6⟩; rw [S1.out]; have T6 : Hid _ := T5.out.keep0 hf6; clear hf6 T5)
    | (go_at_call 27; refine (run_any T4.out.hx W1.out _ (of_decide_eq_true (by kernel_rfl))).mono ?_; rw [R3.out]; rintro e w5 ⟨rfl, sl5, hm5, mw5⟩; have T5 : Hid _ := T4.out.run hm5 mw5; clear hm5 mw5 T4)
    | (go_at_call 27; refine (run_any T3.out.hy Wf.nil _ (of_decide_eq_true (by kernel_rfl))).mono ?_; rw [R2.out]; rintro e w4 ⟨rfl, sl4, hm4, mw4⟩; have T4 : Hid _ := (T3.out.turn.run hm4 mw4).turn; clear hm4 mw4 T3)
    | (go_at_call 27; refine (run_any T2.out.hx Wf.nil _ (of_decide_eq_true (by kernel_rfl))).mono ?_; rw [R1.out]; rintro e w3 ⟨rfl, sl3, hm3, mw3⟩; have T3 : Hid _ := T2.out.run hm3 mw3; clear hm3 mw3 T2)
    | (go_at_call 26; refine (tnew_any w1).mono ?_; rintro e w2 ⟨rfl, hm2, hf2⟩; have T2 : Hid (Tw w w2 (w.heap.size + 1) w.heap.size (.slice none 0 0) [] (w1.heap.size + 1) w1.heap.size (.slice none 0 0) []) := ⟨HM1.out.keep0 hf2, hm2, (fun b hb hm => by have := HM1.out.blocks b hb; simp [Ob, Value.ownBlock] at hm; omega), (fun b hb => by simp [Ob, Value.ownBlock] at hb; omega), (fun b hb => by have := HF1.out.size; simp [Ob, Value.ownBlock] at hb; omega), HF1.out.trans hf2⟩; clear hm2 hf2 HM1)
    | (go_at_call 26; refine (tnew_any _).mono ?_; rintro e w1 ⟨rfl, hm1, hf1⟩; have HM1 : Hid (Mc w1 (w.heap.size + 1) w.heap.size (.slice none 0 0) 0 []) := hm1; have HF1 : Hid (Fr [] w w1) := hf1; clear hm1 hf1))
  go_ret
  exact ⟨by simp, T10.out.fr⟩

set_option maxHeartbeats 3200000 in
set_option maxRecDepth 100000 in
theorem edge_22 (w : World) : Calls Try.prog 22 #[] w fun e w' => e = .returned (.bool true) ∧ Fr [] w w' := by
  have HF : Hid (Fr [] w w) := Fr.refl _ _
  go_enter Try.func22, Try.ntmps22
  go_wp2_with (first
    | (go_at_call 5; refine (edge_5 _).mono ?_; rintro e w1 ⟨rfl, hf⟩; replace HF : Hid (Fr [] w w1) := HF.out.trans hf; clear hf)
    | (go_at_call 6; refine (edge_6 _).mono ?_; rintro e w1 ⟨rfl, hf⟩; replace HF : Hid (Fr [] w w1) := HF.out.trans hf; clear hf)
    | (go_at_call 7; refine (edge_7 _).mono ?_; rintro e w1 ⟨rfl, hf⟩; replace HF : Hid (Fr [] w w1) := HF.out.trans hf; clear hf)
    | (go_at_call 8; refine (edge_8 _).mono ?_; rintro e w1 ⟨rfl, hf⟩; replace HF : Hid (Fr [] w w1) := HF.out.trans hf; clear hf)
    | (go_at_call 9; refine (edge_9 _).mono ?_; rintro e w1 ⟨rfl, hf⟩; replace HF : Hid (Fr [] w w1) := HF.out.trans hf; clear hf)
    | (go_at_call 10; refine (edge_10 _).mono ?_; rintro e w1 ⟨rfl, hf⟩; replace HF : Hid (Fr [] w w1) := HF.out.trans hf; clear hf)
    | (go_at_call 11; refine (edge_11 _).mono ?_; rintro e w1 ⟨rfl, hf⟩; replace HF : Hid (Fr [] w w1) := HF.out.trans hf; clear hf)
    | (go_at_call 12; refine (edge_12 _).mono ?_; rintro e w1 ⟨rfl, hf⟩; replace HF : Hid (Fr [] w w1) := HF.out.trans hf; clear hf)
    | (go_at_call 13; refine (edge_13 _).mono ?_; rintro e w1 ⟨rfl, hf⟩; replace HF : Hid (Fr [] w w1) := HF.out.trans hf; clear hf)
    | (go_at_call 14; refine (edge_14 _).mono ?_; rintro e w1 ⟨rfl, hf⟩; replace HF : Hid (Fr [] w w1) := HF.out.trans hf; clear hf)
    | (go_at_call 15; refine (edge_15 _).mono ?_; rintro e w1 ⟨rfl, hf⟩; replace HF : Hid (Fr [] w w1) := HF.out.trans hf; clear hf)
    | (go_at_call 16; refine (edge_16 _).mono ?_; rintro e w1 ⟨rfl, hf⟩; replace HF : Hid (Fr [] w w1) := HF.out.trans hf; clear hf)
    | (go_at_call 17; refine (edge_17 _).mono ?_; rintro e w1 ⟨rfl, hf⟩; replace HF : Hid (Fr [] w w1) := HF.out.trans hf; clear hf)
    | (go_at_call 18; refine (edge_18 _).mono ?_; rintro e w1 ⟨rfl, hf⟩; replace HF : Hid (Fr [] w w1) := HF.out.trans hf; clear hf)
    | (go_at_call 19; refine (edge_19 _).mono ?_; rintro e w1 ⟨rfl, hf⟩; replace HF : Hid (Fr [] w w1) := HF.out.trans hf; clear hf)
    | (go_at_call 20; refine (edge_20 _).mono ?_; rintro e w1 ⟨rfl, hf⟩; replace HF : Hid (Fr [] w w1) := HF.out.trans hf; clear hf)
    | (go_at_call 21; refine (edge_21 _).mono ?_; rintro e w1 ⟨rfl, hf⟩; replace HF : Hid (Fr [] w w1) := HF.out.trans hf; clear hf))
  go_ret
  exact ⟨rfl, HF.out⟩
end Go.Proofs.Qxb6500336a
