import Derived.Test.Qxb6500336aW7
namespace Go.Proofs.Qxb6500336a
open Go.RowKit
set_option linter.unusedVariables false
set_option linter.unusedSimpArgs false
set_option maxHeartbeats 1600000 in
set_option maxRecDepth 100000 in
theorem cons_any {w : World} {S : Nat} {sl : Value} {rs : List Code} (h : St w S sl rs) (hw : Wf rs) :
    Calls Try.prog 42 #[.pointer (some ⟨S, 0, none⟩)] w (Out w S sl (consW rs)) := by
  obtain ⟨us, h1, h2⟩ := h
  have hlen := h2.len
  have hl5 := hw.1
  obtain ⟨p, cap, rfl⟩ := h1.len
  have H : Hid (St w S (.slice p us.length cap) rs) := ⟨us, h1, h2⟩
  have H1 : Hid (Stv w S (.slice p us.length cap) us false) := h1
  have H2 : Hid (Shs w rs us) := h2
  have HL : Hid (us.length ≤ 5) := by show _ ≤ _; omega
  have HR : Hid (rs.length ≤ 5) := hl5
  have HW : Hid (Wf rs) := hw
  clear h1 hw
  have n0 := asNil_75
  have n1 := as84_75
  have n2 := as99_75
  have n3 := as75_75
  have n4 := as92_75
  cases rs with
  | nil =>
    cases h2.nil
    clear h2
    go_enter Try.func42, Try.ntmps42
    go_wp2_with (go_at_call 62; refine (peek_any H1.out HL.out 1 (by omega)).mono ?_; rintro e w1 ⟨rfl, hf1⟩; simp only [List.getElem?_nil, List.getElem?_cons_succ, Option.getD]; have c0 := blk_cell (H1.out.keep0 hf1).obj 0; simp at c0)
    go_ret
    exact Out.same H.out hf1 4

  | cons x rs1 =>
    obtain ⟨xv, us1, rfl, hx, h4⟩ := h2.cons
    cases rs1 with
    | nil =>
      cases h4.nil
      clear h2 hx h4
      go_enter Try.func42, Try.ntmps42
      go_wp2_with (go_at_call 62; refine (peek_any H1.out HL.out 1 (by omega)).mono ?_; rintro e w1 ⟨rfl, hf1⟩; simp only [List.getElem?_nil, List.getElem?_cons_succ, Option.getD]; have c0 := blk_cell (H1.out.keep0 hf1).obj 0; simp at c0)
      go_ret
      exact Out.same H.out hf1 4

    | cons t r =>
      obtain ⟨u, us', rfl, h3, h5⟩ := h4.cons
      obtain ⟨TX, ux, rfl⟩ := hx.ex
      have HS : Hid (Sh w t u) := h3
      have HX : Hid (Sh w x (.iface TX ux)) := hx
      have HXZ : Hid ((tx false x).size ≤ 30) := HW.out.2 x (by simp)
      have HTZ : Hid ((tx false t).size ≤ 30) := HW.out.2 t (by simp)
      clear h2 h4 h5 hx
      rcases h3.kinds with ⟨n, e1, e2, e3, e4, rfl, hn⟩ | ⟨s, e1, e2, e3, e4, rfl, e5⟩ | ⟨k, e1, e2, e3, e4, rfl⟩ | ⟨c, a, b, B, av, bv, rfl, rfl, hB, ha, hb⟩
      · clear h3
        simp only [consW, e3, Bool.false_eq_true, ↓reduceIte]
        go_enter Try.func42, Try.ntmps42
        go_wp2_with (go_at_call 62; refine (peek_any H1.out HL.out 1 (by omega)).mono ?_; rintro e w1 ⟨rfl, hf1⟩; simp only [List.getElem?_cons_succ, List.getElem?_cons_zero, Option.getD]; have c0 := blk_cell (H1.out.keep0 hf1).obj 0; simp at c0)
        go_ret
        exact Out.same H.out hf1 2
      · clear h3
        simp only [consW, e3, Bool.false_eq_true, ↓reduceIte]
        go_enter Try.func42, Try.ntmps42
        go_wp2_with (go_at_call 62; refine (peek_any H1.out HL.out 1 (by omega)).mono ?_; rintro e w1 ⟨rfl, hf1⟩; simp only [List.getElem?_cons_succ, List.getElem?_cons_zero, Option.getD]; have c0 := blk_cell (H1.out.keep0 hf1).obj 0; simp at c0)
        go_ret
        exact Out.same H.out hf1 2
      · have hlt : ∀ b, k = some b → b < w.heap.size := by
          intro b hb
          rcases h3.lst with ⟨_, e⟩ | ⟨_, _, B, _, _, _, e, hB, _⟩
          · rw [e] at hb; cases hb
          · rw [e] at hb; cases hb; exact blk_lt hB
        have HLT : Hid (∀ b, k = some b → b < w.heap.size) := hlt
        have HZ : Hid ((tx false (.seq x t)).size ≤ 1000) := by
          show _ ≤ _
          rw [seq_size]
          have := tt_le t e3
          have := HXZ.out
          have := HTZ.out
          simp; omega
        clear h3 hlt
        simp only [consW, e3, ↓reduceIte]
        by_cases hft : ft (.seq x t) = true
        · rw [if_pos hft]
          have HFT : Hid (ft (.seq x t) = true) := hft
          clear hft
          go_enter Try.func42, Try.ntmps42
          go_wp2_with (first | (go_at_call 62; refine (peek_any (H1.out.keep0 (hf1.alloc _)) HL.out 0 (by omega)).mono ?_; rintro e w2 ⟨rfl, hf2⟩; simp only [List.getElem?_cons_zero, Option.getD]; have hC2 := hf2.keep (blk_new w1 (.cells #[.nilIface, .pointer none] 78)) (by simp); have c20 := blk_cell hC2 0; have c21 := blk_cell hC2 1; have f20 := blk_frozen hC2 0; have f21 := blk_frozen hC2 1; simp at c20 c21; have hC3 := blk_set (blk_set hC2 0 (.iface TX ux)) 1 (ptrO k); simp at hC3; have HF3 : Hid (Fr [] w ((w2.setCell ⟨w1.heap.size, 0, none⟩ (.iface TX ux)).setCell ⟨w1.heap.size, 1, none⟩ (ptrO k))) := (((hf1.alloc _).trans hf2).setCell (Or.inr hf1.size) _).setCell (Or.inr hf1.size) _; have HSH : Hid (Sh ((w2.setCell ⟨w1.heap.size, 0, none⟩ (.iface TX ux)).setCell ⟨w1.heap.size, 1, none⟩ (ptrO k)) (.seq x t) (.iface 75 (.pointer (some ⟨w1.heap.size, 0, none⟩)))) := ⟨w1.heap.size, _, k, rfl, hC3, Sh.kept HF3.out.kc0 _ _ HX.out, Sh.kept HF3.out.kc0 _ _ HS.out, fun b hb => Nat.lt_of_lt_of_le (HLT.out b hb) hf1.size⟩; clear hC2 hC3; unfold ptrO at *) | (go_at_call 62; refine (peek_any H1.out HL.out 1 (by omega)).mono ?_; rintro e w1 ⟨rfl, hf1⟩; simp only [List.getElem?_cons_succ, List.getElem?_cons_zero, Option.getD]; have c0 := blk_cell (H1.out.keep0 hf1).obj 0; simp at c0) | (go_at_call 57; refine (fits_any HSH.out HZ.out).mono ?_; rintro e w4 ⟨rfl, hf4⟩; simp only [HFT.out]) | (go_at_call 64; refine (swap_st (H1.out.keep0 (HF3.out.trans hf4)) (H2.out.kept (HF3.out.trans hf4).kc0) HR.out 2 (by simp) (Sh.kept hf4.kc0 _ _ HSH.out)).mono ?_; rintro e w3 ⟨rfl, sl3, h3, m3⟩))
          go_ret
          exact ⟨rfl, sl3, h3, Mv.frl (HF3.out.trans hf4) m3⟩
        · rw [if_neg hft]
          have HFT : Hid (ft (.seq x t) = false) := by show _ = _; simpa using hft
          clear hft
          go_enter Try.func42, Try.ntmps42
          go_wp2_with (first | (go_at_call 62; refine (peek_any (H1.out.keep0 (hf1.alloc _)) HL.out 0 (by omega)).mono ?_; rintro e w2 ⟨rfl, hf2⟩; simp only [List.getElem?_cons_zero, Option.getD]; have hC2 := hf2.keep (blk_new w1 (.cells #[.nilIface, .pointer none] 78)) (by simp); have c20 := blk_cell hC2 0; have c21 := blk_cell hC2 1; have f20 := blk_frozen hC2 0; have f21 := blk_frozen hC2 1; simp at c20 c21; have hC3 := blk_set (blk_set hC2 0 (.iface TX ux)) 1 (ptrO k); simp at hC3; have HF3 : Hid (Fr [] w ((w2.setCell ⟨w1.heap.size, 0, none⟩ (.iface TX ux)).setCell ⟨w1.heap.size, 1, none⟩ (ptrO k))) := (((hf1.alloc _).trans hf2).setCell (Or.inr hf1.size) _).setCell (Or.inr hf1.size) _; have HSH : Hid (Sh ((w2.setCell ⟨w1.heap.size, 0, none⟩ (.iface TX ux)).setCell ⟨w1.heap.size, 1, none⟩ (ptrO k)) (.seq x t) (.iface 75 (.pointer (some ⟨w1.heap.size, 0, none⟩)))) := ⟨w1.heap.size, _, k, rfl, hC3, Sh.kept HF3.out.kc0 _ _ HX.out, Sh.kept HF3.out.kc0 _ _ HS.out, fun b hb => Nat.lt_of_lt_of_le (HLT.out b hb) hf1.size⟩; clear hC2 hC3; unfold ptrO at *) | (go_at_call 62; refine (peek_any H1.out HL.out 1 (by omega)).mono ?_; rintro e w1 ⟨rfl, hf1⟩; simp only [List.getElem?_cons_succ, List.getElem?_cons_zero, Option.getD]; have c0 := blk_cell (H1.out.keep0 hf1).obj 0; simp at c0) | (go_at_call 57; refine (fits_any HSH.out HZ.out).mono ?_; rintro e w4 ⟨rfl, hf4⟩; simp only [HFT.out]))
          go_ret
          exact Out.same H.out (HF3.out.trans hf4) 7
      · clear h3 hB ha hb
        simp only [consW, isL, Bool.false_eq_true, ↓reduceIte]
        go_enter Try.func42, Try.ntmps42
        go_wp2_with (go_at_call 62; refine (peek_any H1.out HL.out 1 (by omega)).mono ?_; rintro e w1 ⟨rfl, hf1⟩; simp only [List.getElem?_cons_succ, List.getElem?_cons_zero, Option.getD]; have c0 := blk_cell (H1.out.keep0 hf1).obj 0; simp at c0)
        go_ret
        exact Out.same H.out hf1 2
set_option maxHeartbeats 1600000 in
set_option maxRecDepth 100000 in
theorem pair_any {w : World} {S : Nat} {sl : Value} {rs : List Code} (h : St w S sl rs) (hw : Wf rs) :
    Calls Try.prog 47 #[.pointer (some ⟨S, 0, none⟩)] w (Out w S sl (pairW rs)) := by
  obtain ⟨us, h1, h2⟩ := h
  have hlen := h2.len
  have hl5 := hw.1
  obtain ⟨p, cap, rfl⟩ := h1.len
  have H : Hid (St w S (.slice p us.length cap) rs) := ⟨us, h1, h2⟩
  have H1 : Hid (Stv w S (.slice p us.length cap) us false) := h1
  have H2 : Hid (Shs w rs us) := h2
  have HL : Hid (us.length ≤ 5) := by show _ ≤ _; omega
  have HR : Hid (rs.length ≤ 5) := hl5
  have HW : Hid (Wf rs) := hw
  clear h1 hw
  cases rs with
  | nil =>
    cases h2.nil
    clear h2
    have c0 := blk_cell H1.out.obj 0
    simp at c0
    go_enter Try.func47, Try.ntmps47
    go_wp2
    go_ret
    exact Out.same H.out (Fr.refl _ _) 4

  | cons x rs1 =>
    obtain ⟨xv, us1, rfl, hx, h4⟩ := h2.cons
    cases rs1 with
    | nil =>
      cases h4.nil
      clear h2 hx h4
      have c0 := blk_cell H1.out.obj 0
      simp at c0
      go_enter Try.func47, Try.ntmps47
      go_wp2
      go_ret
      exact Out.same H.out (Fr.refl _ _) 4

    | cons t r =>
      obtain ⟨u, us', rfl, h3, h5⟩ := h4.cons
      obtain ⟨TX, ux, rfl⟩ := hx.ex
      have HS : Hid (Sh w t u) := h3
      have HX : Hid (Sh w x (.iface TX ux)) := hx
      have HXZ : Hid ((tx false x).size ≤ 30) := HW.out.2 x (by simp)
      have HTZ : Hid ((tx false t).size ≤ 30) := HW.out.2 t (by simp)
      clear h2 h4 h5 hx
      obtain ⟨TT, ut, rfl⟩ := h3.ex
      have HZ : Hid ((tx false (tP t x)).size ≤ 1000) := by
        show _ ≤ _
        unfold tP
        rw [pair_size]
        have := HXZ.out
        have := HTZ.out
        omega
      have c0 := blk_cell H1.out.obj 0
      simp at c0
      clear h3
      simp only [pairW]
      by_cases hft : ft (tP t x) = true
      · rw [if_pos hft]
        have HFT : Hid (ft (tP t x) = true) := hft
        clear hft
        go_enter Try.func47, Try.ntmps47
        go_wp2_with (first | (go_at_call 62; refine (peek_any (H1.out.keep0 HF1.out) HL.out 0 (by omega)).mono ?_; rintro e w2 ⟨rfl, hf2⟩; simp only [List.getElem?_cons_zero, Option.getD]; have hC3 := hf2.keep HC2.out (by simp); have c20 := blk_cell hC3 1; have f20 := blk_frozen hC3 1; simp at c20; have hC4 := blk_set hC3 1 (.iface TX ux); simp at hC4; have HF3 : Hid (Fr [] w (w2.setCell ⟨w.heap.size, 1, none⟩ (.iface TX ux))) := (HF1.out.trans hf2).setCell (Or.inr (Nat.le_refl _)) _; have HSH : Hid (Sh (w2.setCell ⟨w.heap.size, 1, none⟩ (.iface TX ux)) (tP t x) (.iface 92 (.pointer (some ⟨w.heap.size, 0, none⟩)))) := ⟨w.heap.size, _, _, rfl, hC4, Sh.kept HF3.out.kc0 _ _ HS.out, Sh.kept HF3.out.kc0 _ _ HX.out⟩; clear hC3 hC4) | (go_at_call 62; refine (peek_any (H1.out.keep0 ((Fr.refl [] w).alloc _)) HL.out 1 (by omega)).mono ?_; rintro e w1 ⟨rfl, hf1⟩; simp only [List.getElem?_cons_succ, List.getElem?_cons_zero, Option.getD]; have hC1 := hf1.keep (blk_new w (.cells #[.nilIface, .nilIface] 94)) (by simp); have c10 := blk_cell hC1 0; have f10 := blk_frozen hC1 0; simp at c10; have hC2 := blk_set hC1 0 (.iface TT ut); simp at hC2; have HC2 : Hid ((w1.setCell ⟨w.heap.size, 0, none⟩ (.iface TT ut)).heap[w.heap.size]? = some (.cells #[.iface TT ut, .nilIface] 94)) := hC2; have HF1 : Hid (Fr [] w (w1.setCell ⟨w.heap.size, 0, none⟩ (.iface TT ut))) := (((Fr.refl [] w).alloc _).trans hf1).setCell (Or.inr (Nat.le_refl _)) _; clear hC1 hC2) | (go_at_call 57; refine (fits_any HSH.out HZ.out).mono ?_; rintro e w4 ⟨rfl, hf4⟩; simp only [HFT.out]) | (go_at_call 64; refine (swap_st (H1.out.keep0 (HF3.out.trans hf4)) (H2.out.kept (HF3.out.trans hf4).kc0) HR.out 2 (by simp) (Sh.kept hf4.kc0 _ _ HSH.out)).mono ?_; rintro e w3 ⟨rfl, sl3, h3, m3⟩))
        go_ret
        exact ⟨rfl, sl3, h3, Mv.frl (HF3.out.trans hf4) m3⟩
      · rw [if_neg hft]
        have HFT : Hid (ft (tP t x) = false) := by show _ = _; simpa using hft
        clear hft
        go_enter Try.func47, Try.ntmps47
        go_wp2_with (first | (go_at_call 62; refine (peek_any (H1.out.keep0 HF1.out) HL.out 0 (by omega)).mono ?_; rintro e w2 ⟨rfl, hf2⟩; simp only [List.getElem?_cons_zero, Option.getD]; have hC3 := hf2.keep HC2.out (by simp); have c20 := blk_cell hC3 1; have f20 := blk_frozen hC3 1; simp at c20; have hC4 := blk_set hC3 1 (.iface TX ux); simp at hC4; have HF3 : Hid (Fr [] w (w2.setCell ⟨w.heap.size, 1, none⟩ (.iface TX ux))) := (HF1.out.trans hf2).setCell (Or.inr (Nat.le_refl _)) _; have HSH : Hid (Sh (w2.setCell ⟨w.heap.size, 1, none⟩ (.iface TX ux)) (tP t x) (.iface 92 (.pointer (some ⟨w.heap.size, 0, none⟩)))) := ⟨w.heap.size, _, _, rfl, hC4, Sh.kept HF3.out.kc0 _ _ HS.out, Sh.kept HF3.out.kc0 _ _ HX.out⟩; clear hC3 hC4) | (go_at_call 62; refine (peek_any (H1.out.keep0 ((Fr.refl [] w).alloc _)) HL.out 1 (by omega)).mono ?_; rintro e w1 ⟨rfl, hf1⟩; simp only [List.getElem?_cons_succ, List.getElem?_cons_zero, Option.getD]; have hC1 := hf1.keep (blk_new w (.cells #[.nilIface, .nilIface] 94)) (by simp); have c10 := blk_cell hC1 0; have f10 := blk_frozen hC1 0; simp at c10; have hC2 := blk_set hC1 0 (.iface TT ut); simp at hC2; have HC2 : Hid ((w1.setCell ⟨w.heap.size, 0, none⟩ (.iface TT ut)).heap[w.heap.size]? = some (.cells #[.iface TT ut, .nilIface] 94)) := hC2; have HF1 : Hid (Fr [] w (w1.setCell ⟨w.heap.size, 0, none⟩ (.iface TT ut))) := (((Fr.refl [] w).alloc _).trans hf1).setCell (Or.inr (Nat.le_refl _)) _; clear hC1 hC2) | (go_at_call 57; refine (fits_any HSH.out HZ.out).mono ?_; rintro e w4 ⟨rfl, hf4⟩; simp only [HFT.out]))
        go_ret
        exact Out.same H.out (HF3.out.trans hf4) 7
end Go.Proofs.Qxb6500336a
