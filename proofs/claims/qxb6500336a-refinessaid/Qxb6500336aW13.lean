import Derived.Test.Qxb6500336aW12
namespace Go.Proofs.Qxb6500336a
open Go.RowKit
set_option linter.unusedVariables false
set_option linter.unusedSimpArgs false

set_option maxHeartbeats 1600000 in
set_option maxRecDepth 100000 in
theorem plus_any {w : World} {a b : Code} {va vb : Value} (ha : Sh w a va) (hb : Sh w b vb) (hza : (tx false a).size ≤ 30) (hzb : (tx false b).size ≤ 30) :
    Calls Try.prog 63 #[va, vb] w fun e w' => ∃ rv, e = .returned (.tuple #[rv, .int .i64 (plusT a b).1]) ∧ Fr [] w w' ∧ ((plusT a b).1 = 0 → Sh w' (plusT a b).2 rv) := by
  rcases addm_any ha hb hza hzb with ⟨⟨c, x, y, rfl⟩, h5⟩ | ⟨⟨f, r, hm, hc⟩, ht, _, hn5, hsz⟩
  · obtain ⟨B, av, bv, rfl, _⟩ := ha
    have n5 := as92_107
    have h6 : plusT (.cond c x y) b = (5, .skip) := by unfold plusT; rw [h5]; rfl
    rw [h6]
    go_enter Try.func63, Try.ntmps63
    go_wp2
    go_ret2
    exact ⟨_, rfl, Fr.refl _ _, fun h => by simp at h⟩
  · have HC : Hid _ := hc
    have HM : Hid _ := hm
    clear hc hm ha hb
    by_cases h0 : (addT a b).1 = 0
    · by_cases h1 : ft (addT a b).2 = true
      · have h6 : plusT a b = (0, (addT a b).2) := by unfold plusT; rw [if_pos h0, if_pos h1]
        have HF : Hid (ft (addT a b).2 = true) := h1
        have H0 : Hid ((addT a b).1 = 0) := h0
        have HZ : Hid _ := hsz
        rw [h6]
        clear h0 h1 h6 hn5 hsz
        go_enter Try.func63, Try.ntmps63
        go_wp2_with (first | ((with_reducible refine at_inv ?_); refine wpList_invoke1 rfl _ _ _ rfl va vb rfl rfl f #[r, vb] (HM.out _) _ HC.out ?_; rintro e w1 ⟨rv, rfl, hf1, hs1⟩; refine ⟨_, rfl, ?_⟩; rw [H0.out]; have HS1 : Hid _ := hs1 H0.out; clear hs1) | (go_at_call 57; refine (fits_any HS1.out HZ.out).mono ?_; rintro e w2 ⟨rfl, hf2⟩; rw [HF.out]))
        go_ret2
        exact ⟨rv, rfl, hf1.trans hf2, fun _ => Sh.kept hf2.kc0 _ _ HS1.out⟩
      · have h6 : plusT a b = (7, .skip) := by unfold plusT; rw [if_pos h0, if_neg h1]
        have HF : Hid (ft (addT a b).2 = false) := by show _ = _; simpa using h1
        have H0 : Hid ((addT a b).1 = 0) := h0
        have HZ : Hid _ := hsz
        rw [h6]
        clear h0 h1 h6 hn5 hsz
        go_enter Try.func63, Try.ntmps63
        go_wp2_with (first | ((with_reducible refine at_inv ?_); refine wpList_invoke1 rfl _ _ _ rfl va vb rfl rfl f #[r, vb] (HM.out _) _ HC.out ?_; rintro e w1 ⟨rv, rfl, hf1, hs1⟩; refine ⟨_, rfl, ?_⟩; rw [H0.out]; have HS1 : Hid _ := hs1 H0.out; clear hs1) | (go_at_call 57; refine (fits_any HS1.out HZ.out).mono ?_; rintro e w2 ⟨rfl, hf2⟩; rw [HF.out]))
        go_ret2
        exact ⟨_, rfl, hf1.trans hf2, fun h => by simp at h⟩
    · have h6 : plusT a b = ((addT a b).1, .skip) := by unfold plusT; rw [if_neg h0]
      rw [h6]
      have hne : ((addT a b).1 != 0) = true := by simpa using h0
      generalize (addT a b).1 = n at *
      have H0 : Hid (¬ n = 0) := h0
      clear h0 h6 hn5
      go_enter Try.func63, Try.ntmps63
      go_wp2_with ((with_reducible refine at_inv ?_); refine wpList_invoke1 rfl _ _ _ rfl va vb rfl rfl f #[r, vb] (HM.out _) _ HC.out ?_; rintro e w1 ⟨rv, rfl, hf1, hs1⟩; refine ⟨_, rfl, ?_⟩; clear hs1)
      go_ret2
      exact ⟨_, rfl, hf1, fun h => (H0.out h).elim⟩

set_option maxHeartbeats 1600000 in
set_option maxRecDepth 100000 in
theorem add_any {w : World} {S : Nat} {sl : Value} {rs : List Code} (h : St w S sl rs) (hw : Wf rs) :
    Calls Try.prog 41 #[.pointer (some ⟨S, 0, none⟩)] w (Out w S sl (addW rs)) := by
  obtain ⟨us, h1, h2⟩ := h
  have hlen := h2.len
  have hl5 := hw.1
  obtain ⟨p, cap, rfl⟩ := h1.len
  have H : Hid (St w S (.slice p us.length cap) rs) := ⟨us, h1, h2⟩
  have H1 : Hid (Stv w S (.slice p us.length cap) us false) := h1
  have H2 : Hid (Shs w rs us) := h2
  have HL : Hid (us.length ≤ 5) := by show _ ≤ _; omega
  have HR : Hid (rs.length ≤ 5) := hl5
  have HW : Hid (Wf rs) := hw
  have c0 := blk_cell h1.obj 0
  simp at c0
  clear h1 hw
  cases rs with
  | nil =>
    cases h2.nil
    simp at c0
    clear h2
    go_enter Try.func41, Try.ntmps41
    go_wp2
    go_ret
    exact Out.same H.out (Fr.refl _ _) 4
  | cons x rs1 =>
    obtain ⟨xv, us1, rfl, hx, h4⟩ := h2.cons
    cases rs1 with
    | nil =>
      cases h4.nil
      simp at c0
      clear h2 hx h4
      go_enter Try.func41, Try.ntmps41
      go_wp2
      go_ret
      exact Out.same H.out (Fr.refl _ _) 4
    | cons t r =>
      obtain ⟨tv, us', rfl, ht, h5⟩ := h4.cons
      have HT : Hid (Sh w t tv) := ht
      have HX : Hid (Sh w x xv) := hx
      have HXZ : Hid ((tx false x).size ≤ 30) := HW.out.2 x (by simp)
      have HTZ : Hid ((tx false t).size ≤ 30) := HW.out.2 t (by simp)
      clear h2 h4 h5 hx ht
      simp only [addW]
      simp at c0
      by_cases h0 : (plusT t x).1 = 0
      · rw [if_pos h0]
        have H0 : Hid ((plusT t x).1 = 0) := h0
        clear h0
        go_enter Try.func41, Try.ntmps41
        go_wp2_with (first | (go_at_call 62; refine (peek_any (H1.out.keep0 hf1) HL.out 0 (by omega)).mono ?_; rintro e w2 ⟨rfl, hf2⟩; simp only [List.getElem?_cons_zero, Option.getD]) | (go_at_call 62; refine (peek_any H1.out HL.out 1 (by omega)).mono ?_; rintro e w1 ⟨rfl, hf1⟩; simp only [List.getElem?_cons_succ, List.getElem?_cons_zero, Option.getD]) | (go_at_call 63; refine (plus_any (Sh.kept (hf1.trans hf2).kc0 _ _ HT.out) (Sh.kept (hf1.trans hf2).kc0 _ _ HX.out) HTZ.out HXZ.out).mono ?_; rintro e w3 ⟨rv, rfl, hf3, hs3⟩; rw [H0.out]; have HS3 : Hid _ := hs3 H0.out; clear hs3) | (go_at_call 64; refine (swap_st (H1.out.keep0 ((hf1.trans hf2).trans hf3)) (H2.out.kept ((hf1.trans hf2).trans hf3).kc0) HR.out 2 (by simp) HS3.out).mono ?_; rintro e w4 ⟨rfl, sl4, h4, m4⟩))
        go_ret
        exact ⟨rfl, sl4, h4, Mv.frl ((hf1.trans hf2).trans hf3) m4⟩
      · rw [if_neg h0]
        have hne : ((plusT t x).1 != 0) = true := by simpa using h0
        clear h0
        go_enter Try.func41, Try.ntmps41
        go_wp2_with (first | (go_at_call 62; refine (peek_any (H1.out.keep0 hf1) HL.out 0 (by omega)).mono ?_; rintro e w2 ⟨rfl, hf2⟩; simp only [List.getElem?_cons_zero, Option.getD]) | (go_at_call 62; refine (peek_any H1.out HL.out 1 (by omega)).mono ?_; rintro e w1 ⟨rfl, hf1⟩; simp only [List.getElem?_cons_succ, List.getElem?_cons_zero, Option.getD]) | (go_at_call 63; refine (plus_any (Sh.kept (hf1.trans hf2).kc0 _ _ HT.out) (Sh.kept (hf1.trans hf2).kc0 _ _ HX.out) HTZ.out HXZ.out).mono ?_; rintro e w3 ⟨rv, rfl, hf3, hs3⟩; clear hs3))
        go_ret
        exact Out.same H.out ((hf1.trans hf2).trans hf3) _
end Go.Proofs.Qxb6500336a
