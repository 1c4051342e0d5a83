import Derived.Test.Qxb6500336aW16
namespace Go.Proofs.Qxb6500336a
open Go.RowKit
set_option linter.unusedVariables false
set_option linter.unusedSimpArgs false

def Sb (w : World) (S : Nat) (sl : Value) (rs : List Code) (bz : Bool) : Prop := ∃ us, Stv w S sl us bz ∧ Shs w rs us
def pe (v : Value) : List PanicEntry := [{ v := v, recovered := false }]
/-- A panic's value, and the error that the boundary makes of it. -/
def PV (v : Value) (n : Int) : Prop := v = .iface 26 (.int .i64 n) ∨ (n = 5 ∧ ((∃ q, v = .iface 15 q) ∨ (∃ q, v = .iface 10 q)))
def XOut (w : World) (S : Nat) (sl : Value) (r : Int × List Code) (e : Ending) (w' : World) : Prop :=
  (r.1 = 0 ∧ e = .returned (.tuple #[]) ∧ ∃ sl', Sb w' S sl' r.2 true ∧ Mv w w' S sl sl') ∨
  (r.1 ≠ 0 ∧ (∃ pv, e = .panicked (pe pv) ∧ PV pv r.1) ∧ ∃ sl' us', Stv w' S sl' us' true ∧ Mv w w' S sl sl')

theorem swap_b {w : World} {S : Nat} {sl : Value} {us : List Value} {rs : List Code} {bz : Bool} (h1 : Stv w S sl us bz) (h2 : Shs w rs us) (hl : rs.length ≤ 5) (d : Nat) (hd : d ≤ rs.length) {t : Code} {v : Value} (hs : Sh w t v) :
    Calls Try.prog 64 #[.pointer (some ⟨S, 0, none⟩), .int .i64 d, v] w fun e w' => e = .returned (.tuple #[]) ∧ ∃ sl', Sb w' S sl' (t :: rs.drop d) bz ∧ Mv w w' S sl sl' := by
  obtain ⟨T, u, rfl⟩ := hs.ex
  have hlen := h2.len
  refine (swap_any h1 (by omega) d (by omega) T u).mono ?_
  rintro e w' ⟨rfl, sl', h3, h4⟩
  refine ⟨rfl, sl', ⟨_, h3, ?_⟩, h4⟩
  have hk := h1.kc h4
  refine ⟨Sh.kept hk _ _ hs, ?_⟩
  have : ∀ (d : Nat) (rs : List Code) (us : List Value), Shs w rs us → Shs w' (rs.drop d) (us.drop d) := by
    intro d
    induction d with
    | zero => intro rs us h; exact h.kept hk
    | succ d ih =>
      intro rs us h
      cases rs with
      | nil => cases h.nil; exact trivial
      | cons t ts => obtain ⟨v, vs, rfl, _, h'⟩ := h.cons; exact ih ts vs h'
  exact this d rs us h2

theorem must_ok (w : World) : Calls Try.prog 79 #[.int .i64 0] w fun e w' => e = .returned (.tuple #[]) ∧ w' = w := by
  go_enter Try.func79, Try.ntmps79
  go_wp2
  go_end0
  exact ⟨rfl, rfl⟩
theorem must_no (w : World) (n : Int) (h : (n != 0) = true) : Calls Try.prog 79 #[.int .i64 n] w fun e w' => e = .panicked (pe (.iface 26 (.int .i64 n))) ∧ w' = w := by
  go_enter Try.func79, Try.ntmps79
  go_wp2
  exact ⟨rfl, rfl, rfl⟩

set_option maxHeartbeats 800000 in
theorem take_nil {w : World} {S : Nat} {sl : Value} {bz : Bool} (h : Stv w S sl [] bz) :
    Calls Try.prog 80 #[.pointer (some ⟨S, 0, none⟩)] w fun e w' => e = .returned .nilIface ∧ Fr [] w w' := by
  have H1 : Hid (Stv w S sl [] bz) := h
  clear h
  go_enter Try.func80, Try.ntmps80
  go_wp2_with (go_at_call 62; refine (peek_any H1.out (by simp) 0 (by omega)).mono ?_; rintro e w1 ⟨rfl, hf1⟩; simp only [List.getElem?_nil, Option.getD])
  go_ret
  exact ⟨rfl, hf1⟩

set_option maxHeartbeats 1600000 in
set_option maxRecDepth 100000 in
theorem take_cons {w : World} {S : Nat} {sl : Value} {us : List Value} {bz : Bool} {T : TypeId} {u : Value} (h : Stv w S sl (.iface T u :: us) bz) (hl : us.length ≤ 4) :
    Calls Try.prog 80 #[.pointer (some ⟨S, 0, none⟩)] w fun e w' => e = .returned (.iface T u) ∧ ∃ sl', Stv w' S sl' us bz ∧ Mv w w' S sl sl' := by
  have H1 : Hid (Stv w S sl (.iface T u :: us) bz) := h
  rcases h.form with ⟨rfl, h5⟩ | ⟨g, cap, cur, rfl, hg, h5, h6, h7, h8⟩
  · cases h5
  · clear h hg h7 h8
    simp only [List.length_cons] at *
    go_enter Try.func80, Try.ntmps80
    go_wp2_with (go_at_call 62; refine (peek_any H1.out (by simp; omega) 0 (by omega)).mono ?_; rintro e w1 ⟨rfl, hf1⟩; simp only [List.getElem?_cons_zero, Option.getD]; have hS1 := H1.out.keep0 hf1; have c0 := blk_cell hS1.obj 0; have f0 := blk_frozen hS1.obj 0; simp at c0; have HS1 : Hid _ := hS1; clear hS1)
    go_region
    go_wp2
    go_ret
    have hz := cut_end HS1.out
    exact ⟨rfl, _, hz.1.keep0 ((Fr.refl [] _).drew), (Mv.frl hf1 hz.2).frr ((Fr.refl [] _).drew)⟩

set_option maxHeartbeats 800000 in
theorem give_full {w : World} {S : Nat} {sl : Value} {us : List Value} {bz : Bool} {v : Value} (h : Stv w S sl us bz) (hl : 5 ≤ us.length) (hl2 : us.length ≤ 100) :
    Calls Try.prog 81 #[.pointer (some ⟨S, 0, none⟩), v] w fun e w' => e = .panicked (pe (.iface 26 (.int .i64 3))) ∧ w' = w := by
  have c0 := blk_cell h.obj 0
  simp at c0
  obtain ⟨p, cap, rfl⟩ := h.len
  clear h
  generalize us.length = n at *
  go_enter Try.func81, Try.ntmps81
  go_wp2
  exact ⟨rfl, rfl, rfl⟩
set_option maxHeartbeats 800000 in
theorem give_ok {w : World} {S : Nat} {sl : Value} {us : List Value} {rs : List Code} {bz : Bool} {t : Code} {v : Value} (h : Stv w S sl us bz) (h2 : Shs w rs us) (hl : rs.length < 5) (hs : Sh w t v) :
    Calls Try.prog 81 #[.pointer (some ⟨S, 0, none⟩), v] w fun e w' => e = .returned (.tuple #[]) ∧ ∃ sl', Sb w' S sl' (t :: rs) bz ∧ Mv w w' S sl sl' := by
  have c0 := blk_cell h.obj 0
  simp at c0
  have hlen := h2.len
  obtain ⟨p, cap, rfl⟩ := h.len
  have H1 : Hid (Stv w S (.slice p us.length cap) us bz) := h
  have H2 : Hid (Shs w rs us) := h2
  have HS : Hid (Sh w t v) := hs
  have HL : Hid (rs.length ≤ 5) := by show _ ≤ _; omega
  have hl2 : us.length < 5 := by omega
  clear h h2 hs hlen
  go_enter Try.func81, Try.ntmps81
  go_wp2_with (go_at_call 64; refine (swap_b H1.out H2.out HL.out 0 (by omega) HS.out).mono ?_; rintro e w2 ⟨rfl, sl', h', m'⟩)
  go_end0
  exact ⟨rfl, sl', h', m'⟩

/-- A value that cannot add panics. -/
theorem bare_pair {c : Operand} {x y : Code} {w : World} {v : Value} (h : Sh w (.cond c x y) v) (W : World) : ∃ o, (Instr.typeAssert v 65 107 false).run Try.prog W = .halt (.panic (.iface 15 (.pointer (some ⟨W.heap.size, 0, none⟩)))) (W.alloc o) := by
  obtain ⟨B, av, bv, rfl, _⟩ := h
  exact bare92_107 _ W

set_option maxHeartbeats 1600000 in
set_option maxRecDepth 100000 in
theorem double_any {w : World} {S : Nat} {sl : Value} {rs : List Code} (h : Sb w S sl rs true) (hw : Wf rs) :
    Calls Try.prog 70 #[.pointer (some ⟨S, 0, none⟩)] w (XOut w S sl (dblX rs)) := by
  obtain ⟨us, h1, h2⟩ := h
  have hlen := h2.len
  have hl5 := hw.1
  have H1 : Hid (Stv w S sl us true) := h1
  have H2 : Hid (Shs w rs us) := h2
  have HL : Hid (us.length ≤ 5) := by show _ ≤ _; omega
  have HR : Hid (rs.length ≤ 5) := hl5
  clear h1
  cases rs with
  | nil =>
    cases h2.nil
    clear h2
    go_enter Try.func70, Try.ntmps70
    go_wp2_with (go_at_call 62; refine (peek_any H1.out HL.out 0 (by omega)).mono ?_; rintro e w1 ⟨rfl, hf1⟩; simp only [List.getElem?_nil, Option.getD]; obtain ⟨o, ho⟩ := bareNil_107 w1)
    exact ⟨rfl, Or.inr ⟨by simp [dblX], ⟨_, rfl, Or.inr ⟨rfl, Or.inl ⟨_, rfl⟩⟩⟩, _, _, H1.out.keep0 (hf1.alloc _), Mv.ofFr (hf1.alloc _)⟩⟩
  | cons a r =>
    obtain ⟨av, us1, rfl, ha, h4⟩ := h2.cons
    have HA : Hid (Sh w a av) := ha
    have hz : (tx false a).size ≤ 30 := hw.2 a (by simp)
    simp only [dblX]
    rcases addm_any ha ha hz hz with ⟨⟨c, x, y, rfl⟩, hq5⟩ | ⟨⟨f, r', hm, hc⟩, ht, hb, hn5, hsz⟩
    · have h6 : plusT (.cond c x y) (.cond c x y) = (5, .skip) := by unfold plusT; rw [hq5]; rfl
      rw [h6]
      clear h2 h4 ha hw
      go_enter Try.func70, Try.ntmps70
      go_wp2_with (go_at_call 62; refine (peek_any H1.out HL.out 0 (by omega)).mono ?_; rintro e w1 ⟨rfl, hf1⟩; simp only [List.getElem?_cons_zero, Option.getD]; obtain ⟨o, ho⟩ := bare_pair HA.out w1)
      exact ⟨rfl, Or.inr ⟨by simp, ⟨_, rfl, Or.inr ⟨rfl, Or.inl ⟨_, rfl⟩⟩⟩, _, _, H1.out.keep0 (hf1.alloc _), Mv.ofFr (hf1.alloc _)⟩⟩
    · have HZ : Hid _ := hsz
      have HZA : Hid ((tx false a).size ≤ 30) := hz
      have HN5 : Hid ((addT a a).1 ≠ 5) := hn5
      clear hc hm h2 h4 ha hw f r' hsz hz hn5 hlen hl5
      by_cases h0 : (addT a a).1 = 0
      · by_cases h1 : ft (addT a a).2 = true
        · have h6 : plusT a a = (0, (addT a a).2) := by unfold plusT; rw [if_pos h0, if_pos h1]
          rw [h6]
          have HF : Hid (ft (addT a a).2 = true) := h1
          have H0 : Hid ((addT a a).1 = 0) := h0
          clear h0 h1 h6
          show Calls Try.prog 70 _ w (XOut w S sl (0, (addT a a).2 :: r))
          go_enter Try.func70, Try.ntmps70
          go_wp2_with (first | (go_at_call 62; refine (peek_any H1.out HL.out 0 (by omega)).mono ?_; rintro e w1 ⟨rfl, hf1⟩; simp only [List.getElem?_cons_zero, Option.getD]; obtain ⟨⟨f, r', hm, hc⟩, -⟩ := (addm_any (Sh.kept hf1.kc0 _ _ HA.out) (Sh.kept hf1.kc0 _ _ HA.out) HZA.out HZA.out).resolve_left (fun h => HN5.out h.2); have HM : Hid _ := hm; have HC : Hid _ := hc; clear hm hc) | ((with_reducible refine at_inv ?_); refine wpList_invoke1 rfl _ _ _ rfl av av rfl rfl f #[r', av] (HM.out _) _ HC.out ?_; rintro e w2 ⟨rv, rfl, hf2, hs2⟩; refine ⟨_, rfl, ?_⟩; rw [H0.out]; have HS2 : Hid _ := hs2 H0.out; clear hs2) | (go_at_call 57; refine (fits_any HS2.out HZ.out).mono ?_; rintro e w3 ⟨rfl, hf3⟩; rw [HF.out]) | (go_at_call 79; refine (must_ok _).mono ?_; rintro e w4 ⟨rfl, rfl⟩) | (go_at_call 64; refine (swap_b (H1.out.keep0 ((hf1.trans hf2).trans hf3)) (H2.out.kept ((hf1.trans hf2).trans hf3).kc0) HR.out 1 (by simp) (Sh.kept hf3.kc0 _ _ HS2.out)).mono ?_; rintro e w5 ⟨rfl, sl5, h5, m5⟩))
          go_end0
          exact Or.inl ⟨rfl, rfl, sl5, h5, Mv.frl ((hf1.trans hf2).trans hf3) m5⟩
        · have h6 : plusT a a = (7, .skip) := by unfold plusT; rw [if_pos h0, if_neg h1]
          rw [h6]
          have HF : Hid (ft (addT a a).2 = false) := by show _ = _; simpa using h1
          have H0 : Hid ((addT a a).1 = 0) := h0
          clear h0 h1 h6
          show Calls Try.prog 70 _ w (XOut w S sl (7, a :: r))
          go_enter Try.func70, Try.ntmps70
          go_wp2_with (first | (go_at_call 62; refine (peek_any H1.out HL.out 0 (by omega)).mono ?_; rintro e w1 ⟨rfl, hf1⟩; simp only [List.getElem?_cons_zero, Option.getD]; obtain ⟨⟨f, r', hm, hc⟩, -⟩ := (addm_any (Sh.kept hf1.kc0 _ _ HA.out) (Sh.kept hf1.kc0 _ _ HA.out) HZA.out HZA.out).resolve_left (fun h => HN5.out h.2); have HM : Hid _ := hm; have HC : Hid _ := hc; clear hm hc) | ((with_reducible refine at_inv ?_); refine wpList_invoke1 rfl _ _ _ rfl av av rfl rfl f #[r', av] (HM.out _) _ HC.out ?_; rintro e w2 ⟨rv, rfl, hf2, hs2⟩; refine ⟨_, rfl, ?_⟩; rw [H0.out]; have HS2 : Hid _ := hs2 H0.out; clear hs2) | (go_at_call 57; refine (fits_any HS2.out HZ.out).mono ?_; rintro e w3 ⟨rfl, hf3⟩; rw [HF.out]) | (go_at_call 79; refine (must_no _ 7 rfl).mono ?_; rintro e w4 ⟨rfl, rfl⟩))
          exact ⟨rfl, Or.inr ⟨by simp, ⟨_, rfl, Or.inl rfl⟩, _, _, H1.out.keep0 ((hf1.trans hf2).trans hf3), Mv.ofFr ((hf1.trans hf2).trans hf3)⟩⟩
      · have h6 : plusT a a = ((addT a a).1, .skip) := by unfold plusT; rw [if_neg h0]
        rw [h6]
        have e6 : (if ((addT a a).1, Code.skip).1 = 0 then (0, ((addT a a).1, Code.skip).2 :: r) else (((addT a a).1, Code.skip).1, a :: r)) = ((addT a a).1, a :: r) := if_neg h0
        rw [e6]
        have hne : ((addT a a).1 != 0) = true := by simpa using h0
        have hne2 : ((addT a a).1 == 0) = false := by simpa using h0
        have H0 : Hid (¬ (addT a a).1 = 0) := h0
        have HNE : Hid (((addT a a).1 != 0) = true) := hne
        clear h0 h6 e6
        go_enter Try.func70, Try.ntmps70
        go_wp2_with (first | (go_at_call 62; refine (peek_any H1.out HL.out 0 (by omega)).mono ?_; rintro e w1 ⟨rfl, hf1⟩; simp only [List.getElem?_cons_zero, Option.getD]; obtain ⟨⟨f, r', hm, hc⟩, -⟩ := (addm_any (Sh.kept hf1.kc0 _ _ HA.out) (Sh.kept hf1.kc0 _ _ HA.out) HZA.out HZA.out).resolve_left (fun h => HN5.out h.2); have HM : Hid _ := hm; have HC : Hid _ := hc; clear hm hc) | ((with_reducible refine at_inv ?_); refine wpList_invoke1 rfl _ _ _ rfl av av rfl rfl f #[r', av] (HM.out _) _ HC.out ?_; rintro e w2 ⟨rv, rfl, hf2, hs2⟩; refine ⟨_, rfl, ?_⟩; clear hs2) | (go_at_call 79; refine (must_no _ _ HNE.out).mono ?_; rintro e w4 ⟨rfl, rfl⟩))
        exact ⟨rfl, Or.inr ⟨H0.out, ⟨_, rfl, Or.inl rfl⟩, _, _, H1.out.keep0 (hf1.trans hf2), Mv.ofFr (hf1.trans hf2)⟩⟩
end Go.Proofs.Qxb6500336a
