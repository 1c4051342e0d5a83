import Derived.Test.Qxb6500336aW4
namespace Go.Proofs.Qxb6500336a
open Go.RowKit
set_option linter.unusedVariables false

theorem swap_st {w : World} {S : Nat} {sl : Value} {us : List Value} {rs : List Code} (h1 : Stv w S sl us false) (h2 : Shs w rs us) (hl : rs.length ≤ 5) (d : Nat) (hd : d ≤ rs.length) {t : Code} {v : Value} (hs : Sh w t v) :
    Calls Try.prog 64 #[.pointer (some ⟨S, 0, none⟩), .int .i64 d, v] w fun e w' => e = .returned (.tuple #[]) ∧ ∃ sl', St w' S sl' (t :: rs.drop d) ∧ Mv w w' S sl sl' := by
  obtain ⟨T, u, rfl⟩ := hs.ex
  have hlen := h2.len
  refine (swap_any h1 (by omega) d (by omega) T u).mono ?_
  rintro e w' ⟨rfl, sl', h3, h4⟩
  refine ⟨rfl, sl', ⟨_, h3, ?_⟩, h4⟩
  have hk := h1.kc h4
  refine ⟨Sh.kept hk _ _ hs, ?_⟩
  have : ∀ (d : Nat) (rs : List Code) (us : List Value), Shs w rs us → Shs w' (rs.drop d) (us.drop d) := by
    intro d
    induction d with
    | zero => intro rs us h; exact h.kept hk
    | succ d ih =>
      intro rs us h
      cases rs with
      | nil => cases h.nil; exact trivial
      | cons t ts => obtain ⟨v, vs, rfl, _, h'⟩ := h.cons; exact ih ts vs h'
  exact this d rs us h2

theorem Out.of {w w1 w' : World} {S : Nat} {sl sl' : Value} {rs : List Code} {n : Int} (h : St w' S sl' rs) (m : Mv w w' S sl sl') : Out w S sl (n, rs) (.returned (.int .i64 n)) w' := ⟨rfl, sl', h, m⟩

set_option maxHeartbeats 1600000 in
theorem push_any {w : World} {S : Nat} {sl : Value} {rs : List Code} (h : St w S sl rs) (hw : Wf rs) (t : Code) (v : Value) (hs : Sh w t v) (k n : Int) (s : ByteArray) (hz : s.size ≤ 6)
    (hk : (k = 1 ∧ v = .iface 84 (.int .i64 n)) ∨ (k = 2 ∧ v = .iface 99 (.string s)) ∨ (k = 3 ∧ v = .iface 75 (.pointer none))) :
    Calls Try.prog 53 #[.pointer (some ⟨S, 0, none⟩), .int .i64 k, .int .i64 n, .string s] w (Out w S sl (pushW t rs)) := by
  obtain ⟨us, h1, h2⟩ := h
  have hlen := h2.len
  have hl5 := hw.1
  have c0 := blk_cell h1.obj 0
  simp at c0
  obtain ⟨p, cap, rfl⟩ := h1.len
  have H : Hid (St w S (.slice p us.length cap) rs) := ⟨us, h1, h2⟩
  have H1 : Hid (Stv w S (.slice p us.length cap) us false) := h1
  have H2 : Hid (Shs w rs us) := h2
  have HS : Hid (Sh w t v) := hs
  have HL : Hid (rs.length ≤ 5) := hl5
  clear h1 h2 hs hw
  unfold pushW
  by_cases hq : rs.length ≥ 5
  · rw [if_pos hq]
    rw [hlen] at c0
    rcases hk with ⟨rfl, rfl⟩ | ⟨rfl, rfl⟩ | ⟨rfl, rfl⟩
    all_goals
      go_enter Try.func53, Try.ntmps53
      go_wp2
      go_ret
      exact Out.same H.out (Fr.refl _ _) 3
  · rw [if_neg hq]
    have hq2 : us.length < 5 := by omega
    rcases hk with ⟨rfl, rfl⟩ | ⟨rfl, rfl⟩ | ⟨rfl, rfl⟩
    all_goals
      go_enter Try.func53, Try.ntmps53
      go_wp2_with (go_at_call 64; refine (swap_st H1.out H2.out HL.out 0 (by omega) HS.out).mono ?_; rintro e w2 ⟨rfl, sl', h', m'⟩)
      go_ret
      exact ⟨rfl, sl', h', m'⟩

set_option maxHeartbeats 1600000 in
theorem dup_any {w : World} {S : Nat} {sl : Value} {rs : List Code} (h : St w S sl rs) (hw : Wf rs) :
    Calls Try.prog 43 #[.pointer (some ⟨S, 0, none⟩)] w (Out w S sl (dupW rs)) := by
  obtain ⟨us, h1, h2⟩ := h
  have hlen := h2.len
  have hl5 := hw.1
  obtain ⟨p, cap, rfl⟩ := h1.len
  have H : Hid (St w S (.slice p us.length cap) rs) := ⟨us, h1, h2⟩
  have H1 : Hid (Stv w S (.slice p us.length cap) us false) := h1
  have H2 : Hid (Shs w rs us) := h2
  have HL : Hid (rs.length ≤ 5) := hl5
  clear h1 hw
  cases rs with
  | nil =>
    cases h2.nil
    clear h2
    go_enter Try.func43, Try.ntmps43
    go_wp2_with (go_at_call 62; refine (peek_any H1.out (by simp) 0 (by omega)).mono ?_; rintro e w1 ⟨rfl, hf1⟩; simp only [List.getElem?_nil, Option.getD])
    go_ret
    exact Out.same H.out hf1 4
  | cons t ts =>
    obtain ⟨u, us', rfl, h3, h4⟩ := h2.cons
    obtain ⟨T, u', rfl⟩ := h3.ex
    have HS : Hid (Sh w t (.iface T u')) := h3
    have hll : us'.length = ts.length := h4.len
    clear h2 h3 h4
    simp only [dupW]
    by_cases hq : ts.length ≥ 4
    · rw [if_pos hq]
      have hq2 : us'.length ≥ 4 := by omega
      go_enter Try.func43, Try.ntmps43
      go_wp2_with (go_at_call 62; refine (peek_any H1.out (by have := HL.out; simp at *; omega) 0 (by omega)).mono ?_; rintro e w1 ⟨rfl, hf1⟩; simp only [List.getElem?_cons_zero, Option.getD]; have c0 := blk_cell (H1.out.keep0 hf1).obj 0; simp at c0)
      go_ret
      exact Out.same H.out hf1 3
    · rw [if_neg hq]
      have hq2 : ¬ us'.length ≥ 4 := by omega
      go_enter Try.func43, Try.ntmps43
      go_wp2_with (first | (go_at_call 62; refine (peek_any H1.out (by have := HL.out; simp at *; omega) 0 (by omega)).mono ?_; rintro e w1 ⟨rfl, hf1⟩; simp only [List.getElem?_cons_zero, Option.getD]; have c0 := blk_cell (H1.out.keep0 hf1).obj 0; simp at c0) | (go_at_call 64; refine (swap_st (H1.out.keep0 hf1) (H2.out.kept hf1.kc0) HL.out 0 (by omega) (Sh.kept hf1.kc0 _ _ HS.out)).mono ?_; rintro e w2 ⟨rfl, sl', h', m'⟩))
      go_ret
      exact ⟨rfl, sl', h', Mv.frl hf1 m'⟩
end Go.Proofs.Qxb6500336a
