import Derived.Test.Qxb6500336aR5
namespace Go.Proofs.Qxb6500336a
open Go.RowKit
set_option linter.unusedVariables false
set_option linter.unusedSimpArgs false

theorem RowAt.slice {w : World} {A : List Nat} {ks : Value} {vs : List (List Value)} (h : RowAt w A ks vs) : ∃ p k c, ks = .slice p k c := by
  rcases h with ⟨_, rfl⟩ | ⟨g, off, cap, cur, _, rfl, _⟩
  · exact ⟨_, _, _, rfl⟩
  · exact ⟨_, _, _, rfl⟩
/-- The tag of a value. -/
def tagOf (t : Code) : Int := if (isI t).isSome then 1 else if (isS t).isSome then 2 else if isL t then 3 else 4
theorem Ms.tag {w : World} {A : List Nat} {t : Code} {tag n : Int} {s : ByteArray} {ks : Value} (h : Ms w A false t [cells4 tag n s ks]) : tag = tagOf t ∧ ∃ p k c, ks = .slice p k c := by
  rcases h.kinds with ⟨m, e1, e2, e3, e4, _, e, _⟩ | ⟨r, e1, e2, e3, e4, _, e, _⟩ | ⟨ks', vs, e1, e2, e3, e4, e, hr, _⟩ | ⟨ks', vs, e1, e2, e3, e4, e, hr, _⟩
  all_goals
    simp [cells4] at e
  · exact ⟨by simp [tagOf, e1, e.1], _, _, _, e.2.2.2⟩
  · exact ⟨by simp [tagOf, e1, e2, e.1], _, _, _, e.2.2.2⟩
  · obtain ⟨p, k, c, h⟩ := hr.slice
    exact ⟨by simp [tagOf, e1, e2, e3, e.1], p, k, c, by rw [e.2.2.2, h]⟩
  · obtain ⟨p, k, c, h⟩ := hr.slice
    exact ⟨by simp [tagOf, e1, e2, e3, e.1], p, k, c, by rw [e.2.2.2, h]⟩

theorem mplus_any {w : World} {A : List Nat} {ta tb : Code} {t1 n1 t2 n2 : Int} {s1 s2 : ByteArray} {k1 k2 : Value} (hA : ∀ b ∈ A, b < w.heap.size) (ha : Ms w A false ta [cells4 t1 n1 s1 k1]) (hb : Ms w A false tb [cells4 t2 n2 s2 k2]) (hza : (tx false ta).size ≤ 30) (hzb : (tx false tb).size ≤ 30) :
    Calls Try.prog 99 #[.agg #[.int .i64 t1, .int .i64 n1, .string s1, k1], .agg #[.int .i64 t2, .int .i64 n2, .string s2, k2]] w (MPlus w A (plusT ta tb)) := by
  obtain ⟨et1, p1, l1, c1, hk1⟩ := ha.tag
  obtain ⟨et2, p2, l2, c2, hk2⟩ := hb.tag
  have mix : ∀ r : Int × Code, (t1 = 1 ∨ t1 = 2 ∨ t1 = 3) → t1 ≠ t2 → plusT ta tb = (6, .skip) → Calls Try.prog 99 #[.agg #[.int .i64 t1, .int .i64 n1, .string s1, k1], .agg #[.int .i64 t2, .int .i64 n2, .string s2, k2]] w (MPlus w A (plusT ta tb)) := by
    intro r h1 h2 h3
    rw [h3, hk1, hk2]
    exact plus_mix h1 h2
  rcases ha.kinds with ⟨m, e1, e2, e3, e4, _, e, hm, et⟩ | ⟨r, e1, e2, e3, e4, _, e, et⟩ | ⟨ks', vs, e1, e2, e3, e4, e, hr, _⟩ | ⟨ks', vs, e1, e2, e3, e4, e, hr, _⟩
  · simp [cells4] at e
    obtain ⟨rfl, rfl, rfl, rfl⟩ := e
    rcases hb.kinds with ⟨m', f1, f2, f3, f4, _, f, hm', ft'⟩ | ⟨r', f1, f2, f3, f4, _, f, ft'⟩ | ⟨ks', vs, f1, f2, f3, f4, f, hr, _⟩ | ⟨ks', vs, f1, f2, f3, f4, f, hr, _⟩
    · simp [cells4] at f
      obtain ⟨rfl, rfl, rfl, rfl⟩ := f
      have e5 : plusT ta tb = (0, tI (wrap64 (n1 + n2))) := by
        have := tI_size (wrap64 (n1 + n2))
        simp [plusT, addT, e1, f1, ft, this]
      rw [e5]
      exact plus_int hm hm'
    all_goals
      simp [cells4] at f
      exact mix (0, .skip) (Or.inl rfl) (by rw [f.1]; decide) (by simp [plusT, addT, e1, f1])
  · simp [cells4] at e
    obtain ⟨rfl, rfl, rfl, rfl⟩ := e
    rcases hb.kinds with ⟨m', f1, f2, f3, f4, _, f, hm', ft'⟩ | ⟨r', f1, f2, f3, f4, _, f, ft'⟩ | ⟨ks', vs, f1, f2, f3, f4, f, hr, _⟩ | ⟨ks', vs, f1, f2, f3, f4, f, hr, _⟩
    rotate_left
    · simp [cells4] at f
      obtain ⟨rfl, rfl, rfl, rfl⟩ := f
      have hs : s1.size ≤ 30 ∧ s2.size ≤ 30 := by
        rw [et] at hza
        rw [ft'] at hzb
        simp only [ByteArray.size_append] at hza hzb
        omega
      have e6 : tx false (tS (s1 ++ s2)) = (itoa (s1 ++ s2).size ++ ⟨#[58]⟩) ++ (s1 ++ s2) := rfl
      by_cases hft : ((itoa (s1 ++ s2).size ++ ⟨#[58]⟩) ++ (s1 ++ s2)).size ≤ 30
      · have e5 : plusT ta tb = (0, tS (s1 ++ s2)) := by
          have h7 : ft (tS (s1 ++ s2)) = true := by unfold ft; rw [e6]; exact decide_eq_true hft
          simp [plusT, addT, e1, e2, f2, h7]
        rw [e5]
        exact plus_str hs hft
      · have e5 : plusT ta tb = (7, .skip) := by
          have h7 : ft (tS (s1 ++ s2)) = false := by unfold ft; rw [e6]; exact decide_eq_false hft
          simp [plusT, addT, e1, e2, f2, h7]
        rw [e5]
        exact plus_str7 hs hft
    all_goals
      simp [cells4] at f
      exact mix (0, .skip) (Or.inr (Or.inl rfl)) (by rw [f.1]; decide) (by simp [plusT, addT, e1, e2, f2])
  · obtain ⟨ka, va, h1, h2, h3⟩ := ha.asRow e3
    simp [cells4] at h1
    obtain ⟨rfl, rfl, rfl, rfl⟩ := h1
    rcases hb.kinds with ⟨m', f1, f2, f3, f4, _, f, hm', ft'⟩ | ⟨r', f1, f2, f3, f4, _, f, ft'⟩ | ⟨ks'', vs'', f1, f2, f3, f4, f, hr'', _⟩ | ⟨ks'', vs'', f1, f2, f3, f4, f, hr'', _⟩
    · simp [cells4] at f
      exact mix (0, .skip) (Or.inr (Or.inr rfl)) (by rw [f.1]; decide) (by simp [plusT, addT, e1, e2, e3, f3])
    · simp [cells4] at f
      exact mix (0, .skip) (Or.inr (Or.inr rfl)) (by rw [f.1]; decide) (by simp [plusT, addT, e1, e2, e3, f3])
    · obtain ⟨kb, vb, i1, i2, i3⟩ := hb.asRow f3
      simp [cells4] at i1
      obtain ⟨rfl, rfl, rfl, rfl⟩ := i1
      have hz : (tx false (appT ta tb)).size ≤ 1000 := by
        have h5 := appT_size ta tb e3 f3 false
        have h6 := tt_le tb f3
        omega
      have e5 : plusT ta tb = lstR (appT ta tb) := by
        by_cases h7 : (tx false (appT ta tb)).size ≤ 30
        · simp [plusT, addT, e1, e2, e3, f3, lstR, ft, h7]
        · simp [plusT, addT, e1, e2, e3, f3, lstR, ft, h7]
      have hla : va.length ≤ 100 := by
        have h5 := (Ms.rest _ _ h3).1.len
        have h6 := kids_len ta false
        omega
      have hlb : vb.length ≤ 100 := by
        have h5 := (Ms.rest _ _ i3).1.len
        have h6 := kids_len tb false
        omega
      rw [e5]
      rcases h2 with ⟨ea, eka⟩ | ⟨ga, oa, ca, cur, ea, eka, ha1, ha2, ha3⟩
      · rcases i2 with ⟨eb, ekb⟩ | ⟨gb, ob, cb, cur', eb, ekb, hb1, hb2, hb3⟩
        · rw [eka, ekb]
          exact plus_l00 hA (Or.inl ⟨ea, rfl⟩) (Or.inl ⟨eb, rfl⟩) h3 i3 ea eb hz
        · rw [eka, ekb]
          exact plus_l01 hA (Or.inl ⟨ea, rfl⟩) (Or.inr ⟨gb, ob, cb, cur', eb, rfl, hb1, hb2, hb3⟩) h3 i3 ea rfl eb hlb hz
      · rcases i2 with ⟨eb, ekb⟩ | ⟨gb, ob, cb, cur', eb, ekb, hb1, hb2, hb3⟩
        · rw [eka, ekb]
          exact plus_l10 hA (Or.inr ⟨ga, oa, ca, cur, ea, rfl, ha1, ha2, ha3⟩) (Or.inl ⟨eb, rfl⟩) h3 i3 rfl ea hla eb hz
        · rw [eka, ekb]
          exact plus_l11 hA (Or.inr ⟨ga, oa, ca, cur, ea, rfl, ha1, ha2, ha3⟩) (Or.inr ⟨gb, ob, cb, cur', eb, rfl, hb1, hb2, hb3⟩) h3 i3 rfl ea hla rfl eb hlb hz
    · simp [cells4] at f
      exact mix (0, .skip) (Or.inr (Or.inr rfl)) (by rw [f.1]; decide) (by simp [plusT, addT, e1, e2, e3, f3])
  · simp [cells4] at e
    obtain ⟨rfl, _⟩ := e
    have e5 : plusT ta tb = (5, .skip) := by simp [plusT, addT, e1, e2, e3]
    rw [e5, hk1, hk2]
    exact plus_nocap
end Go.Proofs.Qxb6500336a
