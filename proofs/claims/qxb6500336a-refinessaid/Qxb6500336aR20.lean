import Derived.Test.Qxb6500336aR19
namespace Go.Proofs.Qxb6500336a
open Go.RowKit
set_option linter.unusedVariables false
set_option linter.unusedSimpArgs false

set_option maxHeartbeats 3200000 in
set_option maxRecDepth 100000 in
theorem mext_no {w : World} {m : Nat} {sl : Value} {rs : List Code} {vs : List (List Value)} (h : Mt w m sl rs vs) {k : Int} (h0 : k ≠ 0) (h2 : k ≠ 2) (h3 : k ≠ 3) (h4 : k ≠ 4) :
    Calls Try.prog 85 #[.pointer (some ⟨m, 0, none⟩), .int .i64 k] w (MOutS w m sl (9, rs)) := by
  have H : Hid (Mt w m sl rs vs) := h
  obtain ⟨p, cap, hsl⟩ := h.len
  have c0 := blk_cell h.obj 0
  simp at c0
  rw [hsl] at c0
  have g0 : (k != 0) = true := by simpa using h0
  have g2 : (k != 2) = true := by simpa using h2
  have g3 : (k != 3) = true := by simpa using h3
  have g4 : (k != 4) = true := by simpa using h4
  clear h hsl h0 h2 h3 h4
  generalize vs.length = L at *
  go_enter Try.func85, Try.ntmps85
  go_wp2
  go_ret
  exact MOutS.same H.out (Fr.refl _ _) 9

set_option maxHeartbeats 3200000 in
set_option maxRecDepth 100000 in
theorem mquo_any {w : World} {m : Nat} {sl : Value} {rs : List Code} {vs : List (List Value)} (h : Mt w m sl rs vs) (hw : Wf rs) :
    Calls Try.prog 85 #[.pointer (some ⟨m, 0, none⟩), .int .i64 4] w (MOutS w m sl (quoX rs)) := by
  have H : Hid (Mt w m sl rs vs) := h
  have HL : Hid (rs.length ≤ 5) := hw.1
  have short : rs.length ≤ 1 → Calls Try.prog 85 #[.pointer (some ⟨m, 0, none⟩), .int .i64 4] w (MOutS w m sl (5, rs)) := by
    intro h1
    obtain ⟨p, cap, hsl⟩ := h.len
    have hv0 : vs.length ≤ 1 := by rw [h.ms.len]; exact h1
    have c0 := blk_cell h.obj 0
    simp at c0
    rw [hsl] at c0
    clear h hsl h1 hw
    generalize vs.length = L at *
    go_enter Try.func85, Try.ntmps85
    go_wp2
    go_ret
    exact MOutS.same H.out (Fr.refl _ _) 5
  match rs, h, hw, H, HL, short with
  | [], h, hw, H, HL, short => exact short (by simp)
  | [b], h, hw, H, HL, short => exact short (by simp)
  | b :: a :: r, h, hw, H, HL, short =>
    clear short
    obtain ⟨g, cap, tag, n, s, ks, hsl, hcap, hms, hgm, hgc, e0, e1, e2, e3⟩ := h.at (i := 0) (t := b) rfl
    obtain ⟨g', cap', tag', n', s', ks', hsl', _, hms', _, _, d0, d1, d2, d3⟩ := h.at (i := 1) (t := a) rfl
    rw [hsl] at hsl'
    simp at hsl'
    obtain ⟨rfl, rfl⟩ := hsl'
    obtain ⟨htg1, p1, l1, c1, rfl⟩ := hms.tag
    have hzb := hw.2 b (by simp)
    have hza := hw.2 a (by simp)
    have c0 := blk_cell h.obj 0
    simp at c0
    rw [hsl] at c0
    have HMB : Hid (Ms w (Oa m sl) false b [cells4 tag n s (.slice p1 l1 c1)]) := hms
    have HMA : Hid (Ms w (Oa m sl) false a [cells4 tag' n' s' ks']) := hms'
    have HAT : Hid (∀ b ∈ Oa m sl, b < w.heap.size) := h.lt
    have hk5 : r.length + 1 + 1 ≤ 5 := HL.out
    simp at e0 e1 e2 e3 d0 d1 d2 d3 hcap c0
    have lg : g < w.heap.size := by obtain ⟨cur, hc⟩ := hgc; exact blk_lt hc
    have lm : m < w.heap.size := blk_lt h.obj
    have HGC : Hid (∃ cur, w.heap[g]? = some (.cells cur 119)) := hgc
    clear hgc htg1
    have hw1 : IntKind.i64.wrap ((r.length : Int) + 1 + 1 - 2) = (r.length : Int) := by simp only [IntKind.wrap, IntKind.bits, IntKind.signed]; simp; omega
    have hw2 : IntKind.i64.wrap ((r.length : Int) + 1 + 1 - 1) = (r.length : Int) + 1 := by simp only [IntKind.wrap, IntKind.bits, IntKind.signed]; simp; omega
    have hw3 : IntKind.i64.wrap ((r.length : Int) + 1) = (r.length : Int) + 1 := by simp only [IntKind.wrap, IntKind.bits, IntKind.signed]; simp; omega
    have hw4 : IntKind.i64.wrap (r.length : Int) = (r.length : Int) := by simp only [IntKind.wrap, IntKind.bits, IntKind.signed]; simp; omega
    have q0 : (0 : Int) ≤ (r.length : Int) := by omega
    have q1 : (r.length : Int) < (r.length : Int) + 1 + 1 := by omega
    have q2 : (r.length : Int) + 1 < (r.length : Int) + 1 + 1 := by omega
    have q3 : (0 : Int) ≤ (r.length : Int) + 1 := by omega
    obtain ⟨htg2, p2, l2, c2, rfl⟩ := hms'.tag
    have five : (tag' ≠ 1 ∨ tag ≠ 1 ∨ n = 0) → Calls Try.prog 85 #[.pointer (some ⟨m, 0, none⟩), .int .i64 4] w (MOutS w m sl (5, b :: a :: r)) := by
      intro hor
      clear h hms hms' hsl hw hza hzb htg2
      generalize hk : r.length = k at *
      clear hk
      by_cases x1 : tag' = 1
      · subst x1
        by_cases x2 : tag = 1
        · subst x2
          have x3 : n = 0 := by simpa using hor
          subst x3
          clear hor
          go_enter Try.func85, Try.ntmps85
          go_wp2
          go_ret
          exact MOutS.same H.out (((Fr.refl [] w).alloc _).alloc _) 5
        · have y1 : (tag == 1) = false := by simpa using x2
          have y2 : (tag != 1) = true := by simpa using x2
          clear hor x2
          go_enter Try.func85, Try.ntmps85
          go_wp2
          go_ret
          exact MOutS.same H.out (((Fr.refl [] w).alloc _).alloc _) 5
      · have y1 : (tag' == 1) = false := by simpa using x1
        have y2 : (tag' != 1) = true := by simpa using x1
        clear hor x1
        go_enter Try.func85, Try.ntmps85
        go_wp2
        go_ret
        exact MOutS.same H.out (((Fr.refl [] w).alloc _).alloc _) 5
    by_cases hb : tag = 1
    · by_cases ha : tag' = 1
      · have hkb : isI b = some n ∧ w64 n := by
          rcases hms.kinds with ⟨m', f1, f2, f3, f4, _, f, hm', _⟩ | ⟨r', f1, f2, f3, f4, _, f, ft'⟩ | ⟨ks', us, f1, f2, f3, f4, f, hr, hml⟩ | ⟨ks', us, f1, f2, f3, f4, f, hr, hml, h2l⟩
          · simp [cells4] at f; rw [f1, f.2.1]; exact ⟨rfl, hm'⟩
          · simp [cells4] at f; rw [hb] at f; simp at f
          · simp [cells4] at f; rw [hb] at f; simp at f
          · simp [cells4] at f; rw [hb] at f; simp at f
        have hka : isI a = some n' ∧ w64 n' := by
          rcases hms'.kinds with ⟨m', f1, f2, f3, f4, _, f, hm', _⟩ | ⟨r', f1, f2, f3, f4, _, f, ft'⟩ | ⟨ks', us, f1, f2, f3, f4, f, hr, hml⟩ | ⟨ks', us, f1, f2, f3, f4, f, hr, hml, h2l⟩
          · simp [cells4] at f; rw [f1, f.2.1]; exact ⟨rfl, hm'⟩
          · simp [cells4] at f; rw [ha] at f; simp at f
          · simp [cells4] at f; rw [ha] at f; simp at f
          · simp [cells4] at f; rw [ha] at f; simp at f
        by_cases hn : n = 0
        · have e5 : quoX (b :: a :: r) = (5, b :: a :: r) := by simp [quoX, hkb.1, hka.1, hn]
          rw [e5]
          exact five (Or.inr (Or.inr hn))
        · have e5 : quoX (b :: a :: r) = putW (tI (wrap64 (n'.tdiv n))) 2 (b :: a :: r) := by
            have h7 : ft (tI (wrap64 (n'.tdiv n))) = true := by unfold ft; exact decide_eq_true (tI_size _)
            have h8 : ¬ r.length ≥ 5 := by omega
            simp [quoX, hkb.1, hka.1, hn, putW, h7, h8]
          rw [e5]
          subst ha hb
          generalize hR : putW (tI (wrap64 (n'.tdiv n))) 2 (b :: a :: r) = R
          have HR : Hid (putW (tI (wrap64 (n'.tdiv n))) 2 (b :: a :: r) = R) := hR
          have hn0 : (n == 0) = false := by simpa using hn
          clear h hms hms' hsl hw hza hzb htg2 five e5 hR hka hkb
          generalize hk : r.length = k at *
          clear hk
          go_enter Try.func85, Try.ntmps85
          go_wp2_with (go_at_call 98; refine (Calls.frl (((Fr.refl [] w).alloc _).alloc _) (put_any (H.out.keep0 (((Fr.refl [] w).alloc _).alloc _)) HL.out 2 (by simp) (t := tI (wrap64 (n'.tdiv n))) ⟨rfl, w_out _⟩ (by have := tI_size (wrap64 (n'.tdiv n)); omega))).mono ?_; rw [HR.out]; rintro e w1 ⟨rfl, sl', vs', h1, h2⟩)
          go_ret
          exact ⟨rfl, sl', vs', h1, h2⟩
      · have e5 : quoX (b :: a :: r) = (5, b :: a :: r) := by
          have : isI a = none := by
            rcases hms'.kinds with ⟨m', f1, f2, f3, f4, _, f, hm', _⟩ | ⟨r', f1, _⟩ | ⟨ks', us, f1, _⟩ | ⟨ks', us, f1, _⟩
            · simp [cells4] at f; exact absurd f.1 ha
            all_goals exact f1
          simp only [quoX, this]
          split
          · rename_i h1 h2; cases h2
          · rfl
        rw [e5]
        exact five (Or.inl ha)
    · have e5 : quoX (b :: a :: r) = (5, b :: a :: r) := by
        have : isI b = none := by
          rcases hms.kinds with ⟨m', f1, f2, f3, f4, _, f, hm', _⟩ | ⟨r', f1, _⟩ | ⟨ks', us, f1, _⟩ | ⟨ks', us, f1, _⟩
          · simp [cells4] at f; exact absurd f.1 hb
          all_goals exact f1
        simp only [quoX, this]
      rw [e5]
      exact five (Or.inr (Or.inl hb))

set_option maxHeartbeats 3200000 in
set_option maxRecDepth 100000 in
theorem mdbl_any {w : World} {m : Nat} {sl : Value} {rs : List Code} {vs : List (List Value)} (h : Mt w m sl rs vs) (hw : Wf rs) :
    Calls Try.prog 85 #[.pointer (some ⟨m, 0, none⟩), .int .i64 0] w (MOutS w m sl (dblX rs)) := by
  have H : Hid (Mt w m sl rs vs) := h
  have HL : Hid (rs.length ≤ 5) := hw.1
  cases rs with
  | nil =>
    obtain ⟨p, cap, hsl⟩ := h.len
    have hv0 : vs.length = 0 := h.ms.len
    have c0 := blk_cell h.obj 0
    simp at c0
    rw [hsl, hv0] at c0
    clear h hsl hv0
    go_enter Try.func85, Try.ntmps85
    go_wp2
    go_ret
    exact MOutS.same H.out (Fr.refl _ _) 5
  | cons a r =>
    obtain ⟨g, cap, tag, n, s, ks, hsl, hcap, hms, hgm, hgc, e0, e1, e2, e3⟩ := h.at (i := 0) (t := a) rfl
    have hz := hw.2 a (by simp)
    have c0 := blk_cell h.obj 0
    have f0 := blk_frozen h.obj 0
    simp at c0
    rw [hsl] at c0
    have HMS : Hid (Ms w (Oa m sl) false a [cells4 tag n s ks]) := hms
    have HZ : Hid ((tx false a).size ≤ 30) := hz
    have HAT : Hid (∀ b ∈ Oa m sl, b < w.heap.size) := h.lt
    have hk5 : r.length + 1 ≤ 5 := HL.out
    simp at e0 e1 e2 e3 hcap c0
    have lg : g < w.heap.size := by obtain ⟨cur, hc⟩ := hgc; exact blk_lt hc
    have lm : m < w.heap.size := blk_lt h.obj
    obtain ⟨htg, p2, l2, c2, rfl⟩ := hms.tag
    have HTG : Hid (tag = 1 ∨ tag = 2 ∨ tag = 3 ∨ tag = 4) := by
      show _ ∨ _
      rw [htg]; unfold tagOf; split; simp; split; simp; split; simp; simp
    clear hgc htg
    have e5 : dblX (a :: r) = if (plusT a a).1 = 0 then putW (plusT a a).2 1 (a :: r) else ((plusT a a).1, a :: r) := by
      by_cases h0 : (plusT a a).1 = 0
      · have h7 : ft (plusT a a).2 = true := decide_eq_true (plusT_fits a a h0)
        have h8 : ¬ r.length ≥ 5 := by omega
        simp [dblX, h0, putW, h7, h8]
      · simp [dblX, h0]
    have h30 : (plusT a a).1 = 0 → (tx false (plusT a a).2).size ≤ 30 := plusT_fits a a
    rw [e5]
    generalize hPT : plusT a a = pt at *
    obtain ⟨er, tr⟩ := pt
    have HPT : Hid (plusT a a = (er, tr)) := hPT
    dsimp only at h30 ⊢
    clear hPT e5 h hms hsl hw hz
    by_cases h0 : er = 0
    · rw [if_pos h0]
      subst h0
      have H30 : Hid ((tx false tr).size ≤ 30) := h30 rfl
      generalize hR : putW tr 1 (a :: r) = R
      have HR : Hid (putW tr 1 (a :: r) = R) := hR
      clear h30 hR
      generalize hk : r.length = k at *
      clear hk
      go_enter Try.func85, Try.ntmps85
      go_wp2_with (first | (go_at_call 99; refine (mplus_any (w := w.alloc (.cells #[.int .i64 tag, .int .i64 n, .string s, .slice p2 l2 c2] 119)) (A := Oa m sl) (fun b hb => by have := HAT.out b hb; simp; omega) (Ms.kept ((Fr.refl _ w).alloc _) (fun b hb => Or.inl hb) _ _ _ HMS.out) (Ms.kept ((Fr.refl _ w).alloc _) (fun b hb => Or.inl hb) _ _ _ HMS.out) HZ.out HZ.out).mono ?_; rw [HPT.out]; rintro e w2 ⟨tv, nv, sv, pv, lv, cv, rfl, hf2, hm2⟩; have XX : Fr [] w w2 := (((Fr.refl [] w).alloc _).trans hf2); have HF3 : Hid (Fr [] w (w2.alloc (.cells #[.int .i64 tv, .int .i64 nv, .string sv, .slice pv lv cv] 119))) := XX.alloc _; have HM2 : Hid (Ms (w2.alloc (.cells #[.int .i64 tv, .int .i64 nv, .string sv, .slice pv lv cv] 119)) (Oa m sl) false tr [cells4 tv nv sv (.slice pv lv cv)]) := Ms.kept ((Fr.refl _ w2).alloc _) (fun b hb => Or.inl hb) _ _ _ (hm2 rfl); clear XX hf2 hm2) | (go_at_call 98; refine (Calls.frl HF3.out (put_any (H.out.keep0 HF3.out) HL.out 1 (by simp) HM2.out (by have := H30.out; omega))).mono ?_; rw [HR.out]; rintro e w1 ⟨rfl, sl', vs', h1, h2⟩))
      go_ret
      exact ⟨rfl, sl', vs', h1, h2⟩
    · rw [if_neg h0]
      have h1 : (er == 0) = false := by simpa using h0
      have h2 : (er != 0) = true := by simpa using h0
      clear h30
      generalize hk : r.length = k at *
      clear hk
      go_enter Try.func85, Try.ntmps85
      go_wp2_with (go_at_call 99; refine (mplus_any (w := w.alloc (.cells #[.int .i64 tag, .int .i64 n, .string s, .slice p2 l2 c2] 119)) (A := Oa m sl) (fun b hb => by have := HAT.out b hb; simp; omega) (Ms.kept ((Fr.refl _ w).alloc _) (fun b hb => Or.inl hb) _ _ _ HMS.out) (Ms.kept ((Fr.refl _ w).alloc _) (fun b hb => Or.inl hb) _ _ _ HMS.out) HZ.out HZ.out).mono ?_; rw [HPT.out]; rintro e w2 ⟨tv, nv, sv, pv, lv, cv, rfl, hf2, hm2⟩; have XX : Fr [] w w2 := (((Fr.refl [] w).alloc _).trans hf2); have HF3 : Hid (Fr [] w (w2.alloc (.cells #[.int .i64 tv, .int .i64 nv, .string sv, .slice pv lv cv] 119))) := XX.alloc _;  clear XX hf2 hm2)
      go_ret
      exact MOutS.same H.out HF3.out er

end Go.Proofs.Qxb6500336a
