import Derived.Test.Qxb6500336aR20
namespace Go.Proofs.Qxb6500336a
open Go.RowKit
set_option linter.unusedVariables false
set_option linter.unusedSimpArgs false

theorem MsL.app {w : World} {A : List Nat} : ∀ {ts : List Code} {vs : List (List Value)} {ts' : List Code} {vs' : List (List Value)}, MsL w A ts vs → MsL w A ts' vs' → MsL w A (ts ++ ts') (vs ++ vs')
  | [], [], _, _, _, h => h
  | t :: ts, v :: vs, _, _, h, h' => ⟨h.1, MsL.app h.2 h'⟩
theorem MsL.rev {w : World} {A : List Nat} : ∀ {ts : List Code} {vs : List (List Value)}, MsL w A ts vs → MsL w A ts.reverse vs.reverse
  | [], [], _ => trivial
  | t :: ts, v :: vs, h => by simp only [List.reverse_cons]; exact (MsL.rev h.2).app ⟨h.1, trivial⟩

set_option maxHeartbeats 3200000 in
set_option maxRecDepth 100000 in
theorem mspr_any {w : World} {m : Nat} {sl : Value} {rs : List Code} {vs : List (List Value)} (h : Mt w m sl rs vs) (hw : Wf rs) :
    Calls Try.prog 85 #[.pointer (some ⟨m, 0, none⟩), .int .i64 2] w (MOutS w m sl (sprX rs)) := by
  have H : Hid (Mt w m sl rs vs) := h
  have HL : Hid (rs.length ≤ 5) := hw.1
  cases rs with
  | nil =>
    obtain ⟨p, cap, hsl⟩ := h.len
    have hv0 : vs.length = 0 := h.ms.len
    have c0 := blk_cell h.obj 0
    simp at c0
    rw [hsl, hv0] at c0
    clear h hsl hv0
    go_enter Try.func85, Try.ntmps85
    go_wp2
    go_ret
    exact MOutS.same H.out (Fr.refl _ _) 5
  | cons a r =>
    obtain ⟨g, cap, tag, n, s, ks, hsl, hcap, hms, hgm, hgc, e0, e1, e2, e3⟩ := h.at (i := 0) (t := a) rfl
    have hz := hw.2 a (by simp)
    have c0 := blk_cell h.obj 0
    have f0 := blk_frozen h.obj 0
    simp at c0
    rw [hsl] at c0
    have HMS : Hid (Ms w (Oa m sl) false a [cells4 tag n s ks]) := hms
    have HZ : Hid ((tx false a).size ≤ 30) := hz
    have HAT : Hid (∀ b ∈ Oa m sl, b < w.heap.size) := h.lt
    have hk5 : r.length + 1 ≤ 5 := HL.out
    simp at e0 e1 e2 e3 hcap c0
    have lg : g < w.heap.size := by obtain ⟨cur, hc⟩ := hgc; exact blk_lt hc
    have lm : m < w.heap.size := blk_lt h.obj
    obtain ⟨htg, p2, l2, c2, rfl⟩ := hms.tag
    have HTG : Hid (tag = 1 ∨ tag = 2 ∨ tag = 3 ∨ tag = 4) := by
      show _ ∨ _
      rw [htg]; unfold tagOf; split; simp; split; simp; split; simp; simp
    clear hgc htg
    by_cases hc : isC a = true
    · have hrow : ∃ us, RowAt w (Oa m sl) (.slice p2 l2 c2) us ∧ MsL w (Oa m sl) (kids a) us ∧ (tag = 3 ∨ tag = 4) ∧ us.length = l2 := by
        rcases hms.kinds with ⟨m', f1, f2, f3, f4, _, f, hm', _⟩ | ⟨r', f1, f2, f3, f4, _, f, ft'⟩ | ⟨ks', us, f1, f2, f3, f4, f, hr, hml⟩ | ⟨ks', us, f1, f2, f3, f4, f, hr, hml, h2l⟩
        · simp [isC, f3, f4] at hc
        · simp [isC, f3, f4] at hc
        all_goals
          simp [cells4] at f
          obtain ⟨ft, _, _, rfl⟩ := f
          refine ⟨us, hr, hml, by simp [ft], ?_⟩
          rcases hr with ⟨e, h5⟩ | ⟨g', off, c, cur, _, h5, _⟩
          · simp at h5; rw [e, h5.2.1]; rfl
          · simp at h5; exact h5.2.1.symm
      obtain ⟨us, hr, hml, ht34, hul⟩ := hrow
      have hh : hasB tag 4 = true := by rcases ht34 with h | h <;> rw [h] <;> rfl
      have hl2 : l2 ≤ 1000 := by
        have h5 := hml.len
        have h6 := kids_len a false
        omega
      have hkl : (kids a).length = l2 := by rw [← hml.len]; exact hul
      by_cases h5 : r.length + l2 ≤ 5
      · have e5 : sprX (a :: r) = (0, (kids a).reverse ++ r) := by simp [sprX, hc, hkl, h5]
        rw [e5]
        have hcut : w.ownsRow 0 119 4 (.slice (some ⟨g, 0, none⟩) (vs.length - 1) cap) (vs.length - 1) (vs.drop 1).reverse.flatten := by
          have h7 := h.row
          have h8 := h.ms.len
          rw [hsl] at h7
          rw [← h8] at h7
          exact mowns_cut h7 h.ms.four 1 (by rw [h8]; simp)
        have hlen : vs.length = r.length + 1 := h.ms.len
        rw [hlen] at hcut
        simp only [Nat.add_sub_cancel] at hcut
        have HMN : Hid (MsL w (Oa m sl) ((kids a).reverse ++ r) (us.reverse ++ vs.drop 1)) := (MsL.rev hml).app (h.ms.drop 1)
        rcases hr with ⟨ea, eka⟩ | ⟨gk, ok, ca, cur, ea, eka, ha1, ha2, ha3⟩
        · subst ea
          simp at eka
          obtain ⟨rfl, rfl, rfl⟩ := eka
          have HK0 : Hid (kids a = []) := List.eq_nil_of_length_eq_zero hkl
          have HE : Hid _ := h.fin (Fr.refl _ w) hcut (Or.inl (by rw [hsl]; rfl)) (vs' := [].reverse ++ vs.drop 1) (by simp; omega) (by simp) HMN.out
          clear h hms hsl e5 hw hz hml hul ht34 hc hkl hcut hlen
          generalize hk : r.length = k at *
          clear hk
          go_enter Try.func85, Try.ntmps85
          go_wp2_with (go_at_call 100; refine (has_any HTG.out (by simp)).mono ?_; rintro e w1 ⟨rfl, rfl⟩)
          go_region
          all_goals
            go_wp2
            go_ret
            obtain ⟨sl', vs', h1, h2⟩ := HE.out
            exact ⟨rfl, sl', vs', h1.keep0 (((Fr.refl [] _).alloc _).drew), h2.trans (Mv.ofFr (((Fr.refl [] _).alloc _).drew))⟩
        · simp at eka
          obtain ⟨rfl, hl2u, rfl⟩ := eka
          obtain ⟨i119, hi119, hz119⟩ := info_parts info119
          have HOA : Hid (∀ u ∈ us.flatten, u.oneCell' = true) := hml.one
          have HFA : Hid (us.flatten.length = l2 * 4) := by show _ = _; rw [flat_len hml.four, hul]
          have hpa : 0 < l2 := by rw [← hul]; exact List.length_pos_iff.2 ea
          have FA : Fr [] w ((w.alloc (.cells #[.int .i64 tag, .int .i64 n, .string s, .slice (some ⟨gk, ok, none⟩) l2 c2] 119)).drew) := ((Fr.refl [] w).alloc _).drew
          have HFA1 : Hid (Fr [] w ((w.alloc (.cells #[.int .i64 tag, .int .i64 n, .string s, .slice (some ⟨gk, ok, none⟩) l2 c2] 119)).drew)) := FA
          have HNEW : Hid (∀ j u, us.flatten[j]? = some u → World.cell? ((w.alloc (.cells #[.int .i64 tag, .int .i64 n, .string s, .slice (some ⟨gk, ok, none⟩) l2 c2] 119)).drew) ((⟨gk, ok, none⟩ : Addr).add j) = some u) := RowAt.news (RowAt.kept (Or.inr ⟨gk, ok, c2, cur, ea, by rw [hul], ha1, ha2, ha3⟩) FA.widen (fun b hb => Or.inl hb))
          have HOWN : Hid (World.ownsRow ((w.alloc (.cells #[.int .i64 tag, .int .i64 n, .string s, .slice (some ⟨gk, ok, none⟩) l2 c2] 119)).drew) 0 119 4 (.slice (some ⟨g, 0, none⟩) r.length cap) r.length (vs.drop 1).reverse.flatten) := owns_keep hcut FA (by simp)
          have HSL : Hid (sl = .slice (some ⟨g, 0, none⟩) (r.length + 1) cap) := hsl
          have HLN : Hid (r.length + l2 = (us.reverse ++ vs.drop 1).length) := by show _ = _; simp; omega
          have hgk : gk < w.heap.size := blk_lt ha1
          have hw4 : IntKind.i64.wrap (r.length : Int) = (r.length : Int) := by simp only [IntKind.wrap, IntKind.bits, IntKind.signed]; simp; omega
          have hw5 : (r.length : Int) ≤ (cap : Int) := by omega
          have hw6 : (0 : Int) ≤ (r.length : Int) := by omega
          have ngm : ¬ gk = m := fun e => ha2 (by simp [Oa, e])
          clear h hms hsl e5 hw hz hml hul ht34 hc hkl hcut hlen FA ha1 ha2 ha3 ea hl2u
          generalize hk : r.length = k at *
          clear hk
          go_enter Try.func85, Try.ntmps85
          go_wp2_with (go_at_call 100; refine (has_any HTG.out (by simp)).mono ?_; rintro e w1 ⟨rfl, rfl⟩)
          go_region_law (refine step_append_lies _ (by rfl) _ _ _ (by rfl) 0 119 i119 (.agg #[.int .i64 0, .int .i64 0, .string ⟨#[]⟩, .slice none 0 0]) 4 56 Try.underlying103 hi119 hz119.1 hz119.2.1 hz119.2.2 (by rfl) (by omega) (.slice (some ⟨g, 0, none⟩) k cap) k (vs.drop 1).reverse.flatten (by rfl) HOWN.out ⟨gk, ok, none⟩ l2 c2 us.flatten (by rfl) HFA.out HNEW.out HOA.out (by omega) (by unfold maxLen; omega) (by omega) (by simp) (w.heap.size + 1) (by simp) ?_; intro g2 cap2 w4 hown2 hgrow2 hat2 hlt2; have FG : Fr (Value.slice (some ⟨g, 0, none⟩) k cap).ownBlock.toList w w4 := HFA1.out.widen.trans (Fr.ofGrown hgrow2); have FG2 : Fr sl.ownBlock.toList w w4 := (by rw [HSL.out]; exact FG); have ho4 := H.out.obj1 FG2; have c4 := blk_cell ho4 0; have f4 := blk_frozen ho4 0; simp at c4)
          all_goals
            have HE : Hid _ := H.out.fin FG2 hown2 (by rcases hat2 with h | h; left; rw [HSL.out]; exact h; right; omega) (vs' := us.reverse ++ vs.drop 1) HLN.out (by simp) HMN.out
            clear ho4 FG FG2 hown2 hgrow2 hat2
            go_wp2
            go_ret
            exact ⟨rfl, HE.out⟩
      · have e5 : sprX (a :: r) = (3, a :: r) := by simp [sprX, hc, hkl, h5]
        rw [e5]
        clear h hms hsl e5 hw hz hml hul ht34 hc hkl hr
        generalize hk : r.length = k at *
        clear hk
        go_enter Try.func85, Try.ntmps85
        go_wp2_with (go_at_call 100; refine (has_any HTG.out (by simp)).mono ?_; rintro e w1 ⟨rfl, rfl⟩)
        go_ret
        exact MOutS.same H.out ((Fr.refl [] w).alloc _) 3
    · have hc' : isC a = false := by simpa using hc
      have e5 : sprX (a :: r) = (5, a :: r) := by simp [sprX, hc']
      have hh : hasB tag 4 = false := by
        have h3 : isL a = false ∧ isP a = none := by simpa [isC] using hc'
        rcases hms.kinds with ⟨m', f1, f2, f3, f4, _, f, hm', _⟩ | ⟨r', f1, f2, f3, f4, _, f, ft'⟩ | ⟨ks', us, f1, f2, f3, f4, f, hr, hml⟩ | ⟨ks', us, f1, f2, f3, f4, f, hr, hml, h2l⟩
        · simp [cells4] at f; rw [f.1]; rfl
        · simp [cells4] at f; rw [f.1]; rfl
        · rw [h3.1] at f3; cases f3
        · rw [h3.2] at f4; cases f4
      rw [e5]
      clear h hms hsl e5 hw hz hc'
      generalize hk : r.length = k at *
      clear hk
      go_enter Try.func85, Try.ntmps85
      go_wp2_with (go_at_call 100; refine (has_any HTG.out (by simp)).mono ?_; rintro e w1 ⟨rfl, rfl⟩)
      go_ret
      exact MOutS.same H.out ((Fr.refl [] w).alloc _) 5
end Go.Proofs.Qxb6500336a
