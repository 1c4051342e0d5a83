import Derived.Test.Qxb6500336aR7
namespace Go.Proofs.Qxb6500336a
open Go.RowKit
set_option linter.unusedVariables false
set_option linter.unusedSimpArgs false

theorem Calls.frl {f : FuncId} {xs : Array Value} {a b : World} {m : Nat} {sl : Value} {r : Int × List Code} (h : Fr [] a b) (k : Calls Try.prog f xs b (MOutS b m sl r)) : Calls Try.prog f xs b (MOutS a m sl r) :=
  k.mono fun e w' ho => ho.frl h

set_option maxHeartbeats 3200000 in
set_option maxRecDepth 100000 in
theorem mdrop_any {w : World} {m : Nat} {sl : Value} {rs : List Code} {vs : List (List Value)} (h : Mt w m sl rs vs) (hw : Wf rs) :
    Calls Try.prog 96 #[.pointer (some ⟨m, 0, none⟩)] w (MOutS w m sl (dropW rs)) := by
  have H : Hid (Mt w m sl rs vs) := h
  have HL : Hid (rs.length ≤ 5) := hw.1
  cases rs with
  | nil =>
    obtain ⟨p, cap, hsl⟩ := h.len
    have hv0 : vs.length = 0 := h.ms.len
    have c0 := blk_cell h.obj 0
    simp at c0
    rw [hsl, hv0] at c0
    clear h hsl hv0
    go_enter Try.func96, Try.ntmps96
    go_wp2
    go_ret
    exact MOutS.same H.out (Fr.refl _ _) 4
  | cons a r =>
    obtain ⟨g, cap, tag, n, s, ks, hsl, hcap, hms, hgm, hgc, e0, e1, e2, e3⟩ := h.at (i := 0) (t := a) rfl
    have hz := hw.2 a (by simp)
    have c0 := blk_cell h.obj 0
    have f0 := blk_frozen h.obj 0
    simp at c0
    rw [hsl] at c0
    have HMS : Hid (Ms w (Oa m sl) false a [cells4 tag n s ks]) := hms
    have HZ : Hid ((tx false a).size ≤ 30) := hz
    have hk5 : r.length + 1 ≤ 5 := HL.out
    simp at e0 e1 e2 e3 hcap c0
    have hcut : w.ownsRow 0 119 4 (.slice (some ⟨g, 0, none⟩) (vs.length - 1) cap) (vs.length - 1) (vs.drop 1).reverse.flatten := by
      have h7 := h.row
      have h8 := h.ms.len
      rw [hsl] at h7
      rw [← h8] at h7
      exact mowns_cut h7 h.ms.four 1 (by rw [h8]; simp)
    have hlen : vs.length = r.length + 1 := h.ms.len
    rw [hlen] at hcut
    simp only [Nat.add_sub_cancel] at hcut
    have HE : Hid _ := h.fin (Fr.refl _ _) hcut (Or.inl (by rw [hsl]; rfl)) (vs' := vs.drop 1) (by simp; omega) rfl (h.ms.drop 1)
    clear h hms hsl hw hz hcut hlen
    generalize hk : r.length = k at *
    clear hk
    go_enter Try.func96, Try.ntmps96
    go_wp2
    go_ret
    exact ⟨rfl, HE.out⟩

set_option maxHeartbeats 3200000 in
set_option maxRecDepth 100000 in
theorem mtop_any {w : World} {m : Nat} {sl : Value} {rs : List Code} {vs : List (List Value)} (h : Mt w m sl rs vs) (hw : Wf rs) :
    Calls Try.prog 101 #[.pointer (some ⟨m, 0, none⟩)] w fun e w' => e = .returned (.tuple #[.int .i64 (topI rs).1, .int .i64 (topI rs).2]) ∧ w' = w := by
  have HL : Hid (rs.length ≤ 5) := hw.1
  cases rs with
  | nil =>
    obtain ⟨p, cap, hsl⟩ := h.len
    have hv0 : vs.length = 0 := h.ms.len
    have c0 := blk_cell h.obj 0
    simp at c0
    rw [hsl, hv0] at c0
    clear h hsl hv0
    go_enter Try.func101, Try.ntmps101
    go_wp2
    go_ret2
    exact ⟨rfl, rfl⟩
  | cons a r =>
    obtain ⟨g, cap, tag, n, s, ks, hsl, hcap, hms, hgm, hgc, e0, e1, e2, e3⟩ := h.at (i := 0) (t := a) rfl
    have hz := hw.2 a (by simp)
    have c0 := blk_cell h.obj 0
    have f0 := blk_frozen h.obj 0
    simp at c0
    rw [hsl] at c0
    have HMS : Hid (Ms w (Oa m sl) false a [cells4 tag n s ks]) := hms
    have HZ : Hid ((tx false a).size ≤ 30) := hz
    have hk5 : r.length + 1 ≤ 5 := HL.out
    simp at e0 e1 e2 e3 hcap c0
    rcases hms.kinds with ⟨m', f1, f2, f3, f4, _, f, hm', _⟩ | ⟨r', f1, f2, f3, f4, _, f, ft'⟩ | ⟨ks', vs, f1, f2, f3, f4, f, hr, _⟩ | ⟨ks', vs, f1, f2, f3, f4, f, hr, _⟩
    · simp [cells4] at f
      have e5 : topI (a :: r) = (m', 0) := by simp [topI, f1]
      rw [e5]
      have htag := f.1
      have hN := f.2.1
      subst htag
      subst hN
      clear h hms hsl hw hz e5 HMS f f1 f2 f3 f4
      generalize hk : r.length = k at *
      clear hk
      go_enter Try.func101, Try.ntmps101
      go_wp2
      go_ret2
      exact ⟨rfl, rfl⟩
    · simp [cells4] at f
      have e5 : topI (a :: r) = (0, 2) := by simp [topI, f1]
      rw [e5]
      have htag := f.1
      have hN := f.2.1
      subst htag
      subst hN
      clear h hms hsl hw hz e5 HMS f f1 f2 f3 f4
      generalize hk : r.length = k at *
      clear hk
      go_enter Try.func101, Try.ntmps101
      go_wp2
      go_ret2
      exact ⟨rfl, rfl⟩
    · simp [cells4] at f
      have e5 : topI (a :: r) = (0, 2) := by simp [topI, f1]
      rw [e5]
      have htag := f.1
      have hN := f.2.1
      subst htag
      subst hN
      clear h hms hsl hw hz e5 HMS f f1 f2 f3 f4
      generalize hk : r.length = k at *
      clear hk
      go_enter Try.func101, Try.ntmps101
      go_wp2
      go_ret2
      exact ⟨rfl, rfl⟩
    · simp [cells4] at f
      have e5 : topI (a :: r) = (0, 2) := by simp [topI, f1]
      rw [e5]
      have htag := f.1
      have hN := f.2.1
      subst htag
      subst hN
      clear h hms hsl hw hz e5 HMS f f1 f2 f3 f4
      generalize hk : r.length = k at *
      clear hk
      go_enter Try.func101, Try.ntmps101
      go_wp2
      go_ret2
      exact ⟨rfl, rfl⟩

set_option maxHeartbeats 3200000 in
set_option maxRecDepth 100000 in
theorem mlen_any {w : World} {m : Nat} {sl : Value} {rs : List Code} {vs : List (List Value)} (h : Mt w m sl rs vs) (hw : Wf rs) :
    Calls Try.prog 92 #[.pointer (some ⟨m, 0, none⟩)] w (MOutS w m sl (lenW rs)) := by
  have H : Hid (Mt w m sl rs vs) := h
  have HL : Hid (rs.length ≤ 5) := hw.1
  cases rs with
  | nil =>
    obtain ⟨p, cap, hsl⟩ := h.len
    have hv0 : vs.length = 0 := h.ms.len
    have c0 := blk_cell h.obj 0
    simp at c0
    rw [hsl, hv0] at c0
    clear h hsl hv0
    go_enter Try.func92, Try.ntmps92
    go_wp2
    go_ret
    exact MOutS.same H.out (Fr.refl _ _) 4
  | cons a r =>
    obtain ⟨g, cap, tag, n, s, ks, hsl, hcap, hms, hgm, hgc, e0, e1, e2, e3⟩ := h.at (i := 0) (t := a) rfl
    have hz := hw.2 a (by simp)
    have c0 := blk_cell h.obj 0
    have f0 := blk_frozen h.obj 0
    simp at c0
    rw [hsl] at c0
    have HMS : Hid (Ms w (Oa m sl) false a [cells4 tag n s ks]) := hms
    have HZ : Hid ((tx false a).size ≤ 30) := hz
    have hk5 : r.length + 1 ≤ 5 := HL.out
    simp at e0 e1 e2 e3 hcap c0
    rcases hms.kinds with ⟨m', f1, f2, f3, f4, _, f, hm', _⟩ | ⟨r', f1, f2, f3, f4, _, f, ft'⟩ | ⟨ks', us, f1, f2, f3, f4, f, hr, hml⟩ | ⟨ks', us, f1, f2, f3, f4, f, hr, hml, h2l⟩
    · simp [cells4] at f
      obtain ⟨rfl, rfl, rfl, rfl⟩ := f
      have HTG : Hid ((1 : Int) = 1 ∨ (1 : Int) = 2 ∨ (1 : Int) = 3 ∨ (1 : Int) = 4) := Or.inl rfl
      have hh : hasB 1 3 = false := rfl
      have e5 : lenW (a :: r) = (5, a :: r) := by simp [lenW, f1]
      rw [e5]
      clear e5
      clear h hms hsl hw hz f1 f2 f3 f4 
      generalize hk : r.length = k at *
      clear hk
      go_enter Try.func92, Try.ntmps92
      go_wp2_with (go_at_call 100; refine (has_any HTG.out (by simp)).mono ?_; rintro e w1 ⟨rfl, rfl⟩)
      go_ret
      exact MOutS.same H.out ((Fr.refl [] w).alloc _) 5
    · simp [cells4] at f
      obtain ⟨rfl, rfl, rfl, hks⟩ := f
      subst hks
      have hsz : s.size ≤ 1000 := by rw [ft'] at hz; simp only [ByteArray.size_append] at hz; omega
      have HTG : Hid ((2 : Int) = 1 ∨ (2 : Int) = 2 ∨ (2 : Int) = 3 ∨ (2 : Int) = 4) := by simp [Hid]
      have hh : hasB 2 3 = true := rfl
      have e5 : lenW (a :: r) = putW (tI (s.size : Nat)) 1 (a :: r) := by
        have h7 : ft (tI (s.size : Nat)) = true := by unfold ft; exact decide_eq_true (tI_size _)
        have h8 : ¬ r.length ≥ 5 := by omega
        simp [lenW, f1, f2, putW, h7, h8]
      rw [e5]
      generalize hR : putW (tI (s.size : Nat)) 1 (a :: r) = R
      have HR : Hid (putW (tI (s.size : Nat)) 1 (a :: r) = R) := hR
      clear hR e5
      clear h hms hsl hw hz f1 f2 f3 f4 ft'
      generalize hk : r.length = k at *
      clear hk
      go_enter Try.func92, Try.ntmps92
      go_wp2_with (first | (go_at_call 100; refine (has_any HTG.out (by simp)).mono ?_; rintro e w1 ⟨rfl, rfl⟩) | (go_at_call 98; refine (Calls.frl ((Fr.refl [] w).alloc _) (put_any (H.out.keep0 ((Fr.refl [] w).alloc _)) HL.out 1 (by simp) (t := tI (s.size : Nat)) ⟨rfl, by unfold w64; omega⟩ (by have := tI_size (s.size : Nat); omega))).mono ?_; rw [HR.out]; rintro e w1 ⟨rfl, sl', vs', h1, h2⟩))
      go_ret
      exact ⟨rfl, sl', vs', h1, h2⟩
    · simp [cells4] at f
      obtain ⟨rfl, rfl, rfl, hks⟩ := f
      have hus := hml.len
      obtain ⟨L, hL⟩ : ∃ L, us.length = L := ⟨_, rfl⟩
      have hu1 : L ≤ 1000 := by have := kids_len a false; omega
      obtain ⟨p, c, hk'⟩ : ∃ p c, ks = .slice p L c := by
        rcases hr with ⟨e, h⟩ | ⟨g', off, c, cur, _, h, _⟩
        · exact ⟨none, 0, by rw [hks, h, ← hL, e]; rfl⟩
        · exact ⟨_, c, by rw [hks, h, hL]⟩
      subst hk'
      have hkl : (kids a).length = L := by omega
      have HTG : Hid ((3 : Int) = 1 ∨ (3 : Int) = 2 ∨ (3 : Int) = 3 ∨ (3 : Int) = 4) := by simp [Hid]
      have hh : hasB 3 3 = true := rfl
      have e5 : lenW (a :: r) = putW (tI (L : Nat)) 1 (a :: r) := by
        have h7 : ft (tI (L : Nat)) = true := by unfold ft; exact decide_eq_true (tI_size _)
        have h8 : ¬ r.length ≥ 5 := by omega
        simp [lenW, f1, f2, putW, h7, h8, hkl]
      rw [e5]
      generalize hR : putW (tI (L : Nat)) 1 (a :: r) = R
      have HR : Hid (putW (tI (L : Nat)) 1 (a :: r) = R) := hR
      clear hR e5
      clear h hms hsl hw hz f1 f2 f3 f4 hus hL hml hr hks hkl
      generalize hk : r.length = k at *
      clear hk
      go_enter Try.func92, Try.ntmps92
      go_wp2_with (first | (go_at_call 100; refine (has_any HTG.out (by simp)).mono ?_; rintro e w1 ⟨rfl, rfl⟩) | (go_at_call 98; refine (Calls.frl ((Fr.refl [] w).alloc _) (put_any (H.out.keep0 ((Fr.refl [] w).alloc _)) HL.out 1 (by simp) (t := tI (L : Nat)) ⟨rfl, by unfold w64; omega⟩ (by have := tI_size (L : Nat); omega))).mono ?_; rw [HR.out]; rintro e w1 ⟨rfl, sl', vs', h1, h2⟩))
      go_ret
      exact ⟨rfl, sl', vs', h1, h2⟩
    · simp [cells4] at f
      obtain ⟨rfl, rfl, rfl, hks⟩ := f
      have hus := hml.len
      obtain ⟨L, hL⟩ : ∃ L, us.length = L := ⟨_, rfl⟩
      have hu1 : L ≤ 1000 := by have := kids_len a false; omega
      obtain ⟨p, c, hk'⟩ : ∃ p c, ks = .slice p L c := by
        rcases hr with ⟨e, h⟩ | ⟨g', off, c, cur, _, h, _⟩
        · exact ⟨none, 0, by rw [hks, h, ← hL, e]; rfl⟩
        · exact ⟨_, c, by rw [hks, h, hL]⟩
      subst hk'
      have hkl : (kids a).length = L := by omega
      have HTG : Hid ((4 : Int) = 1 ∨ (4 : Int) = 2 ∨ (4 : Int) = 3 ∨ (4 : Int) = 4) := by simp [Hid]
      have hh : hasB 4 3 = true := rfl
      have e5 : lenW (a :: r) = putW (tI (L : Nat)) 1 (a :: r) := by
        have h7 : ft (tI (L : Nat)) = true := by unfold ft; exact decide_eq_true (tI_size _)
        have h8 : ¬ r.length ≥ 5 := by omega
        simp [lenW, f1, f2, putW, h7, h8, hkl]
      rw [e5]
      generalize hR : putW (tI (L : Nat)) 1 (a :: r) = R
      have HR : Hid (putW (tI (L : Nat)) 1 (a :: r) = R) := hR
      clear hR e5
      clear h hms hsl hw hz f1 f2 f3 f4 hus hL hml hr hks hkl h2l
      generalize hk : r.length = k at *
      clear hk
      go_enter Try.func92, Try.ntmps92
      go_wp2_with (first | (go_at_call 100; refine (has_any HTG.out (by simp)).mono ?_; rintro e w1 ⟨rfl, rfl⟩) | (go_at_call 98; refine (Calls.frl ((Fr.refl [] w).alloc _) (put_any (H.out.keep0 ((Fr.refl [] w).alloc _)) HL.out 1 (by simp) (t := tI (L : Nat)) ⟨rfl, by unfold w64; omega⟩ (by have := tI_size (L : Nat); omega))).mono ?_; rw [HR.out]; rintro e w1 ⟨rfl, sl', vs', h1, h2⟩))
      go_ret
      exact ⟨rfl, sl', vs', h1, h2⟩
end Go.Proofs.Qxb6500336a
