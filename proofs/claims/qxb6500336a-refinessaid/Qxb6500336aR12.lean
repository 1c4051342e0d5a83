import Derived.Test.Qxb6500336aR11
namespace Go.Proofs.Qxb6500336a
open Go.RowKit
set_option linter.unusedVariables false
set_option linter.unusedSimpArgs false

theorem findT_rng (s : ByteArray) : ∀ (l : List Code) (i : Nat), findT s l i = -1 ∨ ((i : Int) ≤ findT s l i ∧ findT s l i < (i : Int) + l.length)
  | [], i => Or.inl rfl
  | a :: r, i => by
    unfold findT
    split
    · right; simp; omega
    · rcases findT_rng s r (i + 1) with h | h
      · exact Or.inl h
      · right; simp only [List.length_cons]; omega
theorem findT_in (s : ByteArray) (l : List Code) (i : Nat) (h : i + l.length ≤ 100000) : w64 (findT s l i) := by
  unfold w64
  rcases findT_rng s l i with h1 | h1 <;> omega

set_option maxHeartbeats 3200000 in
set_option maxRecDepth 100000 in
theorem mfind_any {w : World} {m : Nat} {sl : Value} {rs : List Code} {vs : List (List Value)} (h : Mt w m sl rs vs) (hw : Wf rs) :
    Calls Try.prog 91 #[.pointer (some ⟨m, 0, none⟩)] w (MOutS w m sl (findW rs)) := by
  have H : Hid (Mt w m sl rs vs) := h
  have HL : Hid (rs.length ≤ 5) := hw.1
  have short : rs.length ≤ 1 → Calls Try.prog 91 #[.pointer (some ⟨m, 0, none⟩)] w (MOutS w m sl (4, rs)) := by
    intro h1
    obtain ⟨p, cap, hsl⟩ := h.len
    have hv0 : vs.length ≤ 1 := by rw [h.ms.len]; exact h1
    have c0 := blk_cell h.obj 0
    simp at c0
    rw [hsl] at c0
    clear h hsl h1 hw
    generalize vs.length = L at *
    go_enter Try.func91, Try.ntmps91
    go_wp2
    go_ret
    exact MOutS.same H.out (Fr.refl _ _) 4
  match rs, h, hw, H, HL, short with
  | [], h, hw, H, HL, short => exact short (by simp)
  | [b], h, hw, H, HL, short => exact short (by simp)
  | b :: a :: r, h, hw, H, HL, short =>
    clear short
    obtain ⟨g, cap, tag, n, s, ks, hsl, hcap, hms, hgm, hgc, e0, e1, e2, e3⟩ := h.at (i := 0) (t := b) rfl
    obtain ⟨g', cap', tag', n', s', ks', hsl', _, hms', _, _, d0, d1, d2, d3⟩ := h.at (i := 1) (t := a) rfl
    rw [hsl] at hsl'
    simp at hsl'
    obtain ⟨rfl, rfl⟩ := hsl'
    obtain ⟨htg1, p1, l1, c1, rfl⟩ := hms.tag
    have hzb := hw.2 b (by simp)
    have hza := hw.2 a (by simp)
    have c0 := blk_cell h.obj 0
    simp at c0
    rw [hsl] at c0
    have HMB : Hid (Ms w (Oa m sl) false b [cells4 tag n s (.slice p1 l1 c1)]) := hms
    have HMA : Hid (Ms w (Oa m sl) false a [cells4 tag' n' s' ks']) := hms'
    have HAT : Hid (∀ b ∈ Oa m sl, b < w.heap.size) := h.lt
    have hk5 : r.length + 1 + 1 ≤ 5 := HL.out
    simp at e0 e1 e2 e3 d0 d1 d2 d3 hcap c0
    have lg : g < w.heap.size := by obtain ⟨cur, hc⟩ := hgc; exact blk_lt hc
    have lm : m < w.heap.size := blk_lt h.obj
    have HGC : Hid (∃ cur, w.heap[g]? = some (.cells cur 119)) := hgc
    clear hgc htg1
    have hw1 : IntKind.i64.wrap ((r.length : Int) + 1 + 1 - 2) = (r.length : Int) := by simp only [IntKind.wrap, IntKind.bits, IntKind.signed]; simp; omega
    have hw2 : IntKind.i64.wrap ((r.length : Int) + 1 + 1 - 1) = (r.length : Int) + 1 := by simp only [IntKind.wrap, IntKind.bits, IntKind.signed]; simp; omega
    have hw3 : IntKind.i64.wrap ((r.length : Int) + 1) = (r.length : Int) + 1 := by simp only [IntKind.wrap, IntKind.bits, IntKind.signed]; simp; omega
    have hw4 : IntKind.i64.wrap (r.length : Int) = (r.length : Int) := by simp only [IntKind.wrap, IntKind.bits, IntKind.signed]; simp; omega
    have q0 : (0 : Int) ≤ (r.length : Int) := by omega
    have q1 : (r.length : Int) < (r.length : Int) + 1 + 1 := by omega
    have q2 : (r.length : Int) + 1 < (r.length : Int) + 1 + 1 := by omega
    have q3 : (0 : Int) ≤ (r.length : Int) + 1 := by omega
    obtain ⟨htg2, p2, l2, c2, rfl⟩ := hms'.tag
    have HTG : Hid (tag' = 1 ∨ tag' = 2 ∨ tag' = 3 ∨ tag' = 4) := by
      show _ ∨ _
      rw [htg2]; unfold tagOf; split; simp; split; simp; split; simp; simp
    by_cases hc : isC a = true
    · have hrow : ∃ us, RowAt w (Oa m sl) (.slice p2 l2 c2) us ∧ MsL w (Oa m sl) (kids a) us ∧ (tag' = 3 ∨ tag' = 4) ∧ us.length = l2 := by
        rcases hms'.kinds with ⟨m', f1, f2, f3, f4, _, f, hm', _⟩ | ⟨r', f1, f2, f3, f4, _, f, ft'⟩ | ⟨ks', us, f1, f2, f3, f4, f, hr, hml⟩ | ⟨ks', us, f1, f2, f3, f4, f, hr, hml, h2l⟩
        · simp [isC, f3, f4] at hc
        · simp [isC, f3, f4] at hc
        all_goals
          simp [cells4] at f
          obtain ⟨ft, _, _, rfl⟩ := f
          refine ⟨us, hr, hml, by simp [ft], ?_⟩
          rcases hr with ⟨e, h5⟩ | ⟨g', off, c, cur, _, h5, _⟩
          · simp at h5; rw [e, h5.2.1]; rfl
          · simp at h5; exact h5.2.1.symm
      obtain ⟨us, hr, hml, ht34, hul⟩ := hrow
      have hh : hasB tag' 4 = true := by rcases ht34 with h | h <;> rw [h] <;> rfl
      have hl2 : l2 ≤ 1000 := by
        have h5 := hml.len
        have h6 := kids_len a false
        omega
      have e5 : findW (b :: a :: r) = putW (tI (findT (tx false b) (kids a) 0)) 2 (b :: a :: r) := by
        have h7 : ft (tI (findT (tx false b) (kids a) 0)) = true := by unfold ft; exact decide_eq_true (tI_size _)
        have h8 : ¬ r.length ≥ 5 := by omega
        simp [findW, hc, putW, h7, h8]
      rw [e5]
      generalize hR : putW (tI (findT (tx false b) (kids a) 0)) 2 (b :: a :: r) = R
      have HR : Hid (putW (tI (findT (tx false b) (kids a) 0)) 2 (b :: a :: r) = R) := hR
      have HROW : Hid (RowAt w (Oa m sl) (.slice p2 l2 c2) us) := hr
      have HML : Hid (MsL w (Oa m sl) (kids a) us) := hml
      have HUL : Hid (us.length = l2) := hul
      have HKL : Hid ((kids a).length = l2) := by show _ = _; rw [← hml.len]; exact hul
      have HZB : Hid ((tx false b).size ≤ 30) := hzb
      have HZA : Hid ((tx false a).size ≤ 30) := hza
      clear hml hr hul ht34
      generalize hX : tx false b = X at *
      have HX : Hid (tx false b = X) := hX
      have hsx : X.size ≤ 30 := HZB.out
      clear h hR hms hms' hsl e5 hw hza hzb hX htg2
      generalize hk : r.length = k at *
      clear hk
      go_enter Try.func91, Try.ntmps91
      go_wp2_with (first | (go_at_call 100; refine (has_any HTG.out (by simp)).mono ?_; rintro e w1 ⟨rfl, rfl⟩) | (go_at_call 83; refine ((text_all b).1 _ (Oa m sl) tag n s (.slice p1 l1 c1) (Ms.kept ((Fr.refl _ w).alloc _) (fun b hb => Or.inl hb) _ _ _ HMB.out) (by have := HZB.out; rw [HX.out]; omega)).mono ?_; rw [HX.out]; rintro e w1 ⟨rfl, hf1⟩; have HB0 : Hid _ := hf1.keep (blk_new w (.cells #[.int .i64 tag', .int .i64 n', .string s', .slice p2 l2 c2] 119)) (by simp); have HF1 : Hid (Fr [] w w1) := ((Fr.refl [] w).alloc _).trans hf1; have y3 := blk_cell HB0.out 3; simp at y3; clear hf1))
      go_loopw [6, 7] (fun at' i wr => ∃ (j : Nat) (q : Int), at' = .int .i64 q ∧ i = .int .i64 ((j : Int) - 1) ∧ j ≤ l2 ∧ Hid (Fr [] w wr) ∧ Hid (wr.heap[w.heap.size]? = some (.cells #[.int .i64 tag', .int .i64 n', .string s', .slice p2 l2 c2] 119)) ∧ Hid (q = findT X ((kids a).drop j) j)) (fun _ i _ => (intOf i + 1).toNat)
      case atStart => exact ⟨l2, -1, rfl, rfl, Nat.le_refl _, HF1, HB0, by show _ = _; rw [← HKL.out, List.drop_length]; rfl⟩
      case round =>
        obtain ⟨j, q, rfl, rfl, hj, HFr, HBr, HQ⟩ := hrel
        have z3 := blk_cell HBr.out 3
        simp at z3
        cases j with
        | zero =>
          have HQ0 : Hid (q = findT X (kids a) 0) := HQ.out
          have e7 : ((0 : Nat) : Int) - 1 = -1 := rfl
          rw [e7]
          clear HQ
          go_wp2_with (go_at_call 98; refine (Calls.frl HFr.out (put_any (H.out.keep0 HFr.out) HL.out 2 (by simp) (t := tI q) ⟨rfl, by rw [HQ0.out]; exact findT_in _ _ _ (by have := HKL.out; omega)⟩ (by have := tI_size q; omega))).mono ?_; rw [HQ0.out, HR.out]; rintro e w1 ⟨rfl, sl', vs', h1, h2⟩)
          go_ret
          exact ⟨rfl, sl', vs', h1, h2⟩
        | succ j =>
          obtain ⟨v, hv⟩ : ∃ v, us[j]? = some v := ⟨_, List.getElem?_eq_getElem (by have := HUL.out; omega)⟩
          obtain ⟨t, ht, hmt⟩ := HML.out.get hv
          obtain ⟨tg, nn, ss, kk, rfl⟩ := hmt.shape
          obtain ⟨gk, ok, ck, j1, jlt, jA, ⟨cur, jc⟩, g0, g1, g2, g3⟩ := HROW.out.at HML.out.four hv
          simp at j1
          obtain ⟨rfl, j2⟩ := j1
          have hcg := HFr.out.keep jc (by simp)
          have k0 : wr.cell? ⟨gk, ok + j * 4, none⟩ = some (.int .i64 tg) := by rw [blk_cell hcg, ← blk_cell jc]; exact g0
          have k1 : wr.cell? ⟨gk, ok + j * 4 + 1, none⟩ = some (.int .i64 nn) := by rw [blk_cell hcg, ← blk_cell jc]; exact g1
          have k2 : wr.cell? ⟨gk, ok + j * 4 + 2, none⟩ = some (.string ss) := by rw [blk_cell hcg, ← blk_cell jc]; exact g2
          have k3 : wr.cell? ⟨gk, ok + j * 4 + 3, none⟩ = some kk := by rw [blk_cell hcg, ← blk_cell jc]; exact g3
          have HMT : Hid (Ms wr (Oa m sl) false t [cells4 tg nn ss kk]) := Ms.kept HFr.out.widen (fun b hb => Or.inl hb) _ _ _ hmt
          have hd : (kids a).drop j = t :: (kids a).drop (j + 1) := by rw [List.drop_eq_getElem?_toList_append, ht]; rfl
          have HFT : Hid (findT X ((kids a).drop j) j = if tx false t = X then (j : Int) else q) := by
            show _ = _
            rw [hd, HQ.out]; rfl
          have HZT : Hid ((tx false t).size ≤ 1000) := by
            have h5 := (kids_size a).2 t (List.mem_of_getElem? ht)
            have h6 := HZA.out
            show _ ≤ _; omega
          have e7 : ((j + 1 : Nat) : Int) - 1 = (j : Int) := by omega
          rw [e7]
          generalize hY : tx false t = Y at *
          have HY : Hid (tx false t = Y) := hY
          clear hv ht hmt jc hcg g0 g1 g2 g3 hd j2 jA HQ hY
          have hjl : (j : Int) < (l2 : Int) := by omega
          by_cases hq : Y = X
          · have hfj : findT X ((kids a).drop j) j = (j : Int) := by rw [HFT.out, if_pos hq]
            have HFJ : Hid ((j : Int) = findT X ((kids a).drop j) j) := hfj.symm
            subst hq
            clear hfj HFT
            go_wp2_with (go_at_call 83; refine ((text_all t).1 _ (Oa m sl) tg nn ss kk HMT.out (by rw [HY.out]; exact HZT.out)).mono ?_; rw [HY.out]; rintro e w2 ⟨rfl, hf2⟩)
            go_roundw
            case rel => exact ⟨j, _, rfl, by go_num, by omega, HFr.out.trans hf2, hf2.keep HBr.out (by simp), HFJ⟩
            case measure => simp [intOf]
          · have hfj : findT X ((kids a).drop j) j = q := by rw [HFT.out, if_neg hq]
            have HFJ : Hid (q = findT X ((kids a).drop j) j) := hfj.symm
            have hq1 : (Y.toList == X.toList) = false := neq_list hq
            clear hfj HFT
            go_wp2_with (go_at_call 83; refine ((text_all t).1 _ (Oa m sl) tg nn ss kk HMT.out (by rw [HY.out]; exact HZT.out)).mono ?_; rw [HY.out]; rintro e w2 ⟨rfl, hf2⟩)
            go_roundw
            case rel => exact ⟨j, _, rfl, by go_num, by omega, HFr.out.trans hf2, hf2.keep HBr.out (by simp), HFJ⟩
            case measure => simp [intOf]
    · have hc' : isC a = false := by simpa using hc
      have e5 : findW (b :: a :: r) = (5, b :: a :: r) := by simp [findW, hc']
      have hh : hasB tag' 4 = false := by
        have h3 : isL a = false ∧ isP a = none := by simpa [isC] using hc'
        rcases hms'.kinds with ⟨m', f1, f2, f3, f4, _, f, hm', _⟩ | ⟨r', f1, f2, f3, f4, _, f, ft'⟩ | ⟨ks', us, f1, f2, f3, f4, f, hr, hml⟩ | ⟨ks', us, f1, f2, f3, f4, f, hr, hml, h2l⟩
        · simp [cells4] at f; rw [f.1]; rfl
        · simp [cells4] at f; rw [f.1]; rfl
        · rw [h3.1] at f3; cases f3
        · rw [h3.2] at f4; cases f4
      rw [e5]
      clear h hms hms' hsl e5 hw hza hzb htg2 hc'
      generalize hk : r.length = k at *
      clear hk
      go_enter Try.func91, Try.ntmps91
      go_wp2_with (go_at_call 100; refine (has_any HTG.out (by simp)).mono ?_; rintro e w1 ⟨rfl, rfl⟩)
      go_ret
      exact MOutS.same H.out ((Fr.refl [] w).alloc _) 5
end Go.Proofs.Qxb6500336a
