import Derived.Test.Qxb6500336aR13
namespace Go.Proofs.Qxb6500336a
open Go.RowKit
set_option linter.unusedVariables false
set_option linter.unusedSimpArgs false

set_option maxHeartbeats 6400000 in
set_option maxRecDepth 100000 in
theorem mfold_any {w : World} {m : Nat} {sl : Value} {rs : List Code} {vs : List (List Value)} (h : Mt w m sl rs vs) (hw : Wf rs) :
    Calls Try.prog 95 #[.pointer (some ⟨m, 0, none⟩)] w (MOutS w m sl (foldW rs)) := by
  have H : Hid (Mt w m sl rs vs) := h
  have HL : Hid (rs.length ≤ 5) := hw.1
  cases rs with
  | nil =>
    obtain ⟨p, cap, hsl⟩ := h.len
    have hv0 : vs.length = 0 := h.ms.len
    have c0 := blk_cell h.obj 0
    simp at c0
    rw [hsl, hv0] at c0
    clear h hsl hv0
    go_enter Try.func95, Try.ntmps95
    go_wp2
    go_ret
    exact MOutS.same H.out (Fr.refl _ _) 4
  | cons a r =>
    obtain ⟨g, cap, tag, n, s, ks, hsl, hcap, hms, hgm, hgc, e0, e1, e2, e3⟩ := h.at (i := 0) (t := a) rfl
    have hz := hw.2 a (by simp)
    have c0 := blk_cell h.obj 0
    have f0 := blk_frozen h.obj 0
    simp at c0
    rw [hsl] at c0
    have HMS : Hid (Ms w (Oa m sl) false a [cells4 tag n s ks]) := hms
    have HZ : Hid ((tx false a).size ≤ 30) := hz
    have HAT : Hid (∀ b ∈ Oa m sl, b < w.heap.size) := h.lt
    have hk5 : r.length + 1 ≤ 5 := HL.out
    simp at e0 e1 e2 e3 hcap c0
    have lg : g < w.heap.size := by obtain ⟨cur, hc⟩ := hgc; exact blk_lt hc
    have lm : m < w.heap.size := blk_lt h.obj
    obtain ⟨htg, p2, l2, c2, rfl⟩ := hms.tag
    have HTG : Hid (tag = 1 ∨ tag = 2 ∨ tag = 3 ∨ tag = 4) := by
      show _ ∨ _
      rw [htg]; unfold tagOf; split; simp; split; simp; split; simp; simp
    clear hgc htg
    by_cases hc : isC a = true
    · have hrow : ∃ us, RowAt w (Oa m sl) (.slice p2 l2 c2) us ∧ MsL w (Oa m sl) (kids a) us ∧ (tag = 3 ∨ tag = 4) ∧ us.length = l2 := by
        rcases hms.kinds with ⟨m', f1, f2, f3, f4, _, f, hm', _⟩ | ⟨r', f1, f2, f3, f4, _, f, ft'⟩ | ⟨ks', us, f1, f2, f3, f4, f, hr, hml⟩ | ⟨ks', us, f1, f2, f3, f4, f, hr, hml, h2l⟩
        · simp [isC, f3, f4] at hc
        · simp [isC, f3, f4] at hc
        all_goals
          simp [cells4] at f
          obtain ⟨ft, _, _, rfl⟩ := f
          refine ⟨us, hr, hml, by simp [ft], ?_⟩
          rcases hr with ⟨e, h5⟩ | ⟨g', off, c, cur, _, h5, _⟩
          · simp at h5; rw [e, h5.2.1]; rfl
          · simp at h5; exact h5.2.1.symm
      obtain ⟨us, hr, hml, ht34, hul⟩ := hrow
      have hh : hasB tag 4 = true := by rcases ht34 with h | h <;> rw [h] <;> rfl
      have hl2 : l2 ≤ 1000 := by
        have h5 := hml.len
        have h6 := kids_len a false
        omega
      cases hkk : kids a with
      | nil =>
        have hl0 : l2 = 0 := by
          have h5 : us.length = 0 := by rw [hml.len, hkk]; rfl
          omega
        have e5 : foldW (a :: r) = (8, a :: r) := by simp [foldW, hc, hkk]
        rw [e5]
        subst hl0
        clear h hms hsl e5 hw hz hml hr hul ht34 hkk hc hl2
        generalize hk : r.length = k at *
        clear hk
        go_enter Try.func95, Try.ntmps95
        go_wp2_with (go_at_call 100; refine (has_any HTG.out (by simp)).mono ?_; rintro e w1 ⟨rfl, rfl⟩)
        go_ret
        exact MOutS.same H.out ((Fr.refl [] w).alloc _) 8
      | cons x xs =>
        obtain ⟨v0, hv0⟩ : ∃ v0, us[0]? = some v0 := ⟨_, List.getElem?_eq_getElem (by have := hml.len; rw [hkk] at this; simp at this; omega)⟩
        obtain ⟨t0, ht0, hmt0⟩ := hml.get hv0
        rw [hkk] at ht0
        simp at ht0
        subst ht0
        obtain ⟨tx0, nx0, sx0, kx0, rfl⟩ := hmt0.shape
        obtain ⟨-, px0, lx0, cx0, rfl⟩ := hmt0.tag
        obtain ⟨gk, ok, ck0, j1, jlt, jA, ⟨cur, jc⟩, g0, g1, g2, g3⟩ := hr.at hml.four hv0
        simp at j1 g0 g1 g2 g3
        obtain ⟨rfl, j2⟩ := j1
        have hpl : 1 ≤ l2 := by have h5 := hml.len; rw [hkk] at h5; simp at h5; omega
        have hgk : gk < w.heap.size := blk_lt jc
        have e5 : foldW (a :: r) = if (foldT x xs).1 = 0 then putW (foldT x xs).2 1 (a :: r) else ((foldT x xs).1, a :: r) := by
          by_cases h0 : (foldT x xs).1 = 0
          · have hzx : (tx false x).size ≤ 30 := by have := (kids_size a).2 x (by rw [hkk]; simp); omega
            have h7 : ft (foldT x xs).2 = true := decide_eq_true (foldT_fits xs x hzx h0)
            have h8 : ¬ r.length ≥ 5 := by omega
            simp [foldW, hc, hkk, h0, putW, h7, h8]
          · simp [foldW, hc, hkk, h0]
        rw [e5]
        generalize hR : (if (foldT x xs).1 = 0 then putW (foldT x xs).2 1 (a :: r) else ((foldT x xs).1, a :: r)) = R
        have HR : Hid ((if (foldT x xs).1 = 0 then putW (foldT x xs).2 1 (a :: r) else ((foldT x xs).1, a :: r)) = R) := hR
        have HROW : Hid (RowAt w (Oa m sl) (.slice (some ⟨gk, ok, none⟩) l2 c2) us) := hr
        have HML : Hid (MsL w (Oa m sl) (kids a) us) := hml
        have HUL : Hid (us.length = l2) := hul
        have HKL : Hid ((kids a).length = l2) := by show _ = _; rw [← hml.len]; exact hul
        have HKK : Hid (kids a = x :: xs) := hkk
        have HM0 : Hid (Ms w (Oa m sl) false x [cells4 tx0 nx0 sx0 (.slice px0 lx0 cx0)]) := hmt0
        have HZX : Hid ((tx false x).size ≤ 30) := by have := (kids_size a).2 x (by rw [hkk]; simp); show _ ≤ _; omega
        clear hml hr hul ht34 hv0 hmt0 jc jA jlt j2 hkk hc e5 hR h hms hsl hw hz
        have hl20 : ((l2 : Int) == 0) = false := by simp; omega
        generalize hk : r.length = k at *
        clear hk
        go_enter Try.func95, Try.ntmps95
        go_wp2_with (go_at_call 100; refine (has_any HTG.out (by simp)).mono ?_; rintro e w1 ⟨rfl, rfl⟩)
        go_loopw [6] (fun i wr => ∃ (j : Nat) (t : Code) (tc nc : Int) (sc : ByteArray) (pc : Option Addr) (lc cc : Nat), i = .int .i64 (j : Int) ∧ 1 ≤ j ∧ j ≤ l2 ∧ Hid (Fr [] w wr) ∧ Hid (wr.heap[w.heap.size]? = some (.cells #[.int .i64 tag, .int .i64 n, .string s, .slice (some ⟨gk, ok, none⟩) l2 c2] 119)) ∧ Hid (wr.heap[w.heap.size + 1]? = some (.cells #[.int .i64 tc, .int .i64 nc, .string sc, .slice pc lc cc] 119)) ∧ Hid (Ms wr ((w.heap.size + 1) :: Oa m sl) false t [cells4 tc nc sc (.slice pc lc cc)]) ∧ Hid ((tx false t).size ≤ 30) ∧ Hid (foldT x xs = foldT t ((kids a).drop j))) (fun i _ => l2 - (intOf i).toNat)
        case atStart => exact ⟨1, x, tx0, nx0, sx0, px0, lx0, cx0, rfl, by omega, by omega, ((Fr.refl [] w).alloc _).alloc _, blk2a _ _ _, blk2b _ _ _, Ms.kept (((Fr.refl _ w).alloc _).alloc _) (fun b hb => by rw [List.mem_cons] at hb; rcases hb with rfl | hb; right; omega; left; exact hb) _ _ _ HM0.out, HZX.out, by show _ = _; rw [HKK.out]; rfl⟩
        case round =>
          obtain ⟨j, t, tc, nc, sc, pc, lc, cc, rfl, hj1, hj, HFr, HBr, HBV, HMC, HZC, HQ⟩ := hrel
          have z3 := blk_cell HBr.out 3
          have x0 := blk_cell HBV.out 0
          have x1 := blk_cell HBV.out 1
          have x2 := blk_cell HBV.out 2
          have x3 := blk_cell HBV.out 3
          simp at z3 x0 x1 x2 x3
          have lb : w.heap.size + 1 < wr.heap.size := blk_lt HBV.out
          by_cases hje : j = l2
          · have HF0 : Hid (foldT x xs = (0, t)) := by
              show _ = _
              rw [HQ.out, hje, ← HKL.out, List.drop_length]; rfl
            have hjl : ¬ ((j : Int) < (l2 : Int)) := by omega
            have HRR : Hid (putW t 1 (a :: r) = R) := by show _ = _; rw [← HR.out, HF0.out]; rfl
            clear hje HQ
            go_wp2_with (go_at_call 98; refine (Calls.frl HFr.out (put_any (H.out.keep0 HFr.out) HL.out 1 (by simp) (Ms.kept (Fr.refl _ wr) (fun b hb => Or.inl (List.mem_cons_of_mem _ hb)) _ _ _ HMC.out) (by have := HZC.out; omega))).mono ?_; rw [HRR.out]; rintro e w1 ⟨rfl, sl', vs', h1, h2⟩)
            go_ret
            exact ⟨rfl, sl', vs', h1, h2⟩
          · have hjl : (j : Int) < (l2 : Int) := by omega
            have hjl2 : j < l2 := by omega
            obtain ⟨v, hv⟩ : ∃ v, us[j]? = some v := ⟨_, List.getElem?_eq_getElem (by have := HUL.out; omega)⟩
            obtain ⟨y, hy, hmy⟩ := HML.out.get hv
            obtain ⟨tg, nn, ss, kk, rfl⟩ := hmy.shape
            obtain ⟨-, pk, lk, ck, rfl⟩ := hmy.tag
            obtain ⟨gk', ok', ck', j1, jlt, jA, ⟨cur, jc⟩, d0, d1, d2, d3⟩ := HROW.out.at HML.out.four hv
            simp at j1
            obtain ⟨⟨rfl, rfl⟩, j2⟩ := j1
            have k0 := HFr.out.cell d0
            have k1 := HFr.out.cell d1
            have k2 := HFr.out.cell d2
            have k3 := HFr.out.cell d3
            have hgr : gk < wr.heap.size := by have := HFr.out.size; omega
            have HMT : Hid (Ms wr ((w.heap.size + 1) :: Oa m sl) false y [cells4 tg nn ss (.slice pk lk ck)]) := Ms.kept HFr.out.widen (fun b hb => by rw [List.mem_cons] at hb; rcases hb with rfl | hb; right; omega; left; exact hb) _ _ _ hmy
            have hd : (kids a).drop j = y :: (kids a).drop (j + 1) := by rw [List.drop_eq_getElem?_toList_append, hy]; rfl
            have HZT : Hid ((tx false y).size ≤ 30) := by
              have h5 := (kids_size a).2 y (List.mem_of_getElem? hy)
              have h6 := HZ.out
              show _ ≤ _; omega
            have HLT : Hid (∀ b ∈ ((w.heap.size + 1) :: Oa m sl), b < wr.heap.size) := by
              intro b hb
              rw [List.mem_cons] at hb
              have := HFr.out.size
              rcases hb with rfl | hb
              · exact lb
              · have := HAT.out b hb; omega
            have HFT : Hid (foldT x xs = if (plusT t y).1 = 0 then foldT (plusT t y).2 ((kids a).drop (j + 1)) else ((plusT t y).1, .skip)) := by
              show _ = _
              rw [HQ.out, hd]; rfl
            have h30 := plusT_fits t y
            generalize hPT : plusT t y = pt at *
            obtain ⟨er, tr⟩ := pt
            have HPT : Hid (plusT t y = (er, tr)) := hPT
            dsimp only at h30
            clear hPT hv hy hmy jc jA jlt j2 hd d0 d1 d2 d3 hje HQ
            have nm1 : ¬ (w.heap.size + 1 = wr.heap.size) := by omega
            have nm2 : ¬ (wr.heap.size = w.heap.size + 1) := by omega
            have ng1 : ¬ (gk = wr.heap.size) := by omega
            have ng2 : ¬ (wr.heap.size = gk) := by omega
            have nb1 : ¬ (w.heap.size = wr.heap.size) := by omega
            have nb2 : ¬ (wr.heap.size = w.heap.size) := by omega
            by_cases h0 : er = 0
            · subst h0
              have H30 : Hid ((tx false tr).size ≤ 30) := h30 rfl
              clear h30
              have HFT2 : Hid (foldT x xs = foldT tr ((kids a).drop (j + 1))) := HFT.out
              clear HFT
              go_wp2
              go_region_held3 (fun w' => w'.cell? ⟨w.heap.size + 1, 0, none⟩ = some (.int .i64 tc) ∧ w'.cell? ⟨w.heap.size + 1, 1, none⟩ = some (.int .i64 nc) ∧ w'.cell? ⟨w.heap.size + 1, 2, none⟩ = some (.string sc) ∧ w'.cell? ⟨w.heap.size + 1, 3, none⟩ = some (.slice pc lc cc) ∧ w'.cell? ⟨w.heap.size, 3, none⟩ = some (.slice (some ⟨gk, ok, none⟩) l2 c2) ∧ w'.cell? ⟨gk, ok + j * 4, none⟩ = some (.int .i64 tg) ∧ w'.cell? ⟨gk, ok + j * 4 + 1, none⟩ = some (.int .i64 nn) ∧ w'.cell? ⟨gk, ok + j * 4 + 2, none⟩ = some (.string ss) ∧ w'.cell? ⟨gk, ok + j * 4 + 3, none⟩ = some (.slice pk lk ck)) (go_keep) ((first | (go_at_call 99; refine (mplus_any (w := wr.drew) (A := ((w.heap.size + 1) :: Oa m sl)) HLT.out (Ms.kept ((Fr.refl _ wr).drew) (fun b hb => Or.inl hb) _ _ _ HMC.out) (Ms.kept ((Fr.refl _ wr).drew) (fun b hb => Or.inl hb) _ _ _ HMT.out) HZC.out HZT.out).mono ?_; rw [HPT.out]; rintro e w2 ⟨tv, nv, sv, pv, lv, cv, rfl, hf2, hm2⟩; have XX : Fr [] wr w2 := ((Fr.refl [] wr).drew).trans hf2; have k0' := XX.cell k0; have k1' := XX.cell k1; have k2' := XX.cell k2; have k3' := XX.cell k3; have x0' := XX.cell x0; have x1' := XX.cell x1; have x2' := XX.cell x2; have x3' := XX.cell x3; have z3' := XX.cell z3; have hv2 := XX.keep HBV.out (by simp); have p0 := blk_frozen hv2 0; have p1 := blk_frozen hv2 1; have p2 := blk_frozen hv2 2; have p3 := blk_frozen hv2 3; clear hv2; have lb2 : w.heap.size + 1 < w2.heap.size := (by have := XX.size; omega); have lg2 : gk < w2.heap.size := (by have := XX.size; omega); have lc2 : w.heap.size < w2.heap.size := (by omega); have FX : Fr [] wr (w2.alloc (.cells #[.int .i64 tv, .int .i64 nv, .string sv, .slice pv lv cv] 119)) := XX.alloc _; have HF3 : Hid (Fr [] w (w2.alloc (.cells #[.int .i64 tv, .int .i64 nv, .string sv, .slice pv lv cv] 119))) := HFr.out.trans FX; have HBV3 : Hid _ := FX.keep HBV.out (by simp); have HBC3 : Hid _ := FX.keep HBr.out (by simp); have HBW3 : Hid _ := blk_new w2 (.cells #[.int .i64 tv, .int .i64 nv, .string sv, .slice pv lv cv] 119); have HEND : Hid (Fr [] w (((((w2.setCell ⟨w.heap.size + 1, 0, none⟩ (.int .i64 tv)).setCell ⟨w.heap.size + 1, 1, none⟩ (.int .i64 nv)).setCell ⟨w.heap.size + 1, 2, none⟩ (.string sv)).setCell ⟨w.heap.size + 1, 3, none⟩ (.slice pv lv cv)).alloc (.cells #[.int .i64 tv, .int .i64 nv, .string sv, .slice pv lv cv] 119)) ∧ (((((w2.setCell ⟨w.heap.size + 1, 0, none⟩ (.int .i64 tv)).setCell ⟨w.heap.size + 1, 1, none⟩ (.int .i64 nv)).setCell ⟨w.heap.size + 1, 2, none⟩ (.string sv)).setCell ⟨w.heap.size + 1, 3, none⟩ (.slice pv lv cv)).alloc (.cells #[.int .i64 tv, .int .i64 nv, .string sv, .slice pv lv cv] 119)).heap[w.heap.size]? = some (.cells #[.int .i64 tag, .int .i64 n, .string s, .slice (some ⟨gk, ok, none⟩) l2 c2] 119) ∧ (((((w2.setCell ⟨w.heap.size + 1, 0, none⟩ (.int .i64 tv)).setCell ⟨w.heap.size + 1, 1, none⟩ (.int .i64 nv)).setCell ⟨w.heap.size + 1, 2, none⟩ (.string sv)).setCell ⟨w.heap.size + 1, 3, none⟩ (.slice pv lv cv)).alloc (.cells #[.int .i64 tv, .int .i64 nv, .string sv, .slice pv lv cv] 119)).heap[w.heap.size + 1]? = some (.cells #[.int .i64 tv, .int .i64 nv, .string sv, .slice pv lv cv] 119) ∧ Ms (((((w2.setCell ⟨w.heap.size + 1, 0, none⟩ (.int .i64 tv)).setCell ⟨w.heap.size + 1, 1, none⟩ (.int .i64 nv)).setCell ⟨w.heap.size + 1, 2, none⟩ (.string sv)).setCell ⟨w.heap.size + 1, 3, none⟩ (.slice pv lv cv)).alloc (.cells #[.int .i64 tv, .int .i64 nv, .string sv, .slice pv lv cv] 119)) ((w.heap.size + 1) :: Oa m sl) false tr [cells4 tv nv sv (.slice pv lv cv)]) := ⟨((HFr.out.trans XX).set4 (by omega) _ _ _ _).alloc _, ((Fr.set4m (Fr.refl [w.heap.size + 1] w2) (by simp) _ _ _ _).alloc _).keep (XX.keep HBr.out (by simp)) (by simp), blk_alloc (blk_set4 (XX.keep HBV.out (by simp)) _ _ _ _) _, Ms.kept ((Fr.set4m (Fr.refl ((w.heap.size + 1) :: Oa m sl) w2) (by simp) _ _ _ _).alloc _) (fun b hb => Or.inl hb) _ _ _ (hm2 rfl)⟩; clear hm2 hf2 XX FX) | (go_at_call 99; refine (mplus_any (w := (wr.alloc (.cells #[.int .i64 0, .int .i64 0, .string ⟨#[]⟩, .slice none 0 0] 119)).drew) (A := wr.heap.size :: ((w.heap.size + 1) :: Oa m sl)) (fun b hb => by simp only [List.mem_cons] at hb; rcases hb with rfl | hb; simp; have := HLT.out _ (by simpa using hb); simp; omega) (Ms.kept (((Fr.refl _ wr).alloc _).drew) (fun b hb => by rw [List.mem_cons] at hb; rcases hb with rfl | hb; right; omega; left; exact hb) _ _ _ HMC.out) (Ms.kept (((Fr.refl _ wr).alloc _).drew) (fun b hb => by rw [List.mem_cons] at hb; rcases hb with rfl | hb; right; omega; left; exact hb) _ _ _ HMT.out) HZC.out HZT.out).mono ?_; rw [HPT.out]; rintro e w2 ⟨tv, nv, sv, pv, lv, cv, rfl, hf2, hm2⟩; have XX : Fr [] wr w2 := (((Fr.refl [] wr).alloc _).drew).trans hf2; have k0' := XX.cell k0; have k1' := XX.cell k1; have k2' := XX.cell k2; have k3' := XX.cell k3; have x0' := XX.cell x0; have x1' := XX.cell x1; have x2' := XX.cell x2; have x3' := XX.cell x3; have z3' := XX.cell z3; have hv2 := XX.keep HBV.out (by simp); have p0 := blk_frozen hv2 0; have p1 := blk_frozen hv2 1; have p2 := blk_frozen hv2 2; have p3 := blk_frozen hv2 3; clear hv2; have hbv := hf2.keep (show ((wr.alloc (.cells #[.int .i64 0, .int .i64 0, .string ⟨#[]⟩, .slice none 0 0] 119)).drew).heap[wr.heap.size]? = some _ from blk_new wr (.cells #[.int .i64 0, .int .i64 0, .string ⟨#[]⟩, .slice none 0 0] 119)) (by simp); have q0 := blk_frozen hbv 0; have q1 := blk_frozen hbv 1; have q2 := blk_frozen hbv 2; have q3 := blk_frozen hbv 3; have y0 := blk_cell hbv 0; have y1 := blk_cell hbv 1; have y2 := blk_cell hbv 2; have y3 := blk_cell hbv 3; simp at y0 y1 y2 y3; have FX : Fr [] wr ((((w2.setCell ⟨wr.heap.size, 0, none⟩ (.int .i64 tv)).setCell ⟨wr.heap.size, 1, none⟩ (.int .i64 nv)).setCell ⟨wr.heap.size, 2, none⟩ (.string sv)).setCell ⟨wr.heap.size, 3, none⟩ (.slice pv lv cv)) := XX.set4 (Nat.le_refl _) _ _ _ _; have HF3 : Hid (Fr [] w ((((w2.setCell ⟨wr.heap.size, 0, none⟩ (.int .i64 tv)).setCell ⟨wr.heap.size, 1, none⟩ (.int .i64 nv)).setCell ⟨wr.heap.size, 2, none⟩ (.string sv)).setCell ⟨wr.heap.size, 3, none⟩ (.slice pv lv cv))) := HFr.out.trans FX; have HBV3 : Hid _ := FX.keep HBV.out (by simp); have HBC3 : Hid _ := FX.keep HBr.out (by simp); have HBW3 : Hid _ := blk_set4 hbv (.int .i64 tv) (.int .i64 nv) (.string sv) (.slice pv lv cv); have HM2 : Ms ((((w2.setCell ⟨wr.heap.size, 0, none⟩ (.int .i64 tv)).setCell ⟨wr.heap.size, 1, none⟩ (.int .i64 nv)).setCell ⟨wr.heap.size, 2, none⟩ (.string sv)).setCell ⟨wr.heap.size, 3, none⟩ (.slice pv lv cv)) ((w.heap.size + 1) :: Oa m sl) false tr [cells4 tv nv sv (.slice pv lv cv)] := Ms.kept ((Fr.refl (wr.heap.size :: ((w.heap.size + 1) :: Oa m sl)) w2).set4m (by simp) _ _ _ _) (fun b hb => Or.inl (List.mem_cons_of_mem _ hb)) _ _ _ (hm2 rfl); have HEND : Hid (Fr [] w ((((((((w2.setCell ⟨wr.heap.size, 0, none⟩ (.int .i64 tv)).setCell ⟨wr.heap.size, 1, none⟩ (.int .i64 nv)).setCell ⟨wr.heap.size, 2, none⟩ (.string sv)).setCell ⟨wr.heap.size, 3, none⟩ (.slice pv lv cv)).setCell ⟨w.heap.size + 1, 0, none⟩ (.int .i64 tv)).setCell ⟨w.heap.size + 1, 1, none⟩ (.int .i64 nv)).setCell ⟨w.heap.size + 1, 2, none⟩ (.string sv)).setCell ⟨w.heap.size + 1, 3, none⟩ (.slice pv lv cv)) ∧ ((((((((w2.setCell ⟨wr.heap.size, 0, none⟩ (.int .i64 tv)).setCell ⟨wr.heap.size, 1, none⟩ (.int .i64 nv)).setCell ⟨wr.heap.size, 2, none⟩ (.string sv)).setCell ⟨wr.heap.size, 3, none⟩ (.slice pv lv cv)).setCell ⟨w.heap.size + 1, 0, none⟩ (.int .i64 tv)).setCell ⟨w.heap.size + 1, 1, none⟩ (.int .i64 nv)).setCell ⟨w.heap.size + 1, 2, none⟩ (.string sv)).setCell ⟨w.heap.size + 1, 3, none⟩ (.slice pv lv cv)).heap[w.heap.size]? = some (.cells #[.int .i64 tag, .int .i64 n, .string s, .slice (some ⟨gk, ok, none⟩) l2 c2] 119) ∧ ((((((((w2.setCell ⟨wr.heap.size, 0, none⟩ (.int .i64 tv)).setCell ⟨wr.heap.size, 1, none⟩ (.int .i64 nv)).setCell ⟨wr.heap.size, 2, none⟩ (.string sv)).setCell ⟨wr.heap.size, 3, none⟩ (.slice pv lv cv)).setCell ⟨w.heap.size + 1, 0, none⟩ (.int .i64 tv)).setCell ⟨w.heap.size + 1, 1, none⟩ (.int .i64 nv)).setCell ⟨w.heap.size + 1, 2, none⟩ (.string sv)).setCell ⟨w.heap.size + 1, 3, none⟩ (.slice pv lv cv)).heap[w.heap.size + 1]? = some (.cells #[.int .i64 tv, .int .i64 nv, .string sv, .slice pv lv cv] 119) ∧ Ms ((((((((w2.setCell ⟨wr.heap.size, 0, none⟩ (.int .i64 tv)).setCell ⟨wr.heap.size, 1, none⟩ (.int .i64 nv)).setCell ⟨wr.heap.size, 2, none⟩ (.string sv)).setCell ⟨wr.heap.size, 3, none⟩ (.slice pv lv cv)).setCell ⟨w.heap.size + 1, 0, none⟩ (.int .i64 tv)).setCell ⟨w.heap.size + 1, 1, none⟩ (.int .i64 nv)).setCell ⟨w.heap.size + 1, 2, none⟩ (.string sv)).setCell ⟨w.heap.size + 1, 3, none⟩ (.slice pv lv cv)) ((w.heap.size + 1) :: Oa m sl) false tr [cells4 tv nv sv (.slice pv lv cv)]) := ⟨HF3.out.set4 (by omega) _ _ _ _, (Fr.set4m (Fr.refl [w.heap.size + 1] _) (by simp) _ _ _ _).keep HBC3.out (by simp), blk_set4 HBV3.out _ _ _ _, Ms.kept (Fr.set4m (Fr.refl ((w.heap.size + 1) :: Oa m sl) _) (by simp) _ _ _ _) (fun b hb => Or.inl hb) _ _ _ HM2⟩; clear HM2; clear hm2 hf2 XX FX hbv)))
              all_goals
                have u0 := blk_cell HBW3.out 0
                have u1 := blk_cell HBW3.out 1
                have u2 := blk_cell HBW3.out 2
                have u3 := blk_cell HBW3.out 3
                have b0 := blk_cell HBV3.out 0
                have b1 := blk_cell HBV3.out 1
                have b2 := blk_cell HBV3.out 2
                have b3 := blk_cell HBV3.out 3
                have fz0 := blk_frozen HBV3.out 0
                have fz1 := blk_frozen HBV3.out 1
                have fz2 := blk_frozen HBV3.out 2
                have fz3 := blk_frozen HBV3.out 3
                simp at u0 u1 u2 u3 b0 b1 b2 b3
                go_wp2
                go_roundw
                case rel => exact ⟨j + 1, tr, tv, nv, sv, pv, lv, cv, by go_num, by omega, by omega, HEND.out.1, HEND.out.2.1, HEND.out.2.2.1, HEND.out.2.2.2, H30, HFT2⟩
                case measure => simp [intOf]; omega
            · clear h30
              have h1 : (er == 0) = false := by simpa using h0
              have h2 : (er != 0) = true := by simpa using h0
              have HRR : Hid (R = (er, a :: r)) := by
                show _ = _
                have h5 := HFT.out
                rw [if_neg h0] at h5
                rw [← HR.out, h5]
                exact if_neg h0
              clear HFT
              go_wp2
              go_region_held3 (fun w' => w'.cell? ⟨w.heap.size + 1, 0, none⟩ = some (.int .i64 tc) ∧ w'.cell? ⟨w.heap.size + 1, 1, none⟩ = some (.int .i64 nc) ∧ w'.cell? ⟨w.heap.size + 1, 2, none⟩ = some (.string sc) ∧ w'.cell? ⟨w.heap.size + 1, 3, none⟩ = some (.slice pc lc cc) ∧ w'.cell? ⟨w.heap.size, 3, none⟩ = some (.slice (some ⟨gk, ok, none⟩) l2 c2) ∧ w'.cell? ⟨gk, ok + j * 4, none⟩ = some (.int .i64 tg) ∧ w'.cell? ⟨gk, ok + j * 4 + 1, none⟩ = some (.int .i64 nn) ∧ w'.cell? ⟨gk, ok + j * 4 + 2, none⟩ = some (.string ss) ∧ w'.cell? ⟨gk, ok + j * 4 + 3, none⟩ = some (.slice pk lk ck)) (go_keep) ((first | (go_at_call 99; refine (mplus_any (w := wr.drew) (A := ((w.heap.size + 1) :: Oa m sl)) HLT.out (Ms.kept ((Fr.refl _ wr).drew) (fun b hb => Or.inl hb) _ _ _ HMC.out) (Ms.kept ((Fr.refl _ wr).drew) (fun b hb => Or.inl hb) _ _ _ HMT.out) HZC.out HZT.out).mono ?_; rw [HPT.out]; rintro e w2 ⟨tv, nv, sv, pv, lv, cv, rfl, hf2, hm2⟩; have XX : Fr [] wr w2 := ((Fr.refl [] wr).drew).trans hf2; have k0' := XX.cell k0; have k1' := XX.cell k1; have k2' := XX.cell k2; have k3' := XX.cell k3; have x0' := XX.cell x0; have x1' := XX.cell x1; have x2' := XX.cell x2; have x3' := XX.cell x3; have z3' := XX.cell z3; have hv2 := XX.keep HBV.out (by simp); have p0 := blk_frozen hv2 0; have p1 := blk_frozen hv2 1; have p2 := blk_frozen hv2 2; have p3 := blk_frozen hv2 3; clear hv2; have lb2 : w.heap.size + 1 < w2.heap.size := (by have := XX.size; omega); have lg2 : gk < w2.heap.size := (by have := XX.size; omega); have lc2 : w.heap.size < w2.heap.size := (by omega); have FX : Fr [] wr (w2.alloc (.cells #[.int .i64 tv, .int .i64 nv, .string sv, .slice pv lv cv] 119)) := XX.alloc _; have HF3 : Hid (Fr [] w (w2.alloc (.cells #[.int .i64 tv, .int .i64 nv, .string sv, .slice pv lv cv] 119))) := HFr.out.trans FX; have HBV3 : Hid _ := FX.keep HBV.out (by simp); have HBC3 : Hid _ := FX.keep HBr.out (by simp); have HBW3 : Hid _ := blk_new w2 (.cells #[.int .i64 tv, .int .i64 nv, .string sv, .slice pv lv cv] 119);  clear hm2 hf2 XX FX) | (go_at_call 99; refine (mplus_any (w := (wr.alloc (.cells #[.int .i64 0, .int .i64 0, .string ⟨#[]⟩, .slice none 0 0] 119)).drew) (A := wr.heap.size :: ((w.heap.size + 1) :: Oa m sl)) (fun b hb => by simp only [List.mem_cons] at hb; rcases hb with rfl | hb; simp; have := HLT.out _ (by simpa using hb); simp; omega) (Ms.kept (((Fr.refl _ wr).alloc _).drew) (fun b hb => by rw [List.mem_cons] at hb; rcases hb with rfl | hb; right; omega; left; exact hb) _ _ _ HMC.out) (Ms.kept (((Fr.refl _ wr).alloc _).drew) (fun b hb => by rw [List.mem_cons] at hb; rcases hb with rfl | hb; right; omega; left; exact hb) _ _ _ HMT.out) HZC.out HZT.out).mono ?_; rw [HPT.out]; rintro e w2 ⟨tv, nv, sv, pv, lv, cv, rfl, hf2, hm2⟩; have XX : Fr [] wr w2 := (((Fr.refl [] wr).alloc _).drew).trans hf2; have k0' := XX.cell k0; have k1' := XX.cell k1; have k2' := XX.cell k2; have k3' := XX.cell k3; have x0' := XX.cell x0; have x1' := XX.cell x1; have x2' := XX.cell x2; have x3' := XX.cell x3; have z3' := XX.cell z3; have hv2 := XX.keep HBV.out (by simp); have p0 := blk_frozen hv2 0; have p1 := blk_frozen hv2 1; have p2 := blk_frozen hv2 2; have p3 := blk_frozen hv2 3; clear hv2; have hbv := hf2.keep (show ((wr.alloc (.cells #[.int .i64 0, .int .i64 0, .string ⟨#[]⟩, .slice none 0 0] 119)).drew).heap[wr.heap.size]? = some _ from blk_new wr (.cells #[.int .i64 0, .int .i64 0, .string ⟨#[]⟩, .slice none 0 0] 119)) (by simp); have q0 := blk_frozen hbv 0; have q1 := blk_frozen hbv 1; have q2 := blk_frozen hbv 2; have q3 := blk_frozen hbv 3; have y0 := blk_cell hbv 0; have y1 := blk_cell hbv 1; have y2 := blk_cell hbv 2; have y3 := blk_cell hbv 3; simp at y0 y1 y2 y3; have FX : Fr [] wr ((((w2.setCell ⟨wr.heap.size, 0, none⟩ (.int .i64 tv)).setCell ⟨wr.heap.size, 1, none⟩ (.int .i64 nv)).setCell ⟨wr.heap.size, 2, none⟩ (.string sv)).setCell ⟨wr.heap.size, 3, none⟩ (.slice pv lv cv)) := XX.set4 (Nat.le_refl _) _ _ _ _; have HF3 : Hid (Fr [] w ((((w2.setCell ⟨wr.heap.size, 0, none⟩ (.int .i64 tv)).setCell ⟨wr.heap.size, 1, none⟩ (.int .i64 nv)).setCell ⟨wr.heap.size, 2, none⟩ (.string sv)).setCell ⟨wr.heap.size, 3, none⟩ (.slice pv lv cv))) := HFr.out.trans FX; have HBV3 : Hid _ := FX.keep HBV.out (by simp); have HBC3 : Hid _ := FX.keep HBr.out (by simp); have HBW3 : Hid _ := blk_set4 hbv (.int .i64 tv) (.int .i64 nv) (.string sv) (.slice pv lv cv);  clear hm2 hf2 XX FX hbv)))
              all_goals
                go_wp2
                go_ret
                rw [HRR.out]
                exact MOutS.same H.out HF3.out er
    · have hc' : isC a = false := by simpa using hc
      have e5 : foldW (a :: r) = (5, a :: r) := by simp [foldW, hc']
      have hh : hasB tag 4 = false := by
        have h3 : isL a = false ∧ isP a = none := by simpa [isC] using hc'
        rcases hms.kinds with ⟨m', f1, f2, f3, f4, _, f, hm', _⟩ | ⟨r', f1, f2, f3, f4, _, f, ft'⟩ | ⟨ks', us, f1, f2, f3, f4, f, hr, hml⟩ | ⟨ks', us, f1, f2, f3, f4, f, hr, hml, h2l⟩
        · simp [cells4] at f; rw [f.1]; rfl
        · simp [cells4] at f; rw [f.1]; rfl
        · rw [h3.1] at f3; cases f3
        · rw [h3.2] at f4; cases f4
      rw [e5]
      clear h hms hsl e5 hw hz hc'
      generalize hk : r.length = k at *
      clear hk
      go_enter Try.func95, Try.ntmps95
      go_wp2_with (go_at_call 100; refine (has_any HTG.out (by simp)).mono ?_; rintro e w1 ⟨rfl, rfl⟩)
      go_ret
      exact MOutS.same H.out ((Fr.refl [] w).alloc _) 5
end Go.Proofs.Qxb6500336a
