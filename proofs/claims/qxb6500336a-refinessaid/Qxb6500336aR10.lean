import Derived.Test.Qxb6500336aR9
namespace Go.Proofs.Qxb6500336a
open Go.RowKit
set_option linter.unusedVariables false
set_option linter.unusedSimpArgs false

theorem blk2b (w : World) (a b : Obj) : ((w.alloc a).alloc b).heap[w.heap.size + 1]? = some b := by
  have h1 := blk_new (w.alloc a) b
  simp only [World.size_alloc] at h1
  exact h1

set_option maxHeartbeats 3200000 in
set_option maxRecDepth 100000 in
theorem mneg_any {w : World} {m : Nat} {sl : Value} {rs : List Code} {vs : List (List Value)} (h : Mt w m sl rs vs) (hw : Wf rs) :
    Calls Try.prog 93 #[.pointer (some ⟨m, 0, none⟩)] w (MOutS w m sl (negW rs)) := by
  have H : Hid (Mt w m sl rs vs) := h
  have HL : Hid (rs.length ≤ 5) := hw.1
  cases rs with
  | nil =>
    obtain ⟨p, cap, hsl⟩ := h.len
    have hv0 : vs.length = 0 := h.ms.len
    have c0 := blk_cell h.obj 0
    simp at c0
    rw [hsl, hv0] at c0
    clear h hsl hv0
    go_enter Try.func93, Try.ntmps93
    go_wp2
    go_ret
    exact MOutS.same H.out (Fr.refl _ _) 4
  | cons a r =>
    obtain ⟨g, cap, tag, n, s, ks, hsl, hcap, hms, hgm, hgc, e0, e1, e2, e3⟩ := h.at (i := 0) (t := a) rfl
    have hz := hw.2 a (by simp)
    have c0 := blk_cell h.obj 0
    have f0 := blk_frozen h.obj 0
    simp at c0
    rw [hsl] at c0
    have HMS : Hid (Ms w (Oa m sl) false a [cells4 tag n s ks]) := hms
    have HZ : Hid ((tx false a).size ≤ 30) := hz
    have hk5 : r.length + 1 ≤ 5 := HL.out
    simp at e0 e1 e2 e3 hcap c0
    rcases hms.kinds with ⟨m', f1, f2, f3, f4, _, f, hm', _⟩ | ⟨r', f1, f2, f3, f4, _, f, ft'⟩ | ⟨ks', us, f1, f2, f3, f4, f, hr, hml⟩ | ⟨ks', us, f1, f2, f3, f4, f, hr, hml, h2l⟩
    · simp [cells4] at f
      obtain ⟨rfl, rfl, rfl, rfl⟩ := f
      have HTG : Hid ((1 : Int) = 1 ∨ (1 : Int) = 2 ∨ (1 : Int) = 3 ∨ (1 : Int) = 4) := Or.inl rfl
      have hh : hasB 1 2 = true := rfl
      have e5 : negW (a :: r) = putW (tI (wrap64 (-n))) 1 (a :: r) := by
        have h7 : ft (tI (wrap64 (-n))) = true := by unfold ft; exact decide_eq_true (tI_size _)
        have h8 : ¬ r.length ≥ 5 := by omega
        simp [negW, f1, putW, h7, h8]
      rw [e5]
      generalize hR : putW (tI (wrap64 (-n))) 1 (a :: r) = R
      have HR : Hid (putW (tI (wrap64 (-n))) 1 (a :: r) = R) := hR
      clear hR e5 h hms hsl hw hz f1 f2 f3 f4
      generalize hk : r.length = k at *
      clear hk
      go_enter Try.func93, Try.ntmps93
      go_wp2_with (first | (go_at_call 100; refine (has_any HTG.out (by simp)).mono ?_; rintro e w1 ⟨rfl, rfl⟩) | (go_at_call 98; refine (Calls.frl ((Fr.refl [] w).alloc _) (put_any (H.out.keep0 ((Fr.refl [] w).alloc _)) HL.out 1 (by simp) (t := tI (wrap64 (-n))) ⟨rfl, w_out _⟩ (by have := tI_size (wrap64 (-n)); omega))).mono ?_; rw [HR.out]; rintro e w1 ⟨rfl, sl', vs', h1, h2⟩))
      go_ret
      exact ⟨rfl, sl', vs', h1, h2⟩
    · simp [cells4] at f
      have HTG : Hid ((2 : Int) = 1 ∨ (2 : Int) = 2 ∨ (2 : Int) = 3 ∨ (2 : Int) = 4) := by simp [Hid]
      obtain ⟨htg, p1, l1, c1, rfl⟩ := hms.tag
      clear htg
      have htag := f.1
      subst htag
      have hh : hasB 2 2 = false := rfl
      have e5 : negW (a :: r) = (5, a :: r) := by simp [negW, f1, f4]
      rw [e5]
      clear e5 h hms hsl hw hz f f1 f2 f3 f4
      generalize hk : r.length = k at *
      clear hk
      go_enter Try.func93, Try.ntmps93
      go_wp2_with (go_at_call 100; refine (has_any HTG.out (by simp)).mono ?_; rintro e w1 ⟨rfl, rfl⟩)
      go_ret
      exact MOutS.same H.out ((Fr.refl [] w).alloc _) 5
    · simp [cells4] at f
      have HTG : Hid ((3 : Int) = 1 ∨ (3 : Int) = 2 ∨ (3 : Int) = 3 ∨ (3 : Int) = 4) := by simp [Hid]
      obtain ⟨htg, p1, l1, c1, rfl⟩ := hms.tag
      clear htg
      have htag := f.1
      subst htag
      have hh : hasB 3 2 = false := rfl
      have e5 : negW (a :: r) = (5, a :: r) := by simp [negW, f1, f4]
      rw [e5]
      clear e5 h hms hsl hw hz f f1 f2 f3 f4
      generalize hk : r.length = k at *
      clear hk
      go_enter Try.func93, Try.ntmps93
      go_wp2_with (go_at_call 100; refine (has_any HTG.out (by simp)).mono ?_; rintro e w1 ⟨rfl, rfl⟩)
      go_ret
      exact MOutS.same H.out ((Fr.refl [] w).alloc _) 5
    · simp [cells4] at f
      obtain ⟨rfl, rfl, rfl, rfl⟩ := f
      have HTG : Hid ((4 : Int) = 1 ∨ (4 : Int) = 2 ∨ (4 : Int) = 3 ∨ (4 : Int) = 4) := by simp [Hid]
      have hh : hasB 4 2 = true := rfl
      cases a with
      | cond c x y =>
        obtain ⟨ks0, u, v, i1, i2, i3, i4⟩ := hms
        simp [cells4] at i1
        subst i1
        obtain ⟨ta, na, sa, ka, rfl⟩ := i3.shape
        obtain ⟨tb, nb, sb, kb, rfl⟩ := i4.shape
        obtain ⟨htg, p1, l1, c1, rfl⟩ := i3.tag
        obtain ⟨htg', p2, l2, c2, rfl⟩ := i4.tag
        clear htg htg'
        have h44 : ∀ v ∈ [cells4 ta na sa (.slice p1 l1 c1), cells4 tb nb sb (.slice p2 l2 c2)], v.length = 4 := by
          intro v hv; simp at hv; rcases hv with rfl | rfl <;> rfl
        obtain ⟨gk, ok, ck, j1, jlt, jA, jc, a0, a1, a2, a3⟩ := i2.at h44 (j := 0) rfl
        obtain ⟨gk', ok', ck', j1', jlt', _, _, b0, b1, b2, b3⟩ := i2.at h44 (j := 1) rfl
        rw [j1] at j1'
        simp at j1'
        obtain ⟨⟨rfl, rfl⟩, rfl⟩ := j1'
        simp at j1 a0 a1 a2 a3 b0 b1 b2 b3
        subst j1
        have HGK : Hid (gk ∉ Oa m sl ∧ ∃ cur, w.heap[gk]? = some (.cells cur 119)) := ⟨jA, jc⟩
        clear jA jc
        have e5 : negW (.cond c x y :: r) = putW (tP y x) 1 (.cond c x y :: r) := by
          have h7 : ft (tP y x) = true := by unfold ft; rw [pair_swap_size c]; exact decide_eq_true hz
          have h8 : ¬ r.length ≥ 5 := by omega
          simp [negW, isI, isP, putW, h7, h8]
        have HZ2 : Hid ((tx false (tP y x)).size ≤ 1000) := by show _ ≤ _; rw [pair_swap_size c]; omega
        have HMX : Hid (Ms w (Oa m sl) false x [cells4 ta na sa (.slice p1 l1 c1)]) := i3
        have HMY : Hid (Ms w (Oa m sl) false y [cells4 tb nb sb (.slice p2 l2 c2)]) := i4
        have HAT : Hid (∀ b ∈ Oa m sl, b < w.heap.size) := h.lt
        rw [e5]
        generalize hR : putW (tP y x) 1 (.cond c x y :: r) = R
        have HR : Hid (putW (tP y x) 1 (.cond c x y :: r) = R) := hR
        have lg : g < w.heap.size := by obtain ⟨cur, hc⟩ := hgc; exact blk_lt hc
        have lm : m < w.heap.size := blk_lt h.obj
        clear hR e5 h hsl hw hz f1 f2 f3 f4 i2 i3 i4 HMS hr hml h2l h44 jlt'
        generalize hk : r.length = k at *
        clear hk
        go_enter Try.func93, Try.ntmps93
        go_wp2_with (first | (go_at_call 100; refine (has_any HTG.out (by simp)).mono ?_; rintro e w1 ⟨rfl, rfl⟩))
        go_region_held3 (fun w' => w'.cell? ⟨w.heap.size, 0, none⟩ = some (.int .i64 4) ∧ w'.cell? ⟨w.heap.size, 3, none⟩ = some (.slice (some ⟨gk, ok, none⟩) 2 ck) ∧ w'.cell? ⟨gk, ok, none⟩ = some (.int .i64 ta) ∧ w'.cell? ⟨gk, ok + 1, none⟩ = some (.int .i64 na) ∧ w'.cell? ⟨gk, ok + 2, none⟩ = some (.string sa) ∧ w'.cell? ⟨gk, ok + 3, none⟩ = some (.slice p1 l1 c1) ∧ w'.cell? ⟨gk, ok + 4, none⟩ = some (.int .i64 tb) ∧ w'.cell? ⟨gk, ok + 4 + 1, none⟩ = some (.int .i64 nb) ∧ w'.cell? ⟨gk, ok + 4 + 2, none⟩ = some (.string sb) ∧ w'.cell? ⟨gk, ok + 4 + 3, none⟩ = some (.slice p2 l2 c2)) (go_keep)
          ((go_at_call 98; have FW : Fr [] w (((w.alloc (.cells #[.int .i64 4, .int .i64 0, .string ⟨#[]⟩, .slice (some ⟨gk, ok, none⟩) 2 ck] 119)).alloc (.cells #[.int .i64 tb, .int .i64 nb, .string sb, .slice p2 l2 c2, .int .i64 ta, .int .i64 na, .string sa, .slice p1 l1 c1] 119)).drew) := ((((Fr.refl [] w).alloc _).alloc _).drew); refine (put_any (H.out.keep0 FW) HL.out 1 (by simp) (t := tP y x) (ks := .slice (some ⟨w.heap.size + 1, 0, none⟩) 2 2) ⟨_, cells4 tb nb sb (.slice p2 l2 c2), cells4 ta na sa (.slice p1 l1 c1), rfl, RowAt.ofBlk (show _ from blk2b w (.cells #[.int .i64 4, .int .i64 0, .string ⟨#[]⟩, .slice (some ⟨gk, ok, none⟩) 2 ck] 119) (.cells #[.int .i64 tb, .int .i64 nb, .string sb, .slice p2 l2 c2, .int .i64 ta, .int .i64 na, .string sa, .slice p1 l1 c1] 119)) rfl rfl (by simp) (fun hm => by have := HAT.out _ hm; omega), Ms.kept FW.widen (fun b hb => Or.inl hb) _ _ _ HMY.out, Ms.kept FW.widen (fun b hb => Or.inl hb) _ _ _ HMX.out⟩ HZ2.out).mono ?_; rw [HR.out]; rintro e w1 ⟨rfl, sl', vs', h1, h2⟩; obtain ⟨cur, hgk⟩ := HGK.out.2; have hkk := h2.fr.keep (FW.keep hgk (by simp)) HGK.out.1; have hka := h2.fr.keep (show (((w.alloc (.cells #[.int .i64 4, .int .i64 0, .string ⟨#[]⟩, .slice (some ⟨gk, ok, none⟩) 2 ck] 119)).alloc (.cells #[.int .i64 tb, .int .i64 nb, .string sb, .slice p2 l2 c2, .int .i64 ta, .int .i64 na, .string sa, .slice p1 l1 c1] 119)).drew).heap[w.heap.size]? = some (.cells #[.int .i64 4, .int .i64 0, .string ⟨#[]⟩, .slice (some ⟨gk, ok, none⟩) 2 ck] 119) from (by have := ((Fr.refl [] (w.alloc (.cells #[.int .i64 4, .int .i64 0, .string ⟨#[]⟩, .slice (some ⟨gk, ok, none⟩) 2 ck] 119))).alloc (.cells #[.int .i64 tb, .int .i64 nb, .string sb, .slice p2 l2 c2, .int .i64 ta, .int .i64 na, .string sa, .slice p1 l1 c1] 119)).drew.keep (blk_new w (.cells #[.int .i64 4, .int .i64 0, .string ⟨#[]⟩, .slice (some ⟨gk, ok, none⟩) 2 ck] 119)) (by simp); exact this)) (fun hm => by have := HAT.out _ hm; omega); have t0 := blk_cell hka 0; have t3 := blk_cell hka 3; simp at t0 t3; have k0 : w1.cell? ⟨gk, ok, none⟩ = some (.int .i64 ta) := (by rw [blk_cell hkk, ← blk_cell hgk]; exact a0); have k1 : w1.cell? ⟨gk, ok + 1, none⟩ = some (.int .i64 na) := (by rw [blk_cell hkk, ← blk_cell hgk]; exact a1); have k2 : w1.cell? ⟨gk, ok + 2, none⟩ = some (.string sa) := (by rw [blk_cell hkk, ← blk_cell hgk]; exact a2); have k3 : w1.cell? ⟨gk, ok + 3, none⟩ = some (.slice p1 l1 c1) := (by rw [blk_cell hkk, ← blk_cell hgk]; exact a3); have k4 : w1.cell? ⟨gk, ok + 4, none⟩ = some (.int .i64 tb) := (by rw [blk_cell hkk, ← blk_cell hgk]; exact b0); have k5 : w1.cell? ⟨gk, ok + 4 + 1, none⟩ = some (.int .i64 nb) := (by rw [blk_cell hkk, ← blk_cell hgk]; exact b1); have k6 : w1.cell? ⟨gk, ok + 4 + 2, none⟩ = some (.string sb) := (by rw [blk_cell hkk, ← blk_cell hgk]; exact b2); have k7 : w1.cell? ⟨gk, ok + 4 + 3, none⟩ = some (.slice p2 l2 c2) := (by rw [blk_cell hkk, ← blk_cell hgk]; exact b3); have HV : Hid (Mv w w1 m sl sl') := Mv.frl FW h2; clear h2 hkk hgk hka))
        all_goals
          go_wp2
          go_ret
          exact ⟨rfl, sl', vs', h1, HV.out⟩
      | _ => simp [isP] at f4
end Go.Proofs.Qxb6500336a
