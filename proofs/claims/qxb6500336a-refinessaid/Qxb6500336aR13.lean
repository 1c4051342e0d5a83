import Derived.Test.Qxb6500336aR12
import Derived.Test.Qxb6500336aP2
import Derived.Deep.RegionHeld3
namespace Go.Proofs.Qxb6500336a
open Go.RowKit
set_option linter.unusedVariables false
set_option linter.unusedSimpArgs false

theorem Fr.cell {w w' : World} {g o : Nat} {v : Value} (hf : Fr [] w w') (h : w.cell? ⟨g, o, none⟩ = some v) : w'.cell? ⟨g, o, none⟩ = some v := by
  have hb : ∃ b, w.heap[g]? = some b := by
    cases hx : w.heap[g]? with
    | none => simp [World.cell?, hx] at h
    | some b => exact ⟨b, rfl⟩
  obtain ⟨b, hb⟩ := hb
  have := hf.keep hb (by simp)
  simp [World.cell?, hb, this] at h ⊢
  exact h

set_option maxHeartbeats 3200000 in
set_option maxRecDepth 100000 in
theorem madd_any {w : World} {m : Nat} {sl : Value} {rs : List Code} {vs : List (List Value)} (h : Mt w m sl rs vs) (hw : Wf rs) :
    Calls Try.prog 88 #[.pointer (some ⟨m, 0, none⟩)] w (MOutS w m sl (addW rs)) := by
  have H : Hid (Mt w m sl rs vs) := h
  have HL : Hid (rs.length ≤ 5) := hw.1
  have short : rs.length ≤ 1 → Calls Try.prog 88 #[.pointer (some ⟨m, 0, none⟩)] w (MOutS w m sl (4, rs)) := by
    intro h1
    obtain ⟨p, cap, hsl⟩ := h.len
    have hv0 : vs.length ≤ 1 := by rw [h.ms.len]; exact h1
    have c0 := blk_cell h.obj 0
    simp at c0
    rw [hsl] at c0
    clear h hsl h1 hw
    generalize vs.length = L at *
    go_enter Try.func88, Try.ntmps88
    go_wp2
    go_ret
    exact MOutS.same H.out (Fr.refl _ _) 4
  match rs, h, hw, H, HL, short with
  | [], h, hw, H, HL, short => exact short (by simp)
  | [b], h, hw, H, HL, short => exact short (by simp)
  | b :: a :: r, h, hw, H, HL, short =>
    clear short
    obtain ⟨g, cap, tag, n, s, ks, hsl, hcap, hms, hgm, hgc, e0, e1, e2, e3⟩ := h.at (i := 0) (t := b) rfl
    obtain ⟨g', cap', tag', n', s', ks', hsl', _, hms', _, _, d0, d1, d2, d3⟩ := h.at (i := 1) (t := a) rfl
    rw [hsl] at hsl'
    simp at hsl'
    obtain ⟨rfl, rfl⟩ := hsl'
    obtain ⟨htg1, p1, l1, c1, rfl⟩ := hms.tag
    have hzb := hw.2 b (by simp)
    have hza := hw.2 a (by simp)
    have c0 := blk_cell h.obj 0
    simp at c0
    rw [hsl] at c0
    have HMB : Hid (Ms w (Oa m sl) false b [cells4 tag n s (.slice p1 l1 c1)]) := hms
    have HMA : Hid (Ms w (Oa m sl) false a [cells4 tag' n' s' ks']) := hms'
    have HAT : Hid (∀ b ∈ Oa m sl, b < w.heap.size) := h.lt
    have hk5 : r.length + 1 + 1 ≤ 5 := HL.out
    simp at e0 e1 e2 e3 d0 d1 d2 d3 hcap c0
    have lg : g < w.heap.size := by obtain ⟨cur, hc⟩ := hgc; exact blk_lt hc
    have lm : m < w.heap.size := blk_lt h.obj
    have HGC : Hid (∃ cur, w.heap[g]? = some (.cells cur 119)) := hgc
    clear hgc htg1
    have hw1 : IntKind.i64.wrap ((r.length : Int) + 1 + 1 - 2) = (r.length : Int) := by simp only [IntKind.wrap, IntKind.bits, IntKind.signed]; simp; omega
    have hw2 : IntKind.i64.wrap ((r.length : Int) + 1 + 1 - 1) = (r.length : Int) + 1 := by simp only [IntKind.wrap, IntKind.bits, IntKind.signed]; simp; omega
    have hw3 : IntKind.i64.wrap ((r.length : Int) + 1) = (r.length : Int) + 1 := by simp only [IntKind.wrap, IntKind.bits, IntKind.signed]; simp; omega
    have hw4 : IntKind.i64.wrap (r.length : Int) = (r.length : Int) := by simp only [IntKind.wrap, IntKind.bits, IntKind.signed]; simp; omega
    have q0 : (0 : Int) ≤ (r.length : Int) := by omega
    have q1 : (r.length : Int) < (r.length : Int) + 1 + 1 := by omega
    have q2 : (r.length : Int) + 1 < (r.length : Int) + 1 + 1 := by omega
    have q3 : (0 : Int) ≤ (r.length : Int) + 1 := by omega
    obtain ⟨htg2, p2, l2, c2, rfl⟩ := hms'.tag
    have HZB : Hid ((tx false b).size ≤ 30) := hzb
    have HZA : Hid ((tx false a).size ≤ 30) := hza
    have e5 : addW (b :: a :: r) = if (plusT a b).1 = 0 then putW (plusT a b).2 2 (b :: a :: r) else ((plusT a b).1, b :: a :: r) := by
      by_cases h0 : (plusT a b).1 = 0
      · have h7 : ft (plusT a b).2 = true := decide_eq_true (plusT_fits a b h0)
        have h8 : ¬ r.length ≥ 5 := by omega
        simp [addW, h0, putW, h7, h8]
      · simp [addW, h0]
    have h30 : (plusT a b).1 = 0 → (tx false (plusT a b).2).size ≤ 30 := plusT_fits a b
    rw [e5]
    generalize hPT : plusT a b = pt at *
    obtain ⟨er, tr⟩ := pt
    have HPT : Hid (plusT a b = (er, tr)) := hPT
    dsimp only at h30 ⊢
    clear hPT e5
    by_cases h0 : er = 0
    · rw [if_pos h0]
      subst h0
      have H30 : Hid ((tx false tr).size ≤ 30) := h30 rfl
      clear h30
      generalize hR : putW tr 2 (b :: a :: r) = R
      have HR : Hid (putW tr 2 (b :: a :: r) = R) := hR
      clear hR
      have nm1 : ¬ (m = w.heap.size) := by omega
      have nm2 : ¬ (w.heap.size = m) := by omega
      have ng1 : ¬ (g = w.heap.size) := by omega
      have ng2 : ¬ (w.heap.size = g) := by omega
      clear h hms hms' hsl hw hza hzb htg2
      generalize hk : r.length = k at *
      clear hk
      go_enter Try.func88, Try.ntmps88
      go_wp2
      go_region_held3 (fun w' => w'.cell? ⟨m, 0, none⟩ = some (.slice (some ⟨g, 0, none⟩) (k + 1 + 1) cap) ∧ w'.cell? ⟨g, k * 4, none⟩ = some (.int .i64 tag') ∧ w'.cell? ⟨g, k * 4+ 1, none⟩ = some (.int .i64 n') ∧ w'.cell? ⟨g, k * 4+ 2, none⟩ = some (.string s') ∧ w'.cell? ⟨g, k * 4+ 3, none⟩ = some (.slice p2 l2 c2) ∧ w'.cell? ⟨g, (k + 1) * 4, none⟩ = some (.int .i64 tag) ∧ w'.cell? ⟨g, (k + 1) * 4+ 1, none⟩ = some (.int .i64 n) ∧ w'.cell? ⟨g, (k + 1) * 4+ 2, none⟩ = some (.string s) ∧ w'.cell? ⟨g, (k + 1) * 4+ 3, none⟩ = some (.slice p1 l1 c1)) (go_keep) ((first | (go_at_call 99; refine (mplus_any (w := w.drew) (A := Oa m sl) HAT.out (Ms.kept ((Fr.refl _ w).drew) (fun b hb => Or.inl hb) _ _ _ HMA.out) (Ms.kept ((Fr.refl _ w).drew) (fun b hb => Or.inl hb) _ _ _ HMB.out) HZA.out HZB.out).mono ?_; rw [HPT.out]; rintro e w2 ⟨tv, nv, sv, pv, lv, cv, rfl, hf2, hm2⟩; have XX : Fr [] w w2 := ((Fr.refl [] w).drew).trans hf2; have d0' := XX.cell d0; have d1' := XX.cell d1; have d2' := XX.cell d2; have d3' := XX.cell d3; have e0' := XX.cell e0; have e1' := XX.cell e1; have e2' := XX.cell e2; have e3' := XX.cell e3; have c0' := XX.cell c0; have lm2 : m < w2.heap.size := (by have := XX.size; omega); have lg2 : g < w2.heap.size := (by have := XX.size; omega); have HF3 : Hid (Fr [] w (w2.alloc (.cells #[.int .i64 tv, .int .i64 nv, .string sv, .slice pv lv cv] 119))) := XX.alloc _; have HM2 : Hid (Ms (w2.alloc (.cells #[.int .i64 tv, .int .i64 nv, .string sv, .slice pv lv cv] 119)) (Oa m sl) false tr [cells4 tv nv sv (.slice pv lv cv)]) := Ms.kept ((Fr.refl _ w2).alloc _) (fun b hb => Or.inl hb) _ _ _ (hm2 rfl); clear hm2 hf2 XX) | (go_at_call 99; refine (mplus_any (w := (w.alloc (.cells #[.int .i64 0, .int .i64 0, .string ⟨#[]⟩, .slice none 0 0] 119)).drew) (A := w.heap.size :: Oa m sl) (fun b hb => by simp only [List.mem_cons] at hb; rcases hb with rfl | hb; simp; have := HAT.out _ hb; simp; omega) (Ms.kept (((Fr.refl _ w).alloc _).drew) (fun b hb => by simp only [List.mem_cons] at hb; rcases hb with rfl | hb; right; omega; left; exact hb) _ _ _ HMA.out) (Ms.kept (((Fr.refl _ w).alloc _).drew) (fun b hb => by simp only [List.mem_cons] at hb; rcases hb with rfl | hb; right; omega; left; exact hb) _ _ _ HMB.out) HZA.out HZB.out).mono ?_; rw [HPT.out]; rintro e w2 ⟨tv, nv, sv, pv, lv, cv, rfl, hf2, hm2⟩; have XX : Fr [] w w2 := (((Fr.refl [] w).alloc _).drew).trans hf2; have d0' := XX.cell d0; have d1' := XX.cell d1; have d2' := XX.cell d2; have d3' := XX.cell d3; have e0' := XX.cell e0; have e1' := XX.cell e1; have e2' := XX.cell e2; have e3' := XX.cell e3; have c0' := XX.cell c0; have hbv := hf2.keep (show ((w.alloc (.cells #[.int .i64 0, .int .i64 0, .string ⟨#[]⟩, .slice none 0 0] 119)).drew).heap[w.heap.size]? = some _ from blk_new w (.cells #[.int .i64 0, .int .i64 0, .string ⟨#[]⟩, .slice none 0 0] 119)) (by simp); have z0 := blk_frozen hbv 0; have z1 := blk_frozen hbv 1; have z2 := blk_frozen hbv 2; have z3 := blk_frozen hbv 3; have y0 := blk_cell hbv 0; have y1 := blk_cell hbv 1; have y2 := blk_cell hbv 2; have y3 := blk_cell hbv 3; simp at y0 y1 y2 y3; have HF3 : Hid (Fr [] w ((((w2.setCell ⟨w.heap.size, 0, none⟩ (.int .i64 tv)).setCell ⟨w.heap.size, 1, none⟩ (.int .i64 nv)).setCell ⟨w.heap.size, 2, none⟩ (.string sv)).setCell ⟨w.heap.size, 3, none⟩ (.slice pv lv cv))) := XX.set4 (Nat.le_refl _) _ _ _ _; have HM2 : Hid (Ms ((((w2.setCell ⟨w.heap.size, 0, none⟩ (.int .i64 tv)).setCell ⟨w.heap.size, 1, none⟩ (.int .i64 nv)).setCell ⟨w.heap.size, 2, none⟩ (.string sv)).setCell ⟨w.heap.size, 3, none⟩ (.slice pv lv cv)) (Oa m sl) false tr [cells4 tv nv sv (.slice pv lv cv)]) := Ms.kept ((Fr.refl (w.heap.size :: Oa m sl) w2).set4m (by simp) _ _ _ _) (fun b hb => Or.inl (by simp [hb])) _ _ _ (hm2 rfl); clear hm2 hf2 XX hbv)))
      all_goals
        go_wp2_with (go_at_call 98; refine (Calls.frl HF3.out (put_any (H.out.keep0 HF3.out) HL.out 2 (by simp) HM2.out (by have := H30.out; omega))).mono ?_; rw [HR.out]; rintro e w1 ⟨rfl, sl', vs', h1, h2⟩)
        go_ret
        exact ⟨rfl, sl', vs', h1, h2⟩
    · rw [if_neg h0]
      clear h30
      have h1 : (er == 0) = false := by simpa using h0
      have h2 : (er != 0) = true := by simpa using h0
      have nm1 : ¬ (m = w.heap.size) := by omega
      have nm2 : ¬ (w.heap.size = m) := by omega
      have ng1 : ¬ (g = w.heap.size) := by omega
      have ng2 : ¬ (w.heap.size = g) := by omega
      clear h hms hms' hsl hw hza hzb htg2
      generalize hk : r.length = k at *
      clear hk
      go_enter Try.func88, Try.ntmps88
      go_wp2
      go_region_held3 (fun w' => w'.cell? ⟨m, 0, none⟩ = some (.slice (some ⟨g, 0, none⟩) (k + 1 + 1) cap) ∧ w'.cell? ⟨g, k * 4, none⟩ = some (.int .i64 tag') ∧ w'.cell? ⟨g, k * 4+ 1, none⟩ = some (.int .i64 n') ∧ w'.cell? ⟨g, k * 4+ 2, none⟩ = some (.string s') ∧ w'.cell? ⟨g, k * 4+ 3, none⟩ = some (.slice p2 l2 c2) ∧ w'.cell? ⟨g, (k + 1) * 4, none⟩ = some (.int .i64 tag) ∧ w'.cell? ⟨g, (k + 1) * 4+ 1, none⟩ = some (.int .i64 n) ∧ w'.cell? ⟨g, (k + 1) * 4+ 2, none⟩ = some (.string s) ∧ w'.cell? ⟨g, (k + 1) * 4+ 3, none⟩ = some (.slice p1 l1 c1)) (go_keep) ((first | (go_at_call 99; refine (mplus_any (w := w.drew) (A := Oa m sl) HAT.out (Ms.kept ((Fr.refl _ w).drew) (fun b hb => Or.inl hb) _ _ _ HMA.out) (Ms.kept ((Fr.refl _ w).drew) (fun b hb => Or.inl hb) _ _ _ HMB.out) HZA.out HZB.out).mono ?_; rw [HPT.out]; rintro e w2 ⟨tv, nv, sv, pv, lv, cv, rfl, hf2, hm2⟩; have XX : Fr [] w w2 := ((Fr.refl [] w).drew).trans hf2; have d0' := XX.cell d0; have d1' := XX.cell d1; have d2' := XX.cell d2; have d3' := XX.cell d3; have e0' := XX.cell e0; have e1' := XX.cell e1; have e2' := XX.cell e2; have e3' := XX.cell e3; have c0' := XX.cell c0; have lm2 : m < w2.heap.size := (by have := XX.size; omega); have lg2 : g < w2.heap.size := (by have := XX.size; omega); have HF3 : Hid (Fr [] w (w2.alloc (.cells #[.int .i64 tv, .int .i64 nv, .string sv, .slice pv lv cv] 119))) := XX.alloc _;  clear hm2 hf2 XX) | (go_at_call 99; refine (mplus_any (w := (w.alloc (.cells #[.int .i64 0, .int .i64 0, .string ⟨#[]⟩, .slice none 0 0] 119)).drew) (A := w.heap.size :: Oa m sl) (fun b hb => by simp only [List.mem_cons] at hb; rcases hb with rfl | hb; simp; have := HAT.out _ hb; simp; omega) (Ms.kept (((Fr.refl _ w).alloc _).drew) (fun b hb => by simp only [List.mem_cons] at hb; rcases hb with rfl | hb; right; omega; left; exact hb) _ _ _ HMA.out) (Ms.kept (((Fr.refl _ w).alloc _).drew) (fun b hb => by simp only [List.mem_cons] at hb; rcases hb with rfl | hb; right; omega; left; exact hb) _ _ _ HMB.out) HZA.out HZB.out).mono ?_; rw [HPT.out]; rintro e w2 ⟨tv, nv, sv, pv, lv, cv, rfl, hf2, hm2⟩; have XX : Fr [] w w2 := (((Fr.refl [] w).alloc _).drew).trans hf2; have d0' := XX.cell d0; have d1' := XX.cell d1; have d2' := XX.cell d2; have d3' := XX.cell d3; have e0' := XX.cell e0; have e1' := XX.cell e1; have e2' := XX.cell e2; have e3' := XX.cell e3; have c0' := XX.cell c0; have hbv := hf2.keep (show ((w.alloc (.cells #[.int .i64 0, .int .i64 0, .string ⟨#[]⟩, .slice none 0 0] 119)).drew).heap[w.heap.size]? = some _ from blk_new w (.cells #[.int .i64 0, .int .i64 0, .string ⟨#[]⟩, .slice none 0 0] 119)) (by simp); have z0 := blk_frozen hbv 0; have z1 := blk_frozen hbv 1; have z2 := blk_frozen hbv 2; have z3 := blk_frozen hbv 3; have y0 := blk_cell hbv 0; have y1 := blk_cell hbv 1; have y2 := blk_cell hbv 2; have y3 := blk_cell hbv 3; simp at y0 y1 y2 y3; have HF3 : Hid (Fr [] w ((((w2.setCell ⟨w.heap.size, 0, none⟩ (.int .i64 tv)).setCell ⟨w.heap.size, 1, none⟩ (.int .i64 nv)).setCell ⟨w.heap.size, 2, none⟩ (.string sv)).setCell ⟨w.heap.size, 3, none⟩ (.slice pv lv cv))) := XX.set4 (Nat.le_refl _) _ _ _ _;  clear hm2 hf2 XX hbv)))
      all_goals
        go_wp2
        go_ret
        exact MOutS.same H.out HF3.out er
end Go.Proofs.Qxb6500336a
