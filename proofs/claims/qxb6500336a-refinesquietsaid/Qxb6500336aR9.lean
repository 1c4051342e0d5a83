import Derived.Test.Qxb6500336aR8
namespace Go.Proofs.Qxb6500336a
open Go.RowKit
set_option linter.unusedVariables false
set_option linter.unusedSimpArgs false

theorem RowAt.ofBlk {w : World} {A : List Nat} {g n cap : Nat} {cs : Array Value} {vs : List (List Value)} (h : w.heap[g]? = some (.cells cs 119)) (hc : cs.toList = vs.flatten) (hn : n = vs.length) (h0 : vs ≠ []) (hg : g ∉ A) : RowAt w A (.slice (some ⟨g, 0, none⟩) n cap) vs := by
  subst hn
  refine Or.inr ⟨g, 0, cap, cs, h0, rfl, h, hg, ?_⟩
  intro j u hu
  rw [← hc] at hu
  simpa using hu
theorem Mt.lt {w : World} {m : Nat} {sl : Value} {rs : List Code} {vs : List (List Value)} (h : Mt w m sl rs vs) : ∀ b ∈ Oa m sl, b < w.heap.size := by
  intro b hb
  simp [Oa] at hb
  rcases hb with rfl | hb
  · exact blk_lt h.obj
  · obtain ⟨cur, hc⟩ := owns_block h.row hb
    exact blk_lt hc

set_option maxHeartbeats 3200000 in
set_option maxRecDepth 100000 in
theorem mpair_any {w : World} {m : Nat} {sl : Value} {rs : List Code} {vs : List (List Value)} (h : Mt w m sl rs vs) (hw : Wf rs) :
    Calls Try.prog 94 #[.pointer (some ⟨m, 0, none⟩)] w (MOutS w m sl (pairW rs)) := by
  have H : Hid (Mt w m sl rs vs) := h
  have HL : Hid (rs.length ≤ 5) := hw.1
  have short : rs.length ≤ 1 → Calls Try.prog 94 #[.pointer (some ⟨m, 0, none⟩)] w (MOutS w m sl (4, rs)) := by
    intro h1
    obtain ⟨p, cap, hsl⟩ := h.len
    have hv0 : vs.length ≤ 1 := by rw [h.ms.len]; exact h1
    have c0 := blk_cell h.obj 0
    simp at c0
    rw [hsl] at c0
    clear h hsl h1 hw
    generalize vs.length = L at *
    go_enter Try.func94, Try.ntmps94
    go_wp2
    go_ret
    exact MOutS.same H.out (Fr.refl _ _) 4
  match rs, h, hw, H, HL, short with
  | [], h, hw, H, HL, short => exact short (by simp)
  | [b], h, hw, H, HL, short => exact short (by simp)
  | b :: a :: r, h, hw, H, HL, short =>
    clear short
    obtain ⟨g, cap, tag, n, s, ks, hsl, hcap, hms, hgm, hgc, e0, e1, e2, e3⟩ := h.at (i := 0) (t := b) rfl
    obtain ⟨g', cap', tag', n', s', ks', hsl', _, hms', _, _, d0, d1, d2, d3⟩ := h.at (i := 1) (t := a) rfl
    rw [hsl] at hsl'
    simp at hsl'
    obtain ⟨rfl, rfl⟩ := hsl'
    obtain ⟨htg1, p1, l1, c1, rfl⟩ := hms.tag
    obtain ⟨htg2, p2, l2, c2, rfl⟩ := hms'.tag
    clear htg1 htg2
    have hzb := hw.2 b (by simp)
    have hza := hw.2 a (by simp)
    have c0 := blk_cell h.obj 0
    simp at c0
    rw [hsl] at c0
    have HMB : Hid (Ms w (Oa m sl) false b [cells4 tag n s (.slice p1 l1 c1)]) := hms
    have HMA : Hid (Ms w (Oa m sl) false a [cells4 tag' n' s' (.slice p2 l2 c2)]) := hms'
    have HAT : Hid (∀ b ∈ Oa m sl, b < w.heap.size) := h.lt
    have HZ : Hid ((tx false (tP a b)).size ≤ 1000) := by show _ ≤ _; unfold tP; rw [pair_size]; omega
    have hk5 : r.length + 1 + 1 ≤ 5 := HL.out
    have e5 : pairW (b :: a :: r) = putW (tP a b) 2 (b :: a :: r) := by
      have h8 : ¬ r.length ≥ 5 := by omega
      simp [pairW, putW, h8]
    rw [e5]
    generalize hR : putW (tP a b) 2 (b :: a :: r) = R
    have HR : Hid (putW (tP a b) 2 (b :: a :: r) = R) := hR
    simp at e0 e1 e2 e3 d0 d1 d2 d3 hcap c0
    clear h hR hms hms' hsl e5 hw hza hzb
    generalize hk : r.length = k at *
    clear hk
    go_enter Try.func94, Try.ntmps94
    go_wp2
    have hw1 : IntKind.i64.wrap ((k : Int) + 1 + 1 - 2) = (k : Int) := by simp only [IntKind.wrap, IntKind.bits, IntKind.signed]; simp; omega
    have hw2 : IntKind.i64.wrap ((k : Int) + 1 + 1 - 1) = (k : Int) + 1 := by simp only [IntKind.wrap, IntKind.bits, IntKind.signed]; simp; omega
    have hw3 : IntKind.i64.wrap ((k : Int) + 1) = (k : Int) + 1 := by simp only [IntKind.wrap, IntKind.bits, IntKind.signed]; simp; omega
    have hw4 : IntKind.i64.wrap (k : Int) = (k : Int) := by simp only [IntKind.wrap, IntKind.bits, IntKind.signed]; simp; omega
    have q0 : (0 : Int) ≤ (k : Int) := by omega
    have q1 : (k : Int) < (k : Int) + 1 + 1 := by omega
    have q2 : (k : Int) + 1 < (k : Int) + 1 + 1 := by omega
    have q3 : (0 : Int) ≤ (k : Int) + 1 := by omega
    go_region_with (go_at_call 98; have FW : Fr [] w (((w.alloc (.cells #[.int .i64 tag', .int .i64 n', .string s', .slice p2 l2 c2, .int .i64 tag, .int .i64 n, .string s, .slice p1 l1 c1] 119)).drew)) := ((Fr.refl [] w).alloc _).drew; refine (Calls.frl FW (put_any (H.out.keep0 FW) HL.out 2 (by simp) (t := tP a b) (ks := .slice (some ⟨w.heap.size, 0, none⟩) 2 2) ⟨_, cells4 tag' n' s' (.slice p2 l2 c2), cells4 tag n s (.slice p1 l1 c1), rfl, RowAt.ofBlk (heap_alloc_new _ _) rfl rfl (by simp) (fun hm => by have := HAT.out _ hm; omega), Ms.kept FW.widen (fun b hb => Or.inl hb) _ _ _ HMA.out, Ms.kept FW.widen (fun b hb => Or.inl hb) _ _ _ HMB.out⟩ HZ.out)).mono ?_; rw [HR.out]; rintro e w1 ⟨rfl, sl', vs', h1, h2⟩)
    all_goals
      go_wp2
      go_ret
      exact ⟨rfl, sl', vs', h1, h2⟩
end Go.Proofs.Qxb6500336a
