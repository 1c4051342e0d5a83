import Derived.Test.Qxb6500336aR10
namespace Go.Proofs.Qxb6500336a
open Go.RowKit
set_option linter.unusedVariables false
set_option linter.unusedSimpArgs false

theorem blk2a (w : World) (a b : Obj) : ((w.alloc a).alloc b).heap[w.heap.size]? = some a := ((Fr.refl [] (w.alloc a)).alloc b).keep (blk_new w a) (by simp)
theorem own_blk {w : World} {g n cap : Nat} {cs : Array Value} {xs : List Value} (h : w.heap[g]? = some (.cells cs 119)) (hc : cs.size = cap * 4) (hn : n ≤ cap) (hm : cap ≤ maxLen) (hx : cs.toList.take (n * 4) = xs) (hl : xs.length = n * 4) : w.ownsRow 0 119 4 (.slice (some ⟨g, 0, none⟩) n cap) n xs :=
  ⟨hl, Or.inr ⟨g, cap, cs, rfl, Nat.zero_le _, h, hn, hm, hc, hx⟩⟩

set_option maxHeartbeats 3200000 in
set_option maxRecDepth 100000 in
theorem mcons_any {w : World} {m : Nat} {sl : Value} {rs : List Code} {vs : List (List Value)} (h : Mt w m sl rs vs) (hw : Wf rs) :
    Calls Try.prog 89 #[.pointer (some ⟨m, 0, none⟩)] w (MOutS w m sl (consW rs)) := by
  have H : Hid (Mt w m sl rs vs) := h
  have HL : Hid (rs.length ≤ 5) := hw.1
  have short : rs.length ≤ 1 → Calls Try.prog 89 #[.pointer (some ⟨m, 0, none⟩)] w (MOutS w m sl (4, rs)) := by
    intro h1
    obtain ⟨p, cap, hsl⟩ := h.len
    have hv0 : vs.length ≤ 1 := by rw [h.ms.len]; exact h1
    have c0 := blk_cell h.obj 0
    simp at c0
    rw [hsl] at c0
    clear h hsl h1 hw
    generalize vs.length = L at *
    go_enter Try.func89, Try.ntmps89
    go_wp2
    go_ret
    exact MOutS.same H.out (Fr.refl _ _) 4
  match rs, h, hw, H, HL, short with
  | [], h, hw, H, HL, short => exact short (by simp)
  | [b], h, hw, H, HL, short => exact short (by simp)
  | b :: a :: r, h, hw, H, HL, short =>
    clear short
    obtain ⟨g, cap, tag, n, s, ks, hsl, hcap, hms, hgm, hgc, e0, e1, e2, e3⟩ := h.at (i := 0) (t := b) rfl
    obtain ⟨g', cap', tag', n', s', ks', hsl', _, hms', _, _, d0, d1, d2, d3⟩ := h.at (i := 1) (t := a) rfl
    rw [hsl] at hsl'
    simp at hsl'
    obtain ⟨rfl, rfl⟩ := hsl'
    obtain ⟨htg1, p1, l1, c1, rfl⟩ := hms.tag
    have hzb := hw.2 b (by simp)
    have hza := hw.2 a (by simp)
    have c0 := blk_cell h.obj 0
    simp at c0
    rw [hsl] at c0
    have HMB : Hid (Ms w (Oa m sl) false b [cells4 tag n s (.slice p1 l1 c1)]) := hms
    have HMA : Hid (Ms w (Oa m sl) false a [cells4 tag' n' s' ks']) := hms'
    have HAT : Hid (∀ b ∈ Oa m sl, b < w.heap.size) := h.lt
    have hk5 : r.length + 1 + 1 ≤ 5 := HL.out
    simp at e0 e1 e2 e3 d0 d1 d2 d3 hcap c0
    have lg : g < w.heap.size := by obtain ⟨cur, hc⟩ := hgc; exact blk_lt hc
    have lm : m < w.heap.size := blk_lt h.obj
    have HGC : Hid (∃ cur, w.heap[g]? = some (.cells cur 119)) := hgc
    clear hgc htg1
    have hw1 : IntKind.i64.wrap ((r.length : Int) + 1 + 1 - 2) = (r.length : Int) := by simp only [IntKind.wrap, IntKind.bits, IntKind.signed]; simp; omega
    have hw2 : IntKind.i64.wrap ((r.length : Int) + 1 + 1 - 1) = (r.length : Int) + 1 := by simp only [IntKind.wrap, IntKind.bits, IntKind.signed]; simp; omega
    have hw3 : IntKind.i64.wrap ((r.length : Int) + 1) = (r.length : Int) + 1 := by simp only [IntKind.wrap, IntKind.bits, IntKind.signed]; simp; omega
    have hw4 : IntKind.i64.wrap (r.length : Int) = (r.length : Int) := by simp only [IntKind.wrap, IntKind.bits, IntKind.signed]; simp; omega
    have q0 : (0 : Int) ≤ (r.length : Int) := by omega
    have q1 : (r.length : Int) < (r.length : Int) + 1 + 1 := by omega
    have q2 : (r.length : Int) + 1 < (r.length : Int) + 1 + 1 := by omega
    have q3 : (0 : Int) ≤ (r.length : Int) + 1 := by omega
    by_cases hl : isL a = true
    · obtain ⟨ka, va, i1, i2, i3⟩ := hms'.asRow hl
      simp [cells4] at i1
      obtain ⟨rfl, rfl, rfl, rfl⟩ := i1
      have e5 : consW (b :: a :: r) = putW (.seq b a) 2 (b :: a :: r) := by
        have h8 : ¬ r.length ≥ 5 := by omega
        simp [consW, putW, hl, h8]
      have HZ : Hid ((tx false (.seq b a)).size ≤ 1000) := by
        have := tt_le a hl
        show _ ≤ _
        rw [seq_size]; simp; omega
      rw [e5]
      generalize hR : putW (.seq b a) 2 (b :: a :: r) = R
      have HR : Hid (putW (.seq b a) 2 (b :: a :: r) = R) := hR
      have HROW : Hid (RowAt w (Oa m sl) ks' va) := i2
      have HMT : Hid (Ms w (Oa m sl) true a va) := i3
      rcases i2 with ⟨ea, eka⟩ | ⟨ga, oa, ca, cur, ea, eka, ha1, ha2, ha3⟩
      · subst eka
        subst ea
        clear h hR hms hms' hsl e5 hw hza hzb i3
        generalize hk : r.length = k at *
        clear hk
        go_enter Try.func89, Try.ntmps89
        go_wp2
        go_region
        all_goals
          go_wp2_with (go_at_call 98; have FW : Fr [] w (((w.alloc (.cells #[.int .i64 tag, .int .i64 n, .string s, .slice p1 l1 c1] 119)).alloc (.cells #[.int .i64 3, .int .i64 0, .string ⟨#[]⟩, .slice (some ⟨w.heap.size, 0, none⟩) 1 1] 119)).drew) := ((((Fr.refl [] w).alloc _).alloc _).drew); refine (Calls.frl FW (put_any (H.out.keep0 FW) HL.out 2 (by simp) (t := .seq b a) (ks := .slice (some ⟨w.heap.size, 0, none⟩) 1 1) (Ms.ofRow (vs := [(cells4 tag n s (.slice p1 l1 c1))]) (RowAt.ofBlk (show _ from blk2a w (.cells #[.int .i64 tag, .int .i64 n, .string s, .slice p1 l1 c1] 119) (.cells #[.int .i64 3, .int .i64 0, .string ⟨#[]⟩, .slice (some ⟨w.heap.size, 0, none⟩) 1 1] 119)) rfl rfl (by simp) (fun hm => by have := HAT.out _ hm; omega)) ⟨_, [], rfl, Ms.kept FW.widen (fun b hb => Or.inl hb) _ _ _ HMB.out, Ms.kept FW.widen (fun b hb => Or.inl hb) _ _ _ HMT.out⟩) HZ.out)).mono ?_; rw [HR.out]; rintro e w1 ⟨rfl, sl', vs', h1, h2⟩)
          go_ret
          exact ⟨rfl, sl', vs', h1, h2⟩
      · subst eka
        obtain ⟨i119, hi119, hz119⟩ := info_parts info119
        have HOA : Hid (∀ u ∈ va.flatten, u.oneCell' = true) := (Ms.rest _ _ i3).1.one
        have hpa : 0 < va.length := List.length_pos_iff.2 ea
        have hla : va.length ≤ 100 := by
          have h5 := (Ms.rest _ _ i3).1.len
          have h6 := kids_len a false
          omega
        have hfa := flat_len (Ms.rest _ _ i3).1.four
        have HFA : Hid (va.flatten.length = va.length * 4) := hfa
        have FW : Fr [] w (((w.alloc (.cells #[.int .i64 tag, .int .i64 n, .string s, .slice p1 l1 c1] 119)).alloc (.cells #[.int .i64 3, .int .i64 0, .string ⟨#[]⟩, .slice (some ⟨w.heap.size, 0, none⟩) 1 1] 119)).drew) := ((((Fr.refl [] w).alloc _).alloc _).drew)
        have HOWN : Hid (World.ownsRow (((w.alloc (.cells #[.int .i64 tag, .int .i64 n, .string s, .slice p1 l1 c1] 119)).alloc (.cells #[.int .i64 3, .int .i64 0, .string ⟨#[]⟩, .slice (some ⟨w.heap.size, 0, none⟩) 1 1] 119)).drew) 0 119 4 (.slice (some ⟨w.heap.size, 0, none⟩) 1 1) 1 (cells4 tag n s (.slice p1 l1 c1))) := own_blk (cs := #[.int .i64 tag, .int .i64 n, .string s, .slice p1 l1 c1]) (show _ from blk2a w (.cells #[.int .i64 tag, .int .i64 n, .string s, .slice p1 l1 c1] 119) (.cells #[.int .i64 3, .int .i64 0, .string ⟨#[]⟩, .slice (some ⟨w.heap.size, 0, none⟩) 1 1] 119)) rfl (by omega) (by unfold maxLen; omega) rfl rfl
        have HNEW : Hid (∀ j u, va.flatten[j]? = some u → World.cell? (((w.alloc (.cells #[.int .i64 tag, .int .i64 n, .string s, .slice p1 l1 c1] 119)).alloc (.cells #[.int .i64 3, .int .i64 0, .string ⟨#[]⟩, .slice (some ⟨w.heap.size, 0, none⟩) 1 1] 119)).drew) ((⟨ga, oa, none⟩ : Addr).add j) = some u) := RowAt.news (RowAt.kept HROW.out FW.widen (fun b hb => Or.inl hb))
        have HFW : Hid (Fr [] w (((w.alloc (.cells #[.int .i64 tag, .int .i64 n, .string s, .slice p1 l1 c1] 119)).alloc (.cells #[.int .i64 3, .int .i64 0, .string ⟨#[]⟩, .slice (some ⟨w.heap.size, 0, none⟩) 1 1] 119)).drew)) := FW
        clear h hR hms hms' hsl e5 hw hza hzb i3 ea ha1 ha2 ha3 hfa FW
        generalize hk : r.length = k at *
        clear hk
        go_enter Try.func89, Try.ntmps89
        go_wp2
        go_region_law (refine step_append_lies _ (by rfl) _ _ _ (by rfl) 0 119 i119 (.agg #[.int .i64 0, .int .i64 0, .string ⟨#[]⟩, .slice none 0 0]) 4 56 Try.underlying103 hi119 hz119.1 hz119.2.1 hz119.2.2 (by rfl) (by omega) (.slice (some ⟨w.heap.size, 0, none⟩) 1 1) 1 (cells4 tag n s (.slice p1 l1 c1)) (by rfl) HOWN.out ⟨ga, oa, none⟩ va.length ca va.flatten (by rfl) HFA.out HNEW.out HOA.out (by omega) (by unfold maxLen; omega) (by omega) (by simp) (w.heap.size + 1 + 1) (by simp) ?_; intro g2 cap2 w4 hown2 hgrow2 hat2 hlt2; have FG : Fr [w.heap.size] (((w.alloc (.cells #[.int .i64 tag, .int .i64 n, .string s, .slice p1 l1 c1] 119)).alloc (.cells #[.int .i64 3, .int .i64 0, .string ⟨#[]⟩, .slice (some ⟨w.heap.size, 0, none⟩) 1 1] 119)).drew) w4 := Fr.ofGrown hgrow2; have hbd := FG.keep (show (((w.alloc (.cells #[.int .i64 tag, .int .i64 n, .string s, .slice p1 l1 c1] 119)).alloc (.cells #[.int .i64 3, .int .i64 0, .string ⟨#[]⟩, .slice (some ⟨w.heap.size, 0, none⟩) 1 1] 119)).drew).heap[w.heap.size + 1]? = some (.cells #[.int .i64 3, .int .i64 0, .string ⟨#[]⟩, .slice (some ⟨w.heap.size, 0, none⟩) 1 1] 119) from blk2b w (.cells #[.int .i64 tag, .int .i64 n, .string s, .slice p1 l1 c1] 119) (.cells #[.int .i64 3, .int .i64 0, .string ⟨#[]⟩, .slice (some ⟨w.heap.size, 0, none⟩) 1 1] 119)) (by simp); have y0 := blk_cell hbd 0; have y1 := blk_cell hbd 1; have y2 := blk_cell hbd 2; have y3 := blk_cell hbd 3; have z3 := blk_frozen hbd 3; simp at y0 y1 y2 y3; have HG2 : Hid (w.heap.size ≤ g2 ∧ g2 ≠ w.heap.size + 1) := (by rcases hat2 with h | h; simp [Value.ownBlock] at h; exact ⟨by omega, by omega⟩; exact ⟨by omega, by omega⟩); have HF5 : Hid (Fr [] w (w4.setCell ⟨w.heap.size + 1, 3, none⟩ (.slice (some ⟨g2, 0, none⟩) (1 + va.length) cap2))) := (HFW.out.narrow FG (fun i hi => by simp at hi; right; omega)).setCell (Or.inr (by dsimp only; omega)) _; have HO5 : Hid ((w4.setCell ⟨w.heap.size + 1, 3, none⟩ (.slice (some ⟨g2, 0, none⟩) (1 + va.length) cap2)).ownsRow 0 119 4 (.slice (some ⟨g2, 0, none⟩) (1 + va.length) cap2) (1 + va.length) ((cells4 tag n s (.slice p1 l1 c1)) :: va).flatten) := owns_keep hown2 ((Fr.refl [w.heap.size + 1] _).setCell (Or.inl (by simp)) _) (fun k hk => by simp [Value.ownBlock] at hk; have := HG2.out.2; subst hk; simpa using this); clear hgrow2 hown2 hat2 FG hbd)
        all_goals
          go_wp2_with (go_at_call 98; refine (Calls.frl HF5.out (put_any (H.out.keep0 HF5.out) HL.out 2 (by simp) (t := .seq b a) (ks := (.slice (some ⟨g2, 0, none⟩) (1 + va.length) cap2)) (Ms.ofRow (vs := (cells4 tag n s (.slice p1 l1 c1)) :: va) (RowAt.ofOwn HO5.out (by simp; omega) rfl (by simp) (fun hm => by have := HAT.out _ hm; have := HG2.out.1; omega)) ⟨_, va, rfl, Ms.kept HF5.out.widen (fun b hb => Or.inl hb) _ _ _ HMB.out, Ms.kept HF5.out.widen (fun b hb => Or.inl hb) _ _ _ HMT.out⟩) HZ.out)).mono ?_; rw [HR.out]; rintro e w1 ⟨rfl, sl', vs', h1, h2⟩)
          go_ret
          exact ⟨rfl, sl', vs', h1, h2⟩
    · have hl' : isL a = false := by simpa using hl
      have e5 : consW (b :: a :: r) = (2, b :: a :: r) := by simp [consW, hl']
      obtain ⟨htg2, _⟩ := hms'.tag
      have ht3 : tag' ≠ 3 := by rw [htg2]; unfold tagOf; rw [hl']; split; decide; split; decide; decide
      have ht4 : (tag' == 3) = false := by simpa using ht3
      have ht5 : (tag' != 3) = true := by simpa using ht3
      rw [e5]
      clear h hms hms' hsl e5 hw hza hzb htg2 ht3
      generalize hk : r.length = k at *
      clear hk
      go_enter Try.func89, Try.ntmps89
      go_wp2
      go_ret
      exact MOutS.same H.out (Fr.refl _ _) 2
end Go.Proofs.Qxb6500336a
