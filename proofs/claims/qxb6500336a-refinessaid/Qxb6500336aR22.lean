import Derived.Test.Qxb6500336aR21
namespace Go.Proofs.Qxb6500336a
open Go.RowKit
set_option linter.unusedVariables false
set_option linter.unusedSimpArgs false

/-- The cells of the value at place j from the bottom, and the row. -/
theorem Mt.upv {w : World} {m : Nat} {sl : Value} {rs : List Code} {vs : List (List Value)} (h : Mt w m sl rs vs) {j : Nat} (hj : j < rs.length) :
    ∃ g cap tag n s p l c, vs.reverse[j]? = some (cells4 tag n s (.slice p l c)) ∧ sl = .slice (some ⟨g, 0, none⟩) rs.length cap ∧
      w.cell? ⟨g, j * 4, none⟩ = some (.int .i64 tag) ∧ w.cell? ⟨g, j * 4 + 1, none⟩ = some (.int .i64 n) ∧ w.cell? ⟨g, j * 4 + 2, none⟩ = some (.string s) ∧ w.cell? ⟨g, j * 4 + 3, none⟩ = some (.slice p l c) := by
  have hlen := h.ms.len
  obtain ⟨v, hv⟩ : ∃ v, vs[rs.length - 1 - j]? = some v := ⟨_, List.getElem?_eq_getElem (by omega)⟩
  obtain ⟨t', ht', hms⟩ := h.ms.get hv
  obtain ⟨tag, n, s, ks, rfl⟩ := hms.shape
  obtain ⟨-, p, l, c, rfl⟩ := hms.tag
  rcases h.form with ⟨_, h2⟩ | ⟨g, cap, cur, h1, h2, h3, h4, h5, h6⟩
  · rw [h2] at hlen; simp at hlen; omega
  · have hne : vs.reverse ≠ [] := by
      intro e
      have := congrArg List.length e
      simp at this
      rw [this] at hlen; simp at hlen; omega
    have hrow : RowAt w [] sl vs.reverse := by
      have h7 := h.row
      rw [h1] at h7 ⊢
      exact RowAt.ofOwn h7 (by simp) rfl hne (by simp)
    have hjv : vs.reverse[j]? = some (cells4 tag n s (.slice p l c)) := by
      rw [List.getElem?_reverse (by omega), show vs.length - 1 - j = rs.length - 1 - j from by omega]
      exact hv
    obtain ⟨g', off, cap', e1, _, _, _, e3, e4, e5, e6⟩ := hrow.at (fun v hv => h.ms.four v (by simpa using hv)) hjv
    rw [h1] at e1
    simp at e1
    obtain ⟨⟨rfl, rfl⟩, rfl⟩ := e1
    simp only [Nat.zero_add] at e3 e4 e5 e6
    exact ⟨g, cap, tag, n, s, p, l, c, hjv, by rw [h1, hlen], e3, e4, e5, e6⟩
theorem own_down {w : World} {b g n cap : Nat} {xs : List Value} (h : w.ownsRow b 119 4 (.slice (some ⟨g, 0, none⟩) n cap) n xs) : w.ownsRow 0 119 4 (.slice (some ⟨g, 0, none⟩) n cap) n xs := by
  obtain ⟨e1, e2⟩ := h
  refine ⟨e1, ?_⟩
  rcases e2 with ⟨e3, _⟩ | ⟨g', cap', cur, e3, e4, e5⟩
  · simp at e3
  · exact Or.inr ⟨g', cap', cur, e3, by omega, e5⟩
theorem flat_take {l : List (List Value)} {j : Nat} {v : List Value} (h : l[j]? = some v) : (l.take (j + 1)).flatten = (l.take j).flatten ++ v := by
  rw [List.take_add_one, h]; simp

set_option maxHeartbeats 6400000 in
set_option maxRecDepth 100000 in
theorem mech_any {w : World} {m : Nat} {sl : Value} {rs : List Code} {vs : List (List Value)} (h : Mt w m sl rs vs) (hw : Wf rs) :
    Calls Try.prog 85 #[.pointer (some ⟨m, 0, none⟩), .int .i64 3] w (MOutS w m sl (echX rs)) := by
  have H : Hid (Mt w m sl rs vs) := h
  have hl5 : rs.length ≤ 5 := hw.1
  obtain ⟨p, cap, hsl⟩ := h.len
  have c0 := blk_cell h.obj 0
  have f0 := blk_frozen h.obj 0
  simp at c0
  rw [hsl, h.ms.len] at c0
  have HSL : Hid (sl = .slice p rs.length cap) := by show _ = _; rw [hsl, h.ms.len]
  have lm : m < w.heap.size := blk_lt h.obj
  by_cases h2 : rs.length ≤ 2
  · have e5 : echX rs = (0, rs ++ rs.reverse) := by unfold echX; rw [if_pos h2]
    rw [e5]
    obtain ⟨i119, hi119, hz119⟩ := info_parts info119
    have HVL : Hid (vs.length = rs.length) := h.ms.len
    have HMS : Hid (MsL w (Oa m sl) (rs ++ rs.reverse) (vs ++ vs.reverse)) := h.ms.app h.ms.rev
    clear h hw hsl e5
    generalize hL : rs.length = L at *
    have HLL : Hid (rs.length = L) := hL
    clear hL
    go_enter Try.func85, Try.ntmps85
    go_wp2_with (at_make; refine wpList_make_own _ rfl _ _ 103 rfl w.heap.size 119 i119 (.agg #[.int .i64 0, .int .i64 0, .string ⟨#[]⟩, .slice none 0 0]) 4 Try.underlying103 hi119 hz119.1 hz119.2.1 _ _ _ (2 * L) rfl rfl (by simp) (by rw [hz119.2.2]; omega) (by unfold maxLen; omega) (by omega) ?_)
    intro wA hownA hgrowA
    have HFA : Hid (Fr [] w wA) := Fr.ofGrown hgrowA
    have HOA : Hid (wA.ownsRow 0 119 4 (.slice (some ⟨w.heap.size, 0, none⟩) 0 (2 * L)) 0 []) := own_down hownA
    clear hownA hgrowA
    go_wp2
    go_loopw [8, 9] (fun v i wr => ∃ (q j g2 cap2 : Nat), v = .slice (some ⟨g2, 0, none⟩) j cap2 ∧ i = .int .i64 ((q : Int) - 1) ∧ q + j = L ∧ w.heap.size ≤ g2 ∧ Hid (Fr [] w wr) ∧ Hid (wr.ownsRow 0 119 4 (.slice (some ⟨g2, 0, none⟩) j cap2) j (vs.take j).flatten)) (fun _ i _ => (intOf i + 1).toNat)
    case atStart => exact ⟨L, 0, w.heap.size, 2 * L, rfl, rfl, by omega, Nat.le_refl _, HFA, by show World.ownsRow _ _ _ _ _ _ _; simpa using HOA.out⟩
    case round =>
      obtain ⟨q, j, g2, cap2, rfl, rfl, hqj, hg2, HF, HO⟩ := hrel
      have c2 := HF.out.cell c0
      cases q with
      | zero =>
        have hjL : j = L := by omega
        subst hjL
        have e7 : ((0 : Nat) : Int) - 1 = -1 := rfl
        rw [e7]
        have HO1 : Hid (wr.ownsRow 0 119 4 (.slice (some ⟨g2, 0, none⟩) (j + 0) cap2) (j + 0) (vs.flatten ++ (vs.reverse.take 0).flatten)) := by
          show World.ownsRow _ _ _ _ _ _ _
          have h5 := HO.out
          rw [List.take_of_length_le (by have := HVL.out; omega)] at h5
          simpa using h5
        clear HO e7
        go_wp2
        go_loopw [8, 10] (fun v i wr2 => ∃ (k g3 cap3 : Nat), v = .slice (some ⟨g3, 0, none⟩) (j + k) cap3 ∧ i = .int .i64 (k : Int) ∧ k ≤ j ∧ w.heap.size ≤ g3 ∧ Hid (Fr [] w wr2) ∧ Hid (wr2.ownsRow 0 119 4 (.slice (some ⟨g3, 0, none⟩) (j + k) cap3) (j + k) (vs.flatten ++ (vs.reverse.take k).flatten))) (fun _ i _ => j - (intOf i).toNat)
        case atStart => exact ⟨0, g2, cap2, rfl, rfl, by omega, hg2, HF, HO1⟩
        case round =>
          obtain ⟨k, g3, cap3, rfl, rfl, hkj, hg3, HF2, HO2⟩ := hrel
          have c3 := HF2.out.cell c0
          by_cases hlt : k < j
          · obtain ⟨g, cap', tag, n, s, pk, lk, ck, hv, e1, d0, d1, d2, d3⟩ := H.out.upv (j := k) (by have := HLL.out; omega)
            rw [HSL.out] at e1
            simp at e1
            obtain ⟨rfl, -⟩ := e1
            have k0 := HF2.out.cell d0
            have k1 := HF2.out.cell d1
            have k2 := HF2.out.cell d2
            have k3 := HF2.out.cell d3
            have HTK : Hid ((vs.reverse.take (k + 1)).flatten = (vs.reverse.take k).flatten ++ cells4 tag n s (.slice pk lk ck)) := flat_take hv
            have hqL : (k : Int) < (j : Int) := by omega
            have hcp := own_cap HO2.out
            clear hv d0 d1 d2 d3
            go_wp2_with (at_builtin; refine wpList_append_lies _ rfl _ _ _ rfl 0 119 i119 (.agg #[.int .i64 0, .int .i64 0, .string ⟨#[]⟩, .slice none 0 0]) 4 56 Try.underlying103 hi119 hz119.1 hz119.2.1 hz119.2.2 rfl (by omega) (.slice (some ⟨g3, 0, none⟩) (j + k) cap3) (j + k) (vs.flatten ++ (vs.reverse.take k).flatten) rfl (owns_keep HO2.out ((Fr.refl [] _).alloc _) (by simp)) ⟨wr.heap.size, 0, none⟩ 1 1 [.int .i64 tag, .int .i64 n, .string s, .slice pk lk ck] rfl rfl (World.news_of_block (heap_alloc_new _ _)) (one4 rfl) (by omega) (by unfold maxLen; omega) (by omega) (by simp) (wr.heap.size + 1) (by simp) ?_)
            intro g4 cap4 w4 hown4 hgrow4 hat4 hlt4
            go_wp2
            go_roundw
            case rel =>
              have hsz := HF2.out.size
              refine ⟨k + 1, g4, cap4, rfl, by go_num, by omega, ?_, ?_, ?_⟩
              · rcases hat4 with h | h
                · simp [Value.ownBlock] at h; omega
                · omega
              · exact (HF2.out.alloc _).narrow (Fr.ofGrown hgrow4) (fun i hi => by simp [Value.ownBlock] at hi; right; omega)
              · show World.ownsRow _ _ _ _ _ _ _
                rw [HTK.out]; exact hown4
            case measure => simp [intOf]; omega
          · have hkk : k = j := by omega
            subst hkk
            have HO3 : Hid (wr.ownsRow 0 119 4 (.slice (some ⟨g3, 0, none⟩) (k + k) cap3) (k + k) (vs ++ vs.reverse).reverse.flatten) := by
              show World.ownsRow _ _ _ _ _ _ _
              have h5 := HO2.out
              rw [List.take_of_length_le (by have := HVL.out; simp; omega)] at h5
              simpa using h5
            have HE : Hid _ := H.out.fin HF2.out.widen HO3.out (Or.inr hg3) (vs' := vs ++ vs.reverse) (by have := HVL.out; simp; omega) rfl HMS.out
            have f3 := blk_frozen (H.out.keep0 HF2.out).obj 0
            clear HO2 HO3
            go_wp2
            go_ret
            exact ⟨rfl, HE.out⟩
      | succ q =>
        obtain ⟨g, cap', tag, n, s, pk, lk, ck, hv, e1, d0, d1, d2, d3⟩ := H.out.upv (j := q) (by have := HLL.out; omega)
        rw [HSL.out] at e1
        simp at e1
        obtain ⟨rfl, -⟩ := e1
        have k0 := HF.out.cell d0
        have k1 := HF.out.cell d1
        have k2 := HF.out.cell d2
        have k3 := HF.out.cell d3
        have hvj : vs[j]? = some (cells4 tag n s (.slice pk lk ck)) := by
          have h5 := HVL.out
          rw [List.getElem?_reverse (by omega)] at hv
          rwa [show vs.length - 1 - q = j from by omega] at hv
        have HTK : Hid ((vs.take (j + 1)).flatten = (vs.take j).flatten ++ cells4 tag n s (.slice pk lk ck)) := flat_take hvj
        have e7 : ((q + 1 : Nat) : Int) - 1 = (q : Int) := by omega
        rw [e7]
        have hqL : (q : Int) < (L : Int) := by omega
        have hcp := own_cap HO.out
        clear hv d0 d1 d2 d3 hvj
        go_wp2_with (at_builtin; refine wpList_append_lies _ rfl _ _ _ rfl 0 119 i119 (.agg #[.int .i64 0, .int .i64 0, .string ⟨#[]⟩, .slice none 0 0]) 4 56 Try.underlying103 hi119 hz119.1 hz119.2.1 hz119.2.2 rfl (by omega) (.slice (some ⟨g2, 0, none⟩) j cap2) j (vs.take j).flatten rfl (owns_keep HO.out ((Fr.refl [] _).alloc _) (by simp)) ⟨wr.heap.size, 0, none⟩ 1 1 [.int .i64 tag, .int .i64 n, .string s, .slice pk lk ck] rfl rfl (World.news_of_block (heap_alloc_new _ _)) (one4 rfl) (by omega) (by unfold maxLen; omega) (by omega) (by simp) (wr.heap.size + 1) (by simp) ?_)
        intro g4 cap4 w4 hown4 hgrow4 hat4 hlt4
        go_wp2
        go_roundw
        case rel =>
          have hsz := HF.out.size
          refine ⟨q, j + 1, g4, cap4, rfl, by go_num, by omega, ?_, ?_, ?_⟩
          · rcases hat4 with h | h
            · simp [Value.ownBlock] at h; omega
            · omega
          · exact (HF.out.alloc _).narrow (Fr.ofGrown hgrow4) (fun i hi => by simp [Value.ownBlock] at hi; right; omega)
          · show World.ownsRow _ _ _ _ _ _ _
            rw [HTK.out]; exact hown4
        case measure => simp [intOf]
  · have e5 : echX rs = (3, rs) := by unfold echX; rw [if_neg h2]
    rw [e5]
    clear h hw hsl e5
    generalize hL : rs.length = L at *
    clear hL
    go_enter Try.func85, Try.ntmps85
    go_wp2
    go_ret
    exact MOutS.same H.out (Fr.refl _ _) 3

theorem mext_any {w : World} {m : Nat} {sl : Value} {rs : List Code} {vs : List (List Value)} (h : Mt w m sl rs vs) (hw : Wf rs) (k : Int) :
    Calls Try.prog 85 #[.pointer (some ⟨m, 0, none⟩), .int .i64 k] w (MOutS w m sl (extW k rs)) := by
  unfold extW
  by_cases h0 : k = 0
  · subst h0; exact mdbl_any h hw
  rw [if_neg h0]
  by_cases h2 : k = 2
  · subst h2; exact mspr_any h hw
  rw [if_neg h2]
  by_cases h3 : k = 3
  · subst h3; exact mech_any h hw
  rw [if_neg h3]
  by_cases h4 : k = 4
  · subst h4; exact mquo_any h hw
  rw [if_neg h4]
  exact mext_no h h0 h2 h3 h4
end Go.Proofs.Qxb6500336a
