import Derived.Test.Qxb6500336aR2
import Derived.Deep.AppendLies
import Derived.Deep.RegionLaw
namespace Go.Proofs.Qxb6500336a
open Go.RowKit
set_option linter.unusedVariables false
set_option linter.unusedSimpArgs false

theorem info119 : (Try.prog.info? 119).map (fun i => (i.zero, i.size, i.bytes)) = some (some (.agg #[.int .i64 0, .int .i64 0, .string ⟨#[]⟩, .slice none 0 0]), 4, 56) := by kernel_rfl

/-- What the model's stack may write. -/
def Oa (m : Nat) (sl : Value) : List Nat := m :: sl.ownBlock.toList
/-- The model's stack at m: its slice; its values, the top first. -/
structure Mt (w : World) (m : Nat) (sl : Value) (rs : List Code) (vs : List (List Value)) : Prop where
  obj : w.heap[m]? = some (.cells #[sl] 105)
  row : w.ownsRow 0 119 4 sl vs.length vs.reverse.flatten
  ms : MsL w (Oa m sl) rs vs
theorem Mt.far {w : World} {m : Nat} {sl : Value} {rs : List Code} {vs : List (List Value)} (h : Mt w m sl rs vs) {k : Nat} (hk : sl.ownBlock = some k) : k ≠ m := by
  intro e
  subst e
  obtain ⟨cur, hc⟩ := owns_block h.row hk
  have := h.obj
  rw [hc] at this
  simp at this
theorem Mt.form {w : World} {m : Nat} {sl : Value} {rs : List Code} {vs : List (List Value)} (h : Mt w m sl rs vs) :
    (sl = .slice none 0 0 ∧ vs = []) ∨ ∃ g cap cur, sl = .slice (some ⟨g, 0, none⟩) vs.length cap ∧ w.heap[g]? = some (.cells cur 119) ∧ vs.length ≤ cap ∧ cap ≤ maxLen ∧ cur.size = cap * 4 ∧ cur.toList.take (vs.length * 4) = vs.reverse.flatten := by
  rcases h.row.2 with ⟨h1, h2⟩ | ⟨g, cap, cur, h1, _, h2, h3, h4, h5, h6⟩
  · exact Or.inl ⟨h1, List.eq_nil_of_length_eq_zero h2⟩
  · exact Or.inr ⟨g, cap, cur, h1, h2, h3, h4, h5, h6⟩
theorem Mt.len {w : World} {m : Nat} {sl : Value} {rs : List Code} {vs : List (List Value)} (h : Mt w m sl rs vs) : ∃ p cap, sl = .slice p vs.length cap := by
  rcases h.form with ⟨rfl, rfl⟩ | ⟨g, cap, cur, rfl, _⟩
  · exact ⟨none, 0, rfl⟩
  · exact ⟨_, _, rfl⟩
theorem Mt.keep0 {w w' : World} {m : Nat} {sl : Value} {rs : List Code} {vs : List (List Value)} (h : Mt w m sl rs vs) (hf : Fr [] w w') : Mt w' m sl rs vs :=
  ⟨hf.keep h.obj (by simp), owns_keep h.row hf (by simp), h.ms.kept hf.widen (fun b hb => Or.inl hb)⟩

theorem flat_drop {vs : List (List Value)} (h4 : ∀ v ∈ vs, v.length = 4) (d : Nat) (hd : d ≤ vs.length) : List.take ((vs.length - d) * 4) vs.reverse.flatten = (vs.drop d).reverse.flatten := by
  have hl : ∀ (l : List (List Value)), (∀ v ∈ l, v.length = 4) → l.flatten.length = l.length * 4 := by
    intro l
    induction l with
    | nil => intro _; rfl
    | cons a r ih =>
      intro h
      have h1 := h a (by simp)
      have h2 := ih (fun v hv => h v (by simp [hv]))
      simp only [List.flatten_cons, List.length_append, List.length_cons]
      omega
  have e : vs.reverse = (vs.drop d).reverse ++ (vs.take d).reverse := by
    rw [← List.reverse_append, List.take_append_drop]
  rw [e, List.flatten_append]
  have h5 := hl (vs.drop d).reverse (fun v hv => h4 v (by simp at hv; exact List.mem_of_mem_drop hv))
  simp only [List.length_reverse, List.length_drop] at h5
  rw [List.take_append_of_le_length (by omega), List.take_of_length_le (by omega)]

theorem mowns_cut {w : World} {g cap : Nat} {vs : List (List Value)} (h : w.ownsRow 0 119 4 (.slice (some ⟨g, 0, none⟩) vs.length cap) vs.length vs.reverse.flatten) (h4 : ∀ v ∈ vs, v.length = 4) (d : Nat) (hd : d ≤ vs.length) :
    w.ownsRow 0 119 4 (.slice (some ⟨g, 0, none⟩) (vs.length - d) cap) (vs.length - d) (vs.drop d).reverse.flatten := by
  obtain ⟨h1, h2⟩ := h
  have hfd := flat_drop h4 d hd
  rcases h2 with ⟨h2, _⟩ | ⟨g', cap', cur, h2, h3, h4', h5, h6, h7, h8⟩
  · simp at h2
  · simp at h2
    obtain ⟨rfl, rfl⟩ := h2
    have e : List.take ((vs.length - d) * 4) (cur.toList.take (vs.length * 4)) = (vs.drop d).reverse.flatten := by rw [h8, hfd]
    rw [List.take_take, Nat.min_eq_left (by omega)] at e
    refine ⟨?_, Or.inr ⟨g, cap, cur, rfl, h3, h4', by omega, h6, h7, e⟩⟩
    have h9 := congrArg List.length e
    simp only [List.length_take, Array.length_toList] at h9
    rw [h7] at h9
    omega

def putW (t : Code) (d : Nat) (rs : List Code) : Int × List Code := if ft t then (if (rs.drop d).length ≥ 5 then (3, rs) else (0, t :: rs.drop d)) else (7, rs)

/-- What a word of the model's stack leaves. -/
def MOutS (w : World) (m : Nat) (sl : Value) (r : Int × List Code) (e : Ending) (w' : World) : Prop :=
  e = .returned (.int .i64 r.1) ∧ ∃ sl' vs', Mt w' m sl' r.2 vs' ∧ Mv w w' m sl sl'
theorem MOutS.same {w w' : World} {m : Nat} {sl : Value} {rs : List Code} {vs : List (List Value)} (h : Mt w m sl rs vs) (hf : Fr [] w w') (n : Int) : MOutS w m sl (n, rs) (.returned (.int .i64 n)) w' := ⟨rfl, sl, vs, h.keep0 hf, Mv.ofFr hf⟩

theorem MsL.drop {w : World} {A : List Nat} : ∀ (d : Nat) {ts : List Code} {vs : List (List Value)}, MsL w A ts vs → MsL w A (ts.drop d) (vs.drop d)
  | 0, _, _, h => h
  | d + 1, [], [], _ => trivial
  | d + 1, t :: ts, v :: vs, h => MsL.drop d h.2

theorem one4 {tag n : Int} {s : ByteArray} {ks : Value} (h : ks.oneCell' = true) : ∀ u ∈ [Value.int .i64 tag, .int .i64 n, .string s, ks], u.oneCell' = true := by
  intro u hu
  simp only [List.mem_cons, List.not_mem_nil, or_false] at hu
  rcases hu with rfl | rfl | rfl | rfl
  · rfl
  · rfl
  · rfl
  · exact h
theorem RowAt.one {w : World} {A : List Nat} {ks : Value} {vs : List (List Value)} (h : RowAt w A ks vs) : ks.oneCell' = true := by
  rcases h with ⟨_, rfl⟩ | ⟨g, off, cap, cur, _, rfl, _⟩ <;> rfl
theorem Ms.one {w : World} {A : List Nat} {t : Code} {tag n : Int} {s : ByteArray} {ks : Value} (h : Ms w A false t [cells4 tag n s ks]) : ks.oneCell' = true := by
  rcases h.kinds with ⟨m, _, _, _, _, _, e, _⟩ | ⟨r, _, _, _, _, _, e, _⟩ | ⟨ks', vs, _, _, _, _, e, hr, _⟩ | ⟨ks', vs, _, _, _, _, e, hr, _⟩
  all_goals
    simp [cells4] at e
  · obtain ⟨_, _, _, rfl⟩ := e; rfl
  · obtain ⟨_, _, _, rfl⟩ := e; rfl
  · obtain ⟨_, _, _, rfl⟩ := e; exact hr.one
  · obtain ⟨_, _, _, rfl⟩ := e; exact hr.one

theorem Mt.obj1 {w w1 : World} {m : Nat} {sl : Value} {rs : List Code} {vs : List (List Value)} (h : Mt w m sl rs vs) (hf : Fr sl.ownBlock.toList w w1) : w1.heap[m]? = some (.cells #[sl] 105) :=
  hf.keep h.obj (fun hm => by
    have : sl.ownBlock = some m := by simpa using hm
    exact h.far this rfl)
theorem Mt.fin {w w1 : World} {m : Nat} {sl : Value} {rs rs' : List Code} {vs vs' : List (List Value)} (h : Mt w m sl rs vs) {g cap n : Nat} {xs : List Value} (hf : Fr sl.ownBlock.toList w w1)
    (hown : w1.ownsRow 0 119 4 (.slice (some ⟨g, 0, none⟩) n cap) n xs) (hat : sl.ownBlock = some g ∨ w.heap.size ≤ g) (hn : n = vs'.length) (hxs : xs = vs'.reverse.flatten) (hms : MsL w (Oa m sl) rs' vs') :
    ∃ sl' vs', Mt (w1.setCell ⟨m, 0, none⟩ (.slice (some ⟨g, 0, none⟩) n cap)) m sl' rs' vs' ∧ Mv w (w1.setCell ⟨m, 0, none⟩ (.slice (some ⟨g, 0, none⟩) n cap)) m sl sl' := by
  subst hn hxs
  have ho := h.obj1 hf
  have hg : g ≠ m := fun e => by
    subst e
    obtain ⟨cur, hc⟩ := owns_block hown (k := g) rfl
    rw [hc] at ho; simp at ho
  have hF : Fr (Oa m sl) w (w1.setCell ⟨m, 0, none⟩ (.slice (some ⟨g, 0, none⟩) vs'.length cap)) := (hf.mono (fun k hk => by simp [Oa, hk])).trans (Fr.setCell (Fr.refl _ _) (Or.inl (by simp [Oa])) _)
  refine ⟨.slice (some ⟨g, 0, none⟩) vs'.length cap, vs', ⟨?_, ?_, ?_⟩, hF, ?_⟩
  · have := blk_set ho 0 (.slice (some ⟨g, 0, none⟩) vs'.length cap)
    simpa using this
  · exact owns_keep hown (Fr.setCell (S := [m]) (Fr.refl _ _) (Or.inl (by simp)) _) (fun k hk => by
      simp [Value.ownBlock] at hk; subst hk; simpa using hg)
  · refine hms.kept hF (fun b hb => ?_)
    simp [Oa, Value.ownBlock] at hb
    rcases hb with rfl | rfl
    · left; simp [Oa]
    · rcases hat with e | e
      · left; simp [Oa, e]
      · exact Or.inr e
  · rcases hat with e | e
    · exact Or.inl e.symm
    · exact Or.inr ⟨g, rfl, e⟩
theorem flat_snoc (v : List Value) (vs : List (List Value)) : (v :: vs).reverse.flatten = vs.reverse.flatten ++ v := by simp

set_option maxHeartbeats 3200000 in
set_option maxRecDepth 100000 in
theorem put_any {w : World} {m : Nat} {sl : Value} {rs : List Code} {vs : List (List Value)} (h : Mt w m sl rs vs) (hl : rs.length ≤ 5) (d : Nat) (hd : d ≤ rs.length) {t : Code} {tag n : Int} {s : ByteArray} {ks : Value} (ht : Ms w (Oa m sl) false t [cells4 tag n s ks]) (hz : (tx false t).size ≤ 1000) :
    Calls Try.prog 98 #[.pointer (some ⟨m, 0, none⟩), .int .i64 d, .agg #[.int .i64 tag, .int .i64 n, .string s, ks]] w (MOutS w m sl (putW t d rs)) := by
  have hlen := h.ms.len
  have h4 := h.ms.four
  have hks := ht.one
  have H : Hid (Mt w m sl rs vs) := h
  have HT : Hid (Ms w (Oa m sl) false t [cells4 tag n s ks]) := ht
  have HZ : Hid ((tx false t).size ≤ 1000) := hz
  obtain ⟨i119, hi119, hz119⟩ := info_parts info119
  have hdl : (rs.drop d).length = rs.length - d := by simp
  by_cases hft : ft t = true
  · have HF : Hid ((tx false t).size ≤ 30) := by show _ ≤ _; simpa [ft] using hft
    by_cases h5 : (rs.drop d).length ≥ 5
    · have e : putW t d rs = (3, rs) := by unfold putW; rw [if_pos hft, if_pos h5]
      rw [e]
      obtain ⟨p, cap, hsl⟩ := h.len
      subst hsl
      have hd0 : d = 0 := by omega
      subst hd0
      have hv5 : vs.length = 5 := by omega
      clear h ht hz hft e hlen hdl hl h5 hd h4
      go_enter Try.func98, Try.ntmps98
      go_wp2_with (go_at_call 83; refine ((text_all t).1 _ (Oa m (.slice p vs.length cap)) tag n s ks (Ms.kept (((Fr.refl _ w).alloc _)) (fun b hb => Or.inl hb) _ _ _ HT.out) HZ.out).mono ?_; rintro e w1 ⟨rfl, hf1⟩; have hH1 := H.out.keep0 (((Fr.refl [] w).alloc _).trans hf1); have c1 := blk_cell hH1.obj 0; simp at c1; have hzz := HF.out)
      go_ret
      exact MOutS.same H.out (((Fr.refl [] w).alloc _).trans hf1) 3
    · have e : putW t d rs = (0, t :: rs.drop d) := by unfold putW; rw [if_pos hft, if_neg h5]
      rw [e]
      have HMS : Hid (MsL w (Oa m sl) (t :: rs.drop d) (cells4 tag n s ks :: vs.drop d)) := ⟨ht, h.ms.drop d⟩
      rcases h.form with ⟨rfl, rfl⟩ | ⟨g, cap, cur, rfl, hg, h1, h2, h3, h6⟩
      · have hd0 : d = 0 := by have : (0 : Nat) = rs.length := hlen; omega
        subst hd0
        have HW : Hid (w.ownsRow 0 119 4 (.slice none 0 0) 0 []) := H.out.row
        have hmw := blk_lt H.out.obj
        clear h ht hz hft e hdl hl h5 hlen hd h4
        go_enter Try.func98, Try.ntmps98
        go_wp2_with (go_at_call 83; refine ((text_all t).1 _ (Oa m (.slice none 0 0)) tag n s ks (Ms.kept (((Fr.refl _ w).alloc _)) (fun b hb => Or.inl hb) _ _ _ HT.out) HZ.out).mono ?_; rintro e w1 ⟨rfl, hf1⟩; have hH1 := H.out.keep0 (((Fr.refl [] w).alloc _).trans hf1); have c1 := blk_cell hH1.obj 0; simp at c1; have hzz := HF.out)
        have hbx := hf1.keep (blk_new w (.cells #[.int .i64 tag, .int .i64 n, .string s, ks] 119)) (by simp)
        have x0 := blk_cell hbx 0
        have x1 := blk_cell hbx 1
        have x2 := blk_cell hbx 2
        have x3 := blk_cell hbx 3
        simp at x0 x1 x2 x3
        have hsz := hf1.size
        simp at hsz
        have HF1 : Hid (Fr [] w w1) := ((Fr.refl [] w).alloc _).trans hf1
        have HW1 : Hid (w1.ownsRow 0 119 4 (.slice none 0 0) 0 []) := owns_keep HW.out HF1.out (by simp)
        have f1 := blk_frozen hH1.obj 0
        have e1 : ¬ (w1.heap.size = m) := by omega
        have e2 : ¬ (m = w1.heap.size) := by omega
        have e3 : ¬ (w.heap.size = w1.heap.size) := by omega
        have e4 : ¬ (w1.heap.size = w.heap.size) := by omega
        have HS : Hid (w.heap.size + 1 ≤ w1.heap.size) := hsz
        have lm1 : m < w1.heap.size := by omega
        have lw1 : w.heap.size < w1.heap.size := by omega
        clear hbx hf1 hH1 hsz
        go_region_law (refine step_append_lies _ (by rfl) _ _ _ (by rfl) 0 119 i119 (.agg #[.int .i64 0, .int .i64 0, .string ⟨#[]⟩, .slice none 0 0]) 4 56 Try.underlying103 hi119 hz119.1 hz119.2.1 hz119.2.2 (by rfl) (by omega) (.slice none 0 0) 0 [] (by rfl) (owns_keep HW1.out (((Fr.refl [] _).alloc _).drew) (by simp)) ⟨w1.heap.size, 0, none⟩ 1 1 [.int .i64 tag, .int .i64 n, .string s, ks] (by rfl) (by rfl) (World.news_of_block (heap_alloc_new _ _)) (one4 hks) (by omega) (by unfold maxLen; omega) (by omega) (by simp) (w1.heap.size + 1) (by simp) ?_; intro g2 cap2 w4 hown2 hgrow2 hat2 hlt2; have FG : Fr (Value.slice none 0 0).ownBlock.toList w1 w4 := (((Fr.refl _ _).alloc _).drew).trans (Fr.ofGrown hgrow2); have ho4 := (H.out.keep0 HF1.out).obj1 FG; have c4 := blk_cell ho4 0; have f4 := blk_frozen ho4 0; simp at c4)
        all_goals
          have HE : Hid _ := (H.out).fin (HF1.out.trans FG) hown2 (Or.inr (by have := HS.out; rcases hat2 with h | h; simp [Value.ownBlock] at h; omega)) (vs' := [cells4 tag n s ks]) rfl rfl HMS.out
          clear ho4 FG hown2 hgrow2 hat2
          go_wp2
          go_ret
          exact ⟨rfl, HE.out⟩
      · have hdd : d ≤ vs.length := by omega
        have HW : Hid (w.ownsRow 0 119 4 (.slice (some ⟨g, 0, none⟩) (vs.length - d) cap) (vs.length - d) (vs.drop d).reverse.flatten) := mowns_cut H.out.row h4 d hdd
        have hmw := blk_lt H.out.obj
        have HLV : Hid (vs.length ≤ 5) := by show _ ≤ _; omega
        obtain ⟨k, hk⟩ : ∃ k, vs.length - d = k := ⟨_, rfl⟩
        have hkc : k ≤ cap := by omega
        have hk5 : k < 5 := by omega
        have hnk : (vs.length : Int) - (d : Int) = (k : Int) := by omega
        rw [hk] at HW
        have HD : Hid (k = (vs.drop d).length) := by show _ = _; simp; omega
        clear h ht hz hft e hdl hl h5 hlen hd h4 h6 h3 hg
        generalize hN : vs.length = N at *
        have HNN : Hid (vs.length = N) := hN
        clear hN hk
        go_enter Try.func98, Try.ntmps98
        go_wp2_with (go_at_call 83; refine ((text_all t).1 _ (Oa m (.slice (some ⟨g, 0, none⟩) N cap)) tag n s ks (Ms.kept (((Fr.refl _ w).alloc _)) (fun b hb => Or.inl hb) _ _ _ HT.out) HZ.out).mono ?_; rintro e w1 ⟨rfl, hf1⟩; have hH1 := H.out.keep0 (((Fr.refl [] w).alloc _).trans hf1); have c1 := blk_cell hH1.obj 0; simp at c1; have hzz := HF.out)
        have hbx := hf1.keep (blk_new w (.cells #[.int .i64 tag, .int .i64 n, .string s, ks] 119)) (by simp)
        have x0 := blk_cell hbx 0
        have x1 := blk_cell hbx 1
        have x2 := blk_cell hbx 2
        have x3 := blk_cell hbx 3
        simp at x0 x1 x2 x3
        have hsz := hf1.size
        simp at hsz
        have HF1 : Hid (Fr [] w w1) := ((Fr.refl [] w).alloc _).trans hf1
        have HW1 : Hid (w1.ownsRow 0 119 4 (.slice (some ⟨g, 0, none⟩) k cap) k (vs.drop d).reverse.flatten) := owns_keep HW.out HF1.out (by simp)
        have f1 := blk_frozen hH1.obj 0
        have e1 : ¬ (w1.heap.size = m) := by omega
        have e2 : ¬ (m = w1.heap.size) := by omega
        have e3 : ¬ (w.heap.size = w1.heap.size) := by omega
        have e4 : ¬ (w1.heap.size = w.heap.size) := by omega
        have HS : Hid (w.heap.size + 1 ≤ w1.heap.size) := hsz
        have lm1 : m < w1.heap.size := by omega
        have lw1 : w.heap.size < w1.heap.size := by omega
        clear hbx hf1 hH1 hsz
        go_region_law (refine step_append_lies _ (by rfl) _ _ _ (by rfl) 0 119 i119 (.agg #[.int .i64 0, .int .i64 0, .string ⟨#[]⟩, .slice none 0 0]) 4 56 Try.underlying103 hi119 hz119.1 hz119.2.1 hz119.2.2 (by rfl) (by omega) (.slice (some ⟨g, 0, none⟩) k cap) k (vs.drop d).reverse.flatten (by rfl) (owns_keep HW1.out (((Fr.refl [] _).alloc _).drew) (by simp)) ⟨w1.heap.size, 0, none⟩ 1 1 [.int .i64 tag, .int .i64 n, .string s, ks] (by rfl) (by rfl) (World.news_of_block (heap_alloc_new _ _)) (one4 hks) (by omega) (by unfold maxLen; omega) (by omega) (by simp) (w1.heap.size + 1) (by simp) ?_; intro g2 cap2 w4 hown2 hgrow2 hat2 hlt2; have FG : Fr (Value.slice (some ⟨g, 0, none⟩) N cap).ownBlock.toList w1 w4 := (((Fr.refl _ _).alloc _).drew).trans (Fr.ofGrown hgrow2); have ho4 := (H.out.keep0 HF1.out).obj1 FG; have c4 := blk_cell ho4 0; have f4 := blk_frozen ho4 0; simp at c4)
        all_goals
          have HE : Hid _ := (H.out).fin (HF1.out.widen.trans FG) hown2 (by have := HS.out; rcases hat2 with h | h; exact Or.inl h; right; omega) (vs' := cells4 tag n s ks :: vs.drop d) (by rw [HD.out]; rfl) (by rw [flat_snoc]; rfl) HMS.out
          clear ho4 FG hown2 hgrow2 hat2
          go_wp2
          go_ret
          exact ⟨rfl, HE.out⟩
  · have e : putW t d rs = (7, rs) := by unfold putW; rw [if_neg hft]
    rw [e]
    obtain ⟨p, cap, hsl⟩ := h.len
    subst hsl
    have HF : Hid (30 < (tx false t).size) := by show _ < _; simpa [ft] using hft
    clear h ht hz hft e hlen hdl hl h4
    go_enter Try.func98, Try.ntmps98
    go_wp2_with (go_at_call 83; refine ((text_all t).1 _ (Oa m (.slice p vs.length cap)) tag n s ks (Ms.kept (((Fr.refl _ w).alloc _)) (fun b hb => Or.inl hb) _ _ _ HT.out) HZ.out).mono ?_; rintro e w1 ⟨rfl, hf1⟩; have hH1 := H.out.keep0 (((Fr.refl [] w).alloc _).trans hf1); have c1 := blk_cell hH1.obj 0; simp at c1; have hzz := HF.out)
    go_ret
    exact MOutS.same H.out (((Fr.refl [] w).alloc _).trans hf1) 7
end Go.Proofs.Qxb6500336a
