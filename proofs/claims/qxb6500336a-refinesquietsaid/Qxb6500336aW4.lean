import Derived.Test.Qxb6500336aP1
namespace Go.Proofs.Qxb6500336a
open Go.RowKit
set_option linter.unusedVariables false

/-- The stack at S shows rs (the top first). -/
def St (w : World) (S : Nat) (sl : Value) (rs : List Code) : Prop := ∃ us, Stv w S sl us false ∧ Shs w rs us
/-- What a word leaves. -/
def Out (w : World) (S : Nat) (sl : Value) (r : Int × List Code) (e : Ending) (w' : World) : Prop :=
  e = .returned (.int .i64 r.1) ∧ ∃ sl', St w' S sl' r.2 ∧ Mv w w' S sl sl'
theorem St.keep0 {w w' : World} {S : Nat} {sl : Value} {rs : List Code} (h : St w S sl rs) (hf : Fr [] w w') : St w' S sl rs := by
  obtain ⟨us, h1, h2⟩ := h
  exact ⟨us, h1.keep0 hf, h2.kept hf.kc0⟩
theorem Out.same {w w' : World} {S : Nat} {sl : Value} {rs : List Code} (h : St w S sl rs) (hf : Fr [] w w') (n : Int) : Out w S sl (n, rs) (.returned (.int .i64 n)) w' :=
  ⟨rfl, sl, h.keep0 hf, Mv.ofFr hf⟩

theorem fits_any {w : World} {t : Code} {v : Value} (h : Sh w t v) (hz : (tx false t).size ≤ 1000) :
    Calls Try.prog 57 #[v] w fun e w' => e = .returned (.bool (ft t)) ∧ Fr [] w w' := by
  have m1 := h.show
  have H : Hid (Sh w t v) := h
  clear h
  by_cases hq : (tx false t).size ≤ 30
  · rw [show ft t = true from by simp [ft, hq]]
    go_enter Try.func57, Try.ntmps57
    go_wp2_with ((with_reducible refine at_inv ?_); refine wpList_invoke0 rfl _ _ rfl v rfl _ _ (m1 _) _ ((show_all t).1 v w H.out hz) ?_; rintro e w1 ⟨rfl, hf1⟩; refine ⟨_, rfl, ?_⟩)
    go_ret
    refine ⟨?_, hf1⟩
    simp; omega
  · rw [show ft t = false from by simp [ft]; omega]
    go_enter Try.func57, Try.ntmps57
    go_wp2_with ((with_reducible refine at_inv ?_); refine wpList_invoke0 rfl _ _ rfl v rfl _ _ (m1 _) _ ((show_all t).1 v w H.out hz) ?_; rintro e w1 ⟨rfl, hf1⟩; refine ⟨_, rfl, ?_⟩)
    go_ret
    refine ⟨?_, hf1⟩
    simp; omega

theorem lack_any {w : World} {S : Nat} {sl : Value} {us : List Value} {bz : Bool} (h : Stv w S sl us bz) (hl : us.length ≤ 5) (k : Nat) (hk : k ≤ 5) :
    Calls Try.prog 65 #[.pointer (some ⟨S, 0, none⟩), .int .i64 k] w fun e w' => e = .returned (.int .i64 (if us.length < k then 4 else 5)) ∧ Fr [] w w' := by
  have c0 := blk_cell h.obj 0
  simp at c0
  obtain ⟨p, cap, rfl⟩ := h.len
  clear h
  generalize us.length = n at *
  by_cases hq : n < k
  · rw [if_pos hq]
    go_enter Try.func65, Try.ntmps65
    go_wp2
    go_ret
    exact ⟨rfl, Fr.refl _ _⟩
  · rw [if_neg hq]
    go_enter Try.func65, Try.ntmps65
    go_wp2
    go_ret
    exact ⟨rfl, Fr.refl _ _⟩

theorem depth_any {w : World} {S : Nat} {sl : Value} {us : List Value} {bz : Bool} (h : Stv w S sl us bz) :
    Calls Try.prog 52 #[.pointer (some ⟨S, 0, none⟩)] w fun e w' => e = .returned (.int .i64 us.length) ∧ Fr [] w w' := by
  have c0 := blk_cell h.obj 0
  simp at c0
  obtain ⟨p, cap, rfl⟩ := h.len
  clear h
  generalize us.length = n at *
  go_enter Try.func52, Try.ntmps52
  go_wp2
  go_ret
  exact ⟨rfl, Fr.refl _ _⟩

/-- The slice is cut: the top value is gone. -/
theorem cut_end {w : World} {S : Nat} {g cap : Nat} {u : Value} {us : List Value} {bz : Bool} (h : Stv w S (.slice (some ⟨g, 0, none⟩) (u :: us).length cap) (u :: us) bz) :
    Stv (w.setCell ⟨S, 0, none⟩ (.slice (some ⟨g, 0, none⟩) us.length cap)) S (.slice (some ⟨g, 0, none⟩) us.length cap) us bz ∧
    Mv w (w.setCell ⟨S, 0, none⟩ (.slice (some ⟨g, 0, none⟩) us.length cap)) S (.slice (some ⟨g, 0, none⟩) (u :: us).length cap) (.slice (some ⟨g, 0, none⟩) us.length cap) := by
  have hc := owns_cut h.row 1 (by simp)
  have hg : g ≠ S := h.far rfl
  refine ⟨⟨?_, ?_⟩, ?_, Or.inl rfl⟩
  · have := blk_set h.obj 0 (.slice (some ⟨g, 0, none⟩) us.length cap)
    simpa using this
  · refine owns_keep ?_ (Fr.setCell (S := [S]) (Fr.refl _ _) (Or.inl (by simp)) _) (fun k hk => by
      simp [Value.ownBlock] at hk; subst hk; simpa using hg)
    simpa using hc
  · exact Fr.setCell (Fr.refl _ _) (Or.inl (by simp)) _

set_option maxHeartbeats 800000 in
theorem drop_any {w : World} {S : Nat} {sl : Value} {rs : List Code} (h : St w S sl rs) (hw : Wf rs) :
    Calls Try.prog 49 #[.pointer (some ⟨S, 0, none⟩)] w (Out w S sl (dropW rs)) := by
  obtain ⟨us, h1, h2⟩ := h
  have c0 := blk_cell h1.obj 0
  have f0 := blk_frozen h1.obj 0
  simp at c0
  cases rs with
  | nil =>
    cases h2.nil
    obtain ⟨p, cap, rfl⟩ := h1.len
    have H : Hid (St w S (.slice p ([] : List Value).length cap) []) := ⟨[], h1, trivial⟩
    clear h1 h2
    simp at c0
    go_enter Try.func49, Try.ntmps49
    go_wp2
    go_ret
    exact Out.same H.out (Fr.refl _ _) 4
  | cons t ts =>
    obtain ⟨u, us', rfl, h3, h4⟩ := h2.cons
    have hl : us'.length ≤ 4 := by have := h2.len; have := hw.1; simp at *; omega
    rcases h1.form with ⟨rfl, h5⟩ | ⟨g, cap, cur, rfl, hg, h5, h6, h7, h8⟩
    · cases h5
    · have hz := cut_end h1
      have HZ : Hid (∃ sl', St (w.setCell ⟨S, 0, none⟩ (.slice (some ⟨g, 0, none⟩) us'.length cap)) S sl' ts ∧ Mv w (w.setCell ⟨S, 0, none⟩ (.slice (some ⟨g, 0, none⟩) us'.length cap)) S (.slice (some ⟨g, 0, none⟩) (u :: us').length cap) sl') :=
        ⟨_, ⟨us', hz.1, h4.kept (h1.kc hz.2)⟩, hz.2⟩
      clear hz h1 h2 h3 h4 h8 hg hw h7
      simp only [List.length_cons] at *
      go_enter Try.func49, Try.ntmps49
      go_wp2
      go_ret
      exact ⟨rfl, HZ.out⟩

theorem vnew_any (w : World) :
    Calls Try.prog 31 #[] w fun e w' => e = .returned (.pointer (some ⟨w.heap.size, 0, none⟩)) ∧ w' = w.alloc (.cells #[.slice none 0 0, .bool false] 55) := by
  go_enter Try.func31, Try.ntmps31
  go_wp2
  go_ret
  exact ⟨rfl, rfl⟩
theorem St.mk (w : World) : St (w.alloc (.cells #[.slice none 0 0, .bool false] 55)) w.heap.size (.slice none 0 0) [] :=
  ⟨[], ⟨blk_new _ _, by exact ⟨rfl, Or.inl ⟨rfl, rfl⟩⟩⟩, trivial⟩
end Go.Proofs.Qxb6500336a
