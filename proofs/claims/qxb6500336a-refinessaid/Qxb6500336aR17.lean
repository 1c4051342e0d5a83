import Derived.Test.Qxb6500336aR16
namespace Go.Proofs.Qxb6500336a
open Go.RowKit
set_option linter.unusedVariables false
set_option linter.unusedSimpArgs false

/-- A row is at no block of another type. -/
theorem RowAt.tight {w : World} {A : List Nat} {ks : Value} {vs : List (List Value)} {M : Nat} {c : Array Value} {T : TypeId} (h : RowAt w A ks vs) (hM : w.heap[M]? = some (.cells c T)) (hT : T ≠ 119) : RowAt w (M :: A) ks vs := by
  rcases h with h | ⟨g, off, cap, cur, h0, h1, h2, h3, h4⟩
  · exact Or.inl h
  · refine Or.inr ⟨g, off, cap, cur, h0, h1, h2, fun hm => ?_, h4⟩
    rw [List.mem_cons] at hm
    rcases hm with rfl | hm
    · rw [hM] at h2
      simp at h2
      exact hT h2.2
    · exact h3 hm
theorem Ms.tight {w : World} {A : List Nat} {M : Nat} {c : Array Value} {T : TypeId} (hM : w.heap[M]? = some (.cells c T)) (hT : T ≠ 119) : ∀ (t : Code) (m : Bool) (vs : List (List Value)), Ms w A m t vs → Ms w (M :: A) m t vs := by
  intro t
  induction t with
  | skip => intro m vs h; cases m <;> exact h
  | seq a b iha ihb =>
    intro m vs h
    cases m with
    | false =>
      obtain ⟨ks, v, us, h1, h2, h3, h4⟩ := h
      exact ⟨ks, v, us, h1, h2.tight hM hT, iha _ _ h3, ihb _ _ h4⟩
    | true =>
      obtain ⟨v, us, h1, h3, h4⟩ := h
      exact ⟨v, us, h1, iha _ _ h3, ihb _ _ h4⟩
  | cond c a b iha ihb =>
    intro m vs h
    cases m with
    | false =>
      obtain ⟨ks, u, v, h1, h2, h3, h4⟩ := h
      exact ⟨ks, u, v, h1, h2.tight hM hT, iha _ _ h3, ihb _ _ h4⟩
    | true => exact h.elim
  | rangeFunc o p a b _ _ => intro m vs h; cases m <;> exact h
  | _ => intro m vs h; exact h.elim
theorem MsL.tight {w : World} {A : List Nat} {M : Nat} {c : Array Value} {T : TypeId} (hM : w.heap[M]? = some (.cells c T)) (hT : T ≠ 119) : ∀ {ts : List Code} {vs : List (List Value)}, MsL w A ts vs → MsL w (M :: A) ts vs
  | [], [], _ => trivial
  | t :: ts, v :: vs, h => ⟨Ms.tight hM hT _ _ _ h.1, MsL.tight hM hT h.2⟩

/-- The model's machine at M, its stack at m. -/
structure Mm (w : World) (M m : Nat) (sl : Value) (acc : Int) (rs : List Code) (vs : List (List Value)) : Prop where
  obj : w.heap[M]? = some (.cells #[.pointer (some ⟨m, 0, none⟩), .int .i64 acc] 70)
  st : Mt w m sl rs vs
  a64 : w64 acc
/-- What a step of the model's machine writes: its own blocks; its stack is where it was or is new. -/
structure MZ (w w' : World) (M m : Nat) (sl : Value) (m' : Nat) (sl' : Value) : Prop where
  fr : Fr (M :: Oa m sl) w w'
  own : ∀ b ∈ Oa m' sl', b ∈ Oa m sl ∨ w.heap.size ≤ b
theorem MZ.refl (w : World) (M m : Nat) (sl : Value) : MZ w w M m sl m sl := ⟨Fr.refl _ _, fun b hb => Or.inl hb⟩
theorem MZ.ofFr {w w' : World} {M m : Nat} {sl : Value} (h : Fr [] w w') : MZ w w' M m sl m sl := ⟨h.widen, fun b hb => Or.inl hb⟩
theorem MZ.ofMv {w w' : World} {M m : Nat} {sl sl' : Value} (h : Mv w w' m sl sl') : MZ w w' M m sl m sl' := by
  refine ⟨h.fr.mono (fun k hk => List.mem_cons_of_mem _ hk), fun b hb => ?_⟩
  simp only [Oa, List.mem_cons] at hb ⊢
  rcases hb with rfl | hb
  · left; left; rfl
  · rcases h.own with e | ⟨g, e, hg⟩
    · left; right; rw [← e]; exact hb
    · right; rw [e] at hb; simp at hb; omega
theorem MZ.trans {a b c : World} {M m1 m2 m3 : Nat} {s1 s2 s3 : Value} (h : MZ a b M m1 s1 m2 s2) (k : MZ b c M m2 s2 m3 s3) : MZ a c M m1 s1 m3 s3 := by
  refine ⟨h.fr.narrow k.fr (fun i hi => ?_), fun i hi => ?_⟩
  · rw [List.mem_cons] at hi
    rcases hi with rfl | hi
    · left; simp
    · rcases h.own i hi with e | e
      · left; exact List.mem_cons_of_mem _ e
      · exact Or.inr e
  · rcases k.own i hi with e | e
    · exact h.own i e
    · right; exact Nat.le_trans h.fr.size e
theorem Mm.far {w : World} {M m : Nat} {sl : Value} {acc : Int} {rs : List Code} {vs : List (List Value)} (h : Mm w M m sl acc rs vs) : M ∉ Oa m sl := by
  intro hm
  simp only [Oa, List.mem_cons] at hm
  rcases hm with rfl | hm
  · have h1 := h.st.obj
    rw [h.obj] at h1
    simp at h1
  · obtain ⟨cur, hc⟩ := owns_block h.st.row (k := M) (by simpa using hm)
    rw [h.obj] at hc
    simp at hc
theorem Mm.keepM {w w' : World} {M m : Nat} {sl sl' : Value} {acc : Int} {rs rs' : List Code} {vs vs' : List (List Value)} (h : Mm w M m sl acc rs vs) (k : Mv w w' m sl sl') (hs : Mt w' m sl' rs' vs') : Mm w' M m sl' acc rs' vs' :=
  ⟨k.fr.keep h.obj h.far, hs, h.a64⟩
theorem Mm.keep0 {w w' : World} {M m : Nat} {sl : Value} {acc : Int} {rs : List Code} {vs : List (List Value)} (h : Mm w M m sl acc rs vs) (hf : Fr [] w w') : Mm w' M m sl acc rs vs :=
  ⟨hf.keep h.obj (by simp), h.st.keep0 hf, h.a64⟩
theorem Mm.setM {w : World} {M m : Nat} {sl : Value} {acc : Int} {rs : List Code} {vs : List (List Value)} (h : Mm w M m sl acc rs vs) (i : Nat) (v : Value) : Mt (w.setCell ⟨M, i, none⟩ v) m sl rs vs := by
  have FS : Fr [M] w (w.setCell ⟨M, i, none⟩ v) := Fr.setCell (Fr.refl _ _) (Or.inl (by simp)) _
  have hfar := h.far
  refine ⟨FS.keep h.st.obj (fun hm => ?_), owns_keep h.st.row FS (fun k hk hm => ?_), ?_⟩
  · simp at hm; subst hm; exact hfar (by simp [Oa])
  · simp at hm; subst hm; exact hfar (by simp [Oa, hk])
  · have F2 : Fr (M :: Oa m sl) w (w.setCell ⟨M, i, none⟩ v) := Fr.setCell (Fr.refl _ _) (Or.inl (by simp)) _
    exact MsL.kept F2 (fun b hb => Or.inl (List.mem_cons_of_mem _ hb)) (MsL.tight h.obj (by decide) h.st.ms)
theorem Mm.setAcc {w : World} {M m : Nat} {sl : Value} {acc : Int} {rs : List Code} {vs : List (List Value)} (h : Mm w M m sl acc rs vs) {n : Int} (hn : w64 n) : Mm (w.setCell ⟨M, 1, none⟩ (.int .i64 n)) M m sl n rs vs := by
  refine ⟨?_, h.setM 1 _, hn⟩
  have := blk_set h.obj 1 (.int .i64 n)
  simpa using this
theorem MZ.setM (w : World) (M m : Nat) (sl : Value) (i : Nat) (v : Value) : MZ w (w.setCell ⟨M, i, none⟩ v) M m sl m sl := ⟨Fr.setCell (Fr.refl _ _) (Or.inl (by simp)) _, fun b hb => Or.inl hb⟩

/-- What a step of the model's machine leaves. -/
def ZOut (w : World) (M m : Nat) (sl : Value) (acc : Int) (rs : List Code) (w' : World) : Prop := ∃ m' sl' vs', Mm w' M m' sl' acc rs vs' ∧ MZ w w' M m sl m' sl'
theorem ZOut.of {w w' : World} {M m : Nat} {sl sl' : Value} {acc : Int} {rs rs' : List Code} {vs vs' : List (List Value)} (h : Mm w M m sl acc rs vs) (hs : Mt w' m sl' rs' vs') (k : Mv w w' m sl sl') : ZOut w M m sl acc rs' w' := ⟨m, sl', vs', h.keepM k hs, MZ.ofMv k⟩
theorem ZOut.same {w w' : World} {M m : Nat} {sl : Value} {acc : Int} {rs : List Code} {vs : List (List Value)} (h : Mm w M m sl acc rs vs) (hf : Fr [] w w') : ZOut w M m sl acc rs w' := ⟨m, sl, vs, h.keep0 hf, MZ.ofFr hf⟩
theorem mtopI_w64 {w : World} {m : Nat} {sl : Value} {rs : List Code} {vs : List (List Value)} (h : Mt w m sl rs vs) : w64 (topI rs).1 := by
  cases rs with
  | nil => show w64 0; unfold w64; omega
  | cons t ts =>
    obtain ⟨g, cap, tag, n, s, ks, _, _, hms, _⟩ := h.at (i := 0) (t := t) rfl
    simp only [topI]
    rcases hms.kinds with ⟨n', e1, _, _, _, _, _, hn, _⟩ | ⟨s', e1, _⟩ | ⟨ks', vs', e1, _⟩ | ⟨ks', vs', e1, _⟩
    · rw [e1]; exact hn
    all_goals rw [e1]; unfold w64; simp
end Go.Proofs.Qxb6500336a
