import Derived.Test.Qxb6500336aR24
import Derived.Test.Qxb6500336aSc
namespace Go.Proofs.Qxb6500336a
open Go.RowKit
set_option linter.unusedVariables false
set_option linter.unusedSimpArgs false

/-- Nothing but blocks of these types, at N or above, was written. -/
def FrT (ty : List TypeId) (N : Nat) (w w' : World) : Prop := ∃ T, Fr T w w' ∧ ∀ b ∈ T, N ≤ b ∧ ∃ c t, w.heap[b]? = some (.cells c t) ∧ t ∈ ty
theorem FrT.of0 {ty : List TypeId} {N : Nat} {w w' : World} (h : Fr [] w w') : FrT ty N w w' := ⟨[], h, fun b hb => by cases hb⟩
theorem FrT.keep {ty : List TypeId} {N : Nat} {w w' : World} (h : FrT ty N w w') {b : Nat} {c : Array Value} {t : TypeId} (hb : w.heap[b]? = some (.cells c t)) (ht : t ∉ ty) : w'.heap[b]? = some (.cells c t) := by
  obtain ⟨T, h1, h2⟩ := h
  refine h1.keep hb (fun hm => ?_)
  obtain ⟨_, c', t', e, ht'⟩ := h2 b hm
  rw [hb] at e
  simp at e
  rw [← e.2] at ht'
  exact ht ht'
theorem FrT.below {ty : List TypeId} {w0 w w' : World} (k : Fr [] w0 w) (h : FrT ty w0.heap.size w w') : Fr [] w0 w' := by
  obtain ⟨T, h1, h2⟩ := h
  exact k.narrow h1 (fun i hi => Or.inr (h2 i hi).1)
theorem FrT.frl {ty : List TypeId} {N : Nat} {a b c : World} (k : Fr [] a b) (hN : N ≤ a.heap.size) (h : FrT ty N b c) : FrT ty N a c := by
  obtain ⟨T, h1, h2⟩ := h
  refine ⟨T.filter (fun i => decide (i < a.heap.size)), ?_, ?_⟩
  · refine (k.widen).narrow h1 (fun i hi => ?_)
    by_cases hlt : i < a.heap.size
    · left; simp [hi, hlt]
    · right; omega
  · intro i hi
    simp at hi
    obtain ⟨h3, c, t, h4, h5⟩ := h2 i hi.1
    refine ⟨h3, c, t, ?_, h5⟩
    have h6 : ∃ o, a.heap[i]? = some o := ⟨_, Array.getElem?_eq_getElem hi.2⟩
    obtain ⟨o, h6⟩ := h6
    have h7 := k.keep h6 (by simp)
    rw [h4] at h7
    rw [h6, h7]
theorem FrT.frr {ty : List TypeId} {N : Nat} {a b c : World} (h : FrT ty N a b) (k : Fr [] b c) : FrT ty N a c := by
  obtain ⟨T, h1, h2⟩ := h
  exact ⟨T, h1.trans k.widen, h2⟩

/-- The real machine at X in the state acc, rs; all of it at N or above. -/
def JR (w : World) (N X : Nat) (acc : Int) (rs : List Code) : Prop := ∃ S sl, Mc w X S sl acc rs ∧ N ≤ X ∧ N ≤ S ∧ ∀ k, sl.ownBlock = some k → N ≤ k
/-- The model's machine. -/
def JM (w : World) (N Y : Nat) (acc : Int) (rs : List Code) : Prop := ∃ m sl vs, Mm w Y m sl acc rs vs ∧ N ≤ Y ∧ ∀ b ∈ Oa m sl, N ≤ b

theorem Mw.frT {w w' : World} {N X S : Nat} {sl sl' : Value} {acc : Int} {rs : List Code} (h : Mc w X S sl acc rs) (hN : N ≤ X ∧ N ≤ S ∧ ∀ k, sl.ownBlock = some k → N ≤ k) (m : Mw w w' X S sl sl') : FrT [43, 55, 65] N w w' := by
  refine ⟨_, m.fr, fun b hb => ?_⟩
  obtain ⟨us, h1, h2⟩ := h.st
  simp only [List.mem_cons] at hb
  rcases hb with rfl | rfl | hb
  · exact ⟨hN.1, _, _, h.obj, by simp⟩
  · exact ⟨hN.2.1, _, _, h1.obj, by simp⟩
  · have hk : sl.ownBlock = some b := by simpa using hb
    obtain ⟨cur, hc⟩ := owns_block h1.row hk
    exact ⟨hN.2.2 b hk, _, _, hc, by simp⟩
theorem MZ.frT {w w' : World} {N Y m m' : Nat} {sl sl' : Value} {acc : Int} {rs : List Code} {vs : List (List Value)} (h : Mm w Y m sl acc rs vs) (hN : N ≤ Y ∧ ∀ b ∈ Oa m sl, N ≤ b) (z : MZ w w' Y m sl m' sl') : FrT [70, 105, 119] N w w' := by
  refine ⟨_, z.fr, fun b hb => ?_⟩
  rw [List.mem_cons] at hb
  rcases hb with rfl | hb
  · exact ⟨hN.1, _, _, h.obj, by simp⟩
  · refine ⟨hN.2 b hb, ?_⟩
    simp only [Oa, List.mem_cons] at hb
    rcases hb with rfl | hb
    · exact ⟨_, _, h.st.obj, by simp⟩
    · obtain ⟨cur, hc⟩ := owns_block h.st.row (k := b) (by simpa using hb)
      exact ⟨_, _, hc, by simp⟩
theorem JR.next {w w' : World} {N X S : Nat} {sl : Value} {acc acc' : Int} {rs rs' : List Code} (h : Mc w X S sl acc rs) (hN : N ≤ X ∧ N ≤ S ∧ ∀ k, sl.ownBlock = some k → N ≤ k) (hw : N ≤ w.heap.size) {n : Int} (o : MOut w X S sl n acc' rs' w') : JR w' N X acc' rs' ∧ FrT [43, 55, 65] N w w' := by
  obtain ⟨sl', h1, h2⟩ := o
  refine ⟨⟨S, sl', h1, hN.1, hN.2.1, fun k hk => ?_⟩, h2.frT h hN⟩
  rcases h2.own with e | ⟨g, e, hg⟩
  · exact hN.2.2 k (by rw [← e]; exact hk)
  · rw [hk] at e; cases e; omega
theorem JM.next {w w' : World} {N Y m : Nat} {sl : Value} {acc acc' : Int} {rs rs' : List Code} {vs : List (List Value)} (h : Mm w Y m sl acc rs vs) (hN : N ≤ Y ∧ ∀ b ∈ Oa m sl, N ≤ b) (hw : N ≤ w.heap.size) (o : ZOut w Y m sl acc' rs' w') : JM w' N Y acc' rs' ∧ FrT [70, 105, 119] N w w' := by
  obtain ⟨m', sl', vs', h1, h2⟩ := o
  refine ⟨⟨m', sl', vs', h1, hN.1, fun b hb => ?_⟩, h2.frT h hN⟩
  rcases h2.own b hb with e | e
  · exact hN.2 b e
  · omega

theorem RowAt.wide {w : World} {A S : List Nat} {ks : Value} {vs : List (List Value)} (hS : ∀ b ∈ S, ∀ cur, w.heap[b]? ≠ some (.cells cur 119)) (h : RowAt w A ks vs) : RowAt w (S ++ A) ks vs := by
  rcases h with h | ⟨g, off, cap, cur, h0, h1, h2, h3, h4⟩
  · exact Or.inl h
  · refine Or.inr ⟨g, off, cap, cur, h0, h1, h2, fun hm => ?_, h4⟩
    rw [List.mem_append] at hm
    rcases hm with hm | hm
    · exact hS g hm cur h2
    · exact h3 hm
theorem Ms.wide {w : World} {A S : List Nat} (hS : ∀ b ∈ S, ∀ cur, w.heap[b]? ≠ some (.cells cur 119)) : ∀ (t : Code) (m : Bool) (vs : List (List Value)), Ms w A m t vs → Ms w (S ++ A) m t vs := by
  intro t
  induction t with
  | skip => intro m vs h; cases m <;> exact h
  | seq a b iha ihb =>
    intro m vs h
    cases m with
    | false =>
      obtain ⟨ks, v, us, h1, h2, h3, h4⟩ := h
      exact ⟨ks, v, us, h1, h2.wide hS, iha _ _ h3, ihb _ _ h4⟩
    | true =>
      obtain ⟨v, us, h1, h3, h4⟩ := h
      exact ⟨v, us, h1, iha _ _ h3, ihb _ _ h4⟩
  | cond c a b iha ihb =>
    intro m vs h
    cases m with
    | false =>
      obtain ⟨ks, u, v, h1, h2, h3, h4⟩ := h
      exact ⟨ks, u, v, h1, h2.wide hS, iha _ _ h3, ihb _ _ h4⟩
    | true => exact h.elim
  | rangeFunc o p a b _ _ => intro m vs h; cases m <;> exact h
  | _ => intro m vs h; exact h.elim
theorem MsL.wide {w : World} {A S : List Nat} (hS : ∀ b ∈ S, ∀ cur, w.heap[b]? ≠ some (.cells cur 119)) : ∀ {ts : List Code} {vs : List (List Value)}, MsL w A ts vs → MsL w (S ++ A) ts vs
  | [], [], _ => trivial
  | t :: ts, v :: vs, h => ⟨Ms.wide hS _ _ _ h.1, MsL.wide hS h.2⟩

theorem JM.keepT {w w' : World} {N Y : Nat} {acc : Int} {rs : List Code} {ty : List TypeId} (h : JM w N Y acc rs) (hf : FrT ty N w w') (hd : ∀ t ∈ ty, t ≠ 70 ∧ t ≠ 105 ∧ t ≠ 119) : JM w' N Y acc rs := by
  obtain ⟨m, sl, vs, h1, h2, h3⟩ := h
  obtain ⟨T, hT, hty⟩ := hf
  have hF : FrT ty N w w' := ⟨T, hT, hty⟩
  refine ⟨m, sl, vs, ⟨hF.keep h1.obj (fun hm => (hd _ hm).1 rfl), ⟨hF.keep h1.st.obj (fun hm => (hd _ hm).2.1 rfl), owns_keep h1.st.row hT (fun k hk hm => ?_), ?_⟩, h1.a64⟩, h2, h3⟩
  · obtain ⟨cur, hc⟩ := owns_block h1.st.row hk
    obtain ⟨_, c', t', e, ht'⟩ := hty k hm
    rw [hc] at e
    simp at e
    rw [← e.2] at ht'
    exact (hd _ ht').2.2 rfl
  · refine MsL.kept (A := T ++ Oa m sl) (hT.mono (fun k hk => by simp [hk])) (fun b hb => Or.inl (by simp [hb])) (MsL.wide ?_ h1.st.ms)
    intro b hb cur e
    obtain ⟨_, c', t', e', ht'⟩ := hty b hb
    rw [e] at e'
    simp at e'
    rw [← e'.2] at ht'
    exact (hd _ ht').2.2 rfl
theorem JM.keepR {w w' : World} {N Y : Nat} {acc : Int} {rs : List Code} (h : JM w N Y acc rs) (hf : FrT [43, 55, 65] N w w') : JM w' N Y acc rs := h.keepT hf (by decide)
theorem JM.keep0 {w w' : World} {N Y : Nat} {acc : Int} {rs : List Code} (h : JM w N Y acc rs) (hf : Fr [] w w') : JM w' N Y acc rs := h.keepR (FrT.of0 hf)
theorem JR.keepT {w w' : World} {N X : Nat} {acc : Int} {rs : List Code} {ty : List TypeId} (h : JR w N X acc rs) (hf : FrT ty N w w') (hd : ∀ t ∈ ty, t ≠ 43 ∧ t ≠ 55 ∧ t ≠ 65 ∧ t ≠ 78 ∧ t ≠ 94) : JR w' N X acc rs := by
  obtain ⟨S, sl, h1, h2⟩ := h
  obtain ⟨T, hT, hty⟩ := hf
  have hF : FrT ty N w w' := ⟨T, hT, hty⟩
  obtain ⟨us, k1, k2⟩ := h1.st
  refine ⟨S, sl, ⟨hF.keep h1.obj (fun hm => (hd _ hm).1 rfl), ⟨us, ⟨hF.keep k1.obj (fun hm => (hd _ hm).2.1 rfl), owns_keep k1.row hT (fun k hk hm => ?_)⟩, k2.kept (fun b c t ht e => hF.keep e (fun hm => by rcases ht with rfl | rfl; exact (hd _ hm).2.2.2.1 rfl; exact (hd _ hm).2.2.2.2 rfl))⟩, h1.a64⟩, h2⟩
  obtain ⟨cur, hc⟩ := owns_block k1.row hk
  obtain ⟨_, c', t', e, ht'⟩ := hty k hm
  rw [hc] at e
  simp at e
  rw [← e.2] at ht'
  exact (hd _ ht').2.2.1 rfl
theorem JR.keepM {w w' : World} {N X : Nat} {acc : Int} {rs : List Code} (h : JR w N X acc rs) (hf : FrT [70, 105, 119] N w w') : JR w' N X acc rs := h.keepT hf (by decide)
theorem JR.keep0 {w w' : World} {N X : Nat} {acc : Int} {rs : List Code} (h : JR w N X acc rs) (hf : Fr [] w w') : JR w' N X acc rs := h.keepM (FrT.of0 hf)
theorem FrT.frz {ty : List TypeId} {N : Nat} {a b c : World} {T : List Nat} (h : FrT ty N a b) (k : Fr T b c) (hT : ∀ i ∈ T, a.heap.size ≤ i) : FrT ty N a c := by
  obtain ⟨U, h1, h2⟩ := h
  exact ⟨U, h1.narrow k (fun i hi => Or.inr (hT i hi)), h2⟩

theorem run_all {w : World} {M S : Nat} {sl : Value} {acc : Int} {rs : List Code} (h : Mc w M S sl acc rs) (hw : Wf rs) (p : ByteArray) :
    Calls Try.prog 27 #[.pointer (some ⟨M, 0, none⟩), .string p] w (SOut w M S sl (run p acc rs)) := by
  by_cases hp : p.size ≤ 24
  · exact run_any h hw p (by omega)
  · have e : run p acc rs = (0, 1, acc, rs) := by unfold run; rw [if_pos (by omega)]
    rw [e]
    have H : Hid (Mc w M S sl acc rs) := h
    clear h hw e
    go_enter Try.func27, Try.ntmps27
    go_wp2
    go_ret2
    exact ⟨rfl, sl, H.out, Mw.refl _ _ _ _⟩
end Go.Proofs.Qxb6500336a
