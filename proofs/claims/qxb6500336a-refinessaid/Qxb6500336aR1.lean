import Derived.Test.Qxb6500336aW22
namespace Go.Proofs.Qxb6500336a
open Go.RowKit
set_option linter.unusedVariables false
set_option linter.unusedSimpArgs false

/-- The four cells of a value of the model: tag, number, string, kids. -/
def cells4 (tag n : Int) (s : ByteArray) (ks : Value) : List Value := [.int .i64 tag, .int .i64 n, .string s, ks]

/-- The slice ks holds the values in 'vs' (each four cells) at a block that is not in A. -/
def RowAt (w : World) (A : List Nat) (ks : Value) (vs : List (List Value)) : Prop :=
  (vs = [] ∧ ks = .slice none 0 0) ∨
  ∃ g off cap cur, vs ≠ [] ∧ ks = .slice (some ⟨g, off, none⟩) vs.length cap ∧ w.heap[g]? = some (.cells cur 119) ∧ g ∉ A ∧ (∀ j u, vs.flatten[j]? = some u → cur[off + j]? = some u)

def leafM : Operand → List (List Value) → Prop
  | .const (.int .i64 n), c => c = [cells4 1 n ⟨#[]⟩ (.slice none 0 0)] ∧ w64 n
  | .const (.string s), c => c = [cells4 2 0 s (.slice none 0 0)]
  | _, _ => False

/-- m = false: the one value in vs shows the tree t; m = true: the values in vs are the elements of the list t. -/
def Ms (w : World) (A : List Nat) : Bool → Code → List (List Value) → Prop
  | m, .rangeFunc o _ _ _, vs => if m then False else leafM o vs
  | m, .skip, vs => if m then vs = [] else vs = [cells4 3 0 ⟨#[]⟩ (.slice none 0 0)]
  | m, .seq h t, vs => if m then (∃ v us, vs = v :: us ∧ Ms w A false h [v] ∧ Ms w A true t us) else (∃ ks v us, vs = [cells4 3 0 ⟨#[]⟩ ks] ∧ RowAt w A ks (v :: us) ∧ Ms w A false h [v] ∧ Ms w A true t us)
  | m, .cond _ a b, vs => if m then False else (∃ ks u v, vs = [cells4 4 0 ⟨#[]⟩ ks] ∧ RowAt w A ks [u, v] ∧ Ms w A false a [u] ∧ Ms w A false b [v])
  | _, _, _ => False

theorem RowAt.kept {w w' : World} {A B : List Nat} {ks : Value} {vs : List (List Value)} (h : RowAt w A ks vs) (hf : Fr A w w') (hB : ∀ b, b ∈ B → b ∈ A ∨ w.heap.size ≤ b) : RowAt w' B ks vs := by
  rcases h with h | ⟨g, off, cap, cur, h0, h1, h2, h3, h4⟩
  · exact Or.inl h
  · refine Or.inr ⟨g, off, cap, cur, h0, h1, hf.keep h2 h3, fun hb => ?_, h4⟩
    have := blk_lt h2
    rcases hB g hb with h5 | h5
    · exact h3 h5
    · omega
theorem Ms.kept {w w' : World} {A B : List Nat} (hf : Fr A w w') (hB : ∀ b, b ∈ B → b ∈ A ∨ w.heap.size ≤ b) : ∀ (t : Code) (m : Bool) (vs : List (List Value)), Ms w A m t vs → Ms w' B m t vs := by
  intro t
  induction t with
  | skip => intro m vs h; cases m <;> exact h
  | seq a b iha ihb =>
    intro m vs h
    cases m with
    | false =>
      obtain ⟨ks, v, us, h1, h2, h3, h4⟩ := h
      exact ⟨ks, v, us, h1, h2.kept hf hB, iha _ _ h3, ihb _ _ h4⟩
    | true =>
      obtain ⟨v, us, h1, h3, h4⟩ := h
      exact ⟨v, us, h1, iha _ _ h3, ihb _ _ h4⟩
  | cond c a b iha ihb =>
    intro m vs h
    cases m with
    | false =>
      obtain ⟨ks, u, v, h1, h2, h3, h4⟩ := h
      exact ⟨ks, u, v, h1, h2.kept hf hB, iha _ _ h3, ihb _ _ h4⟩
    | true => exact h.elim
  | rangeFunc o p a b _ _ => intro m vs h; cases m <;> exact h
  | _ => intro m vs h; exact h.elim

/-- The values of a row of trees. -/
def MsL (w : World) (A : List Nat) : List Code → List (List Value) → Prop
  | [], [] => True
  | t :: ts, v :: vs => Ms w A false t [v] ∧ MsL w A ts vs
  | _, _ => False
theorem MsL.kept {w w' : World} {A B : List Nat} (hf : Fr A w w') (hB : ∀ b, b ∈ B → b ∈ A ∨ w.heap.size ≤ b) : ∀ {ts : List Code} {vs : List (List Value)}, MsL w A ts vs → MsL w' B ts vs
  | [], [], _ => trivial
  | t :: ts, v :: vs, h => ⟨Ms.kept hf hB _ _ _ h.1, MsL.kept hf hB h.2⟩
theorem MsL.len {w : World} {A : List Nat} : ∀ {ts : List Code} {vs : List (List Value)}, MsL w A ts vs → vs.length = ts.length
  | [], [], _ => rfl
  | t :: ts, v :: vs, h => by simp [MsL.len h.2]
theorem MsL.get {w : World} {A : List Nat} : ∀ {ts : List Code} {vs : List (List Value)}, MsL w A ts vs → ∀ {j : Nat} {v : List Value}, vs[j]? = some v → ∃ t, ts[j]? = some t ∧ Ms w A false t [v]
  | [], [], _, j, v, h => by simp at h
  | t :: ts, v :: vs, h, 0, x, hx => by simp at hx; subst hx; exact ⟨t, rfl, h.1⟩
  | t :: ts, v :: vs, h, j + 1, x, hx => by
    obtain ⟨t', h1, h2⟩ := MsL.get h.2 (j := j) (v := x) (by simpa using hx)
    exact ⟨t', by simpa using h1, h2⟩
theorem Ms.rest {w : World} {A : List Nat} : ∀ (t : Code) (vs : List (List Value)), Ms w A true t vs → MsL w A (kids t) vs ∧ isL t = true := by
  intro t
  induction t with
  | skip => intro vs h; cases h; exact ⟨trivial, rfl⟩
  | seq a b _ ihb =>
    intro vs h
    obtain ⟨v, us, rfl, h3, h4⟩ := h
    exact ⟨⟨h3, (ihb _ h4).1⟩, rfl⟩
  | _ => intro vs h; exact h.elim

/-- The four kinds of the model's values. -/
theorem Ms.kinds {w : World} {A : List Nat} {t : Code} {v : List Value} (h : Ms w A false t [v]) :
    (∃ n, isI t = some n ∧ isS t = none ∧ isL t = false ∧ isP t = none ∧ kids t = [] ∧ v = cells4 1 n ⟨#[]⟩ (.slice none 0 0) ∧ w64 n ∧ tx false t = itoa n) ∨
    (∃ s, isI t = none ∧ isS t = some s ∧ isL t = false ∧ isP t = none ∧ kids t = [] ∧ v = cells4 2 0 s (.slice none 0 0) ∧ tx false t = (itoa s.size ++ ⟨#[58]⟩) ++ s) ∨
    (∃ ks vs, isI t = none ∧ isS t = none ∧ isL t = true ∧ isP t = none ∧ v = cells4 3 0 ⟨#[]⟩ ks ∧ RowAt w A ks vs ∧ MsL w A (kids t) vs) ∨
    (∃ ks vs, isI t = none ∧ isS t = none ∧ isL t = false ∧ (isP t).isSome = true ∧ v = cells4 4 0 ⟨#[]⟩ ks ∧ RowAt w A ks vs ∧ MsL w A (kids t) vs ∧ vs.length = 2) := by
  cases t with
  | skip =>
    have h1 : [v] = [cells4 3 0 ⟨#[]⟩ (.slice none 0 0)] := h
    simp at h1
    exact Or.inr (Or.inr (Or.inl ⟨_, [], rfl, rfl, rfl, rfl, h1, Or.inl ⟨rfl, rfl⟩, trivial⟩))
  | seq a b =>
    obtain ⟨ks, u, us, h1, h2, h3, h4⟩ := h
    simp at h1
    exact Or.inr (Or.inr (Or.inl ⟨ks, u :: us, rfl, rfl, rfl, rfl, h1, h2, h3, (Ms.rest _ _ h4).1⟩))
  | cond c a b =>
    obtain ⟨ks, x, y, h1, h2, h3, h4⟩ := h
    simp at h1
    exact Or.inr (Or.inr (Or.inr ⟨ks, [x, y], rfl, rfl, rfl, rfl, h1, h2, ⟨h3, h4, trivial⟩, rfl⟩))
  | rangeFunc o p a b =>
    have h' : leafM o [v] := h
    unfold leafM at h'
    split at h'
    · simp at h'
      exact Or.inl ⟨_, rfl, rfl, rfl, rfl, rfl, h'.1, h'.2, rfl⟩
    · simp at h'
      exact Or.inr (Or.inl ⟨_, rfl, rfl, rfl, rfl, rfl, h', rfl⟩)
    · exact h'.elim
  | _ => exact h.elim
end Go.Proofs.Qxb6500336a
