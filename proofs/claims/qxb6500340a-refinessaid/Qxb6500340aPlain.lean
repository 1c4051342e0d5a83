/-
  THE PLAIN BANK: the banker's rule. No Go in sight.
-/
import Derived.WalkKit
namespace Go.Proofs.Qxb6500340a
set_option linter.unusedVariables false

structure Vc where
  a : Int
  b : Int

def Vc.add (x y : Vc) : Vc := ⟨x.a + y.a, x.b + y.b⟩
def Vc.sub (x y : Vc) : Vc := ⟨x.a - y.a, x.b - y.b⟩
def leB (x y : Vc) : Bool := decide (x.a ≤ y.a ∧ x.b ≤ y.b)
def zeroV : Vc := ⟨0, 0⟩
def totV : Vc := ⟨5, 3⟩

theorem leB_iff {x y : Vc} : leB x y = true ↔ x.a ≤ y.a ∧ x.b ≤ y.b := by simp [leB]
theorem leB_no {x y : Vc} : leB x y = false ↔ ¬ (x.a ≤ y.a ∧ x.b ≤ y.b) := by
  rw [← leB_iff]; cases leB x y <;> simp

/-- The books: what is available, which slots are live, what each needs and holds. -/
structure St where
  av : Vc
  live : Nat → Bool
  need : Nat → Vc
  held : Nat → Vc

def upd {α : Type} (f : Nat → α) (p : Nat) (v : α) : Nat → α := fun q => if q = p then v else f q
theorem upd_same {α : Type} (f : Nat → α) (p : Nat) (v : α) : upd f p v p = v := by simp [upd]
theorem upd_other {α : Type} (f : Nat → α) (p q : Nat) (v : α) (h : q ≠ p) : upd f p v q = f q := by simp [upd, h]

/-- Slot p can run now. -/
def elig (s : St) (done : Nat → Bool) (wk : Vc) (p : Nat) : Bool := !done p && s.live p && leB (s.need p) wk
/-- The lowest slot from p on (below 4) that can run. -/
def pickFrom (s : St) (done : Nat → Bool) (wk : Vc) : Nat → Nat → Option Nat
  | 0, _ => none
  | n + 1, p => if elig s done wk p then some p else pickFrom s done wk n (p + 1)
def pick (s : St) (done : Nat → Bool) (wk : Vc) : Option Nat := pickFrom s done wk 4 0

structure Rn where
  wk : Vc
  done : Nat → Bool
  ord : List Nat

def rstep (s : St) (r : Rn) : Rn :=
  match pick s r.done r.wk with
  | none => r
  | some p => ⟨r.wk.add (s.held p), upd r.done p true, r.ord ++ [p]⟩
def run (s : St) : Nat → Rn
  | 0 => ⟨s.av, fun _ => false, []⟩
  | n + 1 => rstep s (run s n)

theorem pickFrom_none {s : St} {done : Nat → Bool} {wk : Vc} {n p : Nat} (h : pickFrom s done wk n p = none) : ∀ q, p ≤ q → q < p + n → elig s done wk q = false := by
  induction n generalizing p with
  | zero => intro q h1 h2; omega
  | succ n ih =>
    intro q h1 h2
    simp only [pickFrom] at h
    split at h
    · simp at h
    · rename_i he
      by_cases hq : q = p
      · subst hq; simpa using he
      · exact ih h q (by omega) (by omega)

theorem pickFrom_some {s : St} {done : Nat → Bool} {wk : Vc} {n p q : Nat} (h : pickFrom s done wk n p = some q) :
    p ≤ q ∧ q < p + n ∧ elig s done wk q = true ∧ ∀ r, p ≤ r → r < q → elig s done wk r = false := by
  induction n generalizing p with
  | zero => simp [pickFrom] at h
  | succ n ih =>
    simp only [pickFrom] at h
    split at h
    · rename_i he
      simp at h; subst h
      exact ⟨by omega, by omega, he, fun r h1 h2 => by omega⟩
    · rename_i he
      obtain ⟨h1, h2, h3, h4⟩ := ih h
      refine ⟨by omega, by omega, h3, fun r h5 h6 => ?_⟩
      by_cases hr : r = p
      · subst hr; simpa using he
      · exact h4 r (by omega) h6

theorem pickFrom_at {s : St} {done : Nat → Bool} {wk : Vc} {n p q : Nat} (h1 : p ≤ q) (h2 : q < p + n) (h3 : elig s done wk q = true) (h4 : ∀ r, p ≤ r → r < q → elig s done wk r = false) :
    pickFrom s done wk n p = some q := by
  induction n generalizing p with
  | zero => omega
  | succ n ih =>
    simp only [pickFrom]
    by_cases hp : p = q
    · subst hp; rw [if_pos h3]
    · rw [if_neg (by rw [h4 p (by omega) (by omega)]; simp)]
      exact ih (by omega) (by omega) (fun r h5 h6 => h4 r (by omega) h6)

theorem pickFrom_all {s : St} {done : Nat → Bool} {wk : Vc} {n p : Nat} (h : ∀ r, p ≤ r → r < p + n → elig s done wk r = false) : pickFrom s done wk n p = none := by
  induction n generalizing p with
  | zero => rfl
  | succ n ih =>
    simp only [pickFrom]
    rw [if_neg (by rw [h p (by omega) (by omega)]; simp)]
    exact ih (fun r h5 h6 => h r (by omega) (by omega))

theorem pick_none {s : St} {done : Nat → Bool} {wk : Vc} (h : pick s done wk = none) : ∀ q, q < 4 → elig s done wk q = false := fun q hq => pickFrom_none h q (by omega) (by omega)
theorem pick_some {s : St} {done : Nat → Bool} {wk : Vc} {q : Nat} (h : pick s done wk = some q) : q < 4 ∧ elig s done wk q = true ∧ ∀ r, r < q → elig s done wk r = false := by
  obtain ⟨_, h2, h3, h4⟩ := pickFrom_some h
  exact ⟨by omega, h3, fun r hr => h4 r (by omega) hr⟩
theorem pick_at {s : St} {done : Nat → Bool} {wk : Vc} {q : Nat} (h2 : q < 4) (h3 : elig s done wk q = true) (h4 : ∀ r, r < q → elig s done wk r = false) : pick s done wk = some q :=
  pickFrom_at (by omega) (by omega) h3 (fun r _ hr => h4 r hr)
theorem pick_all {s : St} {done : Nat → Bool} {wk : Vc} (h : ∀ r, r < 4 → elig s done wk r = false) : pick s done wk = none :=
  pickFrom_all (fun r _ hr => h r (by omega))

/-! ### Orders -/
/-- With work wk at the start each slot named has in its turn need <= work. -/
def acc (s : St) : Vc → List Nat → Prop
  | _, [] => True
  | wk, p :: l => leB (s.need p) wk = true ∧ acc s (wk.add (s.held p)) l
/-- The order names every live slot that is not done exactly once and nothing else. -/
structure Full (s : St) (done : Nat → Bool) (l : List Nat) : Prop where
  nodup : l.Nodup
  lt : ∀ p, p ∈ l → p < 4
  mem : ∀ p, p < 4 → (p ∈ l ↔ s.live p = true ∧ done p = false)
/-- Some order is accepted. -/
def Comp (s : St) (done : Nat → Bool) (wk : Vc) : Prop := ∃ l, Full s done l ∧ acc s wk l

structure Pos (s : St) : Prop where
  held : ∀ p, p < 4 → 0 ≤ (s.held p).a ∧ 0 ≤ (s.held p).b

theorem acc_mono {s : St} {w w' : Vc} {l : List Nat} (h : w.a ≤ w'.a ∧ w.b ≤ w'.b) (ha : acc s w l) : acc s w' l := by
  induction l generalizing w w' with
  | nil => trivial
  | cons p l ih =>
    obtain ⟨h1, h2⟩ := ha
    rw [leB_iff] at h1
    refine ⟨leB_iff.2 ⟨by omega, by omega⟩, ih ?_ h2⟩
    simp only [Vc.add]; omega

theorem acc_front {s : St} (hp : Pos s) {w : Vc} {l : List Nat} {p : Nat} (hlt : ∀ q, q ∈ l → q < 4) (ha : acc s w l) (hm : p ∈ l) : acc s (w.add (s.held p)) (l.erase p) := by
  induction l generalizing w with
  | nil => cases hm
  | cons q l ih =>
    obtain ⟨h1, h2⟩ := ha
    by_cases hq : q = p
    · subst hq
      rw [List.erase_cons_head]
      exact h2
    · rw [List.erase_cons_tail (by simpa using hq)]
      have hm' : p ∈ l := by
        rcases List.mem_cons.1 hm with h | h
        · exact absurd h.symm hq
        · exact h
      have hpp := hp.held p (hlt p hm)
      refine ⟨?_, ?_⟩
      · rw [leB_iff] at h1 ⊢
        simp only [Vc.add]; omega
      · have := ih (fun q hq => hlt q (List.mem_cons_of_mem _ hq)) h2 hm'
        refine acc_mono ?_ this
        simp only [Vc.add]; omega

theorem Full.erase {s : St} {done : Nat → Bool} {l : List Nat} {p : Nat} (h : Full s done l) (hp : p < 4) : Full s (upd done p true) (l.erase p) := by
  refine ⟨h.nodup.erase p, fun q hq => h.lt q (List.mem_of_mem_erase hq), fun q hq => ?_⟩
  rw [h.nodup.mem_erase_iff]
  by_cases e : q = p
  · subst e; simp [upd_same]
  · rw [upd_other _ _ _ _ e, h.mem q hq]
    simp [e]

theorem Full.cons {s : St} {done : Nat → Bool} {l : List Nat} {p : Nat} (h : Full s (upd done p true) l) (hp : p < 4) (hl : s.live p = true) (hd : done p = false) : Full s done (p :: l) := by
  have hn : p ∉ l := fun hm => by
    have := (h.mem p hp).1 hm
    rw [upd_same] at this
    exact absurd this.2 (by simp)
  refine ⟨List.nodup_cons.2 ⟨hn, h.nodup⟩, fun q hq => ?_, fun q hq => ?_⟩
  · rcases List.mem_cons.1 hq with rfl | hq
    · exact hp
    · exact h.lt q hq
  · rw [List.mem_cons]
    by_cases e : q = p
    · subst e; simp [hl, hd]
    · rw [h.mem q hq, upd_other _ _ _ _ e]; simp [e]

theorem elig_iff {s : St} {done : Nat → Bool} {wk : Vc} {p : Nat} : elig s done wk p = true ↔ done p = false ∧ s.live p = true ∧ leB (s.need p) wk = true := by
  unfold elig; cases done p <;> cases s.live p <;> simp

/-- Whoever can run now may run first. -/
theorem Comp.take {s : St} (hs : Pos s) {done : Nat → Bool} {wk : Vc} {p : Nat} (h : Comp s done wk) (hp : p < 4) (he : elig s done wk p = true) : Comp s (upd done p true) (wk.add (s.held p)) := by
  obtain ⟨l, h1, h2⟩ := h
  obtain ⟨hd, hl, _⟩ := elig_iff.1 he
  exact ⟨l.erase p, h1.erase hp, acc_front hs h1.lt h2 ((h1.mem p hp).2 ⟨hl, hd⟩)⟩

theorem Comp.give {s : St} {done : Nat → Bool} {wk : Vc} {p : Nat} (h : Comp s (upd done p true) (wk.add (s.held p))) (hp : p < 4) (he : elig s done wk p = true) : Comp s done wk := by
  obtain ⟨l, h1, h2⟩ := h
  obtain ⟨hd, hl, hn⟩ := elig_iff.1 he
  exact ⟨p :: l, h1.cons hp hl hd, hn, h2⟩

/-- While some live slot is not done, some slot can run. -/
theorem Comp.some {s : St} {done : Nat → Bool} {wk : Vc} (h : Comp s done wk) (hn : ∀ p, p < 4 → elig s done wk p = false) : ∀ p, p < 4 → s.live p = true → done p = true := by
  obtain ⟨l, h1, h2⟩ := h
  intro p hp hl
  cases hd : done p with
  | true => rfl
  | false =>
    have hm := (h1.mem p hp).2 ⟨hl, hd⟩
    cases l with
    | nil => cases hm
    | cons q l =>
      exfalso
      obtain ⟨a1, a2⟩ := h2
      have hq := h1.lt q (by simp)
      have h3 := (h1.mem q hq).1 (by simp)
      have h4 := hn q hq
      rw [elig_iff.2 ⟨h3.2, h3.1, a1⟩] at h4
      simp at h4

/-! ### Counting -/
def b1 (b : Bool) : Nat := if b then 1 else 0
def cd (d : Nat → Bool) : Nat := b1 (d 0) + b1 (d 1) + b1 (d 2) + b1 (d 3)
theorem b1_le (b : Bool) : b1 b ≤ 1 := by cases b <;> simp [b1]
theorem b1_t {b : Bool} (h : b1 b = 1) : b = true := by cases b <;> simp_all [b1]
theorem cd_upd {d : Nat → Bool} {p : Nat} (hp : p < 4) (h : d p = false) : cd (upd d p true) = cd d + 1 := by
  rcases (by omega : p = 0 ∨ p = 1 ∨ p = 2 ∨ p = 3) with rfl | rfl | rfl | rfl <;> simp [cd, upd, h, b1] <;> omega
theorem cd_full {d : Nat → Bool} (h : 4 ≤ cd d) : ∀ p, p < 4 → d p = true := by
  have h0 := b1_le (d 0); have h1 := b1_le (d 1); have h2 := b1_le (d 2); have h3 := b1_le (d 3)
  unfold cd at h
  intro p hp
  rcases (by omega : p = 0 ∨ p = 1 ∨ p = 2 ∨ p = 3) with rfl | rfl | rfl | rfl <;> exact b1_t (by omega)
theorem b1_mono {a b : Bool} (h : a = true → b = true) : b1 a ≤ b1 b := by cases a <;> cases b <;> simp_all [b1]
theorem cd_same {d e : Nat → Bool} (h : ∀ p, p < 4 → d p = true → e p = true) (hc : cd e ≤ cd d) : ∀ p, p < 4 → d p = e p := by
  have h0 := b1_mono (h 0 (by omega)); have h1 := b1_mono (h 1 (by omega)); have h2 := b1_mono (h 2 (by omega)); have h3 := b1_mono (h 3 (by omega))
  unfold cd at hc
  have key : ∀ {a b : Bool}, b1 a = b1 b → a = b := by intro a b; cases a <;> cases b <;> simp [b1]
  intro p hp
  rcases (by omega : p = 0 ∨ p = 1 ∨ p = 2 ∨ p = 3) with rfl | rfl | rfl | rfl <;> exact key (by omega)

/-! ### The greedy run -/
theorem rstep_none {s : St} {r : Rn} (h : pick s r.done r.wk = none) : rstep s r = r := by unfold rstep; rw [h]
theorem rstep_some {s : St} {r : Rn} {p : Nat} (h : pick s r.done r.wk = some p) : rstep s r = ⟨r.wk.add (s.held p), upd r.done p true, r.ord ++ [p]⟩ := by unfold rstep; rw [h]

theorem run_count (s : St) (n : Nat) : n ≤ cd (run s n).done ∨ pick s (run s n).done (run s n).wk = none := by
  induction n with
  | zero => left; omega
  | succ n ih =>
    simp only [run]
    cases hp : pick s (run s n).done (run s n).wk with
    | none => rw [rstep_none hp]; exact Or.inr hp
    | some p =>
      rw [rstep_some hp]
      obtain ⟨h1, h2, _⟩ := pick_some hp
      left
      show n + 1 ≤ cd (upd (run s n).done p true)
      rw [cd_upd h1 (elig_iff.1 h2).1]
      rcases ih with h | h
      · omega
      · rw [h] at hp; simp at hp

theorem run_stuck (s : St) : pick s (run s 4).done (run s 4).wk = none := by
  rcases run_count s 4 with h | h
  · refine pick_all (fun p hp => ?_)
    unfold elig
    rw [cd_full h p hp]; rfl
  · exact h

/-- What the run has named so far. -/
structure Named (s : St) (r : Rn) : Prop where
  live : ∀ p, p < 4 → r.done p = true → s.live p = true
  comp : Comp s r.done r.wk → Comp s (fun _ => false) s.av
  back : Pos s → Comp s (fun _ => false) s.av → Comp s r.done r.wk

theorem run_named (s : St) (n : Nat) : Named s (run s n) := by
  induction n with
  | zero => exact ⟨fun p hp h => by simp [run] at h, fun h => h, fun _ h => h⟩
  | succ n ih =>
    simp only [run]
    cases hp : pick s (run s n).done (run s n).wk with
    | none => rw [rstep_none hp]; exact ih
    | some p =>
      rw [rstep_some hp]
      obtain ⟨h1, h2, _⟩ := pick_some hp
      refine ⟨fun q hq h => ?_, fun h => ih.comp (h.give h1 h2), fun hs h => (ih.back hs h).take hs h1 h2⟩
      by_cases e : q = p
      · subst e; exact (elig_iff.1 h2).2.1
      · simp only [upd_other _ _ _ _ e] at h; exact ih.live q hq h

/-- The run names all that is live. -/
def gOk (s : St) : Prop := ∀ p, p < 4 → (run s 4).done p = s.live p

theorem comp_all {s : St} {done : Nat → Bool} {wk : Vc} (h : ∀ p, p < 4 → done p = s.live p) : Comp s done wk :=
  ⟨[], ⟨List.nodup_nil, fun p hp => (by cases hp), fun p hp => by rw [h p hp]; cases s.live p <;> simp⟩, trivial⟩

theorem gOk_iff {s : St} (hs : Pos s) : gOk s ↔ Comp s (fun _ => false) s.av := by
  have hn := run_named s 4
  constructor
  · intro h; exact hn.comp (comp_all h)
  · intro h p hp
    have h1 := (hn.back hs h).some (pick_none (run_stuck s)) p hp
    cases hd : (run s 4).done p with
    | true => rw [hn.live p hp hd]
    | false =>
      cases hl : s.live p with
      | false => rfl
      | true => rw [h1 hl] at hd; simp at hd

/-! ### The canonical order, as a list -/
def can (s : St) : Nat → (Nat → Bool) → Vc → List Nat
  | 0, _, _ => []
  | n + 1, done, wk =>
    match pick s done wk with
    | none => []
    | some p => p :: can s n (upd done p true) (wk.add (s.held p))

theorem run_can (s : St) (n : Nat) : ∀ m, (run s m).ord ++ can s n (run s m).done (run s m).wk = (run s (m + n)).ord := by
  induction n with
  | zero => intro m; simp [can]
  | succ n ih =>
    intro m
    have h := ih (m + 1)
    rw [show m + 1 + n = m + (n + 1) from by omega] at h
    rw [← h]
    simp only [run, can]
    cases hp : pick s (run s m).done (run s m).wk with
    | none =>
      rw [rstep_none hp]
      cases n with
      | zero => simp [can]
      | succ n => simp [can, hp]
    | some p => rw [rstep_some hp]; simp

theorem ord_can (s : St) : (run s 4).ord = can s 4 (fun _ => false) s.av := by
  have := run_can s 4 0
  simpa [run] using this.symm

end Go.Proofs.Qxb6500340a
