import Derived.Test.Qxb6500340aPlain
namespace Go.Proofs.Qxb6500340a
set_option linter.unusedVariables false

/-! ### The law's judge, on any string -/
def jl (s : St) : (Nat → Bool) → Vc → List UInt8 → Bool
  | _, _, [] => true
  | seen, wk, c :: l =>
    if 48 ≤ c.toNat ∧ c.toNat < 52 ∧ s.live (c.toNat - 48) = true ∧ seen (c.toNat - 48) = false ∧ leB (s.need (c.toNat - 48)) wk = true then
      jl s (upd seen (c.toNat - 48) true) (wk.add (s.held (c.toNat - 48))) l
    else false
def nlive (s : St) : Nat := cd s.live
def judgeB (s : St) (l : List UInt8) : Bool := decide (l.length = nlive s) && jl s (fun _ => false) s.av l

/-- at no place could a lower live slot that was not yet named have run in its stead. -/
def ll (s : St) : (Nat → Bool) → Vc → List UInt8 → Bool
  | _, _, [] => true
  | seen, wk, c :: l =>
    (decide (∀ q, q < c.toNat - 48 → elig s seen wk q = false)) && ll s (upd seen (c.toNat - 48) true) (wk.add (s.held (c.toNat - 48))) l

def dgs (l : List Nat) : List UInt8 := l.map fun p => UInt8.ofNat (48 + p)
theorem dg_nat {p : Nat} (h : p < 4) : (UInt8.ofNat (48 + p)).toNat = 48 + p := by simp; omega

/-- A judged order: all is accepted, step by step. -/
theorem jl_comp {s : St} {seen : Nat → Bool} {wk : Vc} {l : List UInt8} (h : jl s seen wk l = true) (hs : ∀ p, p < 4 → seen p = true → s.live p = true) (hc : cd seen + l.length = nlive s) : Comp s seen wk := by
  induction l generalizing seen wk with
  | nil =>
    refine comp_all (cd_same hs ?_)
    simp at hc; unfold nlive at hc; omega
  | cons c l ih =>
    simp only [jl] at h
    split at h
    · rename_i hh
      obtain ⟨h1, h2, h3, h4, h5⟩ := hh
      have he : elig s seen wk (c.toNat - 48) = true := elig_iff.2 ⟨h4, h3, h5⟩
      refine Comp.give (ih h (fun p hp hq => ?_) ?_) (by omega) he
      · by_cases e : p = c.toNat - 48
        · subst e; exact h3
        · rw [upd_other _ _ _ _ e] at hq; exact hs p hp hq
      · rw [cd_upd (by omega) h4]; simp at hc; omega
    · simp at h

theorem judge_comp {s : St} {l : List UInt8} (h : judgeB s l = true) : Comp s (fun _ => false) s.av := by
  unfold judgeB at h
  simp at h
  refine jl_comp h.2 (fun p _ h => by simp at h) ?_
  rw [h.1]; simp [cd, b1]

/-- The canonical order is accepted, and it is the least. -/
theorem can_judge {s : St} {n : Nat} {done : Nat → Bool} {wk : Vc} : jl s done wk (dgs (can s n done wk)) = true ∧ ll s done wk (dgs (can s n done wk)) = true := by
  induction n generalizing done wk with
  | zero => simp [can, dgs, jl, ll]
  | succ n ih =>
    simp only [can]
    cases hp : pick s done wk with
    | none => simp [dgs, jl, ll]
    | some p =>
      obtain ⟨h1, h2, h3⟩ := pick_some hp
      obtain ⟨e1, e2, e3⟩ := elig_iff.1 h2
      have hd := dg_nat h1
      simp only [dgs, List.map_cons, jl, ll, hd]
      rw [show 48 + p - 48 = p from by omega]
      rw [if_pos ⟨by omega, by omega, e2, e1, e3⟩]
      refine ⟨ih.1, ?_⟩
      simp only [Bool.and_eq_true, decide_eq_true_eq]
      exact ⟨h3, ih.2⟩

theorem run_len (s : St) (n : Nat) : (run s n).ord.length = cd (run s n).done := by
  induction n with
  | zero => simp [run, cd, b1]
  | succ n ih =>
    simp only [run]
    cases hp : pick s (run s n).done (run s n).wk with
    | none => rw [rstep_none hp]; exact ih
    | some p =>
      rw [rstep_some hp]
      obtain ⟨h1, h2, _⟩ := pick_some hp
      show ((run s n).ord ++ [p]).length = cd (upd (run s n).done p true)
      rw [cd_upd h1 (elig_iff.1 h2).1, List.length_append, ih]; rfl

def ordB (s : St) : List UInt8 := dgs (run s 4).ord
theorem ord_judge {s : St} (h : gOk s) : judgeB s (ordB s) = true := by
  unfold judgeB ordB
  have h1 : (dgs (run s 4).ord).length = nlive s := by
    unfold dgs nlive
    rw [List.length_map, run_len]
    unfold cd
    rw [h 0 (by omega), h 1 (by omega), h 2 (by omega), h 3 (by omega)]
  rw [h1, ord_can]
  simp [can_judge.1]
theorem ord_least (s : St) : ll s (fun _ => false) s.av (ordB s) = true := by
  unfold ordB; rw [ord_can]; exact can_judge.2

/-! ### The books' invariant -/
structure Inv (s : St) : Prop where
  suma : s.av.a + (s.held 0).a + (s.held 1).a + (s.held 2).a + (s.held 3).a = 5
  sumb : s.av.b + (s.held 0).b + (s.held 1).b + (s.held 2).b + (s.held 3).b = 3
  ava : 0 ≤ s.av.a
  avb : 0 ≤ s.av.b
  slot : ∀ p, p < 4 → 0 ≤ (s.held p).a ∧ 0 ≤ (s.held p).b ∧ 0 ≤ (s.need p).a ∧ 0 ≤ (s.need p).b ∧ (s.held p).a + (s.need p).a ≤ 5 ∧ (s.held p).b + (s.need p).b ≤ 3
  idle : ∀ p, p < 4 → s.live p = false → (s.held p).a = 0 ∧ (s.held p).b = 0 ∧ (s.need p).a = 0 ∧ (s.need p).b = 0
  safe : Comp s (fun _ => false) s.av

theorem Inv.pos {s : St} (h : Inv s) : Pos s := ⟨fun p hp => ⟨(h.slot p hp).1, (h.slot p hp).2.1⟩⟩
theorem Inv.gok {s : St} (h : Inv s) : gOk s := (gOk_iff h.pos).2 h.safe

theorem acc_congr {s t : St} {l : List Nat} (h : ∀ p, p ∈ l → s.need p = t.need p ∧ s.held p = t.held p) {w : Vc} (ha : acc s w l) : acc t w l := by
  induction l generalizing w with
  | nil => trivial
  | cons p l ih =>
    obtain ⟨h1, h2⟩ := ha
    obtain ⟨e1, e2⟩ := h p (by simp)
    refine ⟨by rw [← e1]; exact h1, ?_⟩
    rw [← e2]
    exact ih (fun q hq => h q (by simp [hq])) h2

/-- All that was accepted, added up. -/
def sumH (s : St) : List Nat → Vc
  | [] => zeroV
  | p :: l => (s.held p).add (sumH s l)
theorem acc_snoc {s : St} {l : List Nat} {p : Nat} {w : Vc} (ha : acc s w l) (hp : leB (s.need p) (w.add (sumH s l)) = true) : acc s w (l ++ [p]) := by
  induction l generalizing w with
  | nil => refine ⟨?_, trivial⟩; simpa [sumH, zeroV, Vc.add] using hp
  | cons q l ih =>
    obtain ⟨h1, h2⟩ := ha
    refine ⟨h1, ih h2 ?_⟩
    rw [leB_iff] at hp ⊢
    simp only [sumH, Vc.add] at hp ⊢
    omega

end Go.Proofs.Qxb6500340a
