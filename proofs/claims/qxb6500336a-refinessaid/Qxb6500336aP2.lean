import Derived.Test.Qxb6500336aW25
namespace Go.Proofs.Qxb6500336a
open Go.RowKit
set_option linter.unusedVariables false
set_option linter.unusedSimpArgs false

theorem Wf.tail {t : Code} {ts : List Code} (h : Wf (t :: ts)) : Wf ts := ⟨by have := h.1; simp at this; omega, fun x hx => h.2 x (by simp [hx])⟩
theorem Wf.put {t : Code} {ts : List Code} (h : Wf ts) (hl : ts.length ≤ 4) (ht : (tx false t).size ≤ 30) : Wf (t :: ts) := ⟨by simp; omega, fun x hx => by
  rcases List.mem_cons.1 hx with rfl | hx
  · exact ht
  · exact h.2 x hx⟩
theorem Wf.rep {t a : Code} {ts : List Code} (h : Wf (a :: ts)) (ht : (tx false t).size ≤ 30) : Wf (t :: ts) := h.tail.put (by have := h.1; simp at this; omega) ht
theorem pushW_wf {v : Code} {rs : List Code} (h : Wf rs) (hv : (tx false v).size ≤ 30) : Wf (pushW v rs).2 := by
  unfold pushW
  split
  · exact h
  · exact h.put (by omega) hv
theorem consW_wf {rs : List Code} (h : Wf rs) : Wf (consW rs).2 := by
  unfold consW
  split
  · split
    · split
      · rename_i hf; exact (h.tail).rep (by simpa [ft] using hf)
      · exact h
    · exact h
  · exact h
theorem pairW_wf {rs : List Code} (h : Wf rs) : Wf (pairW rs).2 := by
  unfold pairW
  split
  · split
    · rename_i hf; exact (h.tail).rep (by simpa [ft] using hf)
    · exact h
  · exact h
theorem addW_wf {rs : List Code} (h : Wf rs) : Wf (addW rs).2 := by
  unfold addW
  split
  · split
    · rename_i hf; exact (h.tail).rep (plusT_fits _ _ hf)
    · exact h
  · exact h
theorem negW_wf {rs : List Code} (h : Wf rs) : Wf (negW rs).2 := by
  unfold negW
  split
  · rename_i a r
    split
    · exact h.rep (tI_size _)
    · split
      · rename_i x y hp
        refine h.rep ?_
        cases a with
        | cond c u v =>
          simp [isP] at hp
          obtain ⟨rfl, rfl⟩ := hp
          rw [pair_swap_size c]
          exact h.2 _ (by simp)
        | _ => simp [isP] at hp
      · exact h
  · exact h
theorem lenW_wf {rs : List Code} (h : Wf rs) : Wf (lenW rs).2 := by
  unfold lenW
  split
  · split
    · exact h
    · split
      · exact h.rep (tI_size _)
      · exact h.rep (tI_size _)
  · exact h
theorem dupW_wf {rs : List Code} (h : Wf rs) : Wf (dupW rs).2 := by
  unfold dupW
  split
  · rename_i a r
    split
    · exact h
    · exact h.put (by simp; omega) (h.2 _ (by simp))
  · exact h
theorem dropW_wf {rs : List Code} (h : Wf rs) : Wf (dropW rs).2 := by
  unfold dropW
  split
  · exact h.tail
  · exact h
theorem findW_wf {rs : List Code} (h : Wf rs) : Wf (findW rs).2 := by
  unfold findW
  split
  · split
    · exact (h.tail).rep (tI_size _)
    · exact h
  · exact h
theorem foldT_fits : ∀ (l : List Code) (s : Code), (tx false s).size ≤ 30 → (foldT s l).1 = 0 → (tx false (foldT s l).2).size ≤ 30
  | [], s, h, _ => h
  | x :: r, s, h, h0 => by
    unfold foldT at *
    split at h0
    · rename_i h1
      rw [if_pos h1]
      exact foldT_fits r _ (plusT_fits _ _ h1) h0
    · rename_i h1; exact absurd h0 h1
theorem foldW_wf {rs : List Code} (h : Wf rs) : Wf (foldW rs).2 := by
  unfold foldW
  split
  · rename_i c r
    split
    · split
      · exact h
      · rename_i a l hk
        split
        · rename_i h0
          refine h.rep (foldT_fits l a ?_ h0)
          have := (kids_size c).2 a (by rw [hk]; simp)
          have := h.2 c (by simp)
          omega
        · exact h
    · exact h
  · exact h
theorem dblX_wf {rs : List Code} (h : Wf rs) : Wf (dblX rs).2 := by
  unfold dblX
  split
  · split
    · rename_i hf; exact h.rep (plusT_fits _ _ hf)
    · exact h
  · exact h
theorem sprX_wf {rs : List Code} (h : Wf rs) : Wf (sprX rs).2 := by
  unfold sprX
  split
  · rename_i c r
    split
    · split
      · rename_i hl
        refine ⟨by simp; omega, fun x hx => ?_⟩
        simp at hx
        rcases hx with hx | hx
        · have := (kids_size c).2 x hx
          have := h.2 c (by simp)
          omega
        · exact h.2 x (by simp [hx])
      · exact h
    · exact h
  · exact h
theorem echX_wf {rs : List Code} (h : Wf rs) : Wf (echX rs).2 := by
  unfold echX
  split
  · refine ⟨by simp; omega, fun x hx => ?_⟩
    simp at hx
    exact h.2 x (by simpa using hx)
  · exact h
theorem quoX_wf {rs : List Code} (h : Wf rs) : Wf (quoX rs).2 := by
  unfold quoX
  split
  · split
    · split
      · exact h
      · exact (h.tail).rep (tI_size _)
    · exact h
  · exact h
theorem extW_wf {k : Int} {rs : List Code} (h : Wf rs) : Wf (extW k rs).2 := by
  unfold extW
  split
  · exact dblX_wf h
  · split
    · exact sprX_wf h
    · split
      · exact echX_wf h
      · split
        · exact quoX_wf h
        · exact h
theorem numP_wf {p : ByteArray} {i : Nat} {rs : List Code} (h : Wf rs) : Wf (numP p i rs).2.2 := by
  unfold numP
  split
  · exact h
  · exact pushW_wf h (tI_size _)
theorem letP_wf {p : ByteArray} {i : Nat} {rs : List Code} (h : Wf rs) : Wf (letP p i rs).2.2 := by
  unfold letP
  split
  · exact h
  · refine pushW_wf h ?_
    show ((itoa ((p.extract (i + 1) (i + 2)).size : Nat) ++ ⟨#[58]⟩) ++ p.extract (i + 1) (i + 2)).size ≤ 30
    have h1 := itoa_size ((p.extract (i + 1) (i + 2)).size : Nat)
    have h2 : (p.extract (i + 1) (i + 2)).size ≤ 1 := by simp; omega
    have h3 : ByteArray.size ⟨#[58]⟩ = 1 := rfl
    simp only [ByteArray.size_append]
    omega
theorem setP_wf {acc : Int} {rs : List Code} (h : Wf rs) : Wf (setP acc rs).2.2 := by
  unfold setP; split
  · exact dropW_wf h
  · exact h
theorem divP_wf {acc : Int} {rs : List Code} (h : Wf rs) : Wf (divP acc rs).2.2 := by
  unfold divP; split
  · split
    · exact h
    · exact dropW_wf h
  · exact h
theorem modP_wf {acc : Int} {rs : List Code} (h : Wf rs) : Wf (modP acc rs).2.2 := by
  unfold modP; split
  · split
    · exact h
    · exact dropW_wf h
  · exact h
theorem lowP_wf {c : Nat} {rs : List Code} (h : Wf rs) {r : Int × List Code} (hr : lowP c rs = some r) : Wf r.2 := by
  unfold lowP at hr
  repeat' (split at hr)
  all_goals
    first
    | cases hr
    | skip
  all_goals
    first
    | exact addW_wf h
    | exact consW_wf h
    | exact dupW_wf h
    | exact findW_wf h
    | exact lenW_wf h
    | exact negW_wf h
    | exact pairW_wf h
    | exact foldW_wf h
    | exact dropW_wf h
theorem Wf.nil : Wf [] := ⟨by simp, fun x hx => by cases hx⟩
theorem stepP_wf {p : ByteArray} {i : Nat} {acc : Int} {rs : List Code} (h : Wf rs) : Wf (stepP p i acc rs).2.2.2 := by
  unfold stepP
  split
  · rename_i r hr; exact (lowP_wf h hr : Wf r.2)
  · split
    · exact setP_wf h
    · split
      · exact pushW_wf h (tI_size _)
      · split
        · exact divP_wf h
        · split
          · exact modP_wf h
          · split
            · exact extW_wf h
            · split
              · exact Wf.nil
              · split
                · exact Wf.nil
                · split
                  · exact pushW_wf h (by show (2 : Nat) ≤ 30; omega)
                  · split
                    · exact numP_wf h
                    · split
                      · exact letP_wf h
                      · exact h
theorem numP_width {p : ByteArray} {i : Nat} {rs : List Code} (hi : i < p.size) : 1 ≤ (numP p i rs).1 ∧ (i : Int) + (numP p i rs).1 ≤ p.size := by
  unfold numP
  split
  · show (1 : Int) ≤ 1 ∧ (i : Int) + 1 ≤ p.size; omega
  · rename_i hne
    have hst : stP p i ≤ p.size ∧ i + 1 ≤ stP p i := by
      unfold stP
      split
      · rename_i hs
        unfold sgnP at hs
        simp at hs
        omega
      · omega
    have := digP_le p 24 (stP p i) 0 hst.1
    show (1 : Int) ≤ _ - _ ∧ (i : Int) + (_ - _) ≤ p.size
    omega
theorem letP_width {p : ByteArray} {i : Nat} {rs : List Code} (hi : i < p.size) : 1 ≤ (letP p i rs).1 ∧ (i : Int) + (letP p i rs).1 ≤ p.size := by
  unfold letP
  split
  · show (1 : Int) ≤ 1 ∧ (i : Int) + 1 ≤ p.size; omega
  · show (1 : Int) ≤ 2 ∧ (i : Int) + 2 ≤ p.size; omega
theorem stepP_width {p : ByteArray} {i : Nat} {acc : Int} {rs : List Code} (hi : i < p.size) : 1 ≤ (stepP p i acc rs).1 ∧ (i : Int) + (stepP p i acc rs).1 ≤ p.size := by
  have h1 : (1 : Int) ≤ 1 ∧ (i : Int) + 1 ≤ p.size := by omega
  unfold stepP
  repeat' split
  all_goals
    first
    | exact h1
    | exact numP_width hi
    | exact letP_width hi

/-- A program from byte i on. -/
def runP (p : ByteArray) : Nat → Nat → Int → List Code → Int × Int × Int × List Code
  | 0, i, acc, rs => (p.size, 0, acc, rs)
  | f + 1, i, acc, rs =>
    if i < p.size then
      (if bt p i = 32 then runP p f (i + 1) acc rs
       else if (stepP p i acc rs).2.1 = 0 then runP p f (i + (stepP p i acc rs).1.toNat) (stepP p i acc rs).2.2.1 (stepP p i acc rs).2.2.2
       else ((i : Int), (stepP p i acc rs).2.1, (stepP p i acc rs).2.2.1, (stepP p i acc rs).2.2.2))
    else (p.size, 0, acc, rs)
def run (p : ByteArray) (acc : Int) (rs : List Code) : Int × Int × Int × List Code := if p.size > 24 then (0, 1, acc, rs) else runP p 25 0 acc rs
theorem runP_wf (p : ByteArray) : ∀ (f i : Nat) (acc : Int) (rs : List Code), Wf rs → Wf (runP p f i acc rs).2.2.2
  | 0, i, acc, rs, h => h
  | f + 1, i, acc, rs, h => by
    unfold runP
    split
    · split
      · exact runP_wf p f _ _ _ h
      · split
        · exact runP_wf p f _ _ _ (stepP_wf h)
        · exact stepP_wf h
    · exact h
theorem run_wf {p : ByteArray} {acc : Int} {rs : List Code} (h : Wf rs) : Wf (run p acc rs).2.2.2 := by
  unfold run
  split
  · exact h
  · exact runP_wf p 25 0 acc rs h
end Go.Proofs.Qxb6500336a
