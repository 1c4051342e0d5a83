import Derived.Test.Qxb6500339aW10
import Derived.Test.Qxb6500339aW11
namespace Go.Proofs.Qxb6500339a
open Go.RowKit
set_option linter.unusedVariables false
set_option linter.unusedSimpArgs false

/-- What the walk keeps. -/
structure Iv (w0 w : World) (d k p m mb : Nat) (R : List Nat) (n bs : Nat → Bl) (l : List (Nat × Bl)) (Bb B : Nat → Int) : Prop where
  dr : Dr w0.heap.size w d R n bs l
  tw : Tw w k p d R
  rc : Rec bs n l Bb B
  mm : Mm w m B
  mb : Mm w mb Bb
  mR : m ∉ R
  hm : w0.heap.size ≤ m
  fr : Fr [] w0 w
def IvE (w0 w : World) (d k p m mb : Nat) : Prop := ∃ R n bs l Bb B, Iv w0 w d k p m mb R n bs l Bb B

theorem Iv.keep0 {w0 w w' : World} {d k p m mb : Nat} {R : List Nat} {n bs : Nat → Bl} {l : List (Nat × Bl)} {Bb B : Nat → Int} (h : Iv w0 w d k p m mb R n bs l Bb B) (hf : Fr [] w w') : Iv w0 w' d k p m mb R n bs l Bb B :=
  ⟨h.dr.keep0 hf, h.tw.keep0 hf, h.rc, hf.keep h.mm (by simp), hf.keep h.mb (by simp), h.mR, h.hm, h.fr.trans hf⟩

theorem ne_dk {w : World} {N d m : Nat} {R : List Nat} {n bs : Nat → Bl} {l : List (Nat × Bl)} {B : Nat → Int} (h : Dr N w d R n bs l) (hm : Mm w m B) : m ≠ d := fun e => by
  obtain ⟨av, vv, hD, _⟩ := h.ex
  unfold Dk at hD; unfold Mm at hm; rw [← e, hm] at hD; simp at hD

/-- The ground is marked. -/
theorem Iv.mark {w0 w w' : World} {d k p m mb : Nat} {R : List Nat} {n bs : Nat → Bl} {l : List (Nat × Bl)} {Bb B : Nat → Int} (h : Iv w0 w d k p m mb R n bs l Bb B) (hd : Dr w0.heap.size w' d [d] n n []) (hf : Fr [d] w w') :
    Dr w0.heap.size w' d [d] n n [] ∧ Tw w' k p d [d] ∧ Rec n n [] B B ∧ Mm w' m B ∧ m ∉ [d] ∧ Fr [] w0 w' := by
  have hkd : k ≠ d := fun e => h.tw.kR (e ▸ h.dr.din)
  have hpd : p ≠ d := fun e => h.tw.pR (e ▸ h.dr.din)
  have hmd : m ≠ d := fun e => h.mR (e ▸ h.dr.din)
  refine ⟨hd, ⟨hf.keep h.tw.bk (by simpa using hkd), hf.keep h.tw.pp (by simpa using hpd), by simpa using hkd, by simpa using hpd⟩, h.rc.mark, hf.keep h.mm (by simpa using hmd), by simpa using hmd, h.fr.narrow hf (fun i hi => ?_)⟩
  simp at hi; subst hi; right; exact (h.dr.low i h.dr.din).1

/-- A step was played. -/
theorem iv_played {w0 w w' : World} {d k p m mb : Nat} {n : Nat → Bl} {B : Nat → Int} (hN : w0.heap.size ≤ d) (hm0 : w0.heap.size ≤ m) (hf0 : Fr [] w0 w) (hp : Pd w0.heap.size w w' d [d] k p m n B) (hmb : Mm w mb B) (h1 : mb ≠ m) (h2 : mb ≠ d) : IvE w0 w' d k p m mb := by
  obtain ⟨R', n', l', B', a1, a2, a3, a4, a5, a6, a7⟩ := hp
  exact ⟨R', n', n, l', B, B', a1, a2, a3, a4, a7.keep hmb (by simp [h1, h2]), a5, hm0, hf0.narrow a7 (fun i hi => by simp at hi; rcases hi with rfl | rfl; exact Or.inr hm0; exact Or.inr hN)⟩

theorem Mm.congr {w : World} {m : Nat} {B C : Nat → Int} (h : Mm w m B) (he : ∀ i, i < 4 → B i = C i) : Mm w m C := by
  unfold Mm mC at h ⊢
  rw [he 0 (by omega), he 1 (by omega), he 2 (by omega), he 3 (by omega)] at h
  exact h
theorem alB_self (B : Nat → Int) : alB B B = true := alB_yes (fun _ _ => rfl)

/-- The cut: which of the two states it leaves. -/
theorem Rec.which {bs nw : Nat → Bl} {l : List (Nat × Bl)} {Bb B : Nat → Int} (h : Rec bs nw l Bb B) (A : Int) :
    ∃ B', OkB B' ∧ Jr (app bs (l.take A.toNat)) B' ∧ (alB B' Bb = true ∨ alB B' B = true) ∧ (A ≤ 0 → alB B' Bb = true) ∧ ((l.length : Int) ≤ A → alB B' B = true) ∧ (alB B' B = false → ∀ i, i < 4 → Bb i = B' i) := by
  have hlast : (l.length : Int) ≤ A → Jr (app bs (l.take A.toNat)) B := fun hA => by
    rw [List.take_of_length_le (by omega), ← h.now]; exact Or.inl h.good
  have hfirst : A ≤ 0 → Jr (app bs (l.take A.toNat)) Bb := fun hA => by
    rw [show A.toNat = 0 from by omega]; exact h.base
  rcases h.cut A.toNat with hj | hj
  · exact ⟨Bb, h.okb, hj, Or.inl (alB_self _), fun _ => alB_self _, fun hA => alB_yes (hj.uniq (hlast hA) h.okb h.ok), fun _ i _ => rfl⟩
  · exact ⟨B, h.ok, hj, Or.inr (alB_self _), fun hA => alB_yes (hj.uniq (hfirst hA) h.ok h.okb), fun _ => alB_self _, fun hf => by rw [alB_self] at hf; simp at hf⟩
theorem iv_cut {N1 : Nat} {w0 v1 v2 v7 : World} {e k p m mb : Nat} {R R' : List Nat} {c nw : Nat → Bl} {l : List (Nat × Bl)} {B' : Nat → Int} (hto : To N1 v1 v2 e R R' nw c l) (htw : Tw v2 k p e R') (hr : Rec c nw l B' B') (hN : w0.heap.size ≤ N1) (hf : Fr [] v2 v7) (hm : Mm v7 m B') (hmb : Mm v7 mb B') (hmR : m ∉ R') (hm0 : w0.heap.size ≤ m) (hfr : Fr [] w0 v7) : IvE w0 v7 e k p m mb :=
  ⟨R', nw, c, l, B', B', (hto.dr.keep0 hf).mono hN, htw.keep0 hf, hr, hm, hmb, hmR, hm0, hfr⟩
end Go.Proofs.Qxb6500339a
