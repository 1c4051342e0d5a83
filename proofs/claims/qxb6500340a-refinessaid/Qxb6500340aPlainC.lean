import Derived.Test.Qxb6500340aPlainB
namespace Go.Proofs.Qxb6500340a
set_option linter.unusedVariables false

def declS (s : St) (p : Nat) (v : Vc) : St := { s with live := upd s.live p true, need := upd s.need p v }
def reqS (s : St) (p : Nat) (v : Vc) : St := { s with av := s.av.sub v, need := upd s.need p ((s.need p).sub v), held := upd s.held p ((s.held p).add v) }
def giveS (s : St) (p : Nat) (v : Vc) : St := { s with av := s.av.add v, need := upd s.need p ((s.need p).add v), held := upd s.held p ((s.held p).sub v) }
def finS (s : St) (p : Nat) : St := { av := s.av.add (s.held p), live := upd s.live p false, need := upd s.need p zeroV, held := upd s.held p zeroV }

def okV (v : Vc) : Prop := 0 ≤ v.a ∧ v.a ≤ 5 ∧ 0 ≤ v.b ∧ v.b ≤ 3

def m1 (l : List Nat) (p : Nat) (x : Int) : Int := if p ∈ l then x else 0
theorem m1_cons {l : List Nat} {q p : Nat} {x : Int} (h : q ∉ l) : m1 (q :: l) p x = m1 l p x + (if p = q then x else 0) := by
  unfold m1
  by_cases e : p = q
  · subst e; simp [h]
  · simp [e]
theorem sumH_eq {s : St} {l : List Nat} (hn : l.Nodup) (hl : ∀ p, p ∈ l → p < 4) :
    (sumH s l).a = m1 l 0 (s.held 0).a + m1 l 1 (s.held 1).a + m1 l 2 (s.held 2).a + m1 l 3 (s.held 3).a ∧
    (sumH s l).b = m1 l 0 (s.held 0).b + m1 l 1 (s.held 1).b + m1 l 2 (s.held 2).b + m1 l 3 (s.held 3).b := by
  induction l with
  | nil => simp [sumH, zeroV, m1]
  | cons q l ih =>
    obtain ⟨h1, h2⟩ := List.nodup_cons.1 hn
    obtain ⟨i1, i2⟩ := ih h2 (fun p hp => hl p (by simp [hp]))
    have hq := hl q (by simp)
    simp only [sumH, Vc.add, m1_cons h1]
    rcases (by omega : q = 0 ∨ q = 1 ∨ q = 2 ∨ q = 3) with rfl | rfl | rfl | rfl <;> simp <;> omega

theorem full_sum {s : St} (h : Inv s) {l : List Nat} (hf : Full s (fun _ => false) l) : (s.av.add (sumH s l)).a = 5 ∧ (s.av.add (sumH s l)).b = 3 := by
  obtain ⟨e1, e2⟩ := sumH_eq (s := s) hf.nodup hf.lt
  have key : ∀ p, p < 4 → m1 l p (s.held p).a = (s.held p).a ∧ m1 l p (s.held p).b = (s.held p).b := by
    intro p hp
    unfold m1
    by_cases hm : p ∈ l
    · simp [hm]
    · have hl : s.live p = false := by
        cases hl : s.live p with
        | false => rfl
        | true => exact absurd ((hf.mem p hp).2 ⟨hl, rfl⟩) hm
      obtain ⟨a1, a2, _⟩ := h.idle p hp hl
      simp [hm, a1, a2]
  have k0 := key 0 (by omega); have k1 := key 1 (by omega); have k2 := key 2 (by omega); have k3 := key 3 (by omega)
  have := h.suma; have := h.sumb
  simp only [Vc.add]
  omega

theorem Inv.decl {s : St} (h : Inv s) {p : Nat} {v : Vc} (hp : p < 4) (hl : s.live p = false) (hv : okV v) : Inv (declS s p v) := by
  obtain ⟨i1, i2, i3, i4⟩ := h.idle p hp hl
  refine ⟨h.suma, h.sumb, h.ava, h.avb, fun q hq => ?_, fun q hq hlq => ?_, ?_⟩
  · have := h.slot q hq
    by_cases e : q = p
    · subst e
      show _ ∧ _ ∧ 0 ≤ (upd s.need q v q).a ∧ 0 ≤ (upd s.need q v q).b ∧ _ + (upd s.need q v q).a ≤ 5 ∧ _ + (upd s.need q v q).b ≤ 3
      rw [upd_same]
      obtain ⟨a1, a2, a3, a4⟩ := hv
      exact ⟨this.1, this.2.1, a1, a3, by show (s.held q).a + v.a ≤ 5; omega, by show (s.held q).b + v.b ≤ 3; omega⟩
    · show _ ∧ _ ∧ 0 ≤ (upd s.need p v q).a ∧ 0 ≤ (upd s.need p v q).b ∧ _ + (upd s.need p v q).a ≤ 5 ∧ _ + (upd s.need p v q).b ≤ 3
      rw [upd_other _ _ _ _ e]; exact this
  · have hlq' : upd s.live p true q = false := hlq
    by_cases e : q = p
    · subst e; rw [upd_same] at hlq'; simp at hlq'
    · rw [upd_other _ _ _ _ e] at hlq'
      have := h.idle q hq hlq'
      show _ ∧ _ ∧ (upd s.need p v q).a = 0 ∧ (upd s.need p v q).b = 0
      rw [upd_other _ _ _ _ e]; exact this
  · obtain ⟨l, hf, ha⟩ := h.safe
    have hnp : p ∉ l := fun hm => by have := ((hf.mem p hp).1 hm).1; rw [hl] at this; simp at this
    obtain ⟨t1, t2⟩ := full_sum h hf
    have hs : ∀ q, q ∈ l → s.need q = (declS s p v).need q ∧ s.held q = (declS s p v).held q := fun q hq => by
      have e : q ≠ p := fun e => hnp (e ▸ hq)
      exact ⟨(upd_other _ _ _ _ e).symm, rfl⟩
    have hsum : ∀ l : List Nat, sumH (declS s p v) l = sumH s l := by
      intro l; induction l with
      | nil => rfl
      | cons q l ih => simp only [sumH, ih]; rfl
    refine ⟨l ++ [p], ⟨?_, fun q hq => ?_, fun q hq => ?_⟩, acc_snoc (acc_congr hs ha) ?_⟩
    · exact List.nodup_append.2 ⟨hf.nodup, by simp, fun a ha b hb => by simp at hb; subst hb; exact fun e => hnp (e ▸ ha)⟩
    · rcases List.mem_append.1 hq with hq | hq
      · exact hf.lt q hq
      · simp at hq; omega
    · show q ∈ l ++ [p] ↔ upd s.live p true q = true ∧ false = false
      by_cases e : q = p
      · subst e; simp [upd_same]
      · rw [upd_other _ _ _ _ e, List.mem_append, hf.mem q hq]; simp [e]
    · rw [hsum]
      show leB (upd s.need p v p) (s.av.add (sumH s l)) = true
      rw [upd_same, leB_iff, t1, t2]
      exact ⟨hv.2.1, hv.2.2.2⟩

theorem acc_give {s : St} {p : Nat} {v : Vc} (hv : 0 ≤ v.a ∧ 0 ≤ v.b) {l : List Nat} (hn : l.Nodup) {w : Vc} (ha : acc s w l) :
    (p ∉ l → acc (giveS s p v) w l) ∧ (p ∈ l → acc (giveS s p v) (w.add v) l) := by
  induction l generalizing w with
  | nil => exact ⟨fun _ => trivial, fun h => by cases h⟩
  | cons q l ih =>
    obtain ⟨h1, h2⟩ := ha
    obtain ⟨n1, n2⟩ := List.nodup_cons.1 hn
    obtain ⟨j1, j2⟩ := ih n2 h2
    constructor
    · intro hp
      have e : q ≠ p := fun e => hp (by simp [e])
      refine ⟨?_, ?_⟩
      · show leB (upd s.need p _ q) w = true
        rw [upd_other _ _ _ _ e]; exact h1
      · show acc _ (w.add (upd s.held p _ q)) l
        rw [upd_other _ _ _ _ e]; exact j1 (fun h => hp (by simp [h]))
    · intro hp
      by_cases e : q = p
      · subst e
        refine ⟨?_, ?_⟩
        · show leB (upd s.need q _ q) (w.add v) = true
          rw [upd_same]
          rw [leB_iff] at h1 ⊢
          simp only [Vc.add]; omega
        · show acc _ ((w.add v).add (upd s.held q _ q)) l
          rw [upd_same]
          have : (w.add v).add ((s.held q).sub v) = w.add (s.held q) := by simp only [Vc.add, Vc.sub]; congr 1 <;> omega
          rw [this]; exact j1 n1
      · refine ⟨?_, ?_⟩
        · show leB (upd s.need p _ q) (w.add v) = true
          rw [upd_other _ _ _ _ e]
          rw [leB_iff] at h1 ⊢
          simp only [Vc.add]; omega
        · show acc _ ((w.add v).add (upd s.held p _ q)) l
          rw [upd_other _ _ _ _ e]
          have := j2 (by rcases List.mem_cons.1 hp with h | h; exact absurd h.symm e; exact h)
          have e2 : (w.add v).add (s.held q) = (w.add (s.held q)).add v := by simp only [Vc.add]; congr 1 <;> omega
          rw [e2]; exact this

theorem Inv.give {s : St} (h : Inv s) {p : Nat} {v : Vc} (hp : p < 4) (hl : s.live p = true) (hv : 0 ≤ v.a ∧ 0 ≤ v.b) (hh : v.a ≤ (s.held p).a ∧ v.b ≤ (s.held p).b) : Inv (giveS s p v) := by
  have hsl : ∀ q, q < 4 → q ≠ p → (giveS s p v).held q = s.held q ∧ (giveS s p v).need q = s.need q := fun q _ e => ⟨upd_other _ _ _ _ e, upd_other _ _ _ _ e⟩
  have hsp : (giveS s p v).held p = (s.held p).sub v ∧ (giveS s p v).need p = (s.need p).add v := ⟨upd_same _ _ _, upd_same _ _ _⟩
  refine ⟨?_, ?_, ?_, ?_, fun q hq => ?_, fun q hq hlq => ?_, ?_⟩
  · have := h.suma
    rcases (by omega : p = 0 ∨ p = 1 ∨ p = 2 ∨ p = 3) with rfl | rfl | rfl | rfl <;> simp [giveS, upd, Vc.add, Vc.sub] <;> omega
  · have := h.sumb
    rcases (by omega : p = 0 ∨ p = 1 ∨ p = 2 ∨ p = 3) with rfl | rfl | rfl | rfl <;> simp [giveS, upd, Vc.add, Vc.sub] <;> omega
  · have := h.ava; show 0 ≤ s.av.a + v.a; omega
  · have := h.avb; show 0 ≤ s.av.b + v.b; omega
  · have := h.slot q hq
    by_cases e : q = p
    · subst e
      rw [hsp.1, hsp.2]
      simp only [Vc.add, Vc.sub]; omega
    · rw [(hsl q hq e).1, (hsl q hq e).2]; exact this
  · have e : q ≠ p := fun e => by subst e; have : s.live q = false := hlq; rw [hl] at this; simp at this
    rw [(hsl q hq e).1, (hsl q hq e).2]; exact h.idle q hq hlq
  · obtain ⟨l, hf, ha⟩ := h.safe
    exact ⟨l, ⟨hf.nodup, hf.lt, hf.mem⟩, (acc_give hv hf.nodup ha).2 ((hf.mem p hp).2 ⟨hl, rfl⟩)⟩

theorem Inv.fin {s : St} (h : Inv s) {p : Nat} (hp : p < 4) (hl : s.live p = true) : Inv (finS s p) := by
  have hsl : ∀ q, q ≠ p → (finS s p).held q = s.held q ∧ (finS s p).need q = s.need q ∧ (finS s p).live q = s.live q := fun q e => ⟨upd_other _ _ _ _ e, upd_other _ _ _ _ e, upd_other _ _ _ _ e⟩
  have hsp : (finS s p).held p = zeroV ∧ (finS s p).need p = zeroV ∧ (finS s p).live p = false := ⟨upd_same _ _ _, upd_same _ _ _, upd_same _ _ _⟩
  have hsl0 := h.slot p hp
  refine ⟨?_, ?_, ?_, ?_, fun q hq => ?_, fun q hq hlq => ?_, ?_⟩
  · have := h.suma
    rcases (by omega : p = 0 ∨ p = 1 ∨ p = 2 ∨ p = 3) with rfl | rfl | rfl | rfl <;> simp [finS, upd, Vc.add, zeroV] <;> omega
  · have := h.sumb
    rcases (by omega : p = 0 ∨ p = 1 ∨ p = 2 ∨ p = 3) with rfl | rfl | rfl | rfl <;> simp [finS, upd, Vc.add, zeroV] <;> omega
  · have := h.ava; show 0 ≤ s.av.a + (s.held p).a; omega
  · have := h.avb; show 0 ≤ s.av.b + (s.held p).b; omega
  · by_cases e : q = p
    · subst e; rw [hsp.1, hsp.2.1]; simp [zeroV]
    · rw [(hsl q e).1, (hsl q e).2.1]; exact h.slot q hq
  · by_cases e : q = p
    · subst e; rw [hsp.1, hsp.2.1]; simp [zeroV]
    · rw [(hsl q e).1, (hsl q e).2.1]; exact h.idle q hq (by rw [← (hsl q e).2.2]; exact hlq)
  · obtain ⟨l, hf, ha⟩ := h.safe
    have hm := (hf.mem p hp).2 ⟨hl, rfl⟩
    have h1 := acc_front h.pos hf.lt ha hm
    refine ⟨l.erase p, ⟨hf.nodup.erase p, fun q hq => hf.lt q (List.mem_of_mem_erase hq), fun q hq => ?_⟩, acc_congr (fun q hq => ?_) h1⟩
    · rw [hf.nodup.mem_erase_iff]
      by_cases e : q = p
      · subst e; simp [hsp.2.2]
      · rw [(hsl q e).2.2, hf.mem q hq]; simp [e]
    · have e : q ≠ p := ((hf.nodup.mem_erase_iff).1 hq).1
      exact ⟨(hsl q e).2.1.symm, (hsl q e).1.symm⟩

/-- A grant that the test has passed. -/
theorem Inv.req {s : St} (h : Inv s) {p : Nat} {v : Vc} (hp : p < 4) (hl : s.live p = true) (hv : 0 ≤ v.a ∧ 0 ≤ v.b) (hn : v.a ≤ (s.need p).a ∧ v.b ≤ (s.need p).b) (ha : v.a ≤ s.av.a ∧ v.b ≤ s.av.b) (hg : gOk (reqS s p v)) : Inv (reqS s p v) := by
  have hsl : ∀ q, q ≠ p → (reqS s p v).held q = s.held q ∧ (reqS s p v).need q = s.need q := fun q e => ⟨upd_other _ _ _ _ e, upd_other _ _ _ _ e⟩
  have hsp : (reqS s p v).held p = (s.held p).add v ∧ (reqS s p v).need p = (s.need p).sub v := ⟨upd_same _ _ _, upd_same _ _ _⟩
  have hpos : Pos (reqS s p v) := ⟨fun q hq => by
    have := h.slot q hq
    by_cases e : q = p
    · subst e; rw [hsp.1]; simp only [Vc.add]; omega
    · rw [(hsl q e).1]; exact ⟨this.1, this.2.1⟩⟩
  refine ⟨?_, ?_, ?_, ?_, fun q hq => ?_, fun q hq hlq => ?_, (gOk_iff hpos).1 hg⟩
  · have := h.suma
    rcases (by omega : p = 0 ∨ p = 1 ∨ p = 2 ∨ p = 3) with rfl | rfl | rfl | rfl <;> simp [reqS, upd, Vc.add, Vc.sub] <;> omega
  · have := h.sumb
    rcases (by omega : p = 0 ∨ p = 1 ∨ p = 2 ∨ p = 3) with rfl | rfl | rfl | rfl <;> simp [reqS, upd, Vc.add, Vc.sub] <;> omega
  · show 0 ≤ s.av.a - v.a; omega
  · show 0 ≤ s.av.b - v.b; omega
  · have := h.slot q hq
    by_cases e : q = p
    · subst e; rw [hsp.1, hsp.2]; simp only [Vc.add, Vc.sub]; omega
    · rw [(hsl q e).1, (hsl q e).2]; exact this
  · have e : q ≠ p := fun e => by subst e; have : s.live q = false := hlq; rw [hl] at this; simp at this
    rw [(hsl q e).1, (hsl q e).2]; exact h.idle q hq hlq

end Go.Proofs.Qxb6500340a
