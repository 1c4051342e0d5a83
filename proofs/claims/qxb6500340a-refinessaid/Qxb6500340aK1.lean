import Derived.Test.Qxb6500340aW10
namespace Go.Proofs.Qxb6500340a
set_option linter.unusedVariables false

def declR (s : St) (a : Int) (v : Vc) : St := if gateE s a false v = 0 then declS s a.toNat v else s
def reqR (s : St) (a : Int) (v : Vc) : St := if reqE s a v = 0 then reqS s a.toNat v else s
def relR (s : St) (a : Int) (v : Vc) : St := if relE s a v = 0 then giveS s a.toNat v else s
def finR (s : St) (a : Int) : St := if gateE s a true zeroV = 0 then finS s a.toNat else s

/-- What the words demand of a Request, but for safety. -/
def fltE (s : St) (p : Int) (v : Vc) : Int := if gateE s p true v = 0 then (if leB v (s.need p.toNat) then (if leB v s.av then 0 else 5) else 4) else gateE s p true v

theorem reqE_flt {s : St} {p : Int} {v : Vc} (h : fltE s p v ≠ 0) : reqE s p v = fltE s p v := by
  unfold fltE at h ⊢; unfold reqE
  by_cases h0 : gateE s p true v = 0
  · rw [if_pos h0] at h; rw [if_pos h0, if_pos h0]
    cases h1 : leB v (s.need p.toNat)
    · simp
    · rw [h1] at h
      simp only [if_true] at h ⊢
      cases h2 : leB v s.av
      · simp
      · rw [h2] at h; simp at h
  · rw [if_neg h0, if_neg h0]
theorem flt_ok {s : St} {p : Int} {v : Vc} (h : fltE s p v = 0) : ∃ q : Nat, p = q ∧ q < 4 ∧ s.live q = true ∧ okV v ∧ (v.a ≤ (s.need q).a ∧ v.b ≤ (s.need q).b) ∧ (v.a ≤ s.av.a ∧ v.b ≤ s.av.b) ∧ gateE s p true v = 0 := by
  unfold fltE at h
  by_cases h0 : gateE s p true v = 0
  · rw [if_pos h0] at h
    obtain ⟨q, rfl, hq, hl, hv⟩ := gate_ok h0
    cases h1 : leB v (s.need ((q : Int)).toNat)
    · rw [h1] at h; simp at h
    · rw [h1] at h
      simp only [if_true] at h
      cases h2 : leB v s.av
      · rw [h2] at h; simp at h
      · exact ⟨q, rfl, hq, hl, hv, leB_iff.1 (by simpa using h1), leB_iff.1 h2, h0⟩
  · rw [if_neg h0] at h; exact absurd h h0
theorem flt_at {s : St} {q : Nat} {v : Vc} (hq : q < 4) (hl : s.live q = true) (hv : okV v) (hn : v.a ≤ (s.need q).a ∧ v.b ≤ (s.need q).b) (ha : v.a ≤ s.av.a ∧ v.b ≤ s.av.b) : fltE s q v = 0 := by
  have h0 : gateE s q true v = 0 := by
    rw [gateE_in hq, hl, if_pos rfl, if_pos]
    unfold cntB; exact decide_eq_true hv
  unfold fltE
  rw [if_pos h0]
  simp [leB_iff.2 hn, leB_iff.2 ha]
theorem reqE_ok {s : St} {p : Int} {v : Vc} (h : fltE s p v = 0) : reqE s p v = if gOkB (reqS s p.toNat v) then 0 else 6 := by
  obtain ⟨q, rfl, hq, hl, hv, hn, ha, h0⟩ := flt_ok h
  unfold reqE
  rw [if_pos h0, Int.toNat_natCast, leB_iff.2 hn, leB_iff.2 ha]
  simp

theorem Inv.declR {s : St} (h : Inv s) (a : Int) (v : Vc) : Inv (declR s a v) := by
  unfold Go.Proofs.Qxb6500340a.declR
  by_cases h0 : gateE s a false v = 0
  · rw [if_pos h0]; obtain ⟨q, rfl, hq, hl, hv⟩ := gate_ok h0; rw [Int.toNat_natCast]; exact h.decl hq hl hv
  · rw [if_neg h0]; exact h
theorem Inv.finR {s : St} (h : Inv s) (a : Int) : Inv (finR s a) := by
  unfold Go.Proofs.Qxb6500340a.finR
  by_cases h0 : gateE s a true zeroV = 0
  · rw [if_pos h0]; obtain ⟨q, rfl, hq, hl, hv⟩ := gate_ok h0; rw [Int.toNat_natCast]; exact h.fin hq hl
  · rw [if_neg h0]; exact h
theorem rel_ok {s : St} {p : Int} {v : Vc} (h : relE s p v = 0) : ∃ q : Nat, p = q ∧ q < 4 ∧ s.live q = true ∧ okV v ∧ (v.a ≤ (s.held q).a ∧ v.b ≤ (s.held q).b) := by
  unfold relE at h
  by_cases h0 : gateE s p true v = 0
  · rw [if_pos h0] at h
    obtain ⟨q, rfl, hq, hl, hv⟩ := gate_ok h0
    cases h1 : leB v (s.held ((q : Int)).toNat)
    · rw [h1] at h; simp at h
    · exact ⟨q, rfl, hq, hl, hv, leB_iff.1 (by simpa using h1)⟩
  · rw [if_neg h0] at h; exact absurd h h0
theorem Inv.relR {s : St} (h : Inv s) (a : Int) (v : Vc) : Inv (relR s a v) := by
  unfold Go.Proofs.Qxb6500340a.relR
  by_cases h0 : relE s a v = 0
  · rw [if_pos h0]; obtain ⟨q, rfl, hq, hl, hv, hh⟩ := rel_ok h0; rw [Int.toNat_natCast]; exact h.give hq hl ⟨hv.1, hv.2.2.1⟩ hh
  · rw [if_neg h0]; exact h
theorem Inv.reqR {s : St} (h : Inv s) (a : Int) (v : Vc) : Inv (reqR s a v) := by
  unfold Go.Proofs.Qxb6500340a.reqR
  by_cases h0 : reqE s a v = 0
  · rw [if_pos h0]
    have hf : fltE s a v = 0 := by
      apply Classical.byContradiction; intro hf; rw [reqE_flt hf] at h0; exact hf h0
    rw [reqE_ok hf] at h0
    obtain ⟨q, rfl, hq, hl, hv, hn, ha, _⟩ := flt_ok hf
    rw [Int.toNat_natCast] at h0 ⊢
    refine h.req hq hl ⟨hv.1, hv.2.2.1⟩ hn ha (gOkB_iff.1 ?_)
    cases hg : gOkB (reqS s q v)
    · rw [hg] at h0; simp at h0
    · rfl
  · rw [if_neg h0]; exact h

/-! ### The work -/
theorem jl_full {s : St} {seen : Nat → Bool} {wk : Vc} {l : List Nat} (hl : ∀ p, p ∈ l → p < 4) (h : jl s seen wk (dgs l) = true) (hs : ∀ p, p < 4 → seen p = true → s.live p = true) (hc : cd seen + l.length = nlive s) : Full s seen l ∧ acc s wk l := by
  induction l generalizing seen wk with
  | nil =>
    refine ⟨⟨List.nodup_nil, fun p hp => (by cases hp), fun p hp => ?_⟩, trivial⟩
    have := cd_same hs (by simp at hc; unfold nlive at hc; omega) p hp
    rw [this]; cases s.live p <;> simp
  | cons p l ih =>
    have hp : p < 4 := hl p (by simp)
    have hd := dg_nat hp
    simp only [dgs, List.map_cons, jl, hd] at h
    rw [show 48 + p - 48 = p from by omega] at h
    split at h
    · rename_i hh
      obtain ⟨_, _, h3, h4, h5⟩ := hh
      obtain ⟨i1, i2⟩ := ih (fun q hq => hl q (by simp [hq])) h (fun q hq hq2 => by
        by_cases e : q = p
        · subst e; exact h3
        · rw [upd_other _ _ _ _ e] at hq2; exact hs q hq hq2) (by rw [cd_upd hp h4]; simp at hc; omega)
      exact ⟨i1.cons hp h3 h4, h5, i2⟩
    · simp at h

theorem can_lt {s : St} {n : Nat} {done : Nat → Bool} {wk : Vc} : ∀ p, p ∈ can s n done wk → p < 4 := by
  induction n generalizing done wk with
  | zero => intro p hp; simp [can] at hp
  | succ n ih =>
    intro p hp
    simp only [can] at hp
    cases hk : pick s done wk with
    | none => rw [hk] at hp; simp at hp
    | some q =>
      rw [hk] at hp
      simp only [List.mem_cons] at hp
      rcases hp with rfl | hp
      · exact (pick_some hk).1
      · exact ih p hp

structure Drn (s : St) (l : List Nat) : Prop where
  inv : Inv s
  full : Full s (fun _ => false) l
  acc : acc s s.av l

theorem Drn.start {s : St} (h : Inv s) : Drn s (run s 4).ord := by
  have hj := ord_judge h.gok
  unfold judgeB ordB at hj
  simp only [Bool.and_eq_true, decide_eq_true_eq] at hj
  obtain ⟨h1, h2⟩ := hj
  have h3 : ∀ p, p ∈ (run s 4).ord → p < 4 := by rw [ord_can]; exact can_lt
  obtain ⟨a1, a2⟩ := jl_full h3 h2 (fun p _ h => by simp at h) (by rw [← h1]; simp [dgs, cd, b1])
  exact ⟨h, a1, a2⟩

theorem Drn.step {s : St} {p : Nat} {l : List Nat} (h : Drn s (p :: l)) :
    p < 4 ∧ s.live p = true ∧ fltE s p (s.need p) = 0 ∧ Inv (reqS s p (s.need p)) ∧ Drn (finS (reqS s p (s.need p)) p) l := by
  have hp := h.full.lt p (by simp)
  have hl := ((h.full.mem p hp).1 (by simp)).1
  obtain ⟨hnp, hnd⟩ := List.nodup_cons.1 h.full.nodup
  obtain ⟨ha1, ha2⟩ := h.acc
  have hn := leB_iff.1 ha1
  have hsl := h.inv.slot p hp
  have hok : okV (s.need p) := by unfold okV; omega
  have hne : ∀ q, q ∈ l → q ≠ p := fun q hq e => hnp (e ▸ hq)
  have hav : (reqS s p (s.need p)).av.add ((reqS s p (s.need p)).held p) = s.av.add (s.held p) := by
    simp only [reqS, upd_same, Vc.add, Vc.sub]; congr 1 <;> omega
  have hcg : ∀ q, q ∈ l → s.need q = (reqS s p (s.need p)).need q ∧ s.held q = (reqS s p (s.need p)).held q := fun q hq => ⟨(upd_other _ _ _ _ (hne q hq)).symm, (upd_other _ _ _ _ (hne q hq)).symm⟩
  have hpos : Pos (reqS s p (s.need p)) := ⟨fun q hq => by
    have := h.inv.slot q hq
    simp only [reqS, upd]; split
    · simp only [Vc.add]; omega
    · omega⟩
  have hcomp : Comp (reqS s p (s.need p)) (fun _ => false) (reqS s p (s.need p)).av := by
    refine ⟨p :: l, ⟨h.full.nodup, h.full.lt, h.full.mem⟩, ?_, ?_⟩
    · rw [leB_iff]; simp only [reqS, upd_same, Vc.sub]; omega
    · rw [hav]; exact acc_congr hcg ha2
  have hinv : Inv (reqS s p (s.need p)) := h.inv.req hp hl ⟨hsl.2.2.1, hsl.2.2.2.1⟩ ⟨Int.le_refl _, Int.le_refl _⟩ hn ((gOk_iff hpos).2 hcomp)
  refine ⟨hp, hl, flt_at hp hl hok ⟨Int.le_refl _, Int.le_refl _⟩ hn, hinv, hinv.fin hp hl, ⟨hnd, fun q hq => h.full.lt q (by simp [hq]), fun q hq => ?_⟩, ?_⟩
  · show q ∈ l ↔ upd s.live p false q = true ∧ false = false
    by_cases e : q = p
    · subst e; simp [upd_same, hnp]
    · rw [upd_other _ _ _ _ e]
      have := h.full.mem q hq
      simp only [List.mem_cons, e, false_or] at this
      simpa using this
  · show Qxb6500340a.acc _ ((reqS s p (s.need p)).av.add ((reqS s p (s.need p)).held p)) l
    rw [hav]
    refine acc_congr (fun q hq => ?_) ha2
    have e := hne q hq
    simp only [finS, reqS]
    rw [upd_other _ _ _ _ e, upd_other _ _ _ _ e, upd_other _ _ _ _ e, upd_other _ _ _ _ e]
    exact ⟨rfl, rfl⟩

theorem Drn.done {s : St} (h : Drn s []) : s.av.a = 5 ∧ s.av.b = 3 := by
  have hi : ∀ p, p < 4 → (s.held p).a = 0 ∧ (s.held p).b = 0 := fun p hp => by
    have hl : s.live p = false := by
      cases hl : s.live p with
      | false => rfl
      | true => have := (h.full.mem p hp).2 ⟨hl, rfl⟩; cases this
    have := h.inv.idle p hp hl
    exact ⟨this.1, this.2.1⟩
  have h0 := hi 0 (by omega); have h1 := hi 1 (by omega); have h2 := hi 2 (by omega); have h3 := hi 3 (by omega)
  have := h.inv.suma; have := h.inv.sumb
  omega

/-! ### The ledger -/
structure Gs where
  live : Nat → Bool
  claim : Nat → Vc
  held : Nat → Vc
def gof (s : St) : Gs := ⟨s.live, clm s, s.held⟩
/-- The ledger's sums, and bounds. -/
structure Sm (s : St) : Prop where
  suma : s.av.a + (s.held 0).a + (s.held 1).a + (s.held 2).a + (s.held 3).a = 5
  sumb : s.av.b + (s.held 0).b + (s.held 1).b + (s.held 2).b + (s.held 3).b = 3
  bd : Bd s
theorem Inv.sm {s : St} (h : Inv s) : Sm s := ⟨h.suma, h.sumb, h.bd⟩
theorem Inv.smr {s : St} (h : Inv s) {p : Nat} (hp : p < 4) {v : Vc} (hv : okV v) (hn : v.a ≤ (s.need p).a ∧ v.b ≤ (s.need p).b) (ha : v.a ≤ s.av.a ∧ v.b ≤ s.av.b) : Sm (reqS s p v) := by
  refine ⟨?_, ?_, req_bd h hp hv hn ha⟩
  · have := h.suma
    rcases (by omega : p = 0 ∨ p = 1 ∨ p = 2 ∨ p = 3) with rfl | rfl | rfl | rfl <;> simp [reqS, upd, Vc.add, Vc.sub] <;> omega
  · have := h.sumb
    rcases (by omega : p = 0 ∨ p = 1 ∨ p = 2 ∨ p = 3) with rfl | rfl | rfl | rfl <;> simp [reqS, upd, Vc.add, Vc.sub] <;> omega
theorem Gs.eq {x y : Gs} (h1 : x.live = y.live) (h2 : x.claim = y.claim) (h3 : x.held = y.held) : x = y := by cases x; cases y; simp_all
theorem clm_req (s : St) (p : Nat) (v : Vc) : clm (reqS s p v) = clm s := by
  funext q; unfold clm; simp only [reqS, upd]; split
  · rename_i e; subst e; exact Vc.eq (by simp [Vc.add, Vc.sub]; omega) (by simp [Vc.add, Vc.sub]; omega)
  · rfl
theorem clm_give (s : St) (p : Nat) (v : Vc) : clm (giveS s p v) = clm s := by
  funext q; unfold clm; simp only [giveS, upd]; split
  · rename_i e; subst e; exact Vc.eq (by simp [Vc.add, Vc.sub]; omega) (by simp [Vc.add, Vc.sub]; omega)
  · rfl
theorem gof_req (s : St) (p : Nat) (v : Vc) : gof (reqS s p v) = ⟨s.live, clm s, upd s.held p ((s.held p).add v)⟩ := Gs.eq rfl (clm_req s p v) rfl
theorem gof_give (s : St) (p : Nat) (v : Vc) : gof (giveS s p v) = ⟨s.live, clm s, upd s.held p ((s.held p).sub v)⟩ := Gs.eq rfl (clm_give s p v) rfl
theorem gof_decl {s : St} (h : Inv s) {p : Nat} (hp : p < 4) (hl : s.live p = false) (v : Vc) : gof (declS s p v) = ⟨upd s.live p true, upd (clm s) p v, s.held⟩ := by
  obtain ⟨i1, i2, _, _⟩ := h.idle p hp hl
  refine Gs.eq rfl ?_ rfl
  funext q; show clm (declS s p v) q = _; unfold clm; simp only [declS, upd]; split
  · rename_i e; subst e; exact Vc.eq (by simp [Vc.add, i1]) (by simp [Vc.add, i2])
  · rfl
theorem gof_fin (s : St) (p : Nat) : gof (finS s p) = ⟨upd s.live p false, upd (clm s) p zeroV, upd s.held p zeroV⟩ := by
  refine Gs.eq rfl ?_ rfl
  funext q; show clm (finS s p) q = _; unfold clm; simp only [finS, upd]; split
  · rfl
  · rfl

end Go.Proofs.Qxb6500340a
