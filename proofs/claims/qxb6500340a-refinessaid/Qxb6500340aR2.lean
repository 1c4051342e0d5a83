import Derived.Test.Qxb6500340aK1
namespace Go.Proofs.Qxb6500340a
set_option linter.unusedVariables false

/-- The books' invariant, but for safety. -/
structure Ib (s : St) : Prop where
  suma : s.av.a + (s.held 0).a + (s.held 1).a + (s.held 2).a + (s.held 3).a = 5
  sumb : s.av.b + (s.held 0).b + (s.held 1).b + (s.held 2).b + (s.held 3).b = 3
  ava : 0 ≤ s.av.a
  avb : 0 ≤ s.av.b
  slot : ∀ p, p < 4 → 0 ≤ (s.held p).a ∧ 0 ≤ (s.held p).b ∧ 0 ≤ (s.need p).a ∧ 0 ≤ (s.need p).b ∧ (s.held p).a + (s.need p).a ≤ 5 ∧ (s.held p).b + (s.need p).b ≤ 3
  idle : ∀ p, p < 4 → s.live p = false → (s.held p).a = 0 ∧ (s.held p).b = 0 ∧ (s.need p).a = 0 ∧ (s.need p).b = 0
theorem Inv.ib {s : St} (h : Inv s) : Ib s := ⟨h.suma, h.sumb, h.ava, h.avb, h.slot, h.idle⟩
theorem Ib.pos {s : St} (h : Ib s) : Pos s := ⟨fun p hp => ⟨(h.slot p hp).1, (h.slot p hp).2.1⟩⟩
theorem Ib.bd {s : St} (h : Ib s) : Bd s := by
  have h0 := h.slot 0 (by omega)
  have h1 := h.slot 1 (by omega)
  have h2 := h.slot 2 (by omega)
  have h3 := h.slot 3 (by omega)
  have ha := h.ava; have hb := h.avb; have hc := h.suma; have hd := h.sumb
  refine ⟨?_, fun p hp => ?_, fun p hp => ?_⟩
  · omega
  · have := h.slot p hp; omega
  · have := h.slot p hp; omega
theorem Ib.sm {s : St} (h : Ib s) : Sm s := ⟨h.suma, h.sumb, h.bd⟩
theorem Ib.fin {s : St} (h : Ib s) {p : Nat} (hp : p < 4) : Ib (finS s p) := by
  have hsl : ∀ q, q ≠ p → (finS s p).held q = s.held q ∧ (finS s p).need q = s.need q ∧ (finS s p).live q = s.live q := fun q e => ⟨upd_other _ _ _ _ e, upd_other _ _ _ _ e, upd_other _ _ _ _ e⟩
  have hsp : (finS s p).held p = zeroV ∧ (finS s p).need p = zeroV ∧ (finS s p).live p = false := ⟨upd_same _ _ _, upd_same _ _ _, upd_same _ _ _⟩
  have hsl0 := h.slot p hp
  refine ⟨?_, ?_, ?_, ?_, fun q hq => ?_, fun q hq hlq => ?_⟩
  · have := h.suma
    rcases (by omega : p = 0 ∨ p = 1 ∨ p = 2 ∨ p = 3) with rfl | rfl | rfl | rfl <;> simp [finS, upd, Vc.add, zeroV] <;> omega
  · have := h.sumb
    rcases (by omega : p = 0 ∨ p = 1 ∨ p = 2 ∨ p = 3) with rfl | rfl | rfl | rfl <;> simp [finS, upd, Vc.add, zeroV] <;> omega
  · have := h.ava; show 0 ≤ s.av.a + (s.held p).a; omega
  · have := h.avb; show 0 ≤ s.av.b + (s.held p).b; omega
  · by_cases e : q = p
    · subst e; rw [hsp.1, hsp.2.1]; simp [zeroV]
    · rw [(hsl q e).1, (hsl q e).2.1]; exact h.slot q hq
  · by_cases e : q = p
    · subst e; rw [hsp.1, hsp.2.1]; simp [zeroV]
    · rw [(hsl q e).1, (hsl q e).2.1]; exact h.idle q hq (by rw [← (hsl q e).2.2]; exact hlq)
theorem Ib.req {s : St} (h : Ib s) {p : Nat} {v : Vc} (hp : p < 4) (hl : s.live p = true) (hv : 0 ≤ v.a ∧ 0 ≤ v.b) (hn : v.a ≤ (s.need p).a ∧ v.b ≤ (s.need p).b) (ha : v.a ≤ s.av.a ∧ v.b ≤ s.av.b) : Ib (reqS s p v) := by
  have hsl : ∀ q, q ≠ p → (reqS s p v).held q = s.held q ∧ (reqS s p v).need q = s.need q := fun q e => ⟨upd_other _ _ _ _ e, upd_other _ _ _ _ e⟩
  have hsp : (reqS s p v).held p = (s.held p).add v ∧ (reqS s p v).need p = (s.need p).sub v := ⟨upd_same _ _ _, upd_same _ _ _⟩
  refine ⟨?_, ?_, ?_, ?_, fun q hq => ?_, fun q hq hlq => ?_⟩
  · have := h.suma
    rcases (by omega : p = 0 ∨ p = 1 ∨ p = 2 ∨ p = 3) with rfl | rfl | rfl | rfl <;> simp [reqS, upd, Vc.add, Vc.sub] <;> omega
  · have := h.sumb
    rcases (by omega : p = 0 ∨ p = 1 ∨ p = 2 ∨ p = 3) with rfl | rfl | rfl | rfl <;> simp [reqS, upd, Vc.add, Vc.sub] <;> omega
  · show 0 ≤ s.av.a - v.a; omega
  · show 0 ≤ s.av.b - v.b; omega
  · have := h.slot q hq
    by_cases e : q = p
    · subst e; rw [hsp.1, hsp.2]; simp only [Vc.add, Vc.sub]; omega
    · rw [(hsl q e).1, (hsl q e).2]; exact this
  · have e : q ≠ p := fun e => by subst e; have : s.live q = false := hlq; rw [hl] at this; simp at this
    rw [(hsl q e).1, (hsl q e).2]; exact h.idle q hq hlq

/-! ### Order, by the definition -/
theorem upd_comm {α : Type} (f : Nat → α) (p q : Nat) (u v : α) (h : p ≠ q) : upd (upd f p u) q v = upd (upd f q v) p u := by
  funext x; unfold upd
  by_cases h1 : x = p <;> by_cases h2 : x = q <;> simp_all
theorem elig_fin {s : St} {p : Nat} {done : Nat → Bool} {wk : Vc} (q : Nat) : elig (finS s p) done wk q = elig s (upd done p true) wk q := by
  unfold elig
  by_cases e : q = p
  · subst e; simp [finS, upd]
  · simp [finS, upd, e]
theorem pickFrom_congr {s t : St} {d e : Nat → Bool} {wk : Vc} (h : ∀ q, elig s d wk q = elig t e wk q) (n : Nat) : ∀ p, pickFrom s d wk n p = pickFrom t e wk n p := by
  induction n with
  | zero => intro p; rfl
  | succ n ih => intro p; simp only [pickFrom, h p, ih (p + 1)]
theorem can_fin {s : St} {p : Nat} (n : Nat) : ∀ (done : Nat → Bool) (wk : Vc), can (finS s p) n done wk = can s n (upd done p true) wk := by
  induction n with
  | zero => intro done wk; rfl
  | succ n ih =>
    intro done wk
    have hpk : pick (finS s p) done wk = pick s (upd done p true) wk := pickFrom_congr (fun q => elig_fin q) 4 0
    simp only [can, hpk]
    cases hk : pick s (upd done p true) wk with
    | none => rfl
    | some q =>
      have hne : q ≠ p := fun e => by
        have := (elig_iff.1 (pick_some hk).2.1).1
        rw [e, upd_same] at this; simp at this
      have hh : (finS s p).held q = s.held q := upd_other _ _ _ _ hne
      simp only [hh, ih]
      rw [upd_comm _ _ _ _ _ hne]
theorem can_pick {s : St} {n p : Nat} {done : Nat → Bool} {wk : Vc} (h : pick s done wk = some p) : can s (n + 1) done wk = p :: can s n (upd done p true) (wk.add (s.held p)) := by
  simp only [can, h]
theorem ord_cons {s : St} {p : Nat} (h : pick s (fun _ => false) s.av = some p) : (run s 4).ord = p :: (run (finS s p) 4).ord := by
  have h5 : (run s 5).ord = can s 5 (fun _ => false) s.av := by
    have := run_can s 5 0
    simpa [run] using this.symm
  have h54 : run s 5 = run s 4 := run_stay (run_stuck s) 1
  rw [← h54, h5, ord_can (finS s p), can_fin]
  exact can_pick (n := 4) h
/-- Whoever can run now: the state behind his finishing is safe just if this one is. -/
theorem comp_fin {s : St} (hs : Pos s) {p : Nat} (hp : p < 4) (he : elig s (fun _ => false) s.av p = true) : Comp (finS s p) (fun _ => false) (finS s p).av ↔ Comp s (fun _ => false) s.av := by
  have key : Comp (finS s p) (fun _ => false) (finS s p).av ↔ Comp s (upd (fun _ => false) p true) (s.av.add (s.held p)) := by
    have cong : ∀ l : List Nat, (∀ q, q ∈ l → q ≠ p) → ∀ wk, acc (finS s p) wk l ↔ acc s wk l := by
      intro l hl
      induction l with
      | nil => intro wk; exact Iff.rfl
      | cons q l ih =>
        intro wk
        have hq := hl q (by simp)
        have e1 : (finS s p).need q = s.need q := upd_other _ _ _ _ hq
        have e2 : (finS s p).held q = s.held q := upd_other _ _ _ _ hq
        simp only [acc, e1, e2]
        rw [ih (fun x hx => hl x (by simp [hx]))]
    constructor
    · rintro ⟨l, hf, ha⟩
      have hn : ∀ q, q ∈ l → q ≠ p := fun q hq e => by
        have := ((hf.mem q (hf.lt q hq)).1 hq).1
        rw [e] at this; simp [finS, upd] at this
      refine ⟨l, ⟨hf.nodup, hf.lt, fun q hq => ?_⟩, (cong l hn _).1 ha⟩
      rw [hf.mem q hq]
      by_cases e : q = p
      · subst e; simp [finS, upd]
      · simp [finS, upd, e]
    · rintro ⟨l, hf, ha⟩
      have hn : ∀ q, q ∈ l → q ≠ p := fun q hq e => by
        have := ((hf.mem q (hf.lt q hq)).1 hq).2
        rw [e, upd_same] at this; simp at this
      refine ⟨l, ⟨hf.nodup, hf.lt, fun q hq => ?_⟩, (cong l hn _).2 ha⟩
      rw [hf.mem q hq]
      by_cases e : q = p
      · subst e; simp [finS, upd]
      · simp [finS, upd, e]
  rw [key]
  exact ⟨fun h => h.give hp he, fun h => h.take hs hp he⟩
theorem gok_fin {s : St} (h : Ib s) {p : Nat} (hp : p < 4) (he : elig s (fun _ => false) s.av p = true) : gOkB (finS s p) = gOkB s := by
  rw [Bool.eq_iff_iff, gOkB_iff, gOkB_iff, gOk_iff (h.fin hp).pos, gOk_iff h.pos]
  exact comp_fin h.pos hp he
theorem gok_none {s : St} (h : Ib s) (hl : ∀ p, p < 4 → s.live p = false) : gOkB s = true ∧ (run s 4).ord = [] := by
  refine ⟨?_, ?_⟩
  · rw [gOkB_iff, gOk_iff h.pos]
    exact comp_all (fun p hp => (hl p hp).symm)
  · rw [ord_can]
    have : pick s (fun _ => false) s.av = none := pick_all (fun r hr => by unfold elig; rw [hl r hr]; simp)
    simp only [can, this]
theorem gok_stuck {s : St} (h : Ib s) (hn : ∀ p, p < 4 → elig s (fun _ => false) s.av p = false) {q : Nat} (hq : q < 4) (hl : s.live q = true) : gOkB s = false := by
  cases hg : gOkB s with
  | false => rfl
  | true =>
    have hc := (gOk_iff h.pos).1 (gOkB_iff.1 hg)
    have := hc.some hn q hq hl
    simp at this
/-- Order's answer. -/
def ordE (s : St) : Int := if gOkB s then 0 else 6
def ordS (s : St) : ByteArray := if gOkB s then ordT (run s 4).ord else ⟨#[]⟩
theorem nlive_fin {s : St} {p : Nat} (hp : p < 4) (hl : s.live p = true) : nlive (finS s p) + 1 = nlive s := by
  unfold nlive cd
  rcases lt4 hp with rfl | rfl | rfl | rfl <;> simp [finS, upd, hl, b1] <;> omega

end Go.Proofs.Qxb6500340a
