import Derived.Test.Qxb6500340aW2
namespace Go.Proofs.Qxb6500340a
open Go.RowKit
set_option linter.unusedVariables false

/-! ### The bank's block -/
def bkC (s : St) (cert : ByteArray) : Array Value := #[.int .i64 s.av.a, .int .i64 s.av.b, .bool (s.live 0), .bool (s.live 1), .bool (s.live 2), .bool (s.live 3),
  .int .i64 (s.need 0).a, .int .i64 (s.need 0).b, .int .i64 (s.need 1).a, .int .i64 (s.need 1).b, .int .i64 (s.need 2).a, .int .i64 (s.need 2).b, .int .i64 (s.need 3).a, .int .i64 (s.need 3).b,
  .int .i64 (s.held 0).a, .int .i64 (s.held 0).b, .int .i64 (s.held 1).a, .int .i64 (s.held 1).b, .int .i64 (s.held 2).a, .int .i64 (s.held 2).b, .int .i64 (s.held 3).a, .int .i64 (s.held 3).b, .string cert]
def Bk (w : World) (b : Nat) (s : St) (cert : ByteArray) : Prop := w.heap[b]? = some (.cells (bkC s cert) 48)
def vcC (v : Vc) : Array Value := #[.int .i64 v.a, .int .i64 v.b]
def bvC (d : Nat → Bool) : Array Value := #[.bool (d 0), .bool (d 1), .bool (d 2), .bool (d 3)]

structure Bd (s : St) : Prop where
  av : -100 ≤ s.av.a ∧ s.av.a ≤ 100 ∧ -100 ≤ s.av.b ∧ s.av.b ≤ 100
  need : ∀ p, p < 4 → -100 ≤ (s.need p).a ∧ (s.need p).a ≤ 100 ∧ -100 ≤ (s.need p).b ∧ (s.need p).b ≤ 100
  held : ∀ p, p < 4 → -100 ≤ (s.held p).a ∧ (s.held p).a ≤ 100 ∧ -100 ≤ (s.held p).b ∧ (s.held p).b ≤ 100

/-- The books that lie in the walk: the work and what is done. -/
structure Gr (w : World) (b B : Nat) (s : St) (cert : ByteArray) (r : Rn) : Prop where
  bk : Bk w b s cert
  wk : w.heap[B]? = some (.cells (vcC r.wk) 27)
  dn : w.heap[B + 1]? = some (.cells (bvC r.done) 34)

def ordT (l : List Nat) : ByteArray := ⟨(dgs l).toArray⟩

/-- The greedy test's answer. -/
def gOkB (s : St) : Bool := (run s 4).done 0 == s.live 0 && (run s 4).done 1 == s.live 1 && (run s 4).done 2 == s.live 2 && (run s 4).done 3 == s.live 3

theorem run_stay {s : St} {k : Nat} (h : pick s (run s k).done (run s k).wk = none) (m : Nat) : run s (k + m) = run s k := by
  induction m with
  | zero => rfl
  | succ m ih => rw [show k + (m + 1) = (k + m) + 1 from rfl, run, ih]; exact rstep_none h

theorem run_wk {s : St} (hb : Bd s) (k : Nat) : -100 - 100 * (k : Int) ≤ (run s k).wk.a ∧ (run s k).wk.a ≤ 100 + 100 * (k : Int) ∧ -100 - 100 * (k : Int) ≤ (run s k).wk.b ∧ (run s k).wk.b ≤ 100 + 100 * (k : Int) := by
  induction k with
  | zero => have := hb.av; simp only [run]; omega
  | succ k ih =>
    simp only [run]
    cases hp : pick s (run s k).done (run s k).wk with
    | none => rw [rstep_none hp]; omega
    | some p => rw [rstep_some hp]; have := hb.held p (pick_some hp).1; simp only [Vc.add]; omega


section
variable {w : World} {b : Nat} {s : St} {cert : ByteArray}
theorem Bk.aa (h : Bk w b s cert) : w.cell? ⟨b, 0, none⟩ = some (.int .i64 s.av.a) := blk_cell h 0
theorem Bk.ab (h : Bk w b s cert) : w.cell? ⟨b, 1, none⟩ = some (.int .i64 s.av.b) := blk_cell h 1
theorem Bk.ce (h : Bk w b s cert) : w.cell? ⟨b, 22, none⟩ = some (.string cert) := blk_cell h 22
theorem lt4 {p : Nat} (h : p < 4) : p = 0 ∨ p = 1 ∨ p = 2 ∨ p = 3 := by omega
theorem Bk.li (h : Bk w b s cert) {p : Nat} (hp : p < 4) : w.cell? ⟨b, 2 + p, none⟩ = some (.bool (s.live p)) := by
  rcases lt4 hp with rfl | rfl | rfl | rfl <;> exact blk_cell h _
theorem Bk.na (h : Bk w b s cert) {p : Nat} (hp : p < 4) : w.cell? ⟨b, 6 + p * 2, none⟩ = some (.int .i64 (s.need p).a) := by
  rcases lt4 hp with rfl | rfl | rfl | rfl <;> exact blk_cell h _
theorem Bk.nb (h : Bk w b s cert) {p : Nat} (hp : p < 4) : w.cell? ⟨b, 6 + p * 2 + 1, none⟩ = some (.int .i64 (s.need p).b) := by
  rcases lt4 hp with rfl | rfl | rfl | rfl <;> exact blk_cell h _
theorem Bk.ha (h : Bk w b s cert) {p : Nat} (hp : p < 4) : w.cell? ⟨b, 14 + p * 2, none⟩ = some (.int .i64 (s.held p).a) := by
  rcases lt4 hp with rfl | rfl | rfl | rfl <;> exact blk_cell h _
theorem Bk.hb (h : Bk w b s cert) {p : Nat} (hp : p < 4) : w.cell? ⟨b, 14 + p * 2 + 1, none⟩ = some (.int .i64 (s.held p).b) := by
  rcases lt4 hp with rfl | rfl | rfl | rfl <;> exact blk_cell h _
theorem Bk.fr (h : Bk w b s cert) (i : Nat) : w.frozen? ⟨b, i, none⟩ = false := blk_frozen h i
theorem Bk.keep {w' : World} {S : List Nat} (h : Bk w b s cert) (hf : Fr S w w') (hn : b ∉ S) : Bk w' b s cert := Fr.keep hf h hn
end

/-- gate's answer. -/
def gateE (s : St) (p : Int) (lv : Bool) (v : Vc) : Int := if 0 ≤ p ∧ p < 4 then (if s.live p.toNat = lv then (if cntB v.a v.b then 0 else 3) else 2) else 1
theorem gateE_in {s : St} {p : Nat} {lv : Bool} {v : Vc} (h : p < 4) : gateE s p lv v = (if s.live p = lv then (if cntB v.a v.b then 0 else 3) else 2) := by
  unfold gateE; rw [if_pos (by omega)]; simp

set_option maxHeartbeats 1600000 in
theorem gate_any (w : World) (b : Nat) (s : St) (cert : ByteArray) (hb : Bk w b s cert) (p : Int) (lv : Bool) (v : Vc) :
    Calls Try.prog 48 #[.pointer (some ⟨b, 0, none⟩), .int .i64 p, .bool lv, .agg #[.int .i64 v.a, .int .i64 v.b]] w fun e w' => (e = .returned (.int .i64 (gateE s p lv v))) ∧ Fr [] w w' := by
  by_cases h0 : 0 ≤ p ∧ p < 4
  · obtain ⟨q, rfl⟩ : ∃ q : Nat, p = q := ⟨p.toNat, by omega⟩
    have hp : q < 4 := by omega
    have cl := hb.li hp
    have hl := blk_lt hb
    rw [gateE_in hp]
    clear hb
    generalize s.live q = x at *
    generalize hc : cntB v.a v.b = y at *
    cases x <;> cases lv <;> cases y
    all_goals
      go_enter Try.func48, Try.ntmps48
      go_wp2_with (go_at_call 54; refine (counts_any _ _ _).mono ?_; rintro e w1 ⟨rfl, hf1⟩; rw [hc])
      go_ret
      first
        | exact ⟨rfl, ((Fr.refl _ _).alloc _).trans hf1⟩
        | exact ⟨rfl, (Fr.refl _ _).alloc _⟩
  · have hE : gateE s p lv v = 1 := by unfold gateE; rw [if_neg h0]
    rw [hE]
    clear hb
    by_cases h1 : p < 0
    · go_enter Try.func48, Try.ntmps48
      go_wp2
      go_ret
      exact ⟨rfl, ((Fr.refl _ _).alloc _)⟩
    · go_enter Try.func48, Try.ntmps48
      go_wp2
      go_ret
      exact ⟨rfl, ((Fr.refl _ _).alloc _)⟩
end Go.Proofs.Qxb6500340a
