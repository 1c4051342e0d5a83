import Derived.Test.Qxb6500340aK1
namespace Go.Proofs.Qxb6500340a
open Go.RowKit
set_option linter.unusedVariables false
set_option linter.unusedSimpArgs false

def ghC (g : Gs) : Array Value := #[.bool (g.live 0), .bool (g.live 1), .bool (g.live 2), .bool (g.live 3),
  .int .i64 (g.claim 0).a, .int .i64 (g.claim 0).b, .int .i64 (g.claim 1).a, .int .i64 (g.claim 1).b, .int .i64 (g.claim 2).a, .int .i64 (g.claim 2).b, .int .i64 (g.claim 3).a, .int .i64 (g.claim 3).b,
  .int .i64 (g.held 0).a, .int .i64 (g.held 0).b, .int .i64 (g.held 1).a, .int .i64 (g.held 1).b, .int .i64 (g.held 2).a, .int .i64 (g.held 2).b, .int .i64 (g.held 3).a, .int .i64 (g.held 3).b]
def Gh (w : World) (b : Nat) (g : Gs) : Prop := w.heap[b]? = some (.cells (ghC g) 37)
section
variable {w : World} {b : Nat} {g : Gs}
theorem Gh.li (h : Gh w b g) {p : Nat} (hp : p < 4) : w.cell? ⟨b, p, none⟩ = some (.bool (g.live p)) := by
  rcases lt4 hp with rfl | rfl | rfl | rfl <;> exact blk_cell h _
theorem Gh.ca (h : Gh w b g) {p : Nat} (hp : p < 4) : w.cell? ⟨b, 4 + p * 2, none⟩ = some (.int .i64 (g.claim p).a) := by
  rcases lt4 hp with rfl | rfl | rfl | rfl <;> exact blk_cell h _
theorem Gh.cb (h : Gh w b g) {p : Nat} (hp : p < 4) : w.cell? ⟨b, 4 + p * 2 + 1, none⟩ = some (.int .i64 (g.claim p).b) := by
  rcases lt4 hp with rfl | rfl | rfl | rfl <;> exact blk_cell h _
theorem Gh.ha (h : Gh w b g) {p : Nat} (hp : p < 4) : w.cell? ⟨b, 12 + p * 2, none⟩ = some (.int .i64 (g.held p).a) := by
  rcases lt4 hp with rfl | rfl | rfl | rfl <;> exact blk_cell h _
theorem Gh.hb (h : Gh w b g) {p : Nat} (hp : p < 4) : w.cell? ⟨b, 12 + p * 2 + 1, none⟩ = some (.int .i64 (g.held p).b) := by
  rcases lt4 hp with rfl | rfl | rfl | rfl <;> exact blk_cell h _
theorem Gh.fr (h : Gh w b g) (i : Nat) : w.frozen? ⟨b, i, none⟩ = false := blk_frozen h i
theorem Gh.keep {w' : World} {S : List Nat} (h : Gh w b g) (hf : Fr S w w') (hn : b ∉ S) : Gh w' b g := Fr.keep hf h hn
theorem Gh.setLi (h : Gh w b g) {p : Nat} (hp : p < 4) (v : Bool) : Gh (w.setCell ⟨b, p, none⟩ (.bool v)) b { g with live := upd g.live p v } := by
  unfold Gh; rw [blk_set h]; rcases lt4 hp with rfl | rfl | rfl | rfl <;> rfl
theorem Gh.setCa (h : Gh w b g) {p : Nat} (hp : p < 4) (v : Int) : Gh (w.setCell ⟨b, 4 + p * 2, none⟩ (.int .i64 v)) b { g with claim := upd g.claim p ⟨v, (g.claim p).b⟩ } := by
  unfold Gh; rw [blk_set h]; rcases lt4 hp with rfl | rfl | rfl | rfl <;> rfl
theorem Gh.setCb (h : Gh w b g) {p : Nat} (hp : p < 4) (v : Int) : Gh (w.setCell ⟨b, 4 + p * 2 + 1, none⟩ (.int .i64 v)) b { g with claim := upd g.claim p ⟨(g.claim p).a, v⟩ } := by
  unfold Gh; rw [blk_set h]; rcases lt4 hp with rfl | rfl | rfl | rfl <;> rfl
theorem Gh.setHa (h : Gh w b g) {p : Nat} (hp : p < 4) (v : Int) : Gh (w.setCell ⟨b, 12 + p * 2, none⟩ (.int .i64 v)) b { g with held := upd g.held p ⟨v, (g.held p).b⟩ } := by
  unfold Gh; rw [blk_set h]; rcases lt4 hp with rfl | rfl | rfl | rfl <;> rfl
theorem Gh.setHb (h : Gh w b g) {p : Nat} (hp : p < 4) (v : Int) : Gh (w.setCell ⟨b, 12 + p * 2 + 1, none⟩ (.int .i64 v)) b { g with held := upd g.held p ⟨(g.held p).a, v⟩ } := by
  unfold Gh; rw [blk_set h]; rcases lt4 hp with rfl | rfl | rfl | rfl <;> rfl
/-- A whole vector of claim | held is laid in. -/
theorem Gh.setC (h : Gh w b g) {p : Nat} (hp : p < 4) (v : Vc) : Gh ((w.setCell ⟨b, 4 + p * 2, none⟩ (.int .i64 v.a)).setCell ⟨b, 4 + p * 2 + 1, none⟩ (.int .i64 v.b)) b { g with claim := upd g.claim p v } := by
  have := (h.setCa hp v.a).setCb hp v.b
  simp only [upd_upd, upd_same] at this; exact this
theorem Gh.setH (h : Gh w b g) {p : Nat} (hp : p < 4) (v : Vc) : Gh ((w.setCell ⟨b, 12 + p * 2, none⟩ (.int .i64 v.a)).setCell ⟨b, 12 + p * 2 + 1, none⟩ (.int .i64 v.b)) b { g with held := upd g.held p v } := by
  have := (h.setHa hp v.a).setHb hp v.b
  simp only [upd_upd, upd_same] at this; exact this
end

/-- A vector in a block of its own. -/
def Vb (w : World) (b : Nat) (x : Vc) : Prop := w.heap[b]? = some (.cells (vcC x) 27)
theorem Vb.a {w : World} {b : Nat} {x : Vc} (h : Vb w b x) : w.cell? ⟨b, 0, none⟩ = some (.int .i64 x.a) := blk_cell h 0
theorem Vb.b {w : World} {b : Nat} {x : Vc} (h : Vb w b x) : w.cell? ⟨b, 1, none⟩ = some (.int .i64 x.b) := blk_cell h 1
theorem Vb.fr {w : World} {b : Nat} {x : Vc} (h : Vb w b x) (i : Nat) : w.frozen? ⟨b, i, none⟩ = false := blk_frozen h i
theorem Vb.keep {w w' : World} {b : Nat} {x : Vc} {S : List Nat} (h : Vb w b x) (hf : Fr S w w') (hn : b ∉ S) : Vb w' b x := Fr.keep hf h hn
theorem Vb.set {w : World} {b : Nat} {x : Vc} (h : Vb w b x) (u v : Int) : Vb ((w.setCell ⟨b, 0, none⟩ (.int .i64 u)).setCell ⟨b, 1, none⟩ (.int .i64 v)) b ⟨u, v⟩ := blk_set (blk_set h 0 _) 1 _
theorem Vb.far {w : World} {b : Nat} {x : Vc} (h : Vb w b x) {p : Addr} {v : Value} (hp : b ≠ p.block) : Vb (w.setCell p v) b x := blk_set_far h p v hp
theorem Gh.far {w : World} {b : Nat} {g : Gs} (h : Gh w b g) {p : Addr} {v : Value} (hp : b ≠ p.block) : Gh (w.setCell p v) b g := blk_set_far h p v hp
/-- Which slots were seen, in a block of its own. -/
def Sb (w : World) (b : Nat) (d : Nat → Bool) : Prop := w.heap[b]? = some (.cells (bvC d) 34)
theorem Sb.at {w : World} {b : Nat} {d : Nat → Bool} (h : Sb w b d) {p : Nat} (hp : p < 4) : w.cell? ⟨b, p, none⟩ = some (.bool (d p)) := by
  rcases lt4 hp with rfl | rfl | rfl | rfl <;> exact blk_cell h _
theorem Sb.fr {w : World} {b : Nat} {d : Nat → Bool} (h : Sb w b d) (i : Nat) : w.frozen? ⟨b, i, none⟩ = false := blk_frozen h i
theorem Sb.keep {w w' : World} {b : Nat} {d : Nat → Bool} {S : List Nat} (h : Sb w b d) (hf : Fr S w w') (hn : b ∉ S) : Sb w' b d := Fr.keep hf h hn
theorem Sb.set {w : World} {b : Nat} {d : Nat → Bool} (h : Sb w b d) {p : Nat} (hp : p < 4) : Sb (w.setCell ⟨b, p, none⟩ (.bool true)) b (upd d p true) := done_set h hp
theorem Sb.far {w : World} {b : Nat} {d : Nat → Bool} (h : Sb w b d) {p : Addr} {v : Value} (hp : b ≠ p.block) : Sb (w.setCell p v) b d := blk_set_far h p v hp

section
variable {w : World} {b v i j : Nat} {x y : Value}
theorem Gh.far2 {g : Gs} (h : Gh w b g) (hp : b ≠ v) : Gh ((w.setCell ⟨v, i, none⟩ x).setCell ⟨v, j, none⟩ y) b g := (h.far hp).far hp
theorem Vb.far2 {g : Vc} (h : Vb w b g) (hp : b ≠ v) : Vb ((w.setCell ⟨v, i, none⟩ x).setCell ⟨v, j, none⟩ y) b g := (h.far hp).far hp
theorem Sb.far2 {g : Nat → Bool} (h : Sb w b g) (hp : b ≠ v) : Sb ((w.setCell ⟨v, i, none⟩ x).setCell ⟨v, j, none⟩ y) b g := (h.far hp).far hp
theorem Fr.set2 {S : List Nat} {a : World} (h : Fr S a w) (hp : a.heap.size ≤ v) : Fr S a ((w.setCell ⟨v, i, none⟩ x).setCell ⟨v, j, none⟩ y) := (h.setCell (Or.inr hp) _).setCell (Or.inr hp) _
theorem Gh.drew {g : Gs} (h : Gh w b g) : Gh w.drew b g := h
theorem Vb.drew {g : Vc} (h : Vb w b g) : Vb w.drew b g := h
theorem Sb.drew {g : Nat → Bool} (h : Sb w b g) : Sb w.drew b g := h
end

def fsub (s : St) : Nat → Vc
  | 0 => totV
  | k + 1 => (fsub s k).sub (s.held k)
theorem fsub_bd {s : St} (h : Bd s) {k : Nat} (hk : k ≤ 4) : -500 ≤ (fsub s k).a ∧ (fsub s k).a ≤ 500 ∧ -500 ≤ (fsub s k).b ∧ (fsub s k).b ≤ 500 := by
  have h0 := h.held 0 (by omega); have h1 := h.held 1 (by omega); have h2 := h.held 2 (by omega); have h3 := h.held 3 (by omega)
  rcases (by omega : k = 0 ∨ k = 1 ∨ k = 2 ∨ k = 3 ∨ k = 4) with rfl | rfl | rfl | rfl | rfl <;> simp only [fsub, totV, Vc.sub] <;> omega
theorem fsub_av {s : St} (h : Sm s) : fsub s 4 = s.av := by
  have := h.suma; have := h.sumb
  exact Vc.eq (by simp only [fsub, totV, Vc.sub]; omega) (by simp only [fsub, totV, Vc.sub]; omega)

set_option maxHeartbeats 3200000 in
set_option maxRecDepth 100000 in
theorem free_any (w : World) (b : Nat) (s : St) (hb : Gh w b (gof s)) (hm : Sm s) :
    Calls Try.prog 19 #[.pointer (some ⟨b, 0, none⟩)] w fun e w' => e = .returned (.agg #[.int .i64 s.av.a, .int .i64 s.av.b]) ∧ Fr [] w w' := by
  have hl := blk_lt hb
  have HM : Hid (Sm s) := hm
  have HB : Hid (Gh w b (gof s)) := hb
  clear hb hm
  go_enter Try.func19, Try.ntmps19
  go_wp2_with fail
  go_at_call 17
  refine (total_any _).mono ?_
  rintro e w1 ⟨rfl, hf1⟩
  go_wp2_with fail
  have X1 : Hid (Gh (w1.alloc (.cells #[.int .i64 5, .int .i64 3] 27)) b (gof s)) := blk_alloc (hf1.keep (blk_alloc HB.out _) (by simp)) _
  have R1 : Hid (Vb (w1.alloc (.cells #[.int .i64 5, .int .i64 3] 27)) w.heap.size zeroV) := blk_alloc (hf1.keep (blk_new _ _) (by simp)) _
  have V1 : Hid (Vb (w1.alloc (.cells #[.int .i64 5, .int .i64 3] 27)) w1.heap.size (fsub s 0)) := blk_new _ _
  have F1 : Hid (Fr [] w (w1.alloc (.cells #[.int .i64 5, .int .i64 3] 27))) := (((Fr.refl _ _).alloc _).trans hf1).alloc _
  have hl1 : w.heap.size < w1.heap.size := by have := hf1.size; simp at this; omega
  generalize w1.alloc (.cells #[.int .i64 5, .int .i64 3] 27) = W1 at X1 R1 V1 F1 ⊢
  clear HB hf1
  generalize w1.heap.size = v at V1 hl1 ⊢
  clear w1
  go_loopg [4] 4 (fun g s4 wx => ∃ k : Nat, k + g = 4 ∧ s4 = .int .i64 k ∧ Hid (Gh wx b (gof s)) ∧ Hid (Vb wx w.heap.size zeroV) ∧ Hid (Vb wx v (fsub s k)) ∧ Hid (Fr [] w wx))
  case atStart => exact ⟨0, by omega, rfl, X1, R1, V1, F1⟩
  case round =>
    clear X1 R1 V1 F1
    obtain ⟨k, hkg, rfl, X, R, V, F⟩ := hrel
    have v0 := V.out.a
    have v1 := V.out.b
    cases gk with
    | zero =>
      have hk4 : ¬ ((k : Int) < 4) := by omega
      have hk : k = 4 := by omega
      subst hk
      have r0 := R.out.a
      have r1 := R.out.b
      have q0 := R.out.fr 0
      have q1 := R.out.fr 1
      have HE : Hid (fsub s 4 = s.av) := fsub_av HM.out
      go_wp2
      rw [← HE.out]
      refine bodyPost_ret (v := .agg #[.int .i64 (fsub s 4).a, .int .i64 (fsub s 4).b]) (by simp [results, Try.results19, go_sem, r0, r1]) rfl ⟨rfl, ?_⟩
      exact (F.out.setCell (Or.inr (by dsimp only; omega)) _).setCell (Or.inr (by dsimp only; omega)) _
    | succ g1 =>
      have hk4 : (k : Int) < 4 := by omega
      have hk : k < 4 := by omega
      have ha := X.out.ha hk
      have hb := X.out.hb hk
      dsimp only [gof] at ha hb
      have q0 := V.out.fr 0
      have q1 := V.out.fr 1
      have b1 := fsub_bd HM.out.bd (k := k) (by omega)
      have b2 := HM.out.bd.held k hk
      go_wp2
      go_region_with (go_at_call 30; refine (sub_any _ _ _ _ _ (by omega) (by omega) (by omega) (by omega)).mono ?_; rintro e w2 ⟨rfl, hf2⟩; have V3 : Hid (Vb w2 v (fsub s k)) := Vb.keep (by exact V.out) hf2 (by simp); have v0 := V3.out.a; have v1 := V3.out.b; have q0 := V3.out.fr 0; have q1 := V3.out.fr 1)
      all_goals (go_wp2; go_roundg g1)
      all_goals first
        | omega
        | exact ⟨k + 1, by omega, by go_num, (X.out.drew.keep hf2 (by simp)).far2 (by omega), (R.out.drew.keep hf2 (by simp)).far2 (by omega), V3.out.set _ _, (F.out.drew.trans hf2).set2 (by omega)⟩
end Go.Proofs.Qxb6500340a
