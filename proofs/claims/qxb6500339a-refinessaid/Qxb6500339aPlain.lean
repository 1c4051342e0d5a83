/-
  THE PLAIN TOWER: a disk of eight blocks, a journal, four accounts. No Go in sight.
-/
import Derived.WalkKit
namespace Go.Proofs.Qxb6500339a
set_option linter.unusedVariables false

structure Bl where
  a : Int
  b : Int
  c : Int
  d : Int
theorem Bl.eq {x y : Bl} (h1 : x.a = y.a) (h2 : x.b = y.b) (h3 : x.c = y.c) (h4 : x.d = y.d) : x = y := by cases x; cases y; simp_all

def zB : Bl := ⟨0, 0, 0, 0⟩
/-- The block that holds a number below 65536. -/
def enc (n : Int) : Bl := ⟨n % 256, n / 256 % 256, 0, 0⟩
def hdr (a b : Nat) : Bl := ⟨1, a, b, 0⟩
def upd {α : Type} (f : Nat → α) (p : Nat) (v : α) : Nat → α := fun q => if q = p then v else f q
theorem upd_same {α : Type} (f : Nat → α) (p : Nat) (v : α) : upd f p v p = v := by simp [upd]
theorem upd_other {α : Type} (f : Nat → α) (p q : Nat) (v : α) (h : q ≠ p) : upd f p v q = f q := by simp [upd, h]

/-- The writes, played. -/
def app (n : Nat → Bl) : List (Nat × Bl) → Nat → Bl
  | [] => n
  | w :: l => app (upd n w.1 w.2) l
theorem app_append (n : Nat → Bl) (l m : List (Nat × Bl)) : app n (l ++ m) = app (app n l) m := by
  induction l generalizing n with
  | nil => rfl
  | cons w l ih => exact ih _

def sumB (B : Nat → Int) : Int := B 0 + B 1 + B 2 + B 3
/-- What home i holds. -/
def hv (B : Nat → Int) (i : Nat) : Int := if i = 4 then sumB B else B i
def OkB (B : Nat → Int) : Prop := ∀ i, i < 4 → 0 ≤ B i ∧ B i ≤ 1000
theorem OkB.hv {B : Nat → Int} (h : OkB B) {i : Nat} (hi : i < 5) : 0 ≤ hv B i ∧ hv B i ≤ 4000 := by
  unfold Go.Proofs.Qxb6500339a.hv
  have h0 := h 0 (by omega); have h1 := h 1 (by omega); have h2 := h 2 (by omega); have h3 := h 3 (by omega)
  split
  · unfold sumB; omega
  · have := h i (by omega); omega

/-- At rest: the journal is empty, the homes show B. -/
structure Good (n : Nat → Bl) (B : Nat → Int) : Prop where
  h0 : n 0 = zB
  hm : ∀ i, i < 5 → n (3 + i) = enc (hv B i)
/-- A committed pair (a, b) lies in the journal: once it is installed the homes show B. -/
structure Full (n : Nat → Bl) (B : Nat → Int) (a b : Nat) : Prop where
  ha : a < 5
  hb : b < 5
  ne : a ≠ b
  h0 : n 0 = hdr a b
  hm : ∀ i, i < 5 → (if i = a then n 1 else if i = b then n 2 else n (3 + i)) = enc (hv B i)
/-- Recovery makes B of it. -/
def Jr (n : Nat → Bl) (B : Nat → Int) : Prop := Good n B ∨ ∃ a b, Full n B a b

/-- What recovery writes. -/
def rcv (n : Nat → Bl) : List (Nat × Bl) := if (n 0).a = 1 then [(3 + (n 0).b.toNat, n 1), (3 + (n 0).c.toNat, n 2), (0, zB)] else []
theorem rcv_zero {n : Nat → Bl} (h : n 0 = zB) : rcv n = [] := by unfold rcv; rw [h]; rfl
theorem rcv_full {n : Nat → Bl} {a b : Nat} (h : n 0 = hdr a b) : rcv n = [(3 + a, n 1), (3 + b, n 2), (0, zB)] := by
  unfold rcv; rw [h]; simp [hdr]

theorem up3 {n : Nat → Bl} {i a : Nat} {v : Bl} : upd n (3 + a) v (3 + i) = if i = a then v else n (3 + i) := by
  unfold upd
  by_cases h : i = a
  · simp [h]
  · rw [if_neg (by omega), if_neg h]

theorem Full.step1 {n : Nat → Bl} {B : Nat → Int} {a b : Nat} (h : Full n B a b) : Full (upd n (3 + a) (n 1)) B a b := by
  refine ⟨h.ha, h.hb, h.ne, by rw [upd_other _ _ _ _ (by omega)]; exact h.h0, fun i hi => ?_⟩
  have := h.hm i hi
  rw [upd_other _ _ _ _ (by omega : 1 ≠ 3 + a), upd_other _ _ _ _ (by omega : 2 ≠ 3 + a), up3]
  by_cases e : i = a
  · simpa [e] using this
  · simpa [e] using this
theorem Full.step2 {n : Nat → Bl} {B : Nat → Int} {a b : Nat} (h : Full n B a b) : Full (upd n (3 + b) (n 2)) B a b := by
  refine ⟨h.ha, h.hb, h.ne, by rw [upd_other _ _ _ _ (by omega)]; exact h.h0, fun i hi => ?_⟩
  have := h.hm i hi
  rw [upd_other _ _ _ _ (by omega : 1 ≠ 3 + b), upd_other _ _ _ _ (by omega : 2 ≠ 3 + b), up3]
  by_cases e : i = a
  · simpa [e] using this
  · by_cases e2 : i = b
    · simpa [e, e2] using this
    · simpa [e, e2] using this
theorem Full.step3 {n : Nat → Bl} {B : Nat → Int} {a b : Nat} (h : Full n B a b) : Good (upd (upd (upd n (3 + a) (n 1)) (3 + b) (n 2)) 0 zB) B := by
  refine ⟨upd_same _ _ _, fun i hi => ?_⟩
  rw [upd_other _ _ _ _ (by omega), up3, up3]
  have := h.hm i hi
  have hne := h.ne
  by_cases e : i = a
  · subst e; rw [if_neg hne, if_pos rfl]; simpa using this
  · by_cases e2 : i = b
    · subst e2; rw [if_pos rfl]; simpa [e] using this
    · simpa [e, e2] using this

theorem Jr.good {n : Nat → Bl} {B : Nat → Int} (h : Jr n B) : Good (app n (rcv n)) B := by
  rcases h with h | ⟨a, b, h⟩
  · rw [rcv_zero h.h0]; exact h
  · rw [rcv_full h.h0]; exact h.step3
theorem Jr.cut {n : Nat → Bl} {B : Nat → Int} (h : Jr n B) (k : Nat) : Jr (app n ((rcv n).take k)) B := by
  rcases h with h | ⟨a, b, h⟩
  · rw [rcv_zero h.h0]; simp only [List.take_nil]; exact Or.inl h
  · rw [rcv_full h.h0]
    match k with
    | 0 => exact Or.inr ⟨a, b, h⟩
    | 1 => exact Or.inr ⟨a, b, h.step1⟩
    | 2 =>
      have h2 := h.step1.step2
      rw [upd_other n _ _ _ (by omega : 2 ≠ 3 + a)] at h2
      exact Or.inr ⟨a, b, h2⟩
    | k + 3 => simp only [List.take_succ_cons, List.take_nil]; exact Or.inl h.step3

theorem Jr.r8 {n : Nat → Bl} {B : Nat → Int} (h : Jr n B) : ∀ q, q ∈ rcv n → q.1 < 8 := by
  intro q hq
  rcases h with h | ⟨a, b, h⟩
  · rw [rcv_zero h.h0] at hq; simp at hq
  · rw [rcv_full h.h0] at hq
    have := h.ha; have := h.hb
    simp at hq
    rcases hq with rfl | rfl | rfl <;> simp <;> omega
theorem enc_inj {x y : Int} (h : enc x = enc y) (hx : 0 ≤ x ∧ x ≤ 4000) (hy : 0 ≤ y ∧ y ≤ 4000) : x = y := by
  have h1 : x % 256 = y % 256 := congrArg Bl.a h
  have h2 : x / 256 % 256 = y / 256 % 256 := congrArg Bl.b h
  omega
theorem Jr.uniq {n : Nat → Bl} {B C : Nat → Int} (h : Jr n B) (k : Jr n C) (hB : OkB B) (hC : OkB C) : ∀ i, i < 4 → B i = C i := fun i hi => by
  have e := (h.good.hm i (by omega)).symm.trans (k.good.hm i (by omega))
  have hb := hB.hv (i := i) (by omega)
  have hc := hC.hv (i := i) (by omega)
  have := enc_inj e hb hc
  unfold Go.Proofs.Qxb6500339a.hv at this
  rw [if_neg (by omega), if_neg (by omega)] at this
  exact this

/-- The six writes of a Put. -/
def putW (a : Nat) (x : Bl) (b : Nat) (y : Bl) : List (Nat × Bl) := [(1, x), (2, y), (0, hdr a b), (3 + a, x), (3 + b, y), (0, zB)]

theorem put_cut {n : Nat → Bl} {B B' : Nat → Int} {a b : Nat} (h : Good n B) (ha : a < 5) (hb : b < 5) (hne : a ≠ b) (ho : ∀ i, i < 5 → i ≠ a → i ≠ b → hv B' i = hv B i) :
    Good (app n (putW a (enc (hv B' a)) b (enc (hv B' b)))) B' ∧ ∀ k, Jr (app n ((putW a (enc (hv B' a)) b (enc (hv B' b))).take k)) B ∨ Jr (app n ((putW a (enc (hv B' a)) b (enc (hv B' b))).take k)) B' := by
  generalize hx : enc (hv B' a) = x
  generalize hy : enc (hv B' b) = y
  have g1 : Good (upd n 1 x) B := ⟨by rw [upd_other _ _ _ _ (by omega)]; exact h.h0, fun i hi => by rw [upd_other _ _ _ _ (by omega)]; exact h.hm i hi⟩
  have g2 : Good (upd (upd n 1 x) 2 y) B := ⟨by rw [upd_other _ _ _ _ (by omega)]; exact g1.h0, fun i hi => by rw [upd_other _ _ _ _ (by omega)]; exact g1.hm i hi⟩
  have f3 : Full (upd (upd (upd n 1 x) 2 y) 0 (hdr a b)) B' a b := by
    refine ⟨ha, hb, hne, upd_same _ _ _, fun i hi => ?_⟩
    have e1 : upd (upd (upd n 1 x) 2 y) 0 (hdr a b) 1 = x := by simp [upd]
    have e2 : upd (upd (upd n 1 x) 2 y) 0 (hdr a b) 2 = y := by simp [upd]
    rw [e1, e2, upd_other _ _ _ _ (by omega)]
    by_cases e : i = a
    · rw [if_pos e, ← hx, e]
    · rw [if_neg e]
      by_cases e2 : i = b
      · rw [if_pos e2, ← hy, e2]
      · rw [if_neg e2, g2.hm i hi, ho i hi e e2]
  have s1 : upd (upd (upd n 1 x) 2 y) 0 (hdr a b) 1 = x := by simp [upd]
  have s2 : upd (upd (upd n 1 x) 2 y) 0 (hdr a b) 2 = y := by simp [upd]
  generalize hN : upd (upd (upd n 1 x) 2 y) 0 (hdr a b) = N at f3 s1 s2
  have f4 : Full (upd N (3 + a) x) B' a b := by have := f3.step1; rw [s1] at this; exact this
  have f5 : Full (upd (upd N (3 + a) x) (3 + b) y) B' a b := by
    have := f4.step2; rw [upd_other _ _ _ _ (by omega : 2 ≠ 3 + a), s2] at this; exact this
  have f6 : Good (upd (upd (upd N (3 + a) x) (3 + b) y) 0 zB) B' := by have := f3.step3; rw [s1, s2] at this; exact this
  have key : ∀ k, app n ((putW a x b y).take (k + 6)) = upd (upd (upd N (3 + a) x) (3 + b) y) 0 zB := fun k => by
    simp only [putW, List.take_succ_cons, List.take_nil, app, hN]
  refine ⟨?_, fun k => ?_⟩
  · have : app n (putW a x b y) = upd (upd (upd N (3 + a) x) (3 + b) y) 0 zB := by simp only [putW, app, hN]
    rw [this]; exact f6
  · match k with
    | 0 => exact Or.inl (Or.inl h)
    | 1 => exact Or.inl (Or.inl g1)
    | 2 => exact Or.inl (Or.inl g2)
    | 3 => exact Or.inr (Or.inr ⟨a, b, by simp only [putW, List.take_succ_cons, List.take_zero, app, hN]; exact f3⟩)
    | 4 => exact Or.inr (Or.inr ⟨a, b, by simp only [putW, List.take_succ_cons, List.take_zero, app, hN]; exact f4⟩)
    | 5 => exact Or.inr (Or.inr ⟨a, b, by simp only [putW, List.take_succ_cons, List.take_zero, app, hN]; exact f5⟩)
    | k + 6 => rw [key]; exact Or.inr (Or.inl f6)

/-- The ground as the walk has it: since the mark (base bs, the model Bb) the writes l were made; the tower now shows B. -/
structure Rec (bs nw : Nat → Bl) (l : List (Nat × Bl)) (Bb B : Nat → Int) : Prop where
  now : nw = app bs l
  good : Good nw B
  base : Jr bs Bb
  cut : ∀ k, Jr (app bs (l.take k)) Bb ∨ Jr (app bs (l.take k)) B
  okb : OkB Bb
  ok : OkB B
  len : l.length ≤ 6
  l8 : ∀ q, q ∈ l → q.1 < 8

theorem Rec.mark {bs nw : Nat → Bl} {l : List (Nat × Bl)} {Bb B : Nat → Int} (h : Rec bs nw l Bb B) : Rec nw nw [] B B :=
  ⟨rfl, h.good, Or.inl h.good, fun k => by simp only [List.take_nil]; exact Or.inl (Or.inl h.good), h.ok, h.ok, by simp, fun q hq => by simp at hq⟩
theorem Rec.put {nw : Nat → Bl} {B B' : Nat → Int} {a b : Nat} (h : Rec nw nw [] B B) (hB : OkB B') (ha : a < 5) (hb : b < 5) (hne : a ≠ b) (ho : ∀ i, i < 5 → i ≠ a → i ≠ b → hv B' i = hv B i) :
    Rec nw (app nw (putW a (enc (hv B' a)) b (enc (hv B' b)))) (putW a (enc (hv B' a)) b (enc (hv B' b))) B B' := by
  obtain ⟨h1, h2⟩ := put_cut (B' := B') h.good ha hb hne ho
  exact ⟨rfl, h1, Or.inl h.good, h2, h.ok, hB, by simp [putW], fun q hq => by simp [putW] at hq; rcases hq with rfl | rfl | rfl | rfl | rfl | rfl <;> simp <;> omega⟩
/-- A cut, and the recovery. -/
theorem Rec.cutAt {bs nw : Nat → Bl} {l : List (Nat × Bl)} {Bb B B' : Nat → Int} (h : Rec bs nw l Bb B) (k : Nat) (hB : OkB B') (hj : Jr (app bs (l.take k)) B') :
    Rec (app bs (l.take k)) (app (app bs (l.take k)) (rcv (app bs (l.take k)))) (rcv (app bs (l.take k))) B' B' :=
  ⟨rfl, hj.good, hj, fun j => Or.inl (hj.cut j), hB, hB, by unfold rcv; split <;> simp, hj.r8⟩

theorem Rec.start : Rec (fun _ => zB) (fun _ => zB) [] (fun _ => 0) (fun _ => 0) := by
  have hg : Good (fun _ => zB) (fun _ => 0) := ⟨rfl, fun i hi => by
    have : hv (fun _ => 0) i = 0 := by unfold hv sumB; split <;> rfl
    rw [this]; rfl⟩
  have ho : OkB (fun _ => 0) := fun i hi => by simp
  exact ⟨rfl, hg, Or.inl hg, fun k => by simp only [List.take_nil]; exact Or.inl (Or.inl hg), ho, ho, by simp, fun q hq => by simp at hq⟩

end Go.Proofs.Qxb6500339a
