/-
  THE PLAIN STACK: values as trees, the top first; each word as a function to (error, stack).
-/
import Derived.Test.Qxb6500336aW3
namespace Go.Proofs.Qxb6500336a
open Go.RowKit
set_option linter.unusedVariables false

def isI : Code → Option Int
  | .rangeFunc (.const (.int .i64 n)) _ _ _ => some n
  | _ => none
def isS : Code → Option ByteArray
  | .rangeFunc (.const (.string s)) _ _ _ => some s
  | _ => none
def isL : Code → Bool
  | .skip => true
  | .seq _ _ => true
  | _ => false
def isP : Code → Option (Code × Code)
  | .cond _ a b => some (a, b)
  | _ => none
def kids : Code → List Code
  | .seq h t => h :: kids t
  | .cond _ a b => [a, b]
  | _ => []
def appT : Code → Code → Code
  | .seq h t, b => .seq h (appT t b)
  | _, b => b
def ft (t : Code) : Bool := decide ((tx false t).size ≤ 30)

def addT (a b : Code) : Int × Code :=
  match isI a with
  | some n => (match isI b with | some m => (0, tI (wrap64 (n + m))) | none => (6, .skip))
  | none =>
    match isS a with
    | some s => (match isS b with | some r => (0, tS (s ++ r)) | none => (6, .skip))
    | none => if isL a then (if isL b then (0, appT a b) else (6, .skip)) else (5, .skip)
def plusT (a b : Code) : Int × Code :=
  if (addT a b).1 = 0 then (if ft (addT a b).2 then (0, (addT a b).2) else (7, .skip)) else ((addT a b).1, .skip)

def pushW (v : Code) (rs : List Code) : Int × List Code := if rs.length ≥ 5 then (3, rs) else (0, v :: rs)
def consW : List Code → Int × List Code
  | x :: l :: r => if isL l then (if ft (.seq x l) then (0, .seq x l :: r) else (7, x :: l :: r)) else (2, x :: l :: r)
  | rs => (4, rs)
def pairW : List Code → Int × List Code
  | b :: a :: r => if ft (tP a b) then (0, tP a b :: r) else (7, b :: a :: r)
  | rs => (4, rs)
def addW : List Code → Int × List Code
  | b :: a :: r => if (plusT a b).1 = 0 then (0, (plusT a b).2 :: r) else ((plusT a b).1, b :: a :: r)
  | rs => (4, rs)
def negW : List Code → Int × List Code
  | a :: r => (match isI a with | some n => (0, tI (wrap64 (-n)) :: r) | none => match isP a with | some (x, y) => (0, tP y x :: r) | none => (5, a :: r))
  | rs => (4, rs)
def lenW : List Code → Int × List Code
  | a :: r => (match isI a with | some n => (5, a :: r) | none => match isS a with | some s => (0, tI s.size :: r) | none => (0, tI (kids a).length :: r))
  | rs => (4, rs)
def dupW : List Code → Int × List Code
  | a :: r => if r.length ≥ 4 then (3, a :: r) else (0, a :: a :: r)
  | rs => (4, rs)
def dropW : List Code → Int × List Code
  | a :: r => (0, r)
  | rs => (4, rs)
/-- The place of the first element with the text, from i on. -/
def findT (s : ByteArray) : List Code → Nat → Int
  | [], _ => -1
  | a :: r, i => if tx false a = s then (i : Int) else findT s r (i + 1)
def isC (c : Code) : Bool := isL c || (isP c).isSome
def findW : List Code → Int × List Code
  | x :: c :: r => if isC c then (0, tI (findT (tx false x) (kids c) 0) :: r) else (5, x :: c :: r)
  | rs => (4, rs)
def foldT : Code → List Code → Int × Code
  | s, [] => (0, s)
  | s, x :: r => if (plusT s x).1 = 0 then foldT (plusT s x).2 r else ((plusT s x).1, .skip)
def foldW : List Code → Int × List Code
  | c :: r => if isC c then (match kids c with | [] => (8, c :: r) | a :: l => if (foldT a l).1 = 0 then (0, (foldT a l).2 :: r) else ((foldT a l).1, c :: r)) else (5, c :: r)
  | rs => (4, rs)
/-- The plug-in words. -/
def dblX : List Code → Int × List Code
  | a :: r => if (plusT a a).1 = 0 then (0, (plusT a a).2 :: r) else ((plusT a a).1, a :: r)
  | rs => (5, rs)
def sprX : List Code → Int × List Code
  | c :: r => if isC c then (if r.length + (kids c).length ≤ 5 then (0, (kids c).reverse ++ r) else (3, c :: r)) else (5, c :: r)
  | rs => (5, rs)
def echX (rs : List Code) : Int × List Code := if rs.length ≤ 2 then (0, rs ++ rs.reverse) else (3, rs)
def quoX : List Code → Int × List Code
  | b :: a :: r => (match isI b, isI a with | some m, some n => if m = 0 then (5, b :: a :: r) else (0, tI (wrap64 (n.tdiv m)) :: r) | _, _ => (5, b :: a :: r))
  | rs => (5, rs)
def extW (k : Int) (rs : List Code) : Int × List Code :=
  if k = 0 then dblX rs else if k = 2 then sprX rs else if k = 3 then echX rs else if k = 4 then quoX rs else (9, rs)

def Wf (rs : List Code) : Prop := rs.length ≤ 5 ∧ ∀ t ∈ rs, (tx false t).size ≤ 30

def Shs (w : World) : List Code → List Value → Prop
  | [], [] => True
  | t :: ts, v :: vs => Sh w t v ∧ Shs w ts vs
  | _, _ => False
theorem Shs.kept {w w' : World} (hk : Kc w w') : ∀ (ts : List Code) (vs : List Value), Shs w ts vs → Shs w' ts vs
  | [], [], _ => trivial
  | t :: ts, v :: vs, h => ⟨Sh.kept hk _ _ h.1, Shs.kept hk ts vs h.2⟩
theorem Shs.len {w : World} : ∀ {ts : List Code} {vs : List Value}, Shs w ts vs → vs.length = ts.length
  | [], [], _ => rfl
  | t :: ts, v :: vs, h => by simp [Shs.len h.2]
theorem Shs.app {w : World} : ∀ {ts : List Code} {vs : List Value} {ts' : List Code} {vs' : List Value}, Shs w ts vs → Shs w ts' vs' → Shs w (ts ++ ts') (vs ++ vs')
  | [], [], _, _, _, h => h
  | t :: ts, v :: vs, _, _, h, h' => ⟨h.1, Shs.app h.2 h'⟩
theorem Shs.snoc {w : World} {ts : List Code} {vs : List Value} {t : Code} {v : Value} (h : Shs w ts vs) (k : Sh w t v) : Shs w (ts ++ [t]) (vs ++ [v]) := h.app ⟨k, trivial⟩
theorem Shs.rev {w : World} : ∀ {ts : List Code} {vs : List Value}, Shs w ts vs → Shs w ts.reverse vs.reverse
  | [], [], _ => trivial
  | t :: ts, v :: vs, h => by simp only [List.reverse_cons]; exact (Shs.rev h.2).snoc h.1
theorem Shs.nil {w : World} {vs : List Value} (h : Shs w [] vs) : vs = [] := by cases vs with | nil => rfl | cons => exact h.elim
theorem Shs.cons {w : World} {t : Code} {ts : List Code} {vs : List Value} (h : Shs w (t :: ts) vs) : ∃ v vs', vs = v :: vs' ∧ Sh w t v ∧ Shs w ts vs' := by
  cases vs with | nil => exact h.elim | cons v vs => exact ⟨v, vs, rfl, h⟩

/-- The kinds. -/
theorem Sh.kinds {w : World} {t : Code} {v : Value} (h : Sh w t v) :
    (∃ n, isI t = some n ∧ isS t = none ∧ isL t = false ∧ isP t = none ∧ v = .iface 84 (.int .i64 n) ∧ w64 n) ∨ (∃ s, isI t = none ∧ isS t = some s ∧ isL t = false ∧ isP t = none ∧ v = .iface 99 (.string s) ∧ tx false t = (itoa s.size ++ ⟨#[58]⟩) ++ s) ∨
    (∃ k, isI t = none ∧ isS t = none ∧ isL t = true ∧ isP t = none ∧ v = .iface 75 (ptrO k)) ∨
    (∃ c a b B av bv, t = .cond c a b ∧ v = .iface 92 (.pointer (some ⟨B, 0, none⟩)) ∧ w.heap[B]? = some (.cells #[av, bv] 94) ∧ Sh w a av ∧ Sh w b bv) := by
  cases t with
  | skip => exact Or.inr (Or.inr (Or.inl ⟨none, rfl, rfl, rfl, rfl, h⟩))
  | seq a b => obtain ⟨B, hv, k, rfl, h2⟩ := h; exact Or.inr (Or.inr (Or.inl ⟨some B, rfl, rfl, rfl, rfl, rfl⟩))
  | cond c a b => obtain ⟨B, av, bv, rfl, h2, h3, h4⟩ := h; exact Or.inr (Or.inr (Or.inr ⟨c, a, b, B, av, bv, rfl, rfl, h2, h3, h4⟩))
  | rangeFunc o p a b =>
    have h' : leafS o v := h
    unfold leafS at h'
    split at h'
    · exact Or.inl ⟨_, rfl, rfl, rfl, rfl, h'.1, h'.2⟩
    · exact Or.inr (Or.inl ⟨_, rfl, rfl, rfl, rfl, h', rfl⟩)
    · exact h'.elim
  | _ => exact h.elim

theorem dgs_len (f m : Nat) (L : List UInt8) : (dgs f m L).length ≤ f + L.length := by
  induction f generalizing m L with
  | zero => simp [dgs]
  | succ f ih =>
    rw [dgs]
    split
    · omega
    · have := ih (m / 10) (UInt8.ofNat (48 + m % 10) :: L)
      rw [List.length_cons] at this; omega
theorem itoa_size (n : Int) : (itoa n).size ≤ 21 := by
  show (itL n).toArray.size ≤ 21
  simp only [List.size_toArray]
  unfold itL
  have := dgs_len 20 n.natAbs []
  simp at this
  split
  · simp
  · split
    · simp; omega
    · omega
theorem tI_size (n : Int) : (tx false (tI n)).size ≤ 30 := by
  have := itoa_size n
  show (itoa n).size ≤ 30; omega
theorem w_in (n : Int) (h : w64 n) : wrap64 n = n := by unfold w64 at h; simp only [wrap64]; omega
theorem w_out (n : Int) : w64 (wrap64 n) := by unfold w64; simp only [wrap64]; omega
theorem Sh.tI {w : World} {n : Int} (h : w64 n) : Sh w (tI n) (.iface 84 (.int .i64 n)) := ⟨rfl, h⟩
theorem Sh.tS {w : World} (s : ByteArray) : Sh w (tS s) (.iface 99 (.string s)) := rfl

/-- The elements of a value that can be walked are no longer than itself. -/
theorem kids_size (t : Code) : (∀ x ∈ kids t, (tx false x).size ≤ (tx true t).size) ∧ (∀ x ∈ kids t, (tx false x).size ≤ (tx false t).size) := by
  induction t with
  | seq a b _ ihb =>
    have e1 : (tx true (.seq a b)).size = 1 + (tx false a).size + (tx true b).size := by
      show (((⟨#[32]⟩ : ByteArray) ++ tx false a) ++ tx true b).size = _
      simp only [ByteArray.size_append]; rfl
    have e2 : (tx false (.seq a b)).size = 1 + (tx false a).size + (tx true b).size + 1 := by
      show ((((⟨#[91]⟩ : ByteArray) ++ tx false a) ++ tx true b) ++ ⟨#[93]⟩).size = _
      simp only [ByteArray.size_append]; rfl
    constructor <;> intro x hx <;> rcases List.mem_cons.1 hx with rfl | hx
    · omega
    · have := ihb.1 x hx; omega
    · omega
    · have := ihb.1 x hx; omega
  | cond c a b _ _ =>
    have e1 : ∀ m, (tx m (.cond c a b)).size = 1 + (tx false a).size + 1 + (tx false b).size + 1 := by
      intro m
      show (((((⟨#[60]⟩ : ByteArray) ++ tx false a) ++ ⟨#[32]⟩) ++ tx false b) ++ ⟨#[62]⟩).size = _
      simp only [ByteArray.size_append]; rfl
    constructor <;> intro x hx <;> simp [kids] at hx <;> rcases hx with rfl | rfl <;> rw [e1] <;> omega
  | _ => constructor <;> intro x hx <;> simp [kids] at hx

theorem pair_swap_size (c : Operand) (a b : Code) : (tx false (tP b a)).size = (tx false (.cond c a b)).size := by
  show (((((⟨#[60]⟩ : ByteArray) ++ tx false b) ++ ⟨#[32]⟩) ++ tx false a) ++ ⟨#[62]⟩).size = (((((⟨#[60]⟩ : ByteArray) ++ tx false a) ++ ⟨#[32]⟩) ++ tx false b) ++ ⟨#[62]⟩).size
  simp only [ByteArray.size_append]; omega
theorem seq_size (m : Bool) (a b : Code) : (tx m (.seq a b)).size = 1 + (tx false a).size + (tx true b).size + (if m then 0 else 1) := by
  cases m
  · show ((((⟨#[91]⟩ : ByteArray) ++ tx false a) ++ tx true b) ++ ⟨#[93]⟩).size = _
    simp only [ByteArray.size_append]; rfl
  · show (((⟨#[32]⟩ : ByteArray) ++ tx false a) ++ tx true b).size = _
    simp only [ByteArray.size_append]; rfl
theorem pair_size (m : Bool) (c : Operand) (a b : Code) : (tx m (.cond c a b)).size = 1 + (tx false a).size + 1 + (tx false b).size + 1 := by
  show (((((⟨#[60]⟩ : ByteArray) ++ tx false a) ++ ⟨#[32]⟩) ++ tx false b) ++ ⟨#[62]⟩).size = _
  simp only [ByteArray.size_append]; rfl
theorem tt_le (t : Code) (h : isL t = true) : (tx true t).size ≤ (tx false t).size := by
  cases t with
  | skip => exact Nat.zero_le _
  | seq a b => rw [seq_size, seq_size]; simp
  | _ => simp [isL] at h
theorem kids_len (t : Code) : ∀ m, (kids t).length ≤ (tx m t).size := by
  induction t with
  | seq a b _ ihb => intro m; rw [seq_size]; have := ihb true; simp only [kids, List.length_cons]; omega
  | cond c a b _ _ => intro m; rw [pair_size]; simp only [kids, List.length_cons, List.length_nil]; omega
  | _ => intro m; exact Nat.zero_le _
end Go.Proofs.Qxb6500336a
