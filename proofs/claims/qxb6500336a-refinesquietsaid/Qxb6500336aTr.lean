/-
  PLAIN VALUES: a tree, typed in the kit's 'Code': '.skip' the empty list, '.seq h t' a cell, '.cond _ a b' a pair, '.rangeFunc (.const v) ..' an Int or a Str. 'Sh w t v': the Go value v (an interface value) shows t in the world w.
-/
import Derived.Test.Qxb6500336aFa
import Derived.Handy
namespace Go.Proofs.Qxb6500336a
open Go.RowKit

def Hid (p : Prop) : Prop := p
theorem Hid.out {p : Prop} (h : Hid p) : p := h

def w64 (n : Int) : Prop := -9223372036854775808 ≤ n ∧ n < 9223372036854775808

def tI (n : Int) : Code := .rangeFunc (.const (.int .i64 n)) #[] .skip .skip
def tS (s : ByteArray) : Code := .rangeFunc (.const (.string s)) #[] .skip .skip
def tP (a b : Code) : Code := .cond (.const .nilIface) a b

def leafS : Operand → Value → Prop
  | .const (.int .i64 n), v => v = .iface 84 (.int .i64 n) ∧ w64 n
  | .const (.string s), v => v = .iface 99 (.string s)
  | _, _ => False

def ptr (b : Nat) : Value := .pointer (some ⟨b, 0, none⟩)
def ptrO (k : Option Nat) : Value := .pointer (k.map fun b => ⟨b, 0, none⟩)

def Sh (w : World) : Code → Value → Prop
  | .skip, v => v = .iface 75 (.pointer none)
  | .seq h t, v => ∃ (B : Nat) (hv : Value) (k : Option Nat), v = .iface 75 (.pointer (some ⟨B, 0, none⟩)) ∧ w.heap[B]? = some (.cells #[hv, ptrO k] 78) ∧ Sh w h hv ∧ Sh w t (.iface 75 (ptrO k)) ∧ (∀ b, k = some b → b < B)
  | .cond _ a b, v => ∃ (B : Nat) (av bv : Value), v = .iface 92 (.pointer (some ⟨B, 0, none⟩)) ∧ w.heap[B]? = some (.cells #[av, bv] 94) ∧ Sh w a av ∧ Sh w b bv
  | .rangeFunc o _ _ _, v => leafS o v
  | _, _ => False

/-- The cells of lists and pairs are kept. -/
def Kc (w w' : World) : Prop := ∀ (b : Nat) (c : Array Value) (t : TypeId), (t = 78 ∨ t = 94) → w.heap[b]? = some (.cells c t) → w'.heap[b]? = some (.cells c t)

theorem Kc.refl (w : World) : Kc w w := fun _ _ _ _ h => h
theorem Kc.trans {a b c : World} (h : Kc a b) (k : Kc b c) : Kc a c := fun i c t ht e => k i c t ht (h i c t ht e)

theorem Sh.kept {w w' : World} (hk : Kc w w') : ∀ (t : Code) (v : Value), Sh w t v → Sh w' t v := by
  intro t
  induction t with
  | skip => intro v h; exact h
  | seq a b iha ihb =>
    intro v h
    obtain ⟨B, hv, k, h1, h2, h3, h4, h5⟩ := h
    exact ⟨B, hv, k, h1, hk _ _ _ (Or.inl rfl) h2, iha _ h3, ihb _ h4, h5⟩
  | cond c a b iha ihb =>
    intro v h
    obtain ⟨B, av, bv, h1, h2, h3, h4⟩ := h
    exact ⟨B, av, bv, h1, hk _ _ _ (Or.inr rfl) h2, iha _ h3, ihb _ h4⟩
  | rangeFunc o p a b _ _ => intro v h; exact h
  | _ => intro v h; exact h.elim

/-- Blocks of S hold no cell of a list or a pair. -/
def Nc (w : World) (S : List Nat) : Prop := ∀ b, b ∈ S → ∀ (c : Array Value) (t : TypeId), w.heap[b]? = some (.cells c t) → t ≠ 78 ∧ t ≠ 94
theorem Fr.kc {S : List Nat} {w w' : World} (h : Fr S w w') (hs : Nc w S) : Kc w w' := fun b c t ht e =>
  h.keep e (fun hm => by have := hs b hm c t e; rcases ht with rfl | rfl <;> simp at this)
theorem Fr.kc0 {w w' : World} (h : Fr [] w w') : Kc w w' := h.kc (fun _ hb => by cases hb)

/-- Digits of a number ahead of a tail. -/
def dgs : Nat → Nat → List UInt8 → List UInt8
  | 0, _, acc => acc
  | f + 1, m, acc => if m = 0 then acc else dgs f (m / 10) (UInt8.ofNat (48 + m % 10) :: acc)
def itL (n : Int) : List UInt8 := if n = 0 then [48] else if n < 0 then 45 :: dgs 20 n.natAbs [] else dgs 20 n.natAbs []
def itoa (n : Int) : ByteArray := ⟨(itL n).toArray⟩

def leafT : Operand → ByteArray
  | .const (.int .i64 n) => itoa n
  | .const (.string s) => (itoa s.size ++ ⟨#[58]⟩) ++ s
  | _ => ⟨#[]⟩

/-- The text; m: as the rest of a list, each element behind a blank. -/
def tx : Bool → Code → ByteArray
  | m, .skip => if m then ⟨#[]⟩ else ⟨#[91, 93]⟩
  | m, .seq h t => if m then ((⟨#[32]⟩ : ByteArray) ++ tx false h) ++ tx true t else (((⟨#[91]⟩ : ByteArray) ++ tx false h) ++ tx true t) ++ ⟨#[93]⟩
  | _, .cond _ a b => ((((⟨#[60]⟩ : ByteArray) ++ tx false a) ++ ⟨#[32]⟩) ++ tx false b) ++ ⟨#[62]⟩
  | _, .rangeFunc o _ _ _ => leafT o
  | _, _ => ⟨#[]⟩

/-- The number of the text's function, by the kind. -/
def shF : Code → Nat
  | .skip => 122
  | .seq _ _ => 122
  | .cond _ _ _ => 130
  | .rangeFunc (.const (.int _ _)) _ _ _ => 126
  | _ => 134
def recvOf : Value → Value
  | .iface _ v => v
  | _ => .nilIface

theorem Sh.show {w : World} {t : Code} {v : Value} (h : Sh w t v) (W : World) : (callMethod v "Show" #[]).run Try.prog W = .ok (.enter (shF t) #[recvOf v]) W := by
  cases t with
  | skip => cases h; exact cmShow75 _ W
  | seq a b => obtain ⟨B, hv, k, rfl, h2⟩ := h; exact cmShow75 _ W
  | cond c a b => obtain ⟨B, hv, k, rfl, h2⟩ := h; exact cmShow92 _ W
  | rangeFunc o p a b =>
    have h' : leafS o v := h
    unfold leafS at h'
    split at h'
    · obtain ⟨rfl, _⟩ := h'; exact cmShow84 _ W
    · subst h'; exact cmShow99 _ W
    · exact h'.elim
  | _ => exact h.elim

/-- A value is no nil interface. -/
theorem Sh.ex {w : World} {t : Code} {v : Value} (h : Sh w t v) : ∃ T u, v = .iface T u := by
  cases t with
  | skip => exact ⟨_, _, h⟩
  | seq a b => obtain ⟨B, hv, k, rfl, h2⟩ := h; exact ⟨_, _, rfl⟩
  | cond c a b => obtain ⟨B, hv, k, rfl, h2⟩ := h; exact ⟨_, _, rfl⟩
  | rangeFunc o p a b =>
    have h' : leafS o v := h
    unfold leafS at h'
    split at h'
    · obtain ⟨rfl, _⟩ := h'; exact ⟨_, _, rfl⟩
    · subst h'; exact ⟨_, _, rfl⟩
    · exact h'.elim
  | _ => exact h.elim
end Go.Proofs.Qxb6500336a
