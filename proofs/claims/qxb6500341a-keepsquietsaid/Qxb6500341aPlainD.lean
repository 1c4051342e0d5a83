import Derived.Test.Qxb6500341aPlainC
namespace Go.Proofs.Qxb6500341a
set_option linter.unusedVariables false

/-- How many letters. -/
def lets : List UInt8 → Int
  | [] => 0
  | c :: l => (if 65 ≤ c.toNat ∧ c.toNat ≤ 90 then 1 else 0) + lets l

theorem lets_app (a b : List UInt8) : lets (a ++ b) = lets a + lets b := by
  induction a with
  | nil => simp [lets]
  | cons c a ih => simp only [List.cons_append, lets, ih]; omega

theorem lets_bd (l : List UInt8) : 0 ≤ lets l ∧ lets l ≤ l.length := by
  induction l with
  | nil => simp [lets]
  | cons c l ih => simp only [lets, List.length_cons]; split <;> omega

theorem lets_snoc_let (s : ByteArray) (k : Nat) (h : k < s.size) (h1 : 65 ≤ s[k].toNat) (h2 : s[k].toNat ≤ 90) : lets (s.data.toList.take (k + 1)) = lets (s.data.toList.take k) + 1 := by
  rw [take_snoc s k h, lets_app]; simp [lets, h1, h2]

theorem lets_snoc_dig (s : ByteArray) (k : Nat) (h : k < s.size) (h2 : s[k].toNat < 65 ∨ 90 < s[k].toNat) : lets (s.data.toList.take (k + 1)) = lets (s.data.toList.take k) := by
  rw [take_snoc s k h, lets_app]; simp only [lets]; rw [if_neg (by omega)]; omega

theorem okB36_let {c : UInt8} (h1 : 65 ≤ c.toNat) (h2 : c.toNat ≤ 90) : okB 36 c = true := by
  simp only [okB, decide_eq_true_eq]; rw [val_let ⟨h1, h2⟩]; omega
theorem okB_digit {top : Int} {c : UInt8} (ht : 10 ≤ top) (h1 : 48 ≤ c.toNat) (h2 : c.toNat ≤ 57) : okB top c = true := by
  simp only [okB, decide_eq_true_eq]; rw [val_dig ⟨h1, h2⟩]; omega
theorem okB36_no {c : UInt8} (h : ¬ ((48 ≤ c.toNat ∧ c.toNat ≤ 57) ∨ (65 ≤ c.toNat ∧ c.toNat ≤ 90))) : okB 36 c = false := by
  cases hb : okB 36 c with
  | false => rfl
  | true => exact absurd (okB_law hb) h

theorem allOk_mono {a b : Int} {l : List UInt8} (hab : a ≤ b) (h : allOk a l) : allOk b l := by
  intro c hc
  have := okB_pos (h c hc)
  simp only [okB, decide_eq_true_eq]; omega

/-- For a lawful text: a letter stands in it just where it is no text of digits. -/
theorem lets_fb (l : List UInt8) (h : allOk 36 l) : 0 < lets l ↔ 0 ≤ fbI 10 l := by
  induction l with
  | nil => simp [lets, fbI]
  | cons c l ih =>
    have ih' := ih (fun e he => h e (by simp [he]))
    have hb := lets_bd l
    rcases okB_law (h c (by simp)) with hc | hc
    · have := okB_digit (top := 10) (by omega) hc.1 hc.2
      simp only [lets, fbI, this, if_true]
      rw [if_neg (by omega)]
      split <;> omega
    · have h10 : okB 10 c = false := by
        cases hx : okB 10 c with
        | false => rfl
        | true => have := okB_dig hx; omega
      simp only [lets, fbI, h10]
      rw [if_pos hc]
      simp; omega

/-! ### What the contract says -/
def loadE (s : ByteArray) : Int := if 32 < s.size then 1 else if 0 ≤ fbI 36 s.data.toList then 2 else 0
def loadN (s : ByteArray) : Int := if 32 < s.size then 0 else if 0 ≤ fbI 36 s.data.toList then fbI 36 s.data.toList else 0
def loadT (t s : ByteArray) : ByteArray := if 32 < s.size then t else if 0 ≤ fbI 36 s.data.toList then t else s

structure Inv (t : ByteArray) (l m1 m2 : Int) : Prop where
  size : t.size ≤ 32
  law : allOk 36 t.data.toList
  lets : l = lets t.data.toList
  luhn : m1 = -1 ∨ (allOk 10 t.data.toList ∧ m1 = luhnR 0 t.data.toList)
  by97 : m2 = -1 ∨ m2 = f97 0 t.data.toList

/-- A text that a slip may bear. -/
structure Law (t : ByteArray) : Prop where
  size : t.size ≤ 32
  law : allOk 36 t.data.toList

theorem Law.load {t : ByteArray} (h : Law t) (s : ByteArray) : Law (loadT t s) := by
  unfold loadT
  split
  · exact h
  · split
    · exact h
    · exact ⟨by omega, all_of_fbI (by omega)⟩

end Go.Proofs.Qxb6500341a
