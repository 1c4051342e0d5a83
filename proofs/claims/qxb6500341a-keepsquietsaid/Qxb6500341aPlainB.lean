import Derived.Test.Qxb6500341aPlain
namespace Go.Proofs.Qxb6500341a
set_option linter.unusedVariables false

/-! ### Luhn -/
def dbl (o : Nat) (d : Int) : Int := if o = 1 then (if 9 < 2 * d then 2 * d - 9 else 2 * d) else d
/-- Luhn's sum of a text with sh noughts behind it. -/
def lsum (sh : Nat) : List UInt8 → Int
  | [] => 0
  | c :: l => dbl ((l.length + sh) % 2) (val c.toNat) + lsum sh l
def luhnR (sh : Nat) (l : List UInt8) : Int := lsum sh l % 10

theorem okB_dig {c : UInt8} (h : okB 10 c = true) : 48 ≤ c.toNat ∧ c.toNat ≤ 57 := by
  simp only [okB, decide_eq_true_eq] at h
  unfold val at h
  split at h
  · omega
  · split at h <;> omega

theorem okB_law {c : UInt8} (h : okB 36 c = true) : (48 ≤ c.toNat ∧ c.toNat ≤ 57) ∨ (65 ≤ c.toNat ∧ c.toNat ≤ 90) := by
  simp only [okB, decide_eq_true_eq] at h
  unfold val at h
  split at h
  · omega
  · split at h <;> omega

theorem val_dig {n : Nat} (h : 48 ≤ n ∧ n ≤ 57) : val n = n - 48 := by unfold val; rw [if_pos (by omega)]
theorem val_let {n : Nat} (h : 65 ≤ n ∧ n ≤ 90) : val n = n - 55 := by unfold val; rw [if_neg (by omega), if_pos (by omega)]

theorem dbl_bd (o : Nat) (d : Int) (h0 : 0 ≤ d) (h9 : d ≤ 9) : 0 ≤ dbl o d ∧ dbl o d ≤ 9 := by
  unfold dbl; repeat' split <;> omega

theorem lsum_bd (sh : Nat) (l : List UInt8) (h : allOk 10 l) : 0 ≤ lsum sh l ∧ lsum sh l ≤ 9 * l.length := by
  induction l with
  | nil => simp [lsum]
  | cons c l ih =>
    have hc := okB_dig (h c (by simp))
    have hi := ih (fun d hd => h d (by simp [hd]))
    have hd := dbl_bd ((l.length + sh) % 2) (val c.toNat) (by rw [val_dig hc]; omega) (by rw [val_dig hc]; omega)
    simp only [lsum, List.length_cons]
    omega

theorem drop_cons (s : ByteArray) (k : Nat) (h : k < s.size) : s.data.toList.drop k = s[k] :: s.data.toList.drop (k + 1) := by
  rw [List.drop_eq_getElem_cons (by simpa using h)]; rfl

theorem drop_end (s : ByteArray) (k : Nat) (h : s.size ≤ k) : s.data.toList.drop k = [] := by
  apply List.drop_eq_nil_of_le; simpa using h

theorem lsum_drop (sh : Nat) (s : ByteArray) (k : Nat) (h : k < s.size) :
    lsum sh (s.data.toList.drop k) = dbl ((s.size - 1 - k + sh) % 2) (val s[k].toNat) + lsum sh (s.data.toList.drop (k + 1)) := by
  rw [drop_cons s k h]
  simp only [lsum, List.length_drop]
  have e : s.data.toList.length - (k + 1) = s.size - 1 - k := by simp; omega
  rw [e]

theorem luhn_step (a l d r : Int) (h : (a + (d + r)) % 10 = l % 10) : ((a + d) % 10 + r) % 10 = l % 10 := by omega

theorem luhn_odd (s : ByteArray) (sh pos : Nat) (d : Int) (hp : pos < s.size) (h : (((s.size : Int) - 1 - (pos : Int) + (sh : Int)) % 2 == 1) = true) :
    dbl ((s.size - 1 - pos + sh) % 2) d = if 9 < 2 * d then 2 * d - 9 else 2 * d := by
  have h' := eq_of_beq h
  unfold dbl; rw [if_pos (by omega)]

theorem luhn_even (s : ByteArray) (sh pos : Nat) (d : Int) (hp : pos < s.size) (h : (((s.size : Int) - 1 - (pos : Int) + (sh : Int)) % 2 == 1) = false) :
    dbl ((s.size - 1 - pos + sh) % 2) d = d := by
  have h' := ne_of_beq_false h
  unfold dbl; rw [if_neg (by omega)]

theorem luhn_odd0 (s : ByteArray) (pos : Nat) (d : Int) (hp : pos < s.size) (h : (((s.size : Int) - 1 - (pos : Int)) % 2 == 1) = true) :
    dbl ((s.size - 1 - pos + 0) % 2) d = if 9 < 2 * d then 2 * d - 9 else 2 * d := luhn_odd s 0 pos d hp (by simpa using h)

theorem luhn_even0 (s : ByteArray) (pos : Nat) (d : Int) (hp : pos < s.size) (h : (((s.size : Int) - 1 - (pos : Int)) % 2 == 1) = false) :
    dbl ((s.size - 1 - pos + 0) % 2) d = d := luhn_even s 0 pos d hp (by simpa using h)

theorem luhn_round (s : ByteArray) (sh pos : Nat) (acc X : Int) (hp : pos < s.size) (HR : (acc + lsum sh (s.data.toList.drop pos)) % 10 = lsum sh s.data.toList % 10)
    (hX : X = acc + dbl ((s.size - 1 - pos + sh) % 2) (val s[pos].toNat)) : (X % 10 + lsum sh (s.data.toList.drop (pos + 1))) % 10 = lsum sh s.data.toList % 10 := by
  rw [lsum_drop sh s pos hp] at HR
  omega

/-! ### By 97 -/
def st97 (r : Int) (c : UInt8) : Int := if 10 ≤ val c.toNat then (r * 100 + val c.toNat) % 97 else (r * 10 + val c.toNat) % 97
/-- The rest by 97, from r on. -/
def f97 : Int → List UInt8 → Int
  | r, [] => r
  | r, c :: l => f97 (st97 r c) l

theorem st97_bd (r : Int) (c : UInt8) (h : 0 ≤ r) : 0 ≤ st97 r c ∧ st97 r c < 97 := by unfold st97; split <;> omega
theorem f97_bd (r : Int) (l : List UInt8) (h : 0 ≤ r ∧ r < 97) : 0 ≤ f97 r l ∧ f97 r l < 97 := by
  induction l generalizing r with
  | nil => exact h
  | cons c l ih => exact ih _ (st97_bd r c h.1)

/-- The rest by a way. -/
def restA (way : Int) (l : List UInt8) : Int := if way = 1 then luhnR 0 l else f97 0 l
theorem rest1 (l : List UInt8) : restA 1 l = luhnR 0 l := by simp [restA]
theorem rest2 (l : List UInt8) : restA 2 l = f97 0 l := by simp [restA]

theorem lsum_right (s : ByteArray) (k : Nat) (h : k < s.size) :
    lsum 0 (s.data.toList.drop (s.size - (k + 1))) = dbl (k % 2) (val s[s.size - 1 - k].toNat) + lsum 0 (s.data.toList.drop (s.size - k)) := by
  have e := lsum_drop 0 s (s.size - 1 - k) (by omega)
  rw [show s.size - (k + 1) = s.size - 1 - k from by omega, e]
  rw [show s.size - 1 - k + 1 = s.size - k from by omega, show s.size - 1 - (s.size - 1 - k) + 0 = k from by omega]

theorem f97_drop (s : ByteArray) (r : Int) (k : Nat) (h : k < s.size) : f97 r (s.data.toList.drop k) = f97 (st97 r s[k]) (s.data.toList.drop (k + 1)) := by
  rw [drop_cons s k h]; rfl

theorem okB_pos {top : Int} {c : UInt8} (h : okB top c = true) : 0 ≤ val c.toNat ∧ val c.toNat < top := by
  simpa only [okB, decide_eq_true_eq] using h

theorem mem_get (s : ByteArray) (k : Nat) (h : k < s.size) : s[k] ∈ s.data.toList := by simp [ByteArray.getElem_eq_getElem_data]

end Go.Proofs.Qxb6500341a
