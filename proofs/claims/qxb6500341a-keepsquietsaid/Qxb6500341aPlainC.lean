import Derived.Test.Qxb6500341aPlainB
namespace Go.Proofs.Qxb6500341a
set_option linter.unusedVariables false

/-- One byte spelt. -/
def spl1 (c : UInt8) : List UInt8 :=
  if 10 ≤ val c.toNat then [UInt8.ofNat (48 + val c.toNat / 10).toNat, UInt8.ofNat (48 + val c.toNat % 10).toNat] else [UInt8.ofNat (48 + val c.toNat).toNat]
/-- The spelt number of a text. -/
def spl : List UInt8 → List UInt8
  | [] => []
  | c :: l => spl1 c ++ spl l
def d97 : Int → List UInt8 → Int
  | r, [] => r
  | r, c :: l => d97 ((r * 10 + ((c.toNat : Int) - 48)) % 97) l
def hor : Int → List UInt8 → Int
  | r, [] => r
  | r, c :: l => hor (r * 10 + ((c.toNat : Int) - 48)) l
def digs (l : List UInt8) : Prop := ∀ c, c ∈ l → 48 ≤ c.toNat ∧ c.toNat ≤ 57

theorem spl_app (a b : List UInt8) : spl (a ++ b) = spl a ++ spl b := by
  induction a with
  | nil => rfl
  | cons c a ih => simp [spl, ih]

theorem d97_app (r : Int) (a b : List UInt8) : d97 r (a ++ b) = d97 (d97 r a) b := by
  induction a generalizing r with
  | nil => rfl
  | cons c a ih => simp [d97, ih]

theorem toNat_dig (n : Int) (h0 : 0 ≤ n) (h : n ≤ 255) : ((UInt8.ofNat n.toNat).toNat : Int) = n := by
  simp; omega

theorem spl1_digs (c : UInt8) (h : okB 36 c = true) : digs (spl1 c) := by
  have hv := okB_pos h
  intro d hd
  unfold spl1 at hd
  split at hd
  · simp at hd
    rcases hd with rfl | rfl
    · have := toNat_dig (48 + val c.toNat / 10) (by omega) (by omega); omega
    · have := toNat_dig (48 + val c.toNat % 10) (by omega) (by omega); omega
  · simp at hd
    subst hd
    have := toNat_dig (48 + val c.toNat) (by omega) (by omega); omega

theorem spl_digs (l : List UInt8) (h : allOk 36 l) : digs (spl l) := by
  induction l with
  | nil => intro c hc; cases hc
  | cons c l ih =>
    intro d hd
    simp only [spl, List.mem_append] at hd
    rcases hd with hd | hd
    · exact spl1_digs c (h c (by simp)) d hd
    · exact ih (fun e he => h e (by simp [he])) d hd

theorem spl_len (l : List UInt8) : (spl l).length ≤ 2 * l.length := by
  induction l with
  | nil => simp [spl]
  | cons c l ih =>
    have : (spl1 c).length ≤ 2 := by unfold spl1; split <;> simp
    simp only [spl, List.length_append, List.length_cons]; omega

theorem st97_spl (r : Int) (c : UInt8) (h : okB 36 c = true) (hr : 0 ≤ r) : st97 r c = d97 r (spl1 c) := by
  have hv := okB_pos h
  unfold st97 spl1
  split
  · simp only [d97]
    rw [toNat_dig (48 + val c.toNat / 10) (by omega) (by omega), toNat_dig (48 + val c.toNat % 10) (by omega) (by omega)]
    omega
  · simp only [d97]
    rw [toNat_dig (48 + val c.toNat) (by omega) (by omega)]
    omega

theorem f97_spl (r : Int) (l : List UInt8) (h : allOk 36 l) (hr : 0 ≤ r) : f97 r l = d97 r (spl l) := by
  induction l generalizing r with
  | nil => rfl
  | cons c l ih =>
    simp only [f97, spl]
    rw [d97_app, ← st97_spl r c (h c (by simp)) hr]
    exact ih _ (fun e he => h e (by simp [he])) (st97_bd r c hr).1

theorem d97_bd (r : Int) (l : List UInt8) (hr : 0 ≤ r) (h97 : r < 97) : 0 ≤ d97 r l ∧ d97 r l < 97 := by
  induction l generalizing r with
  | nil => exact ⟨hr, h97⟩
  | cons c l ih => simp only [d97]; exact ih _ (by omega) (by omega)

theorem hor_app (r : Int) (a b : List UInt8) : hor r (a ++ b) = hor (hor r a) b := by
  induction a generalizing r with
  | nil => rfl
  | cons c a ih => simp [hor, ih]

theorem hor_d97 (r : Int) (l : List UInt8) : d97 (r % 97) l = hor r l % 97 := by
  induction l generalizing r with
  | nil => rfl
  | cons c l ih =>
    simp only [hor, d97]
    rw [← ih]
    congr 1
    omega

theorem hor_bd (r : Int) (l : List UInt8) (hr : 0 ≤ r) (hd : digs l) : 0 ≤ hor r l ∧ hor r l < (r + 1) * 10 ^ l.length := by
  induction l generalizing r with
  | nil => simp [hor, hr]; omega
  | cons c l ih =>
    have hc := hd c (by simp)
    have := ih (r * 10 + ((c.toNat : Int) - 48)) (by omega) (fun e he => hd e (by simp [he]))
    simp only [hor, List.length_cons]
    refine ⟨this.1, Int.lt_of_lt_of_le this.2 ?_⟩
    rw [Int.pow_succ, Int.mul_comm (10 ^ l.length) 10, ← Int.mul_assoc]
    exact Int.mul_le_mul_of_nonneg_right (by omega) (Int.le_of_lt (Int.pow_pos (by omega)))

theorem pow10 {a b : Nat} (h : a ≤ b) : (10 : Int) ^ a ≤ 10 ^ b := by
  have := Nat.pow_le_pow_right (show 10 > 0 by omega) h
  have h2 : ((10 ^ a : Nat) : Int) ≤ ((10 ^ b : Nat) : Int) := Int.ofNat_le.2 this
  simpa [Int.natCast_pow] using h2

theorem hor_small (r : Int) (l : List UInt8) (hr : 0 ≤ r) (h97 : r < 97) (hd : digs l) (hl : l.length ≤ 7) : 0 ≤ hor r l ∧ hor r l ≤ 969999999 := by
  have h := hor_bd r l hr hd
  refine ⟨h.1, ?_⟩
  have h2 : (r + 1) * 10 ^ l.length ≤ 97 * 10 ^ 7 := by
    refine Int.le_trans (Int.mul_le_mul_of_nonneg_right (show r + 1 ≤ 97 by omega) (Int.le_of_lt (Int.pow_pos (by omega)))) ?_
    have h3 := pow10 hl
    omega
  omega

theorem hor_small6 (r : Int) (l : List UInt8) (hr : 0 ≤ r) (h97 : r < 97) (hd : digs l) (hl : l.length ≤ 6) : 0 ≤ hor r l ∧ hor r l ≤ 96999999 := by
  have h := hor_bd r l hr hd
  refine ⟨h.1, ?_⟩
  have h2 : (r + 1) * 10 ^ l.length ≤ 97 * 10 ^ 6 := by
    refine Int.le_trans (Int.mul_le_mul_of_nonneg_right (show r + 1 ≤ 97 by omega) (Int.le_of_lt (Int.pow_pos (by omega)))) ?_
    have h3 := pow10 hl
    omega
  omega

theorem enc1 (n : Int) (h0 : 0 ≤ n) (h : n < 128) : Utf8.encode n = ⟨#[UInt8.ofNat n.toNat]⟩ := by
  have hv : Utf8.valid n = true := by simp [Utf8.valid]; omega
  have hc : n.toNat < 128 := by omega
  simp [Utf8.encode, hv, hc]

theorem enc1_size (n : Int) (h0 : 0 ≤ n) (h : n < 128) : (Utf8.encode n).size = 1 := by rw [enc1 n h0 h]; rfl
theorem enc1_list (n : Int) (h0 : 0 ≤ n) (h : n < 128) : (Utf8.encode n).data.toList = [UInt8.ofNat n.toNat] := by rw [enc1 n h0 h]

end Go.Proofs.Qxb6500341a
