import Derived.Test.Qxb6500341aPlainD
namespace Go.Proofs.Qxb6500341a
set_option linter.unusedVariables false

def sealE (t : ByteArray) (way : Int) : Int := gd t.data.toList way 1 way
/-- The number that the check digits write. -/
def ckN (t : ByteArray) (way : Int) : Int :=
  if way = 1 then (10 - luhnR 0 (t.data.toList ++ [48])) % 10 else 98 - f97 0 (t.data.toList ++ [48, 48])
def dg (n : Int) : UInt8 := UInt8.ofNat (48 + n).toNat
/-- The check digits. -/
def ckD (t : ByteArray) (way : Int) : ByteArray :=
  if way = 1 then ⟨#[dg (ckN t way % 10)]⟩ else ⟨#[dg (ckN t way / 10), dg (ckN t way % 10)]⟩
def sealN (t : ByteArray) (way : Int) : Int := if sealE t way = 0 then ckN t way else 0
def sealT (t : ByteArray) (way : Int) : ByteArray := if sealE t way = 0 then t ++ ckD t way else t

theorem ck1 (t : ByteArray) : ckN t 1 = (10 - luhnR 0 (t.data.toList ++ [48])) % 10 := by simp [ckN]
theorem ck2 (t : ByteArray) : ckN t 2 = 98 - f97 0 (t.data.toList ++ [48, 48]) := by simp [ckN]
theorem ckD1 (t : ByteArray) : ckD t 1 = ⟨#[dg (ckN t 1 % 10)]⟩ := by simp [ckD]
theorem ckD2 (t : ByteArray) : ckD t 2 = ⟨#[dg (ckN t 2 / 10), dg (ckN t 2 % 10)]⟩ := by simp [ckD]

theorem val48 : val ((48 : UInt8).toNat : Int) = 0 := by decide

theorem f97_app (r : Int) (a b : List UInt8) : f97 r (a ++ b) = f97 (f97 r a) b := by
  induction a generalizing r with
  | nil => rfl
  | cons c a ih => exact ih _

theorem lsum_snoc (l : List UInt8) (c : UInt8) : lsum 0 (l ++ [c]) = lsum 1 l + val c.toNat := by
  induction l with
  | nil => simp [lsum, dbl]
  | cons d l ih =>
    simp only [List.cons_append, lsum, ih, List.length_append, List.length_singleton, Nat.add_zero]
    omega

theorem luhn_nought (l : List UInt8) : luhnR 0 (l ++ [48]) = luhnR 1 l := by
  unfold luhnR; rw [lsum_snoc, val48]; simp

theorem f97_noughts (l : List UInt8) : f97 0 (l ++ [48, 48]) = f97 0 l * 100 % 97 := by
  rw [f97_app]
  simp only [f97]
  have h : ∀ r, st97 r 48 = (r * 10) % 97 := by
    intro r; unfold st97; rw [val48, if_neg (by omega)]; simp
  rw [h, h]
  omega

theorem luhnR_bd (sh : Nat) (l : List UInt8) : 0 ≤ luhnR sh l ∧ luhnR sh l ≤ 9 := by unfold luhnR; omega

theorem ck1_bd (t : ByteArray) : 0 ≤ ckN t 1 ∧ ckN t 1 ≤ 9 := by rw [ck1]; omega
theorem ck2_bd (t : ByteArray) : 2 ≤ ckN t 2 ∧ ckN t 2 ≤ 98 := by
  rw [ck2]; have := f97_bd 0 (t.data.toList ++ [48, 48]) (by omega); omega

theorem dg_nat (n : Int) (h0 : 0 ≤ n) (h9 : n ≤ 9) : ((dg n).toNat : Int) = 48 + n := toNat_dig (48 + n) (by omega) (by omega)
theorem dg_val (n : Int) (h0 : 0 ≤ n) (h9 : n ≤ 9) : val (dg n).toNat = n := by
  have := dg_nat n h0 h9
  rw [val_dig (by omega)]; omega
theorem dg_ok {top : Int} (ht : 10 ≤ top) (n : Int) (h0 : 0 ≤ n) (h9 : n ≤ 9) : okB top (dg n) = true := by
  have := dg_nat n h0 h9
  exact okB_digit ht (by omega) (by omega)

/-- C1: a sealed text verifies. -/
theorem luhn_sealed (t : ByteArray) : luhnR 0 (t ++ ckD t 1).data.toList = 0 := by
  have hb := ck1_bd t
  rw [ckD1]
  simp only [ByteArray.data_append, Array.toList_append]
  unfold luhnR
  rw [lsum_snoc, dg_val _ (by omega) (by omega)]
  have h := ck1 t
  rw [luhn_nought] at h
  unfold luhnR at h
  omega

theorem f97_sealed (t : ByteArray) : f97 0 (t ++ ckD t 2).data.toList = 1 := by
  have hb := ck2_bd t
  rw [ckD2]
  simp only [ByteArray.data_append, Array.toList_append]
  rw [f97_app]
  simp only [f97]
  have h := ck2 t
  rw [f97_noughts] at h
  have hf := f97_bd 0 t.data.toList (by omega)
  generalize f97 0 t.data.toList = r at *
  generalize ckN t 2 = n at *
  unfold st97
  rw [dg_val _ (by omega) (by omega), dg_val _ (by omega) (by omega), if_neg (by omega), if_neg (by omega)]
  omega

theorem ckD1_size (t : ByteArray) : (ckD t 1).size = 1 := by rw [ckD1]; rfl
theorem ckD2_size (t : ByteArray) : (ckD t 2).size = 2 := by rw [ckD2]; rfl

theorem ckD_ok1 (t : ByteArray) : allOk 10 (ckD t 1).data.toList := by
  have hb := ck1_bd t
  rw [ckD1]
  intro c hc
  simp at hc; subst hc
  exact dg_ok (by omega) _ (by omega) (by omega)
theorem ckD_ok2 (t : ByteArray) : allOk 10 (ckD t 2).data.toList := by
  have hb := ck2_bd t
  rw [ckD2]
  intro c hc
  simp at hc
  rcases hc with rfl | rfl
  · exact dg_ok (by omega) _ (by omega) (by omega)
  · exact dg_ok (by omega) _ (by omega) (by omega)

theorem allOk_app {top : Int} {a b : List UInt8} (ha : allOk top a) (hb : allOk top b) : allOk top (a ++ b) := by
  intro c hc
  rcases List.mem_append.1 hc with h | h
  · exact ha c h
  · exact hb c h

theorem app_list (a b : ByteArray) : (a ++ b).data.toList = a.data.toList ++ b.data.toList := by simp [ByteArray.data_append]

theorem lets_digs (l : List UInt8) (h : allOk 10 l) : lets l = 0 := by
  induction l with
  | nil => rfl
  | cons c l ih =>
    have := okB_dig (h c (by simp))
    simp only [lets]
    rw [if_neg (by omega), ih (fun e he => h e (by simp [he]))]; omega

theorem gd_zero1 {t : ByteArray} {least room : Int} (h : gd t.data.toList 1 least room = 0) : (t.size : Int) + room ≤ 32 ∧ least ≤ t.size ∧ allOk 10 t.data.toList := by
  have e : (t.data.toList.length : Int) = t.size := by simp
  unfold gd at h
  rw [if_neg (by omega), e] at h
  split at h
  · omega
  · split at h
    · omega
    · split at h
      · omega
      · exact ⟨by omega, by omega, all_of_fbI (by omega)⟩
theorem gd_zero2 {t : ByteArray} {least room : Int} (h : gd t.data.toList 2 least room = 0) : (t.size : Int) + room ≤ 32 ∧ least ≤ t.size := by
  have e : (t.data.toList.length : Int) = t.size := by simp
  unfold gd at h
  rw [if_neg (by omega), e] at h
  split at h
  · omega
  · split at h
    · omega
    · exact ⟨by omega, by omega⟩

theorem gd_way0 {t : List UInt8} {way least room : Int} (h : gd t way least room = 0) : way = 1 ∨ way = 2 := by
  unfold gd at h
  split at h
  · omega
  · omega

theorem Inv.seal1 {t : ByteArray} {l m1 m2 : Int} (h : Inv t l m1 m2) (hg : sealE t 1 = 0) : Inv (t ++ ckD t 1) l 0 (-1) := by
  obtain ⟨h1, h2, h3⟩ := gd_zero1 hg
  have hz := ckD1_size t
  refine ⟨by rw [ByteArray.size_append]; omega, ?_, ?_, Or.inr ⟨?_, (luhn_sealed t).symm⟩, Or.inl rfl⟩
  · rw [app_list]; exact allOk_app h.law (allOk_mono (by omega) (ckD_ok1 t))
  · rw [app_list, lets_app, lets_digs _ (ckD_ok1 t), h.lets]; omega
  · rw [app_list]; exact allOk_app h3 (ckD_ok1 t)
theorem Inv.seal2 {t : ByteArray} {l m1 m2 : Int} (h : Inv t l m1 m2) (hg : sealE t 2 = 0) : Inv (t ++ ckD t 2) l (-1) 1 := by
  obtain ⟨h1, h2⟩ := gd_zero2 hg
  have hz := ckD2_size t
  refine ⟨by rw [ByteArray.size_append]; omega, ?_, ?_, Or.inl rfl, Or.inr (f97_sealed t).symm⟩
  · rw [app_list]; exact allOk_app h.law (allOk_mono (by omega) (ckD_ok2 t))
  · rw [app_list, lets_app, lets_digs _ (ckD_ok2 t), h.lets]; omega

theorem Law.seal {t : ByteArray} (h : Law t) (way : Int) : Law (sealT t way) := by
  unfold sealT
  split
  · rename_i hg
    rcases gd_way0 hg with rfl | rfl
    · have := Inv.seal1 (l := lets t.data.toList) (m1 := -1) (m2 := -1) ⟨h.size, h.law, rfl, Or.inl rfl, Or.inl rfl⟩ hg
      exact ⟨this.size, this.law⟩
    · have := Inv.seal2 (l := lets t.data.toList) (m1 := -1) (m2 := -1) ⟨h.size, h.law, rfl, Or.inl rfl, Or.inl rfl⟩ hg
      exact ⟨this.size, this.law⟩
  · exact h

/-! ### Test -/
def testE (t : ByteArray) (way : Int) : Int := gd t.data.toList way (1 + way) 0
def testR (t : ByteArray) (way : Int) : Int := if testE t way = 0 then restA way t.data.toList else 0
def testO (t : ByteArray) (way : Int) : Int := if testE t way = 0 then (if restA way t.data.toList = way - 1 then 1 else 0) else 0

end Go.Proofs.Qxb6500341a
