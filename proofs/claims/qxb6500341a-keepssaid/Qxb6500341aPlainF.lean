/-
  WHAT EACH WAY CATCHES (C1 .. C4, C6), plain: no Go in sight.
-/
import Derived.Test.Qxb6500341aPlainE
namespace Go.Proofs.Qxb6500341a
set_option linter.unusedVariables false

def gx (a : ByteArray) (i : Nat) : UInt8 := a.data.toList.getD i 0

theorem gx_lt (a : ByteArray) (i : Nat) (h : i < a.size) : gx a i = a[i] := by
  unfold gx
  rw [List.getD_eq_getElem?_getD, List.getElem?_eq_getElem (by simpa using h)]; rfl

theorem gx_list (a : ByteArray) (i : Nat) (h : i < a.data.toList.length) : a.data.toList[i] = gx a i := by
  rw [gx_lt a i (by simpa using h)]; rfl

theorem gx_mem (a : ByteArray) (i : Nat) (h : i < a.size) : gx a i ∈ a.data.toList := by rw [gx_lt a i h]; exact mem_get a i h

/-- The differing places among the first k, and the last of them. -/
def dif (a b : ByteArray) : Nat → Nat × Nat
  | 0 => (0, 0)
  | k + 1 => if gx a k = gx b k then dif a b k else ((dif a b k).1 + 1, k)

theorem dif_le (a b : ByteArray) (k : Nat) : (dif a b k).1 ≤ k ∧ (dif a b k).2 ≤ k := by
  induction k with
  | zero => simp [dif]
  | succ k ih =>
    simp only [dif]
    split
    · omega
    · simp; omega

theorem dif_spec (a b : ByteArray) (k : Nat) :
    ((dif a b k).1 = 0 → ∀ i, i < k → gx a i = gx b i) ∧
    ((dif a b k).1 = 1 → (dif a b k).2 < k ∧ gx a (dif a b k).2 ≠ gx b (dif a b k).2 ∧ ∀ i, i < k → i ≠ (dif a b k).2 → gx a i = gx b i) ∧
    ((dif a b k).1 = 2 → ∃ q, q < (dif a b k).2 ∧ (dif a b k).2 < k ∧ gx a (dif a b k).2 ≠ gx b (dif a b k).2 ∧ gx a q ≠ gx b q ∧ ∀ i, i < k → i ≠ (dif a b k).2 → i ≠ q → gx a i = gx b i) ∧
    (0 < (dif a b k).1 → (dif a b k).2 < k) := by
  induction k with
  | zero => simp [dif]
  | succ k ih =>
    obtain ⟨h0, h1, h2, h3⟩ := ih
    by_cases he : gx a k = gx b k
    · have e : dif a b (k + 1) = dif a b k := by simp [dif, he]
      rw [e]
      refine ⟨fun h i hi => ?_, fun h => ?_, fun h => ?_, fun h => by have := h3 h; omega⟩
      · by_cases hk : i = k
        · subst hk; exact he
        · exact h0 h i (by omega)
      · obtain ⟨a1, a2, a3⟩ := h1 h
        refine ⟨by omega, a2, fun i hi hn => ?_⟩
        by_cases hk : i = k
        · subst hk; exact he
        · exact a3 i (by omega) hn
      · obtain ⟨q, a1, a2, a3, a4, a5⟩ := h2 h
        refine ⟨q, a1, by omega, a3, a4, fun i hi hn hq => ?_⟩
        by_cases hk : i = k
        · subst hk; exact he
        · exact a5 i (by omega) hn hq
    · have e : dif a b (k + 1) = ((dif a b k).1 + 1, k) := by simp [dif, he]
      rw [e]
      refine ⟨fun h => by simp at h, fun h => ?_, fun h => ?_, fun h => by simp⟩
      · have hz : (dif a b k).1 = 0 := by simp at h; exact h
        refine ⟨by simp, he, fun i hi hn => h0 hz i (by simp at hn; omega)⟩
      · have hz : (dif a b k).1 = 1 := by simp at h; exact h
        obtain ⟨a1, a2, a3⟩ := h1 hz
        refine ⟨(dif a b k).2, a1, by simp, he, a2, fun i hi hn hq => a3 i (by simp at hn; omega) hq⟩

def tN (a b : ByteArray) : Nat := (dif a b a.size).1
def tP (a b : ByteArray) : Nat := (dif a b a.size).2

/-- What the contract says of Test over b, where a is a text as Seal left it. -/
def toldA (way : Int) (a b : ByteArray) : Int :=
  if a.size ≠ b.size then -1
  else if tN a b = 0 then 1
  else if tN a b = 1 ∧ (val (gx a (tP a b)).toNat < 10 ↔ val (gx b (tP a b)).toNat < 10) then 0
  else if tN a b ≠ 2 ∨ gx a (tP a b - 1) ≠ gx b (tP a b) ∨ gx a (tP a b) ≠ gx b (tP a b - 1) then -1
  else if way = 1 ∧ val (gx a (tP a b)).toNat + val (gx b (tP a b)).toNat = 9 ∧ val (gx a (tP a b)).toNat * val (gx b (tP a b)).toNat = 0 then 1
  else if way = 2 ∧ (val (gx a (tP a b)).toNat = 11 * val (gx b (tP a b)).toNat ∨ val (gx b (tP a b)).toNat = 11 * val (gx a (tP a b)).toNat) then 1
  else 0

/-! ### Lists that differ at one place, at two neighbours -/
theorem split_one (a : ByteArray) (p : Nat) (h : p < a.size) : a.data.toList = a.data.toList.take p ++ gx a p :: a.data.toList.drop (p + 1) := by
  rw [gx_lt a p h, ← drop_cons a p h, List.take_append_drop]

theorem take_same {a b : ByteArray} (hs : a.size = b.size) (p : Nat) (hp : p ≤ a.size) (h : ∀ i, i < p → gx a i = gx b i) : a.data.toList.take p = b.data.toList.take p := by
  apply List.ext_getElem
  · simp; omega
  · intro i h1 h2
    simp at h1 h2
    rw [List.getElem_take, List.getElem_take, gx_list, gx_list]
    exact h i (by omega)

theorem drop_same {a b : ByteArray} (hs : a.size = b.size) (p : Nat) (h : ∀ i, p ≤ i → i < a.size → gx a i = gx b i) : a.data.toList.drop p = b.data.toList.drop p := by
  apply List.ext_getElem
  · simp; omega
  · intro i h1 h2
    simp at h1 h2
    rw [List.getElem_drop, List.getElem_drop, gx_list, gx_list]
    exact h (p + i) (by omega) (by omega)

theorem same_all {a b : ByteArray} (hs : a.size = b.size) (h : ∀ i, i < a.size → gx a i = gx b i) : a.data.toList = b.data.toList := by
  have := drop_same hs 0 (fun i _ hi => h i hi)
  simpa using this

theorem split_two (a : ByteArray) (p : Nat) (h : p < a.size) (h0 : 0 < p) : a.data.toList = a.data.toList.take (p - 1) ++ gx a (p - 1) :: gx a p :: a.data.toList.drop (p + 1) := by
  have e := split_one a (p - 1) (by omega)
  rw [show p - 1 + 1 = p from by omega, drop_cons a p h, ← gx_lt a p h] at e
  exact e

/-! ### Luhn -/
theorem lsum_app (sh : Nat) (x l : List UInt8) : lsum sh (x ++ l) = lsum (l.length + sh) x + lsum sh l := by
  induction x with
  | nil => simp [lsum]
  | cons c x ih =>
    simp only [List.cons_append, lsum, ih, List.length_append]
    rw [show x.length + l.length + sh = x.length + (l.length + sh) from by omega]
    omega

theorem val_inj {c d : UInt8} (hc : okB 36 c = true) (hd : okB 36 d = true) (h : val c.toNat = val d.toNat) : c = d := by
  apply UInt8.toNat_inj.1
  rcases okB_law hc with h1 | h1 <;> rcases okB_law hd with h2 | h2
  · rw [val_dig h1, val_dig h2] at h; omega
  · rw [val_dig h1, val_let h2] at h; omega
  · rw [val_let h1, val_dig h2] at h; omega
  · rw [val_let h1, val_let h2] at h; omega

theorem luhn_one (x y : List UInt8) (c d : UInt8) (hc : okB 10 c = true) (hd : okB 10 d = true) (hne : c ≠ d) (h : luhnR 0 (x ++ c :: y) = 0) : luhnR 0 (x ++ d :: y) ≠ 0 := by
  have vc := okB_pos hc
  have vd := okB_pos hd
  have hv : val c.toNat ≠ val d.toNat := fun e => hne (val_inj (by simp only [okB, decide_eq_true_eq]; omega) (by simp only [okB, decide_eq_true_eq]; omega) e)
  unfold luhnR at *
  rw [lsum_app] at *
  simp only [lsum, List.length_cons, Nat.add_zero] at *
  generalize lsum (y.length + 1) x = X at *
  generalize lsum 0 y = Y at *
  generalize val (c.toNat : Int) = C at *
  generalize val (d.toNat : Int) = D at *
  unfold dbl at *
  repeat' split at h
  all_goals (repeat' split) <;> omega

theorem luhn_two (x y : List UInt8) (c d : UInt8) (hc : okB 10 c = true) (hd : okB 10 d = true) (hne : c ≠ d) (h : luhnR 0 (x ++ c :: d :: y) = 0) :
    (luhnR 0 (x ++ d :: c :: y) = 0 ↔ (val d.toNat + val c.toNat = 9 ∧ (val d.toNat = 0 ∨ val c.toNat = 0))) := by
  have vc := okB_pos hc
  have vd := okB_pos hd
  have hv : val c.toNat ≠ val d.toNat := fun e => hne (val_inj (by simp only [okB, decide_eq_true_eq]; omega) (by simp only [okB, decide_eq_true_eq]; omega) e)
  unfold luhnR at *
  rw [lsum_app] at *
  simp only [lsum, List.length_cons, Nat.add_zero] at *
  generalize lsum (y.length + 1 + 1) x = X at *
  generalize lsum 0 y = Y at *
  generalize val (c.toNat : Int) = C at *
  generalize val (d.toNat : Int) = D at *
  unfold dbl at *
  repeat' split at h
  all_goals (repeat' split) <;> omega

/-! ### By 97 -/
theorem st97_inj {r s : Int} {c : UInt8} (hr : 0 ≤ r ∧ r < 97) (hs : 0 ≤ s ∧ s < 97) (h : st97 r c = st97 s c) : r = s := by
  unfold st97 at h
  split at h <;> omega

theorem f97_inj {r s : Int} (l : List UInt8) (hr : 0 ≤ r ∧ r < 97) (hs : 0 ≤ s ∧ s < 97) (h : f97 r l = f97 s l) : r = s := by
  induction l generalizing r s with
  | nil => exact h
  | cons c l ih => exact st97_inj hr hs (ih (st97_bd r c hr.1) (st97_bd s c hs.1) h)

theorem f97_one (x y : List UInt8) (c d : UInt8) (hc : okB 36 c = true) (hd : okB 36 d = true) (hk : val c.toNat < 10 ↔ val d.toNat < 10) (hne : c ≠ d) (h : f97 0 (x ++ c :: y) = 1) : f97 0 (x ++ d :: y) ≠ 1 := by
  intro h2
  rw [f97_app] at h h2
  have hx := f97_bd 0 x (by omega)
  have e : st97 (f97 0 x) c = st97 (f97 0 x) d := f97_inj y (st97_bd _ _ hx.1) (st97_bd _ _ hx.1) (by show f97 (f97 0 x) (c :: y) = f97 (f97 0 x) (d :: y); rw [h, h2])
  have vc := okB_pos hc
  have vd := okB_pos hd
  refine hne (val_inj hc hd ?_)
  unfold st97 at e
  split at e <;> split at e <;> omega

theorem two_dd (r C D : Int) (hr : 0 ≤ r) (hC : 0 ≤ C ∧ C < 10) (hD : 0 ≤ D ∧ D < 10) (hne : C ≠ D) :
    (((r * 10 + C) % 97 * 10 + D) % 97 = ((r * 10 + D) % 97 * 10 + C) % 97 ↔ (D = 11 * C ∨ C = 11 * D)) := by
  have h1 : ((r * 10 + C) % 97 * 10 + D) % 97 = (r * 100 + 10 * C + D) % 97 := by omega
  have h2 : ((r * 10 + D) % 97 * 10 + C) % 97 = (r * 100 + 10 * D + C) % 97 := by omega
  rw [h1, h2]
  constructor <;> intro h <;> omega
theorem two_ll (r C D : Int) (hr : 0 ≤ r) (hC : 10 ≤ C ∧ C < 36) (hD : 10 ≤ D ∧ D < 36) (hne : C ≠ D) :
    (((r * 100 + C) % 97 * 100 + D) % 97 = ((r * 100 + D) % 97 * 100 + C) % 97 ↔ (D = 11 * C ∨ C = 11 * D)) := by
  have h1 : ((r * 100 + C) % 97 * 100 + D) % 97 = (r * 10000 + 100 * C + D) % 97 := by omega
  have h2 : ((r * 100 + D) % 97 * 100 + C) % 97 = (r * 10000 + 100 * D + C) % 97 := by omega
  rw [h1, h2]
  constructor <;> intro h <;> omega
theorem two_dl (r C D : Int) (hr : 0 ≤ r) (hC : 0 ≤ C ∧ C < 10) (hD : 10 ≤ D ∧ D < 36) :
    (((r * 10 + C) % 97 * 100 + D) % 97 = ((r * 100 + D) % 97 * 10 + C) % 97 ↔ (D = 11 * C ∨ C = 11 * D)) := by
  have h1 : ((r * 10 + C) % 97 * 100 + D) % 97 = (r * 1000 + 100 * C + D) % 97 := by omega
  have h2 : ((r * 100 + D) % 97 * 10 + C) % 97 = (r * 1000 + 10 * D + C) % 97 := by omega
  rw [h1, h2]
  constructor <;> intro h <;> omega
theorem two_ld (r C D : Int) (hr : 0 ≤ r) (hC : 10 ≤ C ∧ C < 36) (hD : 0 ≤ D ∧ D < 10) :
    (((r * 100 + C) % 97 * 10 + D) % 97 = ((r * 10 + D) % 97 * 100 + C) % 97 ↔ (D = 11 * C ∨ C = 11 * D)) := by
  have h1 : ((r * 100 + C) % 97 * 10 + D) % 97 = (r * 1000 + 10 * C + D) % 97 := by omega
  have h2 : ((r * 10 + D) % 97 * 100 + C) % 97 = (r * 1000 + 100 * D + C) % 97 := by omega
  rw [h1, h2]
  constructor <;> intro h <;> omega

theorem st97_let {r : Int} {c : UInt8} (h : 10 ≤ val c.toNat) : st97 r c = (r * 100 + val c.toNat) % 97 := by unfold st97; rw [if_pos h]
theorem st97_dig {r : Int} {c : UInt8} (h : val c.toNat < 10) : st97 r c = (r * 10 + val c.toNat) % 97 := by unfold st97; rw [if_neg (by omega)]

theorem swap97 (r : Int) (c d : UInt8) (hr : 0 ≤ r ∧ r < 97) (vc : 0 ≤ val c.toNat ∧ val c.toNat < 36) (vd : 0 ≤ val d.toNat ∧ val d.toNat < 36) (hv : val c.toNat ≠ val d.toNat) :
    st97 (st97 r c) d = st97 (st97 r d) c ↔ (val d.toNat = 11 * val c.toNat ∨ val c.toNat = 11 * val d.toNat) := by
  by_cases h1 : 10 ≤ val c.toNat
  · by_cases h2 : 10 ≤ val d.toNat
    · rw [st97_let h1, st97_let h2, st97_let h2, st97_let h1]; exact two_ll r _ _ hr.1 ⟨h1, vc.2⟩ ⟨h2, vd.2⟩ hv
    · rw [st97_let h1, st97_dig (c := d) (by omega), st97_dig (c := d) (by omega), st97_let h1]; exact two_ld r _ _ hr.1 ⟨h1, vc.2⟩ ⟨vd.1, by omega⟩
  · by_cases h2 : 10 ≤ val d.toNat
    · rw [st97_dig (c := c) (by omega), st97_let h2, st97_let h2, st97_dig (c := c) (by omega)]; exact two_dl r _ _ hr.1 ⟨vc.1, by omega⟩ ⟨h2, vd.2⟩
    · rw [st97_dig (c := c) (by omega), st97_dig (c := d) (by omega), st97_dig (c := d) (by omega), st97_dig (c := c) (by omega)]; exact two_dd r _ _ hr.1 ⟨vc.1, by omega⟩ ⟨vd.1, by omega⟩ hv

theorem f97_two (x y : List UInt8) (c d : UInt8) (hc : okB 36 c = true) (hd : okB 36 d = true) (hne : c ≠ d) (h : f97 0 (x ++ c :: d :: y) = 1) :
    (f97 0 (x ++ d :: c :: y) = 1 ↔ (val d.toNat = 11 * val c.toNat ∨ val c.toNat = 11 * val d.toNat)) := by
  have hx := f97_bd 0 x (by omega)
  have vc := okB_pos hc
  have vd := okB_pos hd
  have hv : val c.toNat ≠ val d.toNat := fun e => hne (val_inj hc hd e)
  rw [f97_app] at h ⊢
  have key := swap97 (f97 0 x) c d hx vc vd hv
  rw [← key]
  have b1 := st97_bd (st97 (f97 0 x) c) d (st97_bd _ _ hx.1).1
  have b2 := st97_bd (st97 (f97 0 x) d) c (st97_bd _ _ hx.1).1
  constructor
  · intro h2
    exact f97_inj y b1 b2 (by show f97 (f97 0 x) (c :: d :: y) = f97 (f97 0 x) (d :: c :: y); rw [h, h2])
  · intro e
    show f97 (st97 (st97 (f97 0 x) d) c) y = 1
    rw [← e]; exact h

/-! ### The ghost -/
/-- 'was' is blank, or a text as a Seal that answered OK left it. -/
structure GI (was : ByteArray) (way : Int) : Prop where
  ok : way = 0 ∨ ((way = 1 ∧ allOk 10 was.data.toList ∨ way = 2) ∧ Law was ∧ 1 + way ≤ was.size ∧ restA way was.data.toList = way - 1)

theorem gd_ok1 {t : ByteArray} (h1 : (2 : Int) ≤ t.size) (h2 : t.size ≤ 32) (h3 : allOk 10 t.data.toList) : testE t 1 = 0 := by
  unfold testE gd
  have e : (t.data.toList.length : Int) = t.size := by simp
  rw [if_neg (by omega), e, if_neg (by omega), if_neg (by omega), if_neg]
  rw [fbI_all h3]; omega
theorem gd_ok2 {t : ByteArray} (h1 : (3 : Int) ≤ t.size) (h2 : t.size ≤ 32) : testE t 2 = 0 := by
  unfold testE gd
  have e : (t.data.toList.length : Int) = t.size := by simp
  rw [if_neg (by omega), e, if_neg (by omega), if_neg (by omega), if_neg (by omega)]

theorem mul_zero_or {a b : Int} (h : a * b = 0) : a = 0 ∨ b = 0 := Int.mul_eq_zero.1 h

theorem dif_props {a b : ByteArray} (hs : a.size = b.size) :
    (tN a b = 0 → a.data.toList = b.data.toList) ∧
    (tN a b = 1 → ∃ x y, a.data.toList = x ++ gx a (tP a b) :: y ∧ b.data.toList = x ++ gx b (tP a b) :: y ∧ gx a (tP a b) ≠ gx b (tP a b) ∧ tP a b < a.size) ∧
    (tN a b = 2 → gx a (tP a b - 1) = gx b (tP a b) → gx a (tP a b) = gx b (tP a b - 1) →
      ∃ x y, a.data.toList = x ++ gx b (tP a b) :: gx a (tP a b) :: y ∧ b.data.toList = x ++ gx a (tP a b) :: gx b (tP a b) :: y ∧ gx b (tP a b) ≠ gx a (tP a b) ∧ tP a b < a.size) := by
  obtain ⟨h0, h1, h2, h3⟩ := dif_spec a b a.size
  refine ⟨fun h => same_all hs (h0 h), fun h => ?_, fun h e1 e2 => ?_⟩
  · obtain ⟨a1, a2, a3⟩ := h1 h
    have hp : (dif a b a.size).2 = tP a b := rfl
    rw [hp] at a1 a2 a3
    refine ⟨a.data.toList.take (tP a b), a.data.toList.drop (tP a b + 1), split_one a _ a1, ?_, a2, a1⟩
    have e := split_one b (tP a b) (by rw [← hs]; exact a1)
    rw [take_same hs _ (Nat.le_of_lt a1) (fun i hi => a3 i (by omega) (by omega)), drop_same hs _ (fun i h4 h5 => a3 i h5 (by omega))]
    exact e
  · obtain ⟨q, a1, a2, a3, a4, a5⟩ := h2 h
    have hp : (dif a b a.size).2 = tP a b := rfl
    rw [hp] at a1 a2 a3 a5
    have hq : q = tP a b - 1 := by
      by_cases hq : q = tP a b - 1
      · exact hq
      · exfalso
        have := a5 (tP a b - 1) (by omega) (by omega) (by omega)
        rw [e1, ← e2] at this
        exact a3 this.symm
    have s1 := split_two a (tP a b) a2 (by omega)
    have s2 := split_two b (tP a b) (by rw [← hs]; exact a2) (by omega)
    refine ⟨a.data.toList.take (tP a b - 1), a.data.toList.drop (tP a b + 1), ?_, ?_, fun e => a3 e.symm, a2⟩
    · rw [← e1]; exact s1
    · rw [take_same hs _ (by omega) (fun i hi => a5 i (by omega) (by omega) (by omega)), drop_same hs _ (fun i h4 h5 => a5 i h5 (by omega) (by omega)), e2]
      exact s2

/-- C1 .. C4. -/
theorem told_law {way : Int} {was now : ByteArray} (hg : GI was way) (hw : way ≠ 0) (hL : Law now) :
    toldA way was now = -1 ∨ (testE now way = 0 ∧ testO now way = toldA way was now) := by
  rcases hg.ok with h | ⟨hway, hLw, hsz, hr⟩
  · exact absurd h hw
  by_cases hs : was.size = now.size
  · obtain ⟨d0, d1, d2⟩ := dif_props hs
    have hlw := hLw.law
    have hln := hL.law
    have hn32 := hL.size
    have hO : ∀ r, testE now way = 0 → restA way now.data.toList = r → testO now way = if r = way - 1 then 1 else 0 := by
      intro r h1 h2; simp only [testO, h1, if_true, h2]
    unfold toldA
    rw [if_neg (by omega)]
    by_cases n0 : tN was now = 0
    · right
      rw [if_pos n0]
      have e := d0 n0
      have hE : testE now way = 0 := by
        rcases hway with ⟨rfl, hd⟩ | rfl
        · exact gd_ok1 (by omega) hn32 (by rw [← e]; exact hd)
        · exact gd_ok2 (by omega) hn32
      exact ⟨hE, by rw [hO _ hE rfl, ← e, hr]; simp⟩
    rw [if_neg n0]
    by_cases n1 : tN was now = 1 ∧ (val (gx was (tP was now)).toNat < 10 ↔ val (gx now (tP was now)).toNat < 10)
    · rw [if_pos n1]
      right
      obtain ⟨x, y, e1, e2, hne, hp⟩ := d1 n1.1
      have oc := hlw _ (gx_mem was _ hp)
      have od := hln _ (gx_mem now (tP was now) (by omega))
      rcases hway with ⟨rfl, hd⟩ | rfl
      · have oc10 := hd _ (gx_mem was _ hp)
        have od10 : okB 10 (gx now (tP was now)) = true := by
          have := okB_pos oc10; have := okB_pos od
          simp only [okB, decide_eq_true_eq]; omega
        have hall : allOk 10 now.data.toList := by
          rw [e2]; rw [e1] at hd
          intro c hc
          rcases List.mem_append.1 hc with h | h
          · exact hd c (List.mem_append_left _ h)
          · rcases List.mem_cons.1 h with h | h
            · subst h; exact od10
            · exact hd c (List.mem_append_right _ (List.mem_cons_of_mem _ h))
        have hE := gd_ok1 (t := now) (by omega) hn32 hall
        rw [rest1, e1] at hr
        refine ⟨hE, ?_⟩
        rw [hO _ hE (rest1 _), e2, show (1 : Int) - 1 = 0 from rfl, if_neg (luhn_one x y _ _ oc10 od10 hne (by simpa using hr))]
      · have hE := gd_ok2 (t := now) (by omega) hn32
        rw [rest2, e1] at hr
        refine ⟨hE, ?_⟩
        rw [hO _ hE (rest2 _), e2, show (2 : Int) - 1 = 1 from rfl, if_neg (f97_one x y _ _ oc od n1.2 hne (by simpa using hr))]
    rw [if_neg n1]
    by_cases n2 : tN was now ≠ 2 ∨ gx was (tP was now - 1) ≠ gx now (tP was now) ∨ gx was (tP was now) ≠ gx now (tP was now - 1)
    · left; rw [if_pos n2]
    rw [if_neg n2]
    right
    have m1 : tN was now = 2 := by
      by_cases h : tN was now = 2
      · exact h
      · exact absurd (Or.inl h) n2
    have m2 : gx was (tP was now - 1) = gx now (tP was now) := by
      by_cases h : gx was (tP was now - 1) = gx now (tP was now)
      · exact h
      · exact absurd (Or.inr (Or.inl h)) n2
    have m3 : gx was (tP was now) = gx now (tP was now - 1) := by
      by_cases h : gx was (tP was now) = gx now (tP was now - 1)
      · exact h
      · exact absurd (Or.inr (Or.inr h)) n2
    obtain ⟨x, y, e1, e2, hne, hp⟩ := d2 m1 m2 m3
    have od := hlw _ (gx_mem was _ hp)
    have oc := hln _ (gx_mem now (tP was now) (by omega))
    rcases hway with ⟨rfl, hd⟩ | rfl
    · have od10 := hd _ (gx_mem was _ hp)
      have oc10 : okB 10 (gx now (tP was now)) = true := hd _ (by rw [e1]; simp)
      have hall : allOk 10 now.data.toList := by
        rw [e2]; rw [e1] at hd
        intro c hc
        refine hd c ?_
        simp only [List.mem_append, List.mem_cons] at hc ⊢
        rcases hc with h | h | h | h
        · exact Or.inl h
        · exact Or.inr (Or.inr (Or.inl h))
        · exact Or.inr (Or.inl h)
        · exact Or.inr (Or.inr (Or.inr h))
      have hE := gd_ok1 (t := now) (by omega) hn32 hall
      rw [rest1, e1] at hr
      refine ⟨hE, ?_⟩
      have key := luhn_two x y _ _ oc10 od10 hne (by simpa using hr)
      rw [hO _ hE (rest1 _), e2]
      by_cases hc : val (gx was (tP was now)).toNat + val (gx now (tP was now)).toNat = 9 ∧ val (gx was (tP was now)).toNat * val (gx now (tP was now)).toNat = 0
      · rw [if_pos (by rw [show (1 : Int) - 1 = 0 from rfl]; exact key.2 ⟨hc.1, mul_zero_or hc.2⟩), if_pos ⟨rfl, hc⟩]
      · rw [if_neg, if_neg (fun h => hc h.2), if_neg (fun h => absurd h.1 (by omega))]
        rw [show (1 : Int) - 1 = 0 from rfl]
        intro h
        obtain ⟨h1, h2⟩ := key.1 h
        refine hc ⟨h1, ?_⟩
        rcases h2 with h2 | h2 <;> rw [h2] <;> simp
    · have hE := gd_ok2 (t := now) (by omega) hn32
      rw [rest2, e1] at hr
      refine ⟨hE, ?_⟩
      have key := f97_two x y _ _ oc od hne (by simpa using hr)
      rw [hO _ hE (rest2 _), e2, show (2 : Int) - 1 = 1 from rfl]
      have h21 : ¬ ((2 : Int) = 1 ∧ val (gx was (tP was now)).toNat + val (gx now (tP was now)).toNat = 9 ∧ val (gx was (tP was now)).toNat * val (gx now (tP was now)).toNat = 0) := fun h => absurd h.1 (by omega)
      rw [if_neg h21]
      by_cases hc : val (gx was (tP was now)).toNat = 11 * val (gx now (tP was now)).toNat ∨ val (gx now (tP was now)).toNat = 11 * val (gx was (tP was now)).toNat
      · rw [if_pos (key.2 hc), if_pos ⟨rfl, hc⟩]
      · rw [if_neg (fun h => hc (key.1 h)), if_neg (fun h => hc h.2)]
  · left; unfold toldA; rw [if_pos hs]

theorem GI.seal {t : ByteArray} (h : Law t) {way : Int} (hg : sealE t way = 0) : GI (sealT t way) way := by
  have hL := h.seal way
  have e : sealT t way = t ++ ckD t way := by simp [sealT, hg]
  refine ⟨Or.inr ?_⟩
  rcases gd_way0 hg with rfl | rfl
  · obtain ⟨h1, h2, h3⟩ := gd_zero1 hg
    have hz := ckD1_size t
    refine ⟨Or.inl ⟨rfl, ?_⟩, hL, ?_, ?_⟩
    · rw [e, app_list]; exact allOk_app h3 (ckD_ok1 t)
    · rw [e, ByteArray.size_append]; omega
    · rw [e, rest1, luhn_sealed]; rfl
  · obtain ⟨h1, h2⟩ := gd_zero2 hg
    have hz := ckD2_size t
    refine ⟨Or.inr rfl, hL, ?_, ?_⟩
    · rw [e, ByteArray.size_append]; omega
    · rw [e, rest2, f97_sealed]; rfl

/-! ### C6 -/
def pinA (way : Int) (t : ByteArray) : Int :=
  if way = 1 ∧ t = ⟨#[49]⟩ then 8 else if way = 1 ∧ t = ⟨#[55, 57, 57, 50, 55, 51, 57, 56, 55, 49]⟩ then 3
  else if way = 2 ∧ t = ⟨#[55, 57, 52]⟩ then 44 else if way = 2 ∧ t = ⟨#[87, 69, 83, 84, 49, 50, 51, 52, 53, 54, 57, 56, 55, 54, 53, 52, 51, 50, 71, 66]⟩ then 82 else -1

theorem pin_law (way : Int) (t : ByteArray) : pinA way t = -1 ∨ pinA way t = ckN t way := by
  unfold pinA
  split
  · rename_i h; obtain ⟨rfl, rfl⟩ := h; right; decide
  · split
    · rename_i h; obtain ⟨rfl, rfl⟩ := h; right; decide
    · split
      · rename_i h; obtain ⟨rfl, rfl⟩ := h; right; decide
      · split
        · rename_i h; obtain ⟨rfl, rfl⟩ := h; right; decide +kernel
        · exact Or.inl rfl

end Go.Proofs.Qxb6500341a
