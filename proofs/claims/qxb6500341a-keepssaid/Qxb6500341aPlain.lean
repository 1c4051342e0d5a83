/-
  THE PLAIN SLIP: no Go in sight.
-/
import Derived.WalkKit
namespace Go.Proofs.Qxb6500341a

def val (c : Int) : Int := if 48 ≤ c ∧ c ≤ 57 then c - 48 else if 65 ≤ c ∧ c ≤ 90 then c - 55 else -1

/-- A byte's value lies in 0 .. top-1. -/
def okB (top : Int) (c : UInt8) : Bool := decide (0 ≤ val c.toNat ∧ val c.toNat < top)
/-- The index of the first byte that is not ok, or -1. -/
def fbI (top : Int) : List UInt8 → Int
  | [] => -1
  | c :: l => if okB top c then (if fbI top l < 0 then -1 else fbI top l + 1) else 0
def allOk (top : Int) (l : List UInt8) : Prop := ∀ c, c ∈ l → okB top c = true

theorem fbI_ge (top : Int) (l : List UInt8) : -1 ≤ fbI top l := by
  induction l with
  | nil => simp [fbI]
  | cons c l ih => simp only [fbI]; repeat' split <;> omega

theorem fbI_lt (top : Int) (l : List UInt8) : fbI top l < l.length := by
  induction l with
  | nil => simp [fbI]
  | cons c l ih => simp only [fbI, List.length_cons]; repeat' split <;> omega

theorem fbI_all {top : Int} {l : List UInt8} (h : allOk top l) : fbI top l = -1 := by
  induction l with
  | nil => rfl
  | cons c l ih => simp [fbI, h c (by simp), ih (fun d hd => h d (by simp [hd]))]

theorem all_of_fbI {top : Int} {l : List UInt8} (h : fbI top l < 0) : allOk top l := by
  induction l with
  | nil => intro c hc; cases hc
  | cons c l ih =>
    simp only [fbI] at h
    split at h
    · rename_i hc
      split at h
      · rename_i hl
        intro d hd
        rcases List.mem_cons.1 hd with rfl | hd
        · exact hc
        · exact ih hl d hd
      · omega
    · omega

theorem fbI_at {top : Int} (l : List UInt8) (k : Nat) (hk : k < l.length) (h : allOk top (l.take k)) (hb : okB top l[k] = false) : fbI top l = k := by
  induction l generalizing k with
  | nil => simp at hk
  | cons c l ih =>
    cases k with
    | zero => simp at hb; simp [fbI, hb]
    | succ k =>
      have hc : okB top c = true := h c (by simp)
      have := ih k (by simpa using hk) (fun d hd => h d (by simp [hd])) (by simpa using hb)
      simp [fbI, hc, this]; omega

theorem allOk_snoc {top : Int} {l : List UInt8} {c : UInt8} (h : allOk top l) (hc : okB top c = true) : allOk top (l ++ [c]) := by
  intro d hd
  rcases List.mem_append.1 hd with hd | hd
  · exact h d hd
  · simp at hd; subst hd; exact hc

theorem take_snoc (s : ByteArray) (k : Nat) (h : k < s.size) : s.data.toList.take (k + 1) = s.data.toList.take k ++ [s[k]] := by
  rw [List.take_succ_eq_append_getElem (by simpa using h)]; rfl

theorem take_all (s : ByteArray) (k : Nat) (h : s.size ≤ k) : s.data.toList.take k = s.data.toList :=
  List.take_of_length_le (by simpa using h)

/-- The error that the contract's words demand of Seal and Test. -/
def gd (t : List UInt8) (way least room : Int) : Int :=
  if way ≠ 1 ∧ way ≠ 2 then 3 else if (t.length : Int) < least then 4 else if 32 < (t.length : Int) + room then 5 else if way = 1 ∧ 0 ≤ fbI 10 t then 6 else 0

end Go.Proofs.Qxb6500341a
