import Derived.Test.Qxb6500341aW11
import Derived.Test.Qxb6500341aPlainF
namespace Go.Proofs.Qxb6500341a
open Go.RowKit
set_option linter.unusedVariables false

theorem str_eq {t : ByteArray} {l : List UInt8} (h : (t.toList == l) = true) : t = ⟨l.toArray⟩ := by
  have h1 := eq_of_beq h
  rw [ByteArray.toList_eq] at h1
  apply ByteArray.ext
  rw [← h1]
theorem str_ne {t : ByteArray} {l : List UInt8} (h : (t.toList == l) = false) : t ≠ ⟨l.toArray⟩ := by
  intro e
  have h1 := ne_of_beq_false h
  rw [ByteArray.toList_eq] at h1
  exact h1 (by rw [e])

theorem pin1 {t : ByteArray} (h : (t.toList == [49]) = true) : pinA 1 t = 8 := by rw [str_eq h]; simp [pinA]
theorem pin2 {t : ByteArray} (h1 : (t.toList == [49]) = false) (h : (t.toList == [55, 57, 57, 50, 55, 51, 57, 56, 55, 49]) = true) : pinA 1 t = 3 := by
  have := str_ne h1
  have e := str_eq h
  unfold pinA
  rw [if_neg (fun h => this h.2), if_pos ⟨rfl, e⟩]
theorem pin3 {t : ByteArray} (h1 : (t.toList == [49]) = false) (h2 : (t.toList == [55, 57, 57, 50, 55, 51, 57, 56, 55, 49]) = false) : pinA 1 t = -1 := by
  have a1 := str_ne h1
  have a2 := str_ne h2
  unfold pinA
  rw [if_neg (fun h => a1 h.2), if_neg (fun h => a2 h.2), if_neg (fun h => absurd h.1 (by omega)), if_neg (fun h => absurd h.1 (by omega))]
theorem pin4 {t : ByteArray} (h : (t.toList == [55, 57, 52]) = true) : pinA 2 t = 44 := by rw [str_eq h]; simp [pinA]
theorem pin5 {t : ByteArray} (h1 : (t.toList == [55, 57, 52]) = false) (h : (t.toList == [87, 69, 83, 84, 49, 50, 51, 52, 53, 54, 57, 56, 55, 54, 53, 52, 51, 50, 71, 66]) = true) : pinA 2 t = 82 := by
  have a1 := str_ne h1
  have e := str_eq h
  unfold pinA
  rw [if_neg (fun h => absurd h.1 (by omega)), if_neg (fun h => absurd h.1 (by omega)), if_neg (fun h => a1 h.2), if_pos ⟨rfl, e⟩]
theorem pin6 {t : ByteArray} (h1 : (t.toList == [55, 57, 52]) = false) (h2 : (t.toList == [87, 69, 83, 84, 49, 50, 51, 52, 53, 54, 57, 56, 55, 54, 53, 52, 51, 50, 71, 66]) = false) : pinA 2 t = -1 := by
  have a1 := str_ne h1
  have a2 := str_ne h2
  unfold pinA
  rw [if_neg (fun h => absurd h.1 (by omega)), if_neg (fun h => absurd h.1 (by omega)), if_neg (fun h => a1 h.2), if_neg (fun h => a2 h.2)]
theorem pin7 {t : ByteArray} {way : Int} (h1 : ¬ way = 1) (h2 : ¬ way = 2) : pinA way t = -1 := by
  unfold pinA
  rw [if_neg (fun h => h1 h.1), if_neg (fun h => h1 h.1), if_neg (fun h => h2 h.1), if_neg (fun h => h2 h.1)]

set_option maxHeartbeats 800000 in
theorem pin_any (w : World) (way : Int) (t : ByteArray) :
    Calls Try.prog 22 #[.int .i64 way, .string t] w fun e w' => e = .returned (.int .i64 (pinA way t)) ∧ w' = w := by
  by_cases h1 : way = 1
  · subst h1
    go_enter Try.func22, Try.ntmps22
    go_wp2
    · go_ret; exact ⟨ret_int (pin1 ‹_›).symm, rfl⟩
    · go_ret; exact ⟨ret_int (pin2 ‹_› ‹_›).symm, rfl⟩
    · go_ret; exact ⟨ret_int (pin3 ‹_› ‹_›).symm, rfl⟩
  · by_cases h2 : way = 2
    · subst h2
      go_enter Try.func22, Try.ntmps22
      go_wp2
      · go_ret; exact ⟨ret_int (pin4 ‹_›).symm, rfl⟩
      · go_ret; exact ⟨ret_int (pin5 ‹_› ‹_›).symm, rfl⟩
      · go_ret; exact ⟨ret_int (pin6 ‹_› ‹_›).symm, rfl⟩
    · have e1 : (way == 1) = false := beq_eq_false_iff_ne.2 h1
      have e2 : (way == 2) = false := beq_eq_false_iff_ne.2 h2
      have HP : Hid (pinA way t = -1) := pin7 h1 h2
      clear h1 h2
      go_enter Try.func22, Try.ntmps22
      go_wp2
      go_ret
      exact ⟨ret_int HP.out.symm, rfl⟩

theorem dif_eq {a b : ByteArray} {k : Nat} (h : gx a k = gx b k) : dif a b (k + 1) = dif a b k := by simp [dif, h]
theorem dif_ne {a b : ByteArray} {k : Nat} (h : gx a k ≠ gx b k) : dif a b (k + 1) = ((dif a b k).1 + 1, k) := by simp [dif, h]

def toldF (way : Int) (a b : ByteArray) (N P : Nat) : Int :=
  if N = 0 then 1
  else if N = 1 ∧ (val (gx a P).toNat < 10 ↔ val (gx b P).toNat < 10) then 0
  else if N ≠ 2 ∨ gx a (P - 1) ≠ gx b P ∨ gx a P ≠ gx b (P - 1) then -1
  else if way = 1 ∧ val (gx a P).toNat + val (gx b P).toNat = 9 ∧ val (gx a P).toNat * val (gx b P).toNat = 0 then 1
  else if way = 2 ∧ (val (gx a P).toNat = 11 * val (gx b P).toNat ∨ val (gx b P).toNat = 11 * val (gx a P).toNat) then 1
  else 0

theorem told_F (way : Int) {a b : ByteArray} (h1 : a.size ≤ b.size) (h2 : b.size ≤ a.size) : toldA way a b = toldF way a b (dif a b a.size).1 (dif a b a.size).2 := by
  unfold toldA
  rw [if_neg (by omega)]
  rfl
theorem toldF_1 {way : Int} {a b : ByteArray} {P : Nat} (h : val (gx a P).toNat < 10 ↔ val (gx b P).toNat < 10) : toldF way a b 1 P = 0 := by
  unfold toldF; rw [if_neg (by omega), if_pos ⟨rfl, h⟩]
theorem toldF_1n {way : Int} {a b : ByteArray} {P : Nat} (h : ¬ (val (gx a P).toNat < 10 ↔ val (gx b P).toNat < 10)) : toldF way a b 1 P = -1 := by
  unfold toldF; rw [if_neg (by omega), if_neg (fun k => h k.2), if_pos (Or.inl (by omega))]
theorem toldF_n {way : Int} {a b : ByteArray} {N P : Nat} (h0 : ¬ N = 0) (h1 : ¬ N = 1) (h2 : ¬ N = 2) : toldF way a b N P = -1 := by
  unfold toldF; rw [if_neg h0, if_neg (fun k => h1 k.1), if_pos (Or.inl h2)]
def toldG (way x y : Int) : Int :=
  if way = 1 ∧ x + y = 9 ∧ x * y = 0 then 1 else if way = 2 ∧ (x = 11 * y ∨ y = 11 * x) then 1 else 0
theorem toldF_2 {way : Int} {a b : ByteArray} {P : Nat} (h1 : gx a (P - 1) = gx b P) (h2 : gx a P = gx b (P - 1)) : toldF way a b 2 P = toldG way (val (gx a P).toNat) (val (gx b P).toNat) := by
  unfold toldF toldG
  rw [if_neg (by omega), if_neg (fun k => absurd k.1 (by omega)), if_neg]
  intro k
  rcases k with k | k | k
  · exact k rfl
  · exact k h1
  · exact k h2
theorem toldF_2n {way : Int} {a b : ByteArray} {P : Nat} (h : gx a (P - 1) ≠ gx b P ∨ gx a P ≠ gx b (P - 1)) : toldF way a b 2 P = -1 := by
  unfold toldF
  rw [if_neg (by omega), if_neg (fun k => absurd k.1 (by omega)), if_pos (Or.inr h)]
theorem toldG_a {x y : Int} (h1 : x + y = 9) (h2 : x * y = 0) : toldG 1 x y = 1 := by simp [toldG, h1, h2]
theorem toldG_b {x y : Int} (h : ¬ (x + y = 9 ∧ x * y = 0)) : toldG 1 x y = 0 := by
  unfold toldG; rw [if_neg (fun k => h k.2), if_neg (fun k => absurd k.1 (by omega))]
theorem toldG_c {x y : Int} (h : x = 11 * y ∨ y = 11 * x) : toldG 2 x y = 1 := by
  unfold toldG; rw [if_neg (fun k => absurd k.1 (by omega)), if_pos ⟨rfl, h⟩]
theorem toldG_d {x y : Int} (h1 : ¬ x = 11 * y) (h2 : ¬ y = 11 * x) : toldG 2 x y = 0 := by
  unfold toldG; rw [if_neg (fun k => absurd k.1 (by omega)), if_neg (fun k => k.2.elim h1 h2)]
theorem toldG_e {way x y : Int} (h1 : ¬ way = 1) (h2 : ¬ way = 2) : toldG way x y = 0 := by
  unfold toldG; rw [if_neg (fun k => h1 k.1), if_neg (fun k => h2 k.1)]
theorem mul_bd {x y : Int} (a1 : -1 ≤ x) (a2 : x ≤ 35) (b1 : -1 ≤ y) (b2 : y ≤ 35) : -1225 ≤ x * y ∧ x * y ≤ 1225 := by
  have h : (x * y).natAbs ≤ 35 * 35 := by rw [Int.natAbs_mul]; exact Nat.mul_le_mul (by omega) (by omega)
  omega

theorem dif_pos (a b : ByteArray) : 0 < (dif a b a.size).1 → (dif a b a.size).2 < a.size := (dif_spec a b a.size).2.2.2
theorem dif_pos2 (a b : ByteArray) : (dif a b a.size).1 = 2 → 1 ≤ (dif a b a.size).2 := fun h => by
  obtain ⟨q, hq, _⟩ := (dif_spec a b a.size).2.2.1 h; omega

set_option maxHeartbeats 1600000 in
theorem told_any (w : World) (way : Int) (a b : ByteArray) (ha : a.size ≤ 32) (hb : b.size ≤ 32) :
    Calls Try.prog 24 #[.int .i64 way, .string a, .string b] w fun e w' => e = .returned (.int .i64 (toldA way a b)) ∧ ∃ m, w' = w.drewN m := by
  by_cases hs : a.size = b.size
  · have hne : ((a.size : Int) != (b.size : Int)) = false := by rw [hs]; simp
    have hab : a.size ≤ b.size := by omega
    have hba : b.size ≤ a.size := by omega
    have HS : Hid (a.size = b.size) := hs
    clear hs
    go_enter Try.func24, Try.ntmps24
    go_wp2
    go_loopw [7, 8, 9] (fun n p i wr => ∃ (k m : Nat), k ≤ a.size ∧ i = .int .i64 k ∧ n = .int .i64 ((dif a b k).1 : Nat) ∧ p = .int .i64 ((dif a b k).2 : Nat) ∧ wr = w.drewN m) (fun _ _ i _ => a.size - (intOf i).toNat)
    case atStart => exact ⟨0, 0, by omega, rfl, rfl, rfl, rfl⟩
    case round =>
      obtain ⟨k, m, hk, rfl, rfl, rfl, rfl⟩ := hrel
      obtain ⟨hdn, hdp⟩ := dif_le a b k
      by_cases hlt : k < a.size
      · have hltb : k < b.size := by omega
        have i1 : (k : Int) < (a.size : Int) := by omega
        have i2 : (k : Int) < (b.size : Int) := by omega
        by_cases hg : gx a k = gx b k
        · have HD : Hid (dif a b (k + 1) = dif a b k) := dif_eq hg
          have hne2 : ((a[k].toNat : Int) != (b[k].toNat : Int)) = false := by rw [← gx_lt a k hlt, ← gx_lt b k hltb, hg]; simp
          clear hg
          go_wp2
          go_quiet (fail)
          go_wp2
          go_roundw
          case rel => exact ⟨k + 1, _, by omega, by go_num, by rw [HD.out], by rw [HD.out], rfl⟩
          case measure => simp [intOf]; omega
        · have HD : Hid (dif a b (k + 1) = ((dif a b k).1 + 1, k)) := dif_ne hg
          have hne2 : ((a[k].toNat : Int) != (b[k].toNat : Int)) = true := by
            rw [bne_iff_ne]
            intro h
            exact hg (by rw [gx_lt a k hlt, gx_lt b k hltb]; apply UInt8.toNat_inj.1; omega)
          clear hg
          go_wp2
          go_quiet (fail)
          go_wp2
          go_roundw
          case rel => exact ⟨k + 1, _, by omega, by go_num, by rw [HD.out]; go_num, by rw [HD.out], rfl⟩
          case measure => simp [intOf]; omega
      · obtain rfl : k = a.size := by omega
        have HT : Hid (toldA way a b = toldF way a b (dif a b a.size).1 (dif a b a.size).2) := told_F way hab hba
        have hpos := dif_pos a b
        have hpos2 := dif_pos2 a b
        generalize (dif a b a.size).1 = N at *
        generalize (dif a b a.size).2 = P at *
        by_cases n0 : N = 0
        · have HE : Hid (toldA way a b = 1) := by show _ = _; rw [HT.out, n0]; rfl
          subst n0
          go_wp2
          go_ret
          exact ⟨ret_int HE.out.symm, by first | exact ⟨_, rfl⟩ | exact ⟨_, World.drewN_drewN _ _ _⟩⟩
        have hP := hpos (by omega)
        have hPb : P < b.size := by omega
        have iPa : (P : Int) < (a.size : Int) := by omega
        have iPb : (P : Int) < (b.size : Int) := by omega
        have b0 : ((N : Int) == 0) = false := beq_eq_false_iff_ne.2 (by omega)
        have hb1 := byte_lt a[P]
        have hb2 := byte_lt b[P]
        have hv1 := val_bd (a[P].toNat : Int)
        have hv2 := val_bd (b[P].toNat : Int)
        have E1 : Hid (gx a P = a[P]) := gx_lt a P hP
        have E2 : Hid (gx b P = b[P]) := gx_lt b P hPb
        by_cases n1 : N = 1
        · subst n1
          by_cases k1 : val (a[P].toNat : Int) < 10
          · by_cases k2 : val (b[P].toNat : Int) < 10
            · have HE : Hid (toldA way a b = 0) := by show _ = _; rw [HT.out]; exact toldF_1 (by rw [E1.out, E2.out]; exact ⟨fun _ => k2, fun _ => k1⟩)
              clear n0 hpos hpos2
              go_wp2_with (go_at_call 35; refine (value_any _ _ (by omega) (by omega)).mono ?_; rintro e w' ⟨rfl, rfl⟩)
              go_ret
              exact ⟨ret_int HE.out.symm, by first | exact ⟨_, rfl⟩ | exact ⟨_, World.drewN_drewN _ _ _⟩⟩
            · have HE : Hid (toldA way a b = -1) := by show _ = _; rw [HT.out]; exact toldF_1n (by rw [E1.out, E2.out]; intro h; exact k2 (h.1 k1))
              clear n0 hpos hpos2
              go_wp2_with (go_at_call 35; refine (value_any _ _ (by omega) (by omega)).mono ?_; rintro e w' ⟨rfl, rfl⟩)
              go_quiet (fail)
              go_wp2
              go_ret
              exact ⟨ret_int HE.out.symm, by first | exact ⟨_, rfl⟩ | exact ⟨_, World.drewN_drewN _ _ _⟩⟩
          · by_cases k2 : val (b[P].toNat : Int) < 10
            · have HE : Hid (toldA way a b = -1) := by show _ = _; rw [HT.out]; exact toldF_1n (by rw [E1.out, E2.out]; intro h; exact k1 (h.2 k2))
              clear n0 hpos hpos2
              go_wp2_with (go_at_call 35; refine (value_any _ _ (by omega) (by omega)).mono ?_; rintro e w' ⟨rfl, rfl⟩)
              go_quiet (fail)
              go_wp2
              go_ret
              exact ⟨ret_int HE.out.symm, by first | exact ⟨_, rfl⟩ | exact ⟨_, World.drewN_drewN _ _ _⟩⟩
            · have HE : Hid (toldA way a b = 0) := by show _ = _; rw [HT.out]; exact toldF_1 (by rw [E1.out, E2.out]; exact ⟨fun h => absurd h k1, fun h => absurd h k2⟩)
              have q1 : decide (val (a[P].toNat : Int) < 10) = false := decide_eq_false k1
              have q2 : decide (val (b[P].toNat : Int) < 10) = false := decide_eq_false k2
              clear n0 hpos hpos2
              go_wp2_with (go_at_call 35; refine (value_any _ _ (by omega) (by omega)).mono ?_; rintro e w' ⟨rfl, rfl⟩)
              go_ret
              exact ⟨ret_int HE.out.symm, by first | exact ⟨_, rfl⟩ | exact ⟨_, World.drewN_drewN _ _ _⟩⟩
        by_cases n2 : N = 2
        · subst n2
          have hP1 := hpos2 rfl
          obtain ⟨Q, rfl⟩ : ∃ Q, P = Q + 1 := ⟨P - 1, by omega⟩
          have iQa : (Q : Int) < (a.size : Int) := by omega
          have iQb : (Q : Int) < (b.size : Int) := by omega
          have hQa : Q < a.size := by omega
          have hQb : Q < b.size := by omega
          have iSa : (Q : Int) + 1 < (a.size : Int) := by omega
          have iSb : (Q : Int) + 1 < (b.size : Int) := by omega
          have E3 : Hid (gx a Q = a[Q]) := gx_lt a Q hQa
          have E4 : Hid (gx b Q = b[Q]) := gx_lt b Q hQb
          clear n0 n1 hpos hpos2
          by_cases g1 : gx a Q = gx b (Q + 1)
          · have r1 : ((a[Q].toNat : Int) != (b[Q + 1].toNat : Int)) = false := by rw [← E3.out, ← E2.out, g1]; simp
            by_cases g2 : gx a (Q + 1) = gx b Q
            · have r2 : ((a[Q + 1].toNat : Int) != (b[Q].toNat : Int)) = false := by rw [← E1.out, ← E4.out, g2]; simp
              have hml := mul_bd hv1.1 hv1.2 hv2.1 hv2.2
              have HF : Hid (toldF way a b 2 (Q + 1) = toldG way (val (a[Q + 1].toNat : Int)) (val (b[Q + 1].toNat : Int))) := by show _ = _; rw [← E1.out, ← E2.out]; exact toldF_2 g1 g2
              have HU : Hid (toldA way a b = toldG way (val (a[Q + 1].toNat : Int)) (val (b[Q + 1].toNat : Int))) := by show _ = _; rw [HT.out, HF.out]
              clear g1 g2
              by_cases w1 : way = 1
              · subst w1
                by_cases s9 : val (a[Q + 1].toNat : Int) + val (b[Q + 1].toNat : Int) = 9
                · by_cases m0 : val (a[Q + 1].toNat : Int) * val (b[Q + 1].toNat : Int) = 0
                  · have HE : Hid (toldA 1 a b = 1) := by show _ = _; rw [HU.out]; exact toldG_a s9 m0
                    go_wp2_with (go_at_call 35; refine (value_any _ _ (by omega) (by omega)).mono ?_; rintro e w' ⟨rfl, rfl⟩)
                    go_quiet (fail)
                    go_wp2
                    go_ret
                    exact ⟨ret_int HE.out.symm, by first | exact ⟨_, rfl⟩ | exact ⟨_, World.drewN_drewN _ _ _⟩⟩
                  · have HE : Hid (toldA 1 a b = 0) := by show _ = _; rw [HU.out]; exact toldG_b (fun h => m0 h.2)
                    have bm : (val (a[Q + 1].toNat : Int) * val (b[Q + 1].toNat : Int) == 0) = false := beq_eq_false_iff_ne.2 m0
                    clear m0
                    go_wp2_with (go_at_call 35; refine (value_any _ _ (by omega) (by omega)).mono ?_; rintro e w' ⟨rfl, rfl⟩)
                    go_quiet (fail)
                    go_wp2
                    go_ret
                    exact ⟨ret_int HE.out.symm, by first | exact ⟨_, rfl⟩ | exact ⟨_, World.drewN_drewN _ _ _⟩⟩
                · have HE : Hid (toldA 1 a b = 0) := by show _ = _; rw [HU.out]; exact toldG_b (fun h => s9 h.1)
                  have bs : (val (a[Q + 1].toNat : Int) + val (b[Q + 1].toNat : Int) == 9) = false := beq_eq_false_iff_ne.2 s9
                  clear s9
                  go_wp2_with (go_at_call 35; refine (value_any _ _ (by omega) (by omega)).mono ?_; rintro e w' ⟨rfl, rfl⟩)
                  go_quiet (fail)
                  go_wp2
                  go_ret
                  exact ⟨ret_int HE.out.symm, by first | exact ⟨_, rfl⟩ | exact ⟨_, World.drewN_drewN _ _ _⟩⟩
              · have bw1 : (way == 1) = false := beq_eq_false_iff_ne.2 w1
                by_cases w2 : way = 2
                · subst w2
                  by_cases u1 : val (a[Q + 1].toNat : Int) = 11 * val (b[Q + 1].toNat : Int)
                  · have HE : Hid (toldA 2 a b = 1) := by show _ = _; rw [HU.out]; exact toldG_c (Or.inl u1)
                    have bu : (val (a[Q + 1].toNat : Int) == 11 * val (b[Q + 1].toNat : Int)) = true := beq_iff_eq.2 u1
                    clear u1
                    go_wp2_with (go_at_call 35; refine (value_any _ _ (by omega) (by omega)).mono ?_; rintro e w' ⟨rfl, rfl⟩)
                    go_quiet (fail)
                    go_wp2
                    go_ret
                    exact ⟨ret_int HE.out.symm, by first | exact ⟨_, rfl⟩ | exact ⟨_, World.drewN_drewN _ _ _⟩⟩
                  · have bu : (val (a[Q + 1].toNat : Int) == 11 * val (b[Q + 1].toNat : Int)) = false := beq_eq_false_iff_ne.2 u1
                    by_cases u2 : val (b[Q + 1].toNat : Int) = 11 * val (a[Q + 1].toNat : Int)
                    · have HE : Hid (toldA 2 a b = 1) := by show _ = _; rw [HU.out]; exact toldG_c (Or.inr u2)
                      have bv : (val (b[Q + 1].toNat : Int) == 11 * val (a[Q + 1].toNat : Int)) = true := beq_iff_eq.2 u2
                      clear u1 u2
                      go_wp2_with (go_at_call 35; refine (value_any _ _ (by omega) (by omega)).mono ?_; rintro e w' ⟨rfl, rfl⟩)
                      go_quiet (fail)
                      go_wp2
                      go_ret
                      exact ⟨ret_int HE.out.symm, by first | exact ⟨_, rfl⟩ | exact ⟨_, World.drewN_drewN _ _ _⟩⟩
                    · have HE : Hid (toldA 2 a b = 0) := by show _ = _; rw [HU.out]; exact toldG_d u1 u2
                      have bv : (val (b[Q + 1].toNat : Int) == 11 * val (a[Q + 1].toNat : Int)) = false := beq_eq_false_iff_ne.2 u2
                      clear u1 u2
                      go_wp2_with (go_at_call 35; refine (value_any _ _ (by omega) (by omega)).mono ?_; rintro e w' ⟨rfl, rfl⟩)
                      go_quiet (fail)
                      go_wp2
                      go_ret
                      exact ⟨ret_int HE.out.symm, by first | exact ⟨_, rfl⟩ | exact ⟨_, World.drewN_drewN _ _ _⟩⟩
                · have bw2 : (way == 2) = false := beq_eq_false_iff_ne.2 w2
                  have HE : Hid (toldA way a b = 0) := by show _ = _; rw [HU.out]; exact toldG_e w1 w2
                  clear w1 w2
                  go_wp2_with (go_at_call 35; refine (value_any _ _ (by omega) (by omega)).mono ?_; rintro e w' ⟨rfl, rfl⟩)
                  go_quiet (fail)
                  go_wp2
                  go_ret
                  exact ⟨ret_int HE.out.symm, by first | exact ⟨_, rfl⟩ | exact ⟨_, World.drewN_drewN _ _ _⟩⟩
            · have r2 : ((a[Q + 1].toNat : Int) != (b[Q].toNat : Int)) = true := by
                rw [bne_iff_ne]; intro h; exact g2 (by rw [E1.out, E4.out]; apply UInt8.toNat_inj.1; omega)
              have HE : Hid (toldA way a b = -1) := by show _ = _; rw [HT.out]; exact toldF_2n (Or.inr g2)
              clear g1 g2
              go_wp2_with (go_at_call 35; refine (value_any _ _ (by omega) (by omega)).mono ?_; rintro e w' ⟨rfl, rfl⟩)
              go_quiet (fail)
              go_wp2
              go_ret
              exact ⟨ret_int HE.out.symm, by first | exact ⟨_, rfl⟩ | exact ⟨_, World.drewN_drewN _ _ _⟩⟩
          · have r1 : ((a[Q].toNat : Int) != (b[Q + 1].toNat : Int)) = true := by
              rw [bne_iff_ne]; intro h; exact g1 (by rw [E3.out, E2.out]; apply UInt8.toNat_inj.1; omega)
            have HE : Hid (toldA way a b = -1) := by show _ = _; rw [HT.out]; exact toldF_2n (Or.inl g1)
            clear g1
            go_wp2_with (go_at_call 35; refine (value_any _ _ (by omega) (by omega)).mono ?_; rintro e w' ⟨rfl, rfl⟩)
            go_quiet (fail)
            go_wp2
            go_ret
            exact ⟨ret_int HE.out.symm, by first | exact ⟨_, rfl⟩ | exact ⟨_, World.drewN_drewN _ _ _⟩⟩
        · have b2 : ((N : Int) != 2) = true := by rw [bne_iff_ne]; omega
          have b1 : ((N : Int) == 1) = false := beq_eq_false_iff_ne.2 (by omega)
          have HE : Hid (toldA way a b = -1) := by show _ = _; rw [HT.out]; exact toldF_n n0 n1 n2
          clear n0 n1 n2 hpos hpos2
          go_wp2_with (go_at_call 35; refine (value_any _ _ (by omega) (by omega)).mono ?_; rintro e w' ⟨rfl, rfl⟩)
          go_quiet (fail)
          go_wp2
          go_ret
          exact ⟨ret_int HE.out.symm, by first | exact ⟨_, rfl⟩ | exact ⟨_, World.drewN_drewN _ _ _⟩⟩
  · have hne : ((a.size : Int) != (b.size : Int)) = true := by rw [bne_iff_ne]; omega
    have HT : Hid (toldA way a b = -1) := by show _ = _; unfold toldA; rw [if_pos hs]
    clear hs
    go_enter Try.func24, Try.ntmps24
    go_wp2
    go_ret
    exact ⟨ret_int HT.out.symm, 0, rfl⟩
end Go.Proofs.Qxb6500341a
