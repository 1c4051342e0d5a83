import Derived.Test.Qxb6500339aW8
import Derived.Test.Qxb6500339aW9
import Derived.Test.Qxb6500339aSc
namespace Go.Proofs.Qxb6500339a
open Go.RowKit
set_option linter.unusedVariables false
set_option linter.unusedSimpArgs false

/-- All that a step of the tower and its model leaves. -/
def Pd (N : Nat) (w w' : World) (d : Nat) (R : List Nat) (k p m : Nat) (n : Nat → Bl) (B : Nat → Int) : Prop :=
  ∃ R' n' l' B', Dr N w' d R' n' n l' ∧ Tw w' k p d R' ∧ Rec n n' l' B B' ∧ Mm w' m B' ∧ m ∉ R' ∧ (∀ x, x ∈ R' → x ∈ R ∨ w.heap.size ≤ x) ∧ Fr (m :: R) w w'

theorem ne_bk {w : World} {k p m : Nat} {B : Nat → Int} (h : Bk w k p) (hm : Mm w m B) : k ≠ m := fun e => by
  unfold Bk at h; unfold Mm at hm; rw [e, hm] at h; simp at h
theorem ne_pp {w : World} {d p m : Nat} {B : Nat → Int} (h : Pp w p d) (hm : Mm w m B) : p ≠ m := fun e => by
  unfold Pp at h; unfold Mm at hm; rw [e, hm] at h; simp at h

/-- A real step, then the model's. -/
theorem pd_join {N : Nat} {w w1 w2 : World} {d : Nat} {R R' : List Nat} {k p m : Nat} {n n' : Nat → Bl} {l' : List (Nat × Bl)} {B B' : Nat → Int} (ht : Tw w k p d R) (hm : Mm w m B) (hmR : m ∉ R)
    (hto : To N w w1 d R R' n' n l') (hr : Rec n n' l' B B') (hm2 : Mm w2 m B') (hf : Fr [m] w1 w2) : Pd N w w2 d R k p m n B := by
  have hk := blk_lt ht.bk
  have hp := blk_lt ht.pp
  have hml := blk_lt hm
  have hkm := ne_bk ht.bk hm
  have hpm := ne_pp ht.pp hm
  have hmR' := hto.out hml hmR
  refine ⟨R', n', l', B', hto.dr.keep hf (fun x hx => by simp; intro e; subst e; exact hmR' hx), ⟨?_, ?_, hto.out hk ht.kR, hto.out hp ht.pR⟩, hr, hm2, hmR', hto.sub, ?_⟩
  · exact hf.keep (hto.fr.keep ht.bk ht.kR) (by simp; exact hkm)
  · exact hf.keep (hto.fr.keep ht.pp ht.pR) (by simp; exact hpm)
  · exact (hto.fr.mono (fun x hx => by simp [hx])).trans (hf.mono (fun x hx => by simp at hx; simp [hx]))

set_option maxHeartbeats 1600000 in
theorem same_deposit (N : Nat) (w : World) (k p d m : Nat) (R : List Nat) (n : Nat → Bl) (B : Nat → Int) (h : Dr N w d R n n []) (ht : Tw w k p d R) (hr : Rec n n [] B B) (hm : Mm w m B) (hmR : m ∉ R) (a v : Int) :
    Calls Try.prog 24 #[.pointer (some ⟨k, 0, none⟩), .pointer (some ⟨m, 0, none⟩), .int .i64 a, .int .i64 v] w fun e w' => e = .returned (.bool true) ∧ Pd N w w' d R k p m n B := by
  have HD : Hid (Dr N w d R n n []) := h
  have HT : Hid (Tw w k p d R) := ht
  have HR : Hid (Rec n n [] B B) := hr
  have HM : Hid (Mm w m B) := hm
  clear h ht hr hm
  go_enter Try.func24, Try.ntmps24
  go_wp2_with fail
  go_at_call 34
  refine (deposit_any N _ k p d R n B HD.out HT.out HR.out a v).mono ?_
  rintro e w1 ⟨rfl, R', n', l', hto, hr'⟩
  have HTO : Hid (To N w w1 d R R' n' n l') := hto
  have HR' : Hid (Rec n n' l' B (depS B a v)) := hr'
  clear hto hr'
  go_wp2_with fail
  go_at_call 35
  refine (mdeposit_any _ m B (HTO.out.fr.keep HM.out hmR) HR.out.ok a v).mono ?_
  rintro e w2 ⟨rfl, hm2, hf2⟩
  have HM2 : Hid (Mm w2 m (depS B a v)) := hm2
  clear hm2
  generalize depE B a v = E
  go_wp2
  go_ret
  exact ⟨by simp, pd_join HT.out HM.out hmR HTO.out HR'.out HM2.out hf2⟩

set_option maxHeartbeats 1600000 in
theorem same_transfer (N : Nat) (w : World) (k p d m : Nat) (R : List Nat) (n : Nat → Bl) (B : Nat → Int) (h : Dr N w d R n n []) (ht : Tw w k p d R) (hr : Rec n n [] B B) (hm : Mm w m B) (hmR : m ∉ R) (f t v : Int) :
    Calls Try.prog 25 #[.pointer (some ⟨k, 0, none⟩), .pointer (some ⟨m, 0, none⟩), .int .i64 f, .int .i64 t, .int .i64 v] w fun e w' => e = .returned (.bool true) ∧ Pd N w w' d R k p m n B := by
  have HD : Hid (Dr N w d R n n []) := h
  have HT : Hid (Tw w k p d R) := ht
  have HR : Hid (Rec n n [] B B) := hr
  have HM : Hid (Mm w m B) := hm
  clear h ht hr hm
  go_enter Try.func25, Try.ntmps25
  go_wp2_with fail
  go_at_call 36
  refine (transfer_any N _ k p d R n B HD.out HT.out HR.out f t v).mono ?_
  rintro e w1 ⟨rfl, R', n', l', hto, hr'⟩
  have HTO : Hid (To N w w1 d R R' n' n l') := hto
  have HR' : Hid (Rec n n' l' B (trS B f t v)) := hr'
  clear hto hr'
  go_wp2_with fail
  go_at_call 37
  refine (mtransfer_any _ m B (HTO.out.fr.keep HM.out hmR) HR.out.ok f t v).mono ?_
  rintro e w2 ⟨rfl, hm2, hf2⟩
  have HM2 : Hid (Mm w2 m (trS B f t v)) := hm2
  clear hm2
  generalize trE B f t v = E
  go_wp2
  go_ret
  exact ⟨by simp, pd_join HT.out HM.out hmR HTO.out HR'.out HM2.out hf2⟩

set_option maxHeartbeats 1600000 in
theorem same_balance (N : Nat) (w : World) (k p d m : Nat) (R : List Nat) (n bs : Nat → Bl) (l : List (Nat × Bl)) (B Bm : Nat → Int) (h : Dr N w d R n bs l) (ht : Tw w k p d R) (hg : Good n B) (hB : OkB B) (hm : Mm w m Bm) (a : Nat) (ha : a < 4) :
    Calls Try.prog 21 #[.pointer (some ⟨k, 0, none⟩), .pointer (some ⟨m, 0, none⟩), .int .i64 a] w fun e w' => e = .returned (.bool (decide (B a = Bm a))) ∧ Fr [] w w' := by
  have HD : Hid (Dr N w d R n bs l) := h
  have HT : Hid (Tw w k p d R) := ht
  have HG : Hid (Good n B) := hg
  have HM : Hid (Mm w m Bm) := hm
  have HB : Hid (OkB B) := hB
  clear h ht hg hm hB
  go_enter Try.func21, Try.ntmps21
  go_wp2_with fail
  go_at_call 30
  refine (balance_any N _ k p d R n bs l B HD.out HT.out HG.out HB.out a ha).mono ?_
  rintro e w1 ⟨rfl, hf1⟩
  go_wp2_with fail
  go_at_call 31
  refine (mbalance_any _ m Bm (hf1.keep HM.out (by simp)) a ha).mono ?_
  rintro e w2 ⟨rfl, hf2⟩
  by_cases he : B a = Bm a
  · have d0 : (B a == Bm a) = true := beq_iff_eq.2 he
    have HE : Hid (decide (B a = Bm a) = true) := decide_eq_true he
    clear he
    go_wp2
    go_ret
    exact ⟨by rw [HE.out]; rfl, hf1.trans hf2⟩
  · have d0 : (B a == Bm a) = false := beq_eq_false_iff_ne.2 he
    have HE : Hid (decide (B a = Bm a) = false) := decide_eq_false he
    clear he
    go_wp2
    go_ret
    exact ⟨by rw [HE.out]; rfl, hf1.trans hf2⟩

set_option maxHeartbeats 1600000 in
theorem same_balance_out (w : World) (k m : Nat) (a : Int) (ha : ¬ (0 ≤ a ∧ a < 4)) :
    Calls Try.prog 21 #[.pointer (some ⟨k, 0, none⟩), .pointer (some ⟨m, 0, none⟩), .int .i64 a] w fun e w' => e = .returned (.bool true) ∧ Fr [] w w' := by
  have HA : Hid (¬ (0 ≤ a ∧ a < 4)) := ha
  clear ha
  go_enter Try.func21, Try.ntmps21
  go_wp2_with fail
  go_at_call 30
  refine (balance_out _ k a HA.out).mono ?_
  rintro e w1 ⟨rfl, hf1⟩
  go_wp2_with fail
  go_at_call 31
  refine (mbalance_out _ m a HA.out).mono ?_
  rintro e w2 ⟨rfl, hf2⟩
  go_wp2
  go_ret
  exact ⟨rfl, hf1.trans hf2⟩

set_option maxHeartbeats 1600000 in
theorem same_total (N : Nat) (w : World) (k p d m : Nat) (R : List Nat) (n bs : Nat → Bl) (l : List (Nat × Bl)) (B Bm : Nat → Int) (h : Dr N w d R n bs l) (ht : Tw w k p d R) (hg : Good n B) (hB : OkB B) (hm : Mm w m Bm) (hBm : OkB Bm) (hs : sumB B = sumB Bm) :
    Calls Try.prog 22 #[.pointer (some ⟨k, 0, none⟩), .pointer (some ⟨m, 0, none⟩)] w fun e w' => e = .returned (.bool true) ∧ Fr [] w w' := by
  have HD : Hid (Dr N w d R n bs l) := h
  have HT : Hid (Tw w k p d R) := ht
  have HG : Hid (Good n B) := hg
  have HM : Hid (Mm w m Bm) := hm
  have HB : Hid (OkB B) := hB
  have HBm : Hid (OkB Bm) := hBm
  have HS : Hid (sumB B = sumB Bm) := hs
  clear h ht hg hm hB hBm hs
  go_enter Try.func22, Try.ntmps22
  go_wp2_with fail
  go_at_call 32
  refine (total_any N _ k p d R n bs l B HD.out HT.out HG.out HB.out).mono ?_
  rintro e w1 ⟨rfl, hf1⟩
  rw [HS.out]
  go_wp2_with fail
  go_at_call 33
  refine (mtotal_any _ m Bm (hf1.keep HM.out (by simp)) HBm.out).mono ?_
  rintro e w2 ⟨rfl, hf2⟩
  generalize sumB Bm = S
  go_wp2
  go_ret
  exact ⟨by simp, hf1.trans hf2⟩

/-- All balances are the same. -/
def alB (B Bm : Nat → Int) : Bool := decide (B 0 = Bm 0 ∧ B 1 = Bm 1 ∧ B 2 = Bm 2 ∧ B 3 = Bm 3)
theorem alB_yes {B Bm : Nat → Int} (h : ∀ i, i < 4 → B i = Bm i) : alB B Bm = true := decide_eq_true ⟨h 0 (by omega), h 1 (by omega), h 2 (by omega), h 3 (by omega)⟩
theorem alB_iff {B Bm : Nat → Int} (h : alB B Bm = true) : ∀ i, i < 4 → B i = Bm i := fun i hi => by
  have := of_decide_eq_true h
  rcases lt4 hi with rfl | rfl | rfl | rfl
  · exact this.1
  · exact this.2.1
  · exact this.2.2.1
  · exact this.2.2.2
theorem alB_no {B Bm : Nat → Int} {i : Nat} (hi : i < 4) (h : B i ≠ Bm i) : alB B Bm = false := by
  cases ha : alB B Bm with
  | false => rfl
  | true => exact absurd (alB_iff ha i hi) h

set_option maxHeartbeats 1600000 in
theorem alike_any (N : Nat) (w : World) (k p d m : Nat) (R : List Nat) (n bs : Nat → Bl) (l : List (Nat × Bl)) (B Bm : Nat → Int) (h : Dr N w d R n bs l) (ht : Tw w k p d R) (hg : Good n B) (hB : OkB B) (hm : Mm w m Bm) (hBm : OkB Bm) :
    Calls Try.prog 13 #[.pointer (some ⟨k, 0, none⟩), .pointer (some ⟨m, 0, none⟩)] w fun e w' => e = .returned (.bool (alB B Bm)) ∧ Fr [] w w' := by
  have HD : Hid (Dr N w d R n bs l) := h
  have HT : Hid (Tw w k p d R) := ht
  have HG : Hid (Good n B) := hg
  have HM : Hid (Mm w m Bm) := hm
  have HB : Hid (OkB B) := hB
  have HBm : Hid (OkB Bm) := hBm
  clear h ht hg hm hB hBm
  go_enter Try.func13, Try.ntmps13
  go_wp2_with fail
  go_loopg [5] 4 (fun g s5 wx => ∃ i : Nat, i + g = 4 ∧ s5 = .int .i64 i ∧ Hid (∀ j, j < i → B j = Bm j) ∧ Fr [] w wx)
  case atStart => exact ⟨0, by omega, rfl, fun j hj => by omega, Fr.refl _ _⟩
  case round =>
    obtain ⟨i, hig, rfl, HJ, hfr⟩ := hrel
    cases gk with
    | zero =>
      have hi4 : ¬ ((i : Int) < 4) := by omega
      have HA : Hid (alB B Bm = true) := alB_yes (fun j hj => HJ.out j (by omega))
      have HS : Hid (sumB B = sumB Bm) := by
        show _ = _; unfold sumB
        rw [HJ.out 0 (by omega), HJ.out 1 (by omega), HJ.out 2 (by omega), HJ.out 3 (by omega)]
      go_wp2_with fail
      go_at_call 22
      refine (same_total N _ k p d m R n bs l B Bm (HD.out.keep0 hfr) (HT.out.keep0 hfr) HG.out HB.out (hfr.keep HM.out (by simp)) HBm.out HS.out).mono ?_
      rintro e w1 ⟨rfl, hf1⟩
      go_wp2
      go_ret
      exact ⟨by rw [HA.out]; rfl, hfr.trans hf1⟩
    | succ g1 =>
      have hi : i < 4 := by omega
      have hi4 : (i : Int) < 4 := by omega
      go_wp2_with fail
      go_at_call 21
      refine (same_balance N _ k p d m R n bs l B Bm (HD.out.keep0 hfr) (HT.out.keep0 hfr) HG.out HB.out (hfr.keep HM.out (by simp)) i hi).mono ?_
      rintro e w1 ⟨rfl, hf1⟩
      by_cases he : B i = Bm i
      · rw [decide_eq_true he]
        have HN : Hid (∀ j, j < i + 1 → B j = Bm j) := fun j hj => by
          by_cases e : j = i
          · rw [e]; exact he
          · exact HJ.out j (by omega)
        clear he
        go_wp2
        go_roundg g1
        case measure => omega
        case rel => exact ⟨i + 1, by omega, by go_num, HN, hfr.trans hf1⟩
      · rw [decide_eq_false he]
        have HA : Hid (alB B Bm = false) := alB_no hi he
        clear he
        go_wp2
        go_ret
        exact ⟨by rw [HA.out]; rfl, hfr.trans hf1⟩

set_option maxHeartbeats 3200000 in
theorem play_any (N : Nat) (w : World) (k p d m : Nat) (R : List Nat) (n : Nat → Bl) (B : Nat → Int) (h : Dr N w d R n n []) (ht : Tw w k p d R) (hr : Rec n n [] B B) (hm : Mm w m B) (hmR : m ∉ R) (o : OpT) :
    Calls Try.prog 15 #[.pointer (some ⟨k, 0, none⟩), .pointer (some ⟨m, 0, none⟩), o.val] w fun e w' => e = .returned (.bool true) ∧ Pd N w w' d R k p m n B := by
  have HD : Hid (Dr N w d R n n []) := h
  have HT : Hid (Tw w k p d R) := ht
  have HR : Hid (Rec n n [] B B) := hr
  have HM : Hid (Mm w m B) := hm
  have HSame : Hid (∀ w' : World, Fr [] w w' → Pd N w w' d R k p m n B) := fun w' hf =>
    ⟨R, n, [], B, HD.out.keep0 hf, HT.out.keep0 hf, HR.out, hf.keep HM.out (by simp), hmR, fun x hx => Or.inl hx, hf.widen⟩
  have HPd : Hid (∀ (W w' : World), Fr [] w W → Pd N W w' d R k p m n B → Pd N w w' d R k p m n B) := fun W w' hf hp => by
    obtain ⟨R', n', l', B', a1, a2, a3, a4, a5, a6, a7⟩ := hp
    exact ⟨R', n', l', B', a1, a2, a3, a4, a5, fun x hx => (by
      rcases a6 x hx with hx | hx
      · exact Or.inl hx
      · right; have := hf.size; omega), hf.widen.trans a7⟩
  clear h ht hr hm
  obtain ⟨ok, oa, ob, oc, os, ou⟩ := o
  unfold OpT.val
  dsimp only
  have F0 : Hid (Fr [] w (w.alloc (.cells #[.int .i64 ok, .int .i64 oa, .int .i64 ob, .int .i64 oc, .string os, .string ou] 36))) := (Fr.refl _ _).alloc _
  by_cases h1 : ok = 1
  · subst h1
    go_enter Try.func15, Try.ntmps15
    go_wp2_with fail
    go_at_call 24
    refine (same_deposit N _ k p d m R n B (HD.out.keep0 F0.out) (HT.out.keep0 F0.out) HR.out (F0.out.keep HM.out (by simp)) hmR oa ob).mono ?_
    rintro e w1 ⟨rfl, hp⟩
    have HP : Hid (Pd N w w1 d R k p m n B) := HPd.out _ _ F0.out hp
    clear hp
    go_wp2
    go_ret
    exact ⟨rfl, HP.out⟩
  by_cases h2 : ok = 2
  · subst h2
    go_enter Try.func15, Try.ntmps15
    go_wp2_with fail
    go_at_call 25
    refine (same_transfer N _ k p d m R n B (HD.out.keep0 F0.out) (HT.out.keep0 F0.out) HR.out (F0.out.keep HM.out (by simp)) hmR oa ob oc).mono ?_
    rintro e w1 ⟨rfl, hp⟩
    have HP : Hid (Pd N w w1 d R k p m n B) := HPd.out _ _ F0.out hp
    clear hp
    go_wp2
    go_ret
    exact ⟨rfl, HP.out⟩
  by_cases h3 : ok = 3
  · subst h3
    by_cases ha : 0 ≤ oa ∧ oa < 4
    · obtain ⟨a, rfl⟩ : ∃ a : Nat, oa = a := ⟨oa.toNat, by omega⟩
      have ha4 : a < 4 := by omega
      clear ha
      go_enter Try.func15, Try.ntmps15
      go_wp2_with fail
      go_at_call 21
      refine (same_balance N _ k p d m R n n [] B B (HD.out.keep0 F0.out) (HT.out.keep0 F0.out) HR.out.good HR.out.ok (F0.out.keep HM.out (by simp)) a ha4).mono ?_
      rintro e w1 ⟨rfl, hf1⟩
      rw [decide_eq_true rfl]
      go_wp2
      go_ret
      exact ⟨rfl, HSame.out _ (F0.out.trans hf1)⟩
    · have HA : Hid (¬ (0 ≤ oa ∧ oa < 4)) := ha
      clear ha
      go_enter Try.func15, Try.ntmps15
      go_wp2_with fail
      go_at_call 21
      refine (same_balance_out _ k m oa HA.out).mono ?_
      rintro e w1 ⟨rfl, hf1⟩
      go_wp2
      go_ret
      exact ⟨rfl, HSame.out _ (F0.out.trans hf1)⟩
  by_cases h4 : ok = 4
  · subst h4
    go_enter Try.func15, Try.ntmps15
    go_wp2_with fail
    go_at_call 22
    refine (same_total N _ k p d m R n n [] B B (HD.out.keep0 F0.out) (HT.out.keep0 F0.out) HR.out.good HR.out.ok (F0.out.keep HM.out (by simp)) HR.out.ok rfl).mono ?_
    rintro e w1 ⟨rfl, hf1⟩
    go_wp2
    go_ret
    exact ⟨rfl, HSame.out _ (F0.out.trans hf1)⟩
  have k1 : (ok == 1) = false := beq_eq_false_iff_ne.2 h1
  have k2 : (ok == 2) = false := beq_eq_false_iff_ne.2 h2
  have k3 : (ok == 3) = false := beq_eq_false_iff_ne.2 h3
  have k4 : (ok == 4) = false := beq_eq_false_iff_ne.2 h4
  go_enter Try.func15, Try.ntmps15
  go_wp2
  go_ret
  exact ⟨rfl, HSame.out _ F0.out⟩
end Go.Proofs.Qxb6500339a
