import Derived.Test.Qxb6500336aW22
namespace Go.Proofs.Qxb6500336a
open Go.RowKit
set_option linter.unusedVariables false
set_option linter.unusedSimpArgs false

def bt (p : ByteArray) (i : Nat) : Nat := if h : i < p.size then (p[i]'h).toNat else 0
theorem bt_at {p : ByteArray} {i : Nat} (h : i < p.size) : (p[i]'h).toNat = bt p i := by unfold bt; rw [dif_pos h]
theorem bt_lt (p : ByteArray) (i : Nat) : bt p i < 256 := by
  unfold bt
  split
  · exact UInt8.toNat_lt _
  · omega

/-- The digits from j on. -/
def digP (p : ByteArray) : Nat → Nat → Int → Nat × Int
  | 0, j, v => (j, v)
  | f + 1, j, v => if j < p.size ∧ 48 ≤ bt p j ∧ bt p j ≤ 57 then digP p f (j + 1) (wrap64 (v * 10 + ((bt p j : Int) - 48))) else (j, v)
def sgnP (p : ByteArray) (i : Nat) : Bool := decide (i + 1 < p.size) && (bt p (i + 1) == 43 || bt p (i + 1) == 45)
def stP (p : ByteArray) (i : Nat) : Nat := if sgnP p i then i + 2 else i + 1
def vP (p : ByteArray) (i : Nat) : Int := if sgnP p i && bt p (i + 1) == 45 then wrap64 (-(digP p 24 (stP p i) 0).2) else (digP p 24 (stP p i) 0).2
/-- '#': the width, the error, the stack. -/
def numP (p : ByteArray) (i : Nat) (rs : List Code) : Int × Int × List Code :=
  if (digP p 24 (stP p i) 0).1 = stP p i then (1, 11, rs) else (((digP p 24 (stP p i) 0).1 : Int) - i, (pushW (tI (vP p i)) rs).1, (pushW (tI (vP p i)) rs).2)
/-- The quote. -/
def letP (p : ByteArray) (i : Nat) (rs : List Code) : Int × Int × List Code :=
  if i + 1 ≥ p.size then (1, 11, rs) else (2, (pushW (tS (p.extract (i + 1) (i + 2))) rs).1, (pushW (tS (p.extract (i + 1) (i + 2))) rs).2)

theorem digP_le (p : ByteArray) : ∀ (f j : Nat) (v : Int), j ≤ p.size → j ≤ (digP p f j v).1 ∧ (digP p f j v).1 ≤ p.size
  | 0, j, v, h => ⟨Nat.le_refl _, h⟩
  | f + 1, j, v, h => by
    rw [digP]
    split
    · rename_i hc
      have := digP_le p f (j + 1) (wrap64 (v * 10 + ((bt p j : Int) - 48))) (by omega)
      omega
    · exact ⟨Nat.le_refl _, h⟩
theorem digP_w64 (p : ByteArray) : ∀ (f j : Nat) (v : Int), w64 v → w64 (digP p f j v).2
  | 0, j, v, h => h
  | f + 1, j, v, h => by
    rw [digP]
    split
    · exact digP_w64 p f (j + 1) _ (w_out _)
    · exact h
theorem vP_w64 (p : ByteArray) (i : Nat) : w64 (vP p i) := by
  unfold vP
  split
  · exact w_out _
  · exact digP_w64 p 24 _ 0 (by unfold w64; omega)
theorem wrap_mul (a b : Int) : wrap64 (wrap64 a + b) = wrap64 (a + b) := by simp only [wrap64]; omega

def NOut (w : World) (M S : Nat) (sl : Value) (acc : Int) (r : Int × Int × List Code) (e : Ending) (w' : World) : Prop :=
  e = .returned (.tuple #[.int .i64 r.1, .int .i64 r.2.1]) ∧ MOut w M S sl r.2.1 acc r.2.2 w'

set_option maxHeartbeats 1600000 in
set_option maxRecDepth 100000 in
theorem letter_any {w : World} {M S : Nat} {sl : Value} {acc : Int} {rs : List Code} (h : Mc w M S sl acc rs) (hw : Wf rs) (p : ByteArray) (hp : p.size ≤ 24) (i : Nat) (hi : i < p.size) :
    Calls Try.prog 55 #[.pointer (some ⟨M, 0, none⟩), .string p, .int .i64 i] w (NOut w M S sl acc (letP p i rs)) := by
  have H : Hid (Mc w M S sl acc rs) := h
  have HW : Hid (Wf rs) := hw
  have c0 := blk_cell h.obj 0
  simp [mch] at c0
  clear h hw
  by_cases hq : i + 1 ≥ p.size
  · have e : letP p i rs = (1, 11, rs) := by unfold letP; rw [if_pos hq]
    rw [e]
    go_enter Try.func55, Try.ntmps55
    go_wp2
    go_ret2
    exact ⟨rfl, sl, H.out, Mw.refl _ _ _ _⟩
  · have e : letP p i rs = (2, (pushW (tS (p.extract (i + 1) (i + 2))) rs).1, (pushW (tS (p.extract (i + 1) (i + 2))) rs).2) := by unfold letP; rw [if_neg hq]
    rw [e]
    have hz : (p.extract (i + 1) (i + 2)).size ≤ 6 := by simp; omega
    have HZ : Hid ((p.extract (i + 1) (i + 2)).size ≤ 6) := hz
    have b1 : i + 2 ≤ p.size := by omega
    have b2 : (i : Int) + 2 ≤ p.size := by omega
    have b3 : ¬ (p.size : Int) ≤ (i : Int) + 1 := by omega
    have hsl : ∀ W, (Instr.sliceAt 9 (.string p) (some (.int .i64 ((i : Int) + 1))) (some (.int .i64 ((i : Int) + 2))) none).run Try.prog W = .ok (.string (p.extract (i + 1) (i + 2))) W := by
      intro W
      have := run_slice_string (P := Try.prog) W 9 p .i64 .i64 ((i : Int) + 1) ((i : Int) + 2) Try.underlying9 (by omega) (by omega) (by omega)
      rw [run_sliceAt_string W 9 _ _ _ _ Try.underlying9, this, show ((i : Int) + 1).toNat = i + 1 from by omega, show ((i : Int) + 2).toNat = i + 2 from by omega]
    have hw1 : IntKind.i64.wrap ((i : Int) + 1) = (i : Int) + 1 := by simp only [IntKind.wrap, IntKind.bits, IntKind.signed]; simp; omega
    have hw2 : IntKind.i64.wrap ((i : Int) + 2) = (i : Int) + 2 := by simp only [IntKind.wrap, IntKind.bits, IntKind.signed]; simp; omega
    have ht1 : ((i : Int) + 1).toNat = i + 1 := by omega
    have ht2 : ((i : Int) + 2).toNat = i + 2 := by omega
    clear e hz
    go_enter Try.func55, Try.ntmps55
    go_wp2
    go_region_with (go_at_call 53; refine (push_any (H.out.st.keep0 ((Fr.refl [] _).drew)) HW.out (tS (p.extract (i + 1) (i + 2))) _ (Sh.tS _) 2 0 _ HZ.out (Or.inr (Or.inl ⟨rfl, rfl⟩))).mono ?_; rintro e w2 ⟨rfl, sl2, h2, m2⟩)
    all_goals
      go_wp2
      go_ret2
      exact ⟨rfl, sl2, H.out.keepM (Mv.frl ((Fr.refl [] _).drew) m2) h2, Mw.ofMv (Mv.frl ((Fr.refl [] _).drew) m2)⟩

set_option maxHeartbeats 3200000 in
set_option maxRecDepth 100000 in
theorem num_none {w : World} {M S : Nat} {sl : Value} {acc : Int} {rs : List Code} (h : Mc w M S sl acc rs) (hw : Wf rs) (p : ByteArray) (hp : p.size ≤ 24) (i : Nat) (hi : i < p.size) (hs : sgnP p i = false) :
    Calls Try.prog 54 #[.pointer (some ⟨M, 0, none⟩), .string p, .int .i64 i] w (NOut w M S sl acc (numP p i rs)) := by
  have H : Hid (Mc w M S sl acc rs) := h
  have HW : Hid (Wf rs) := hw
  have c0 := blk_cell h.obj 0
  simp [mch] at c0
  clear h hw
  have est : stP p i = i + 1 := by unfold stP; rw [hs]; rfl
  have HST : Hid (stP p i = i + 1) := est
  have HSG : Hid (sgnP p i = false) := hs
  have hs2 : i + 1 < p.size → bt p (i + 1) ≠ 43 ∧ bt p (i + 1) ≠ 45 := by
    intro h1
    unfold sgnP at hs
    simpa [h1] using hs
  clear est hs
  rcases Nat.lt_or_ge (i + 1) p.size with h1 | h1
  · obtain ⟨ha, hb⟩ := hs2 h1
    have hbb := bt_at h1
    have g1 : ((bt p (i + 1) : Int) == 43) = false := by simp; omega
    have g2 : ((bt p (i + 1) : Int) == 45) = false := by simp; omega
    generalize bt p (i + 1) = cc at *
    clear ha hb hs2
    go_enter Try.func54, Try.ntmps54
    go_wp2
    go_loopw [8, 10] (fun a b wr => ∃ (j : Nat) (v : Int), a = .int .i64 j ∧ b = .int .i64 v ∧ i + 1 ≤ j ∧ j ≤ p.size ∧ w64 v ∧ wr = w ∧ Hid (digP p 24 (i + 1) 0 = digP p (24 - (j - (i + 1))) j v)) (fun a _ _ => p.size - (intOf a).toNat)
    case atStart => exact ⟨i + 1, 0, by go_num, rfl, by omega, by omega, by unfold w64; omega, by first | rfl | trivial, by show _ = _; rw [Nat.sub_self]⟩
    case round =>
      obtain ⟨j, v, rfl, rfl, hj0, hj, hv, rfl, HD⟩ := hrel
      by_cases hc : j < p.size ∧ 48 ≤ bt p j ∧ bt p j ≤ 57
      · obtain ⟨hc1, hc2, hc3⟩ := hc
        have hb := bt_at hc1
        have hd : digP p (24 - (j - (i + 1))) j v = digP p (24 - (j + 1 - (i + 1))) (j + 1) (wrap64 (v * 10 + ((bt p j : Int) - 48))) := by
          rw [show 24 - (j - (i + 1)) = (24 - (j + 1 - (i + 1))) + 1 from by omega, digP, if_pos ⟨hc1, hc2, hc3⟩]
        have HD2 : Hid (digP p 24 (i + 1) 0 = digP p (24 - (j + 1 - (i + 1))) (j + 1) (wrap64 (v * 10 + ((bt p j : Int) - 48)))) := HD.out.trans hd
        clear hd
        generalize bt p j = c at *
        go_wp2
        all_goals
          go_roundw
          case rel =>
            refine ⟨j + 1, wrap64 (v * 10 + ((c : Int) - 48)), by go_num, ?_, by omega, by omega, w_out _, by first | rfl | trivial, HD2⟩
            first | rfl | (congr 1; simp only [wrap64]; omega)
          case measure => simp [intOf]; omega
      · have hd : digP p (24 - (j - (i + 1))) j v = (j, v) := by
          cases h24 : 24 - (j - (i + 1)) with
          | zero => rfl
          | succ f => rw [digP, if_neg hc]
        have HD2 : Hid (digP p 24 (i + 1) 0 = (j, v)) := HD.out.trans hd
        clear hd
        by_cases hjs : j = i + 1
        · have EN : Hid (numP p i rs = (1, 11, rs)) := by show _ = _; unfold numP; rw [HST.out, HD2.out]; exact if_pos hjs
          have hjt1 : ((j : Int) == (i : Int) + 1) = true := by simp; omega
          clear hjs
          rcases Nat.lt_or_ge j p.size with hc1 | hc1
          · have hb := bt_at hc1
            have hc2 : bt p j < 48 ∨ 57 < bt p j := by
              rcases Nat.lt_or_ge (bt p j) 48 with h5 | h5
              · exact Or.inl h5
              · exact Or.inr (by apply Nat.lt_of_not_le; exact fun h6 => hc ⟨hc1, h5, h6⟩)
            clear hc
            generalize bt p j = c at *
            rcases hc2 with hc2 | hc2
            · go_wp2
              all_goals
                go_ret2
                rw [EN.out]
                exact ⟨rfl, sl, H.out, Mw.refl _ _ _ _⟩
            · go_wp2
              all_goals
                go_ret2
                rw [EN.out]
                exact ⟨rfl, sl, H.out, Mw.refl _ _ _ _⟩
          · clear hc
            go_wp2
            all_goals
              go_ret2
              rw [EN.out]
              exact ⟨rfl, sl, H.out, Mw.refl _ _ _ _⟩
        · have hjf1 : ((j : Int) == ((i + 1 : Nat) : Int)) = false := by simp; omega
          have hjf2 : ((j : Int) == (i : Int) + 1) = false := by simp; omega
          have EN : Hid (numP p i rs = ((j : Int) - i, (pushW (tI v) rs).1, (pushW (tI v) rs).2)) := by
            show _ = _
            unfold numP
            have ev : vP p i = v := by unfold vP; rw [HST.out, HD2.out]; rw [HSG.out]; rfl
            rw [ev, HST.out, HD2.out]; exact if_neg hjs
          have hvv : w64 (v) := by exact hv
          rcases Nat.lt_or_ge j p.size with hc1 | hc1
          · have hb := bt_at hc1
            have hc2 : bt p j < 48 ∨ 57 < bt p j := by
              rcases Nat.lt_or_ge (bt p j) 48 with h5 | h5
              · exact Or.inl h5
              · exact Or.inr (by apply Nat.lt_of_not_le; exact fun h6 => hc ⟨hc1, h5, h6⟩)
            clear hc
            generalize bt p j = c at *
            rcases hc2 with hc2 | hc2
            · go_wp2_with (go_at_call 53; refine (push_any H.out.st HW.out (tI (v)) _ (Sh.tI hvv) 1 (v) ⟨#[]⟩ (Nat.zero_le _) (Or.inl ⟨rfl, rfl⟩)).mono ?_; rintro e w2 ⟨rfl, sl2, h2, m2⟩)
              all_goals
                go_ret2
                rw [EN.out]
                exact ⟨rfl, sl2, H.out.keepM m2 h2, Mw.ofMv m2⟩
            · go_wp2_with (go_at_call 53; refine (push_any H.out.st HW.out (tI (v)) _ (Sh.tI hvv) 1 (v) ⟨#[]⟩ (Nat.zero_le _) (Or.inl ⟨rfl, rfl⟩)).mono ?_; rintro e w2 ⟨rfl, sl2, h2, m2⟩)
              all_goals
                go_ret2
                rw [EN.out]
                exact ⟨rfl, sl2, H.out.keepM m2 h2, Mw.ofMv m2⟩
          · clear hc
            go_wp2_with (go_at_call 53; refine (push_any H.out.st HW.out (tI (v)) _ (Sh.tI hvv) 1 (v) ⟨#[]⟩ (Nat.zero_le _) (Or.inl ⟨rfl, rfl⟩)).mono ?_; rintro e w2 ⟨rfl, sl2, h2, m2⟩)
            all_goals
              go_ret2
              rw [EN.out]
              exact ⟨rfl, sl2, H.out.keepM m2 h2, Mw.ofMv m2⟩
  · clear hs2
    go_enter Try.func54, Try.ntmps54
    go_wp2
    go_loopw [8, 10] (fun a b wr => ∃ (j : Nat) (v : Int), a = .int .i64 j ∧ b = .int .i64 v ∧ i + 1 ≤ j ∧ j ≤ p.size ∧ w64 v ∧ wr = w ∧ Hid (digP p 24 (i + 1) 0 = digP p (24 - (j - (i + 1))) j v)) (fun a _ _ => p.size - (intOf a).toNat)
    case atStart => exact ⟨i + 1, 0, by go_num, rfl, by omega, by omega, by unfold w64; omega, by first | rfl | trivial, by show _ = _; rw [Nat.sub_self]⟩
    case round =>
      obtain ⟨j, v, rfl, rfl, hj0, hj, hv, rfl, HD⟩ := hrel
      by_cases hc : j < p.size ∧ 48 ≤ bt p j ∧ bt p j ≤ 57
      · obtain ⟨hc1, hc2, hc3⟩ := hc
        have hb := bt_at hc1
        have hd : digP p (24 - (j - (i + 1))) j v = digP p (24 - (j + 1 - (i + 1))) (j + 1) (wrap64 (v * 10 + ((bt p j : Int) - 48))) := by
          rw [show 24 - (j - (i + 1)) = (24 - (j + 1 - (i + 1))) + 1 from by omega, digP, if_pos ⟨hc1, hc2, hc3⟩]
        have HD2 : Hid (digP p 24 (i + 1) 0 = digP p (24 - (j + 1 - (i + 1))) (j + 1) (wrap64 (v * 10 + ((bt p j : Int) - 48)))) := HD.out.trans hd
        clear hd
        generalize bt p j = c at *
        go_wp2
        all_goals
          go_roundw
          case rel =>
            refine ⟨j + 1, wrap64 (v * 10 + ((c : Int) - 48)), by go_num, ?_, by omega, by omega, w_out _, by first | rfl | trivial, HD2⟩
            first | rfl | (congr 1; simp only [wrap64]; omega)
          case measure => simp [intOf]; omega
      · have hd : digP p (24 - (j - (i + 1))) j v = (j, v) := by
          cases h24 : 24 - (j - (i + 1)) with
          | zero => rfl
          | succ f => rw [digP, if_neg hc]
        have HD2 : Hid (digP p 24 (i + 1) 0 = (j, v)) := HD.out.trans hd
        clear hd
        by_cases hjs : j = i + 1
        · have EN : Hid (numP p i rs = (1, 11, rs)) := by show _ = _; unfold numP; rw [HST.out, HD2.out]; exact if_pos hjs
          have hjt1 : ((j : Int) == (i : Int) + 1) = true := by simp; omega
          clear hjs
          rcases Nat.lt_or_ge j p.size with hc1 | hc1
          · have hb := bt_at hc1
            have hc2 : bt p j < 48 ∨ 57 < bt p j := by
              rcases Nat.lt_or_ge (bt p j) 48 with h5 | h5
              · exact Or.inl h5
              · exact Or.inr (by apply Nat.lt_of_not_le; exact fun h6 => hc ⟨hc1, h5, h6⟩)
            clear hc
            generalize bt p j = c at *
            rcases hc2 with hc2 | hc2
            · go_wp2
              all_goals
                go_ret2
                rw [EN.out]
                exact ⟨rfl, sl, H.out, Mw.refl _ _ _ _⟩
            · go_wp2
              all_goals
                go_ret2
                rw [EN.out]
                exact ⟨rfl, sl, H.out, Mw.refl _ _ _ _⟩
          · clear hc
            go_wp2
            all_goals
              go_ret2
              rw [EN.out]
              exact ⟨rfl, sl, H.out, Mw.refl _ _ _ _⟩
        · have hjf1 : ((j : Int) == ((i + 1 : Nat) : Int)) = false := by simp; omega
          have hjf2 : ((j : Int) == (i : Int) + 1) = false := by simp; omega
          have EN : Hid (numP p i rs = ((j : Int) - i, (pushW (tI v) rs).1, (pushW (tI v) rs).2)) := by
            show _ = _
            unfold numP
            have ev : vP p i = v := by unfold vP; rw [HST.out, HD2.out]; rw [HSG.out]; rfl
            rw [ev, HST.out, HD2.out]; exact if_neg hjs
          have hvv : w64 (v) := by exact hv
          rcases Nat.lt_or_ge j p.size with hc1 | hc1
          · have hb := bt_at hc1
            have hc2 : bt p j < 48 ∨ 57 < bt p j := by
              rcases Nat.lt_or_ge (bt p j) 48 with h5 | h5
              · exact Or.inl h5
              · exact Or.inr (by apply Nat.lt_of_not_le; exact fun h6 => hc ⟨hc1, h5, h6⟩)
            clear hc
            generalize bt p j = c at *
            rcases hc2 with hc2 | hc2
            · go_wp2_with (go_at_call 53; refine (push_any H.out.st HW.out (tI (v)) _ (Sh.tI hvv) 1 (v) ⟨#[]⟩ (Nat.zero_le _) (Or.inl ⟨rfl, rfl⟩)).mono ?_; rintro e w2 ⟨rfl, sl2, h2, m2⟩)
              all_goals
                go_ret2
                rw [EN.out]
                exact ⟨rfl, sl2, H.out.keepM m2 h2, Mw.ofMv m2⟩
            · go_wp2_with (go_at_call 53; refine (push_any H.out.st HW.out (tI (v)) _ (Sh.tI hvv) 1 (v) ⟨#[]⟩ (Nat.zero_le _) (Or.inl ⟨rfl, rfl⟩)).mono ?_; rintro e w2 ⟨rfl, sl2, h2, m2⟩)
              all_goals
                go_ret2
                rw [EN.out]
                exact ⟨rfl, sl2, H.out.keepM m2 h2, Mw.ofMv m2⟩
          · clear hc
            go_wp2_with (go_at_call 53; refine (push_any H.out.st HW.out (tI (v)) _ (Sh.tI hvv) 1 (v) ⟨#[]⟩ (Nat.zero_le _) (Or.inl ⟨rfl, rfl⟩)).mono ?_; rintro e w2 ⟨rfl, sl2, h2, m2⟩)
            all_goals
              go_ret2
              rw [EN.out]
              exact ⟨rfl, sl2, H.out.keepM m2 h2, Mw.ofMv m2⟩
set_option maxHeartbeats 3200000 in
set_option maxRecDepth 100000 in
theorem num_pos {w : World} {M S : Nat} {sl : Value} {acc : Int} {rs : List Code} (h : Mc w M S sl acc rs) (hw : Wf rs) (p : ByteArray) (hp : p.size ≤ 24) (i : Nat) (hi : i < p.size) (h1 : i + 1 < p.size) (hs : bt p (i + 1) = 43) :
    Calls Try.prog 54 #[.pointer (some ⟨M, 0, none⟩), .string p, .int .i64 i] w (NOut w M S sl acc (numP p i rs)) := by
  have H : Hid (Mc w M S sl acc rs) := h
  have HW : Hid (Wf rs) := hw
  have c0 := blk_cell h.obj 0
  simp [mch] at c0
  clear h hw
  have esg : sgnP p i = true := by unfold sgnP; simp [h1, hs]
  have HST : Hid (stP p i = i + 2) := by show _ = _; unfold stP; rw [esg]; rfl
  have HSG : Hid ((sgnP p i && bt p (i + 1) == 45) = false) := by show _ = _; rw [hs]; simp
  have hbb := bt_at h1
  rw [hs] at hbb
  clear esg hs
  go_enter Try.func54, Try.ntmps54
  go_wp2
  go_loopw [8, 10] (fun a b wr => ∃ (j : Nat) (v : Int), a = .int .i64 j ∧ b = .int .i64 v ∧ i + 2 ≤ j ∧ j ≤ p.size ∧ w64 v ∧ wr = w ∧ Hid (digP p 24 (i + 2) 0 = digP p (24 - (j - (i + 2))) j v)) (fun a _ _ => p.size - (intOf a).toNat)
  case atStart => exact ⟨i + 2, 0, by go_num, rfl, by omega, by omega, by unfold w64; omega, by first | rfl | trivial, by show _ = _; rw [Nat.sub_self]⟩
  case round =>
    obtain ⟨j, v, rfl, rfl, hj0, hj, hv, rfl, HD⟩ := hrel
    by_cases hc : j < p.size ∧ 48 ≤ bt p j ∧ bt p j ≤ 57
    · obtain ⟨hc1, hc2, hc3⟩ := hc
      have hb := bt_at hc1
      have hd : digP p (24 - (j - (i + 2))) j v = digP p (24 - (j + 1 - (i + 2))) (j + 1) (wrap64 (v * 10 + ((bt p j : Int) - 48))) := by
        rw [show 24 - (j - (i + 2)) = (24 - (j + 1 - (i + 2))) + 1 from by omega, digP, if_pos ⟨hc1, hc2, hc3⟩]
      have HD2 : Hid (digP p 24 (i + 2) 0 = digP p (24 - (j + 1 - (i + 2))) (j + 1) (wrap64 (v * 10 + ((bt p j : Int) - 48)))) := HD.out.trans hd
      clear hd
      generalize bt p j = c at *
      go_wp2
      all_goals
        go_roundw
        case rel =>
          refine ⟨j + 1, wrap64 (v * 10 + ((c : Int) - 48)), by go_num, ?_, by omega, by omega, w_out _, by first | rfl | trivial, HD2⟩
          first | rfl | (congr 1; simp only [wrap64]; omega)
        case measure => simp [intOf]; omega
    · have hd : digP p (24 - (j - (i + 2))) j v = (j, v) := by
        cases h24 : 24 - (j - (i + 2)) with
        | zero => rfl
        | succ f => rw [digP, if_neg hc]
      have HD2 : Hid (digP p 24 (i + 2) 0 = (j, v)) := HD.out.trans hd
      clear hd
      by_cases hjs : j = i + 2
      · have EN : Hid (numP p i rs = (1, 11, rs)) := by show _ = _; unfold numP; rw [HST.out, HD2.out]; exact if_pos hjs
        have hjt2 : ((j : Int) == (i : Int) + 1 + 1) = true := by simp; omega
        have hjt3 : ((j : Int) == (i : Int) + 2) = true := by simp; omega
        clear hjs
        rcases Nat.lt_or_ge j p.size with hc1 | hc1
        · have hb := bt_at hc1
          have hc2 : bt p j < 48 ∨ 57 < bt p j := by
            rcases Nat.lt_or_ge (bt p j) 48 with h5 | h5
            · exact Or.inl h5
            · exact Or.inr (by apply Nat.lt_of_not_le; exact fun h6 => hc ⟨hc1, h5, h6⟩)
          clear hc
          generalize bt p j = c at *
          rcases hc2 with hc2 | hc2
          · go_wp2
            all_goals
              go_ret2
              rw [EN.out]
              exact ⟨rfl, sl, H.out, Mw.refl _ _ _ _⟩
          · go_wp2
            all_goals
              go_ret2
              rw [EN.out]
              exact ⟨rfl, sl, H.out, Mw.refl _ _ _ _⟩
        · clear hc
          go_wp2
          all_goals
            go_ret2
            rw [EN.out]
            exact ⟨rfl, sl, H.out, Mw.refl _ _ _ _⟩
      · have hjf1 : ((j : Int) == ((i + 2 : Nat) : Int)) = false := by simp; omega
        have hjf3 : ((j : Int) == (i : Int) + 1 + 1) = false := by simp; omega
        have hjf4 : ((j : Int) == (i : Int) + 2) = false := by simp; omega
        have EN : Hid (numP p i rs = ((j : Int) - i, (pushW (tI v) rs).1, (pushW (tI v) rs).2)) := by
          show _ = _
          unfold numP
          have ev : vP p i = v := by unfold vP; rw [HST.out, HD2.out]; rw [HSG.out]; rfl
          rw [ev, HST.out, HD2.out]; exact if_neg hjs
        have hvv : w64 (v) := by exact hv
        rcases Nat.lt_or_ge j p.size with hc1 | hc1
        · have hb := bt_at hc1
          have hc2 : bt p j < 48 ∨ 57 < bt p j := by
            rcases Nat.lt_or_ge (bt p j) 48 with h5 | h5
            · exact Or.inl h5
            · exact Or.inr (by apply Nat.lt_of_not_le; exact fun h6 => hc ⟨hc1, h5, h6⟩)
          clear hc
          generalize bt p j = c at *
          rcases hc2 with hc2 | hc2
          · go_wp2_with (go_at_call 53; refine (push_any H.out.st HW.out (tI (v)) _ (Sh.tI hvv) 1 (v) ⟨#[]⟩ (Nat.zero_le _) (Or.inl ⟨rfl, rfl⟩)).mono ?_; rintro e w2 ⟨rfl, sl2, h2, m2⟩)
            all_goals
              go_ret2
              rw [EN.out]
              exact ⟨rfl, sl2, H.out.keepM m2 h2, Mw.ofMv m2⟩
          · go_wp2_with (go_at_call 53; refine (push_any H.out.st HW.out (tI (v)) _ (Sh.tI hvv) 1 (v) ⟨#[]⟩ (Nat.zero_le _) (Or.inl ⟨rfl, rfl⟩)).mono ?_; rintro e w2 ⟨rfl, sl2, h2, m2⟩)
            all_goals
              go_ret2
              rw [EN.out]
              exact ⟨rfl, sl2, H.out.keepM m2 h2, Mw.ofMv m2⟩
        · clear hc
          go_wp2_with (go_at_call 53; refine (push_any H.out.st HW.out (tI (v)) _ (Sh.tI hvv) 1 (v) ⟨#[]⟩ (Nat.zero_le _) (Or.inl ⟨rfl, rfl⟩)).mono ?_; rintro e w2 ⟨rfl, sl2, h2, m2⟩)
          all_goals
            go_ret2
            rw [EN.out]
            exact ⟨rfl, sl2, H.out.keepM m2 h2, Mw.ofMv m2⟩
set_option maxHeartbeats 3200000 in
set_option maxRecDepth 100000 in
theorem num_neg {w : World} {M S : Nat} {sl : Value} {acc : Int} {rs : List Code} (h : Mc w M S sl acc rs) (hw : Wf rs) (p : ByteArray) (hp : p.size ≤ 24) (i : Nat) (hi : i < p.size) (h1 : i + 1 < p.size) (hs : bt p (i + 1) = 45) :
    Calls Try.prog 54 #[.pointer (some ⟨M, 0, none⟩), .string p, .int .i64 i] w (NOut w M S sl acc (numP p i rs)) := by
  have H : Hid (Mc w M S sl acc rs) := h
  have HW : Hid (Wf rs) := hw
  have c0 := blk_cell h.obj 0
  simp [mch] at c0
  clear h hw
  have esg : sgnP p i = true := by unfold sgnP; simp [h1, hs]
  have HST : Hid (stP p i = i + 2) := by show _ = _; unfold stP; rw [esg]; rfl
  have HSG : Hid ((sgnP p i && bt p (i + 1) == 45) = true) := by show _ = _; rw [esg, hs]; rfl
  have hbb := bt_at h1
  rw [hs] at hbb
  clear esg hs
  go_enter Try.func54, Try.ntmps54
  go_wp2
  go_loopw [8, 10] (fun a b wr => ∃ (j : Nat) (v : Int), a = .int .i64 j ∧ b = .int .i64 v ∧ i + 2 ≤ j ∧ j ≤ p.size ∧ w64 v ∧ wr = w ∧ Hid (digP p 24 (i + 2) 0 = digP p (24 - (j - (i + 2))) j v)) (fun a _ _ => p.size - (intOf a).toNat)
  case atStart => exact ⟨i + 2, 0, by go_num, rfl, by omega, by omega, by unfold w64; omega, by first | rfl | trivial, by show _ = _; rw [Nat.sub_self]⟩
  case round =>
    obtain ⟨j, v, rfl, rfl, hj0, hj, hv, rfl, HD⟩ := hrel
    by_cases hc : j < p.size ∧ 48 ≤ bt p j ∧ bt p j ≤ 57
    · obtain ⟨hc1, hc2, hc3⟩ := hc
      have hb := bt_at hc1
      have hd : digP p (24 - (j - (i + 2))) j v = digP p (24 - (j + 1 - (i + 2))) (j + 1) (wrap64 (v * 10 + ((bt p j : Int) - 48))) := by
        rw [show 24 - (j - (i + 2)) = (24 - (j + 1 - (i + 2))) + 1 from by omega, digP, if_pos ⟨hc1, hc2, hc3⟩]
      have HD2 : Hid (digP p 24 (i + 2) 0 = digP p (24 - (j + 1 - (i + 2))) (j + 1) (wrap64 (v * 10 + ((bt p j : Int) - 48)))) := HD.out.trans hd
      clear hd
      generalize bt p j = c at *
      go_wp2
      all_goals
        go_roundw
        case rel =>
          refine ⟨j + 1, wrap64 (v * 10 + ((c : Int) - 48)), by go_num, ?_, by omega, by omega, w_out _, by first | rfl | trivial, HD2⟩
          first | rfl | (congr 1; simp only [wrap64]; omega)
        case measure => simp [intOf]; omega
    · have hd : digP p (24 - (j - (i + 2))) j v = (j, v) := by
        cases h24 : 24 - (j - (i + 2)) with
        | zero => rfl
        | succ f => rw [digP, if_neg hc]
      have HD2 : Hid (digP p 24 (i + 2) 0 = (j, v)) := HD.out.trans hd
      clear hd
      by_cases hjs : j = i + 2
      · have EN : Hid (numP p i rs = (1, 11, rs)) := by show _ = _; unfold numP; rw [HST.out, HD2.out]; exact if_pos hjs
        have hjt2 : ((j : Int) == (i : Int) + 1 + 1) = true := by simp; omega
        have hjt3 : ((j : Int) == (i : Int) + 2) = true := by simp; omega
        clear hjs
        rcases Nat.lt_or_ge j p.size with hc1 | hc1
        · have hb := bt_at hc1
          have hc2 : bt p j < 48 ∨ 57 < bt p j := by
            rcases Nat.lt_or_ge (bt p j) 48 with h5 | h5
            · exact Or.inl h5
            · exact Or.inr (by apply Nat.lt_of_not_le; exact fun h6 => hc ⟨hc1, h5, h6⟩)
          clear hc
          generalize bt p j = c at *
          rcases hc2 with hc2 | hc2
          · go_wp2
            all_goals
              go_ret2
              rw [EN.out]
              exact ⟨rfl, sl, H.out, Mw.refl _ _ _ _⟩
          · go_wp2
            all_goals
              go_ret2
              rw [EN.out]
              exact ⟨rfl, sl, H.out, Mw.refl _ _ _ _⟩
        · clear hc
          go_wp2
          all_goals
            go_ret2
            rw [EN.out]
            exact ⟨rfl, sl, H.out, Mw.refl _ _ _ _⟩
      · have hjf1 : ((j : Int) == ((i + 2 : Nat) : Int)) = false := by simp; omega
        have hjf3 : ((j : Int) == (i : Int) + 1 + 1) = false := by simp; omega
        have hjf4 : ((j : Int) == (i : Int) + 2) = false := by simp; omega
        have EN : Hid (numP p i rs = ((j : Int) - i, (pushW (tI (wrap64 (-v))) rs).1, (pushW (tI (wrap64 (-v))) rs).2)) := by
          show _ = _
          unfold numP
          have ev : vP p i = (wrap64 (-v)) := by unfold vP; rw [HST.out, HD2.out]; rw [HSG.out]; rfl
          rw [ev, HST.out, HD2.out]; exact if_neg hjs
        have hvv : w64 ((wrap64 (-v))) := by exact w_out _
        rcases Nat.lt_or_ge j p.size with hc1 | hc1
        · have hb := bt_at hc1
          have hc2 : bt p j < 48 ∨ 57 < bt p j := by
            rcases Nat.lt_or_ge (bt p j) 48 with h5 | h5
            · exact Or.inl h5
            · exact Or.inr (by apply Nat.lt_of_not_le; exact fun h6 => hc ⟨hc1, h5, h6⟩)
          clear hc
          generalize bt p j = c at *
          rcases hc2 with hc2 | hc2
          · go_wp2_with (go_at_call 53; refine (push_any H.out.st HW.out (tI ((wrap64 (-v)))) _ (Sh.tI hvv) 1 ((wrap64 (-v))) ⟨#[]⟩ (Nat.zero_le _) (Or.inl ⟨rfl, rfl⟩)).mono ?_; rintro e w2 ⟨rfl, sl2, h2, m2⟩)
            all_goals
              go_ret2
              rw [EN.out]
              exact ⟨rfl, sl2, H.out.keepM m2 h2, Mw.ofMv m2⟩
          · go_wp2_with (go_at_call 53; refine (push_any H.out.st HW.out (tI ((wrap64 (-v)))) _ (Sh.tI hvv) 1 ((wrap64 (-v))) ⟨#[]⟩ (Nat.zero_le _) (Or.inl ⟨rfl, rfl⟩)).mono ?_; rintro e w2 ⟨rfl, sl2, h2, m2⟩)
            all_goals
              go_ret2
              rw [EN.out]
              exact ⟨rfl, sl2, H.out.keepM m2 h2, Mw.ofMv m2⟩
        · clear hc
          go_wp2_with (go_at_call 53; refine (push_any H.out.st HW.out (tI ((wrap64 (-v)))) _ (Sh.tI hvv) 1 ((wrap64 (-v))) ⟨#[]⟩ (Nat.zero_le _) (Or.inl ⟨rfl, rfl⟩)).mono ?_; rintro e w2 ⟨rfl, sl2, h2, m2⟩)
          all_goals
            go_ret2
            rw [EN.out]
            exact ⟨rfl, sl2, H.out.keepM m2 h2, Mw.ofMv m2⟩

theorem num_any {w : World} {M S : Nat} {sl : Value} {acc : Int} {rs : List Code} (h : Mc w M S sl acc rs) (hw : Wf rs) (p : ByteArray) (hp : p.size ≤ 24) (i : Nat) (hi : i < p.size) :
    Calls Try.prog 54 #[.pointer (some ⟨M, 0, none⟩), .string p, .int .i64 i] w (NOut w M S sl acc (numP p i rs)) := by
  cases hs : sgnP p i with
  | false => exact num_none h hw p hp i hi hs
  | true =>
    unfold sgnP at hs
    simp at hs
    rcases hs.2 with e | e
    · exact num_pos h hw p hp i hi hs.1 e
    · exact num_neg h hw p hp i hi hs.1 e
end Go.Proofs.Qxb6500336a
