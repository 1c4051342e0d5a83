import Derived.Test.Qxb6500336aR18
namespace Go.Proofs.Qxb6500336a
open Go.RowKit
set_option linter.unusedVariables false
set_option linter.unusedSimpArgs false

/-- What '#' leaves: the width counts only if there is no error. -/
def NOutM (w : World) (M m : Nat) (sl : Value) (acc : Int) (r : Int × Int × List Code) (e : Ending) (w' : World) : Prop :=
  ∃ wd : Int, e = .returned (.tuple #[.int .i64 wd, .int .i64 r.2.1]) ∧ (r.2.1 = 0 → wd = r.1) ∧ ZOut w M m sl acc r.2.2 w'

set_option maxHeartbeats 3200000 in
set_option maxRecDepth 100000 in
theorem mnum_none {w : World} {M m : Nat} {sl : Value} {acc : Int} {rs : List Code} {vs : List (List Value)} (h : Mm w M m sl acc rs vs) (hw : Wf rs) (p : ByteArray) (hp : p.size ≤ 24) (i : Nat) (hi : i < p.size) (hs : sgnP p i = false) :
    Calls Try.prog 86 #[.pointer (some ⟨M, 0, none⟩), .string p, .int .i64 i] w (NOutM w M m sl acc (numP p i rs)) := by
  have H : Hid (Mm w M m sl acc rs vs) := h
  have HW : Hid (Wf rs) := hw
  have c0 := blk_cell h.obj 0
  simp at c0
  clear h hw
  have est : stP p i = i + 1 := by unfold stP; rw [hs]; rfl
  have HST : Hid (stP p i = i + 1) := est
  have HSG : Hid (sgnP p i = false) := hs
  have hs2 : i + 1 < p.size → bt p (i + 1) ≠ 43 ∧ bt p (i + 1) ≠ 45 := by
    intro h1
    unfold sgnP at hs
    simpa [h1] using hs
  clear est hs
  rcases Nat.lt_or_ge (i + 1) p.size with h1 | h1
  · obtain ⟨ha, hb⟩ := hs2 h1
    have hbb := bt_at h1
    have g1 : ((bt p (i + 1) : Int) == 43) = false := by simp; omega
    have g2 : ((bt p (i + 1) : Int) == 45) = false := by simp; omega
    generalize bt p (i + 1) = cc at *
    clear ha hb hs2
    go_enter Try.func86, Try.ntmps86
    go_wp2
    go_loopw [8, 11] (fun a b wr => ∃ (j : Nat) (v : Int), a = .int .i64 j ∧ b = .int .i64 v ∧ i + 1 ≤ j ∧ j ≤ p.size ∧ w64 v ∧ wr = w ∧ Hid (digP p 24 (i + 1) 0 = digP p (24 - (j - (i + 1))) j v)) (fun a _ _ => p.size - (intOf a).toNat)
    case atStart => exact ⟨i + 1, 0, by go_num, rfl, by omega, by omega, by unfold w64; omega, by first | rfl | trivial, by show _ = _; rw [Nat.sub_self]⟩
    case round =>
      obtain ⟨j, v, rfl, rfl, hj0, hj, hv, rfl, HD⟩ := hrel
      by_cases hc : j < p.size ∧ 48 ≤ bt p j ∧ bt p j ≤ 57
      · obtain ⟨hc1, hc2, hc3⟩ := hc
        have hb := bt_at hc1
        have hd : digP p (24 - (j - (i + 1))) j v = digP p (24 - (j + 1 - (i + 1))) (j + 1) (wrap64 (v * 10 + ((bt p j : Int) - 48))) := by
          rw [show 24 - (j - (i + 1)) = (24 - (j + 1 - (i + 1))) + 1 from by omega, digP, if_pos ⟨hc1, hc2, hc3⟩]
        have HD2 : Hid (digP p 24 (i + 1) 0 = digP p (24 - (j + 1 - (i + 1))) (j + 1) (wrap64 (v * 10 + ((bt p j : Int) - 48)))) := HD.out.trans hd
        clear hd
        generalize bt p j = c at *
        go_wp2
        all_goals
          go_roundw
          case rel =>
            refine ⟨j + 1, wrap64 (v * 10 + ((c : Int) - 48)), by go_num, ?_, by omega, by omega, w_out _, by first | rfl | trivial, HD2⟩
            first | rfl | (congr 1; simp only [wrap64]; omega)
          case measure => simp [intOf]; omega
      · have hd : digP p (24 - (j - (i + 1))) j v = (j, v) := by
          cases h24 : 24 - (j - (i + 1)) with
          | zero => rfl
          | succ f => rw [digP, if_neg hc]
        have HD2 : Hid (digP p 24 (i + 1) 0 = (j, v)) := HD.out.trans hd
        clear hd
        by_cases hjs : j = i + 1
        · have EN : Hid (numP p i rs = (1, 11, rs)) := by show _ = _; unfold numP; rw [HST.out, HD2.out]; exact if_pos hjs
          have hjt1 : ((j : Int) == (i : Int) + 1) = true := by simp; omega
          clear hjs
          rcases Nat.lt_or_ge j p.size with hc1 | hc1
          · have hb := bt_at hc1
            have hc2 : bt p j < 48 ∨ 57 < bt p j := by
              rcases Nat.lt_or_ge (bt p j) 48 with h5 | h5
              · exact Or.inl h5
              · exact Or.inr (by apply Nat.lt_of_not_le; exact fun h6 => hc ⟨hc1, h5, h6⟩)
            clear hc
            generalize bt p j = c at *
            rcases hc2 with hc2 | hc2
            · go_wp2
              all_goals
                go_ret2
                rw [EN.out]
                exact ⟨0, rfl, (fun h => by cases h), ZOut.same H.out (Fr.refl _ _)⟩
            · go_wp2
              all_goals
                go_ret2
                rw [EN.out]
                exact ⟨0, rfl, (fun h => by cases h), ZOut.same H.out (Fr.refl _ _)⟩
          · clear hc
            go_wp2
            all_goals
              go_ret2
              rw [EN.out]
              exact ⟨0, rfl, (fun h => by cases h), ZOut.same H.out (Fr.refl _ _)⟩
        · have hjf1 : ((j : Int) == ((i + 1 : Nat) : Int)) = false := by simp; omega
          have hjf2 : ((j : Int) == (i : Int) + 1) = false := by simp; omega
          have EN : Hid (numP p i rs = ((j : Int) - i, (pushW (tI v) rs).1, (pushW (tI v) rs).2)) := by
            show _ = _
            unfold numP
            have ev : vP p i = v := by unfold vP; rw [HST.out, HD2.out]; rw [HSG.out]; rfl
            rw [ev, HST.out, HD2.out]; exact if_neg hjs
          have hvv : w64 (v) := by exact hv
          rcases Nat.lt_or_ge j p.size with hc1 | hc1
          · have hb := bt_at hc1
            have hc2 : bt p j < 48 ∨ 57 < bt p j := by
              rcases Nat.lt_or_ge (bt p j) 48 with h5 | h5
              · exact Or.inl h5
              · exact Or.inr (by apply Nat.lt_of_not_le; exact fun h6 => hc ⟨hc1, h5, h6⟩)
            clear hc
            generalize bt p j = c at *
            rcases hc2 with hc2 | hc2
            · go_wp2_with (go_at_call 87; refine (mpushI H.out.st HW.out.1 hvv).mono ?_; rintro e w2 ⟨rfl, sl2, vs2, h2, m2⟩)
              all_goals
                go_ret2
                rw [EN.out]
                exact ⟨_, rfl, fun _ => rfl, ZOut.of H.out h2 m2⟩
            · go_wp2_with (go_at_call 87; refine (mpushI H.out.st HW.out.1 hvv).mono ?_; rintro e w2 ⟨rfl, sl2, vs2, h2, m2⟩)
              all_goals
                go_ret2
                rw [EN.out]
                exact ⟨_, rfl, fun _ => rfl, ZOut.of H.out h2 m2⟩
          · clear hc
            go_wp2_with (go_at_call 87; refine (mpushI H.out.st HW.out.1 hvv).mono ?_; rintro e w2 ⟨rfl, sl2, vs2, h2, m2⟩)
            all_goals
              go_ret2
              rw [EN.out]
              exact ⟨_, rfl, fun _ => rfl, ZOut.of H.out h2 m2⟩
  · clear hs2
    go_enter Try.func86, Try.ntmps86
    go_wp2
    go_loopw [8, 11] (fun a b wr => ∃ (j : Nat) (v : Int), a = .int .i64 j ∧ b = .int .i64 v ∧ i + 1 ≤ j ∧ j ≤ p.size ∧ w64 v ∧ wr = w ∧ Hid (digP p 24 (i + 1) 0 = digP p (24 - (j - (i + 1))) j v)) (fun a _ _ => p.size - (intOf a).toNat)
    case atStart => exact ⟨i + 1, 0, by go_num, rfl, by omega, by omega, by unfold w64; omega, by first | rfl | trivial, by show _ = _; rw [Nat.sub_self]⟩
    case round =>
      obtain ⟨j, v, rfl, rfl, hj0, hj, hv, rfl, HD⟩ := hrel
      by_cases hc : j < p.size ∧ 48 ≤ bt p j ∧ bt p j ≤ 57
      · obtain ⟨hc1, hc2, hc3⟩ := hc
        have hb := bt_at hc1
        have hd : digP p (24 - (j - (i + 1))) j v = digP p (24 - (j + 1 - (i + 1))) (j + 1) (wrap64 (v * 10 + ((bt p j : Int) - 48))) := by
          rw [show 24 - (j - (i + 1)) = (24 - (j + 1 - (i + 1))) + 1 from by omega, digP, if_pos ⟨hc1, hc2, hc3⟩]
        have HD2 : Hid (digP p 24 (i + 1) 0 = digP p (24 - (j + 1 - (i + 1))) (j + 1) (wrap64 (v * 10 + ((bt p j : Int) - 48)))) := HD.out.trans hd
        clear hd
        generalize bt p j = c at *
        go_wp2
        all_goals
          go_roundw
          case rel =>
            refine ⟨j + 1, wrap64 (v * 10 + ((c : Int) - 48)), by go_num, ?_, by omega, by omega, w_out _, by first | rfl | trivial, HD2⟩
            first | rfl | (congr 1; simp only [wrap64]; omega)
          case measure => simp [intOf]; omega
      · have hd : digP p (24 - (j - (i + 1))) j v = (j, v) := by
          cases h24 : 24 - (j - (i + 1)) with
          | zero => rfl
          | succ f => rw [digP, if_neg hc]
        have HD2 : Hid (digP p 24 (i + 1) 0 = (j, v)) := HD.out.trans hd
        clear hd
        by_cases hjs : j = i + 1
        · have EN : Hid (numP p i rs = (1, 11, rs)) := by show _ = _; unfold numP; rw [HST.out, HD2.out]; exact if_pos hjs
          have hjt1 : ((j : Int) == (i : Int) + 1) = true := by simp; omega
          clear hjs
          rcases Nat.lt_or_ge j p.size with hc1 | hc1
          · have hb := bt_at hc1
            have hc2 : bt p j < 48 ∨ 57 < bt p j := by
              rcases Nat.lt_or_ge (bt p j) 48 with h5 | h5
              · exact Or.inl h5
              · exact Or.inr (by apply Nat.lt_of_not_le; exact fun h6 => hc ⟨hc1, h5, h6⟩)
            clear hc
            generalize bt p j = c at *
            rcases hc2 with hc2 | hc2
            · go_wp2
              all_goals
                go_ret2
                rw [EN.out]
                exact ⟨0, rfl, (fun h => by cases h), ZOut.same H.out (Fr.refl _ _)⟩
            · go_wp2
              all_goals
                go_ret2
                rw [EN.out]
                exact ⟨0, rfl, (fun h => by cases h), ZOut.same H.out (Fr.refl _ _)⟩
          · clear hc
            go_wp2
            all_goals
              go_ret2
              rw [EN.out]
              exact ⟨0, rfl, (fun h => by cases h), ZOut.same H.out (Fr.refl _ _)⟩
        · have hjf1 : ((j : Int) == ((i + 1 : Nat) : Int)) = false := by simp; omega
          have hjf2 : ((j : Int) == (i : Int) + 1) = false := by simp; omega
          have EN : Hid (numP p i rs = ((j : Int) - i, (pushW (tI v) rs).1, (pushW (tI v) rs).2)) := by
            show _ = _
            unfold numP
            have ev : vP p i = v := by unfold vP; rw [HST.out, HD2.out]; rw [HSG.out]; rfl
            rw [ev, HST.out, HD2.out]; exact if_neg hjs
          have hvv : w64 (v) := by exact hv
          rcases Nat.lt_or_ge j p.size with hc1 | hc1
          · have hb := bt_at hc1
            have hc2 : bt p j < 48 ∨ 57 < bt p j := by
              rcases Nat.lt_or_ge (bt p j) 48 with h5 | h5
              · exact Or.inl h5
              · exact Or.inr (by apply Nat.lt_of_not_le; exact fun h6 => hc ⟨hc1, h5, h6⟩)
            clear hc
            generalize bt p j = c at *
            rcases hc2 with hc2 | hc2
            · go_wp2_with (go_at_call 87; refine (mpushI H.out.st HW.out.1 hvv).mono ?_; rintro e w2 ⟨rfl, sl2, vs2, h2, m2⟩)
              all_goals
                go_ret2
                rw [EN.out]
                exact ⟨_, rfl, fun _ => rfl, ZOut.of H.out h2 m2⟩
            · go_wp2_with (go_at_call 87; refine (mpushI H.out.st HW.out.1 hvv).mono ?_; rintro e w2 ⟨rfl, sl2, vs2, h2, m2⟩)
              all_goals
                go_ret2
                rw [EN.out]
                exact ⟨_, rfl, fun _ => rfl, ZOut.of H.out h2 m2⟩
          · clear hc
            go_wp2_with (go_at_call 87; refine (mpushI H.out.st HW.out.1 hvv).mono ?_; rintro e w2 ⟨rfl, sl2, vs2, h2, m2⟩)
            all_goals
              go_ret2
              rw [EN.out]
              exact ⟨_, rfl, fun _ => rfl, ZOut.of H.out h2 m2⟩
set_option maxHeartbeats 3200000 in
set_option maxRecDepth 100000 in
theorem mnum_pos {w : World} {M m : Nat} {sl : Value} {acc : Int} {rs : List Code} {vs : List (List Value)} (h : Mm w M m sl acc rs vs) (hw : Wf rs) (p : ByteArray) (hp : p.size ≤ 24) (i : Nat) (hi : i < p.size) (h1 : i + 1 < p.size) (hs : bt p (i + 1) = 43) :
    Calls Try.prog 86 #[.pointer (some ⟨M, 0, none⟩), .string p, .int .i64 i] w (NOutM w M m sl acc (numP p i rs)) := by
  have H : Hid (Mm w M m sl acc rs vs) := h
  have HW : Hid (Wf rs) := hw
  have c0 := blk_cell h.obj 0
  simp at c0
  clear h hw
  have esg : sgnP p i = true := by unfold sgnP; simp [h1, hs]
  have HST : Hid (stP p i = i + 2) := by show _ = _; unfold stP; rw [esg]; rfl
  have HSG : Hid ((sgnP p i && bt p (i + 1) == 45) = false) := by show _ = _; rw [hs]; simp
  have hbb := bt_at h1
  rw [hs] at hbb
  clear esg hs
  go_enter Try.func86, Try.ntmps86
  go_wp2
  go_loopw [8, 11] (fun a b wr => ∃ (j : Nat) (v : Int), a = .int .i64 j ∧ b = .int .i64 v ∧ i + 2 ≤ j ∧ j ≤ p.size ∧ w64 v ∧ wr = w ∧ Hid (digP p 24 (i + 2) 0 = digP p (24 - (j - (i + 2))) j v)) (fun a _ _ => p.size - (intOf a).toNat)
  case atStart => exact ⟨i + 2, 0, by go_num, rfl, by omega, by omega, by unfold w64; omega, by first | rfl | trivial, by show _ = _; rw [Nat.sub_self]⟩
  case round =>
    obtain ⟨j, v, rfl, rfl, hj0, hj, hv, rfl, HD⟩ := hrel
    by_cases hc : j < p.size ∧ 48 ≤ bt p j ∧ bt p j ≤ 57
    · obtain ⟨hc1, hc2, hc3⟩ := hc
      have hb := bt_at hc1
      have hd : digP p (24 - (j - (i + 2))) j v = digP p (24 - (j + 1 - (i + 2))) (j + 1) (wrap64 (v * 10 + ((bt p j : Int) - 48))) := by
        rw [show 24 - (j - (i + 2)) = (24 - (j + 1 - (i + 2))) + 1 from by omega, digP, if_pos ⟨hc1, hc2, hc3⟩]
      have HD2 : Hid (digP p 24 (i + 2) 0 = digP p (24 - (j + 1 - (i + 2))) (j + 1) (wrap64 (v * 10 + ((bt p j : Int) - 48)))) := HD.out.trans hd
      clear hd
      generalize bt p j = c at *
      go_wp2
      all_goals
        go_roundw
        case rel =>
          refine ⟨j + 1, wrap64 (v * 10 + ((c : Int) - 48)), by go_num, ?_, by omega, by omega, w_out _, by first | rfl | trivial, HD2⟩
          first | rfl | (congr 1; simp only [wrap64]; omega)
        case measure => simp [intOf]; omega
    · have hd : digP p (24 - (j - (i + 2))) j v = (j, v) := by
        cases h24 : 24 - (j - (i + 2)) with
        | zero => rfl
        | succ f => rw [digP, if_neg hc]
      have HD2 : Hid (digP p 24 (i + 2) 0 = (j, v)) := HD.out.trans hd
      clear hd
      by_cases hjs : j = i + 2
      · have EN : Hid (numP p i rs = (1, 11, rs)) := by show _ = _; unfold numP; rw [HST.out, HD2.out]; exact if_pos hjs
        have hjt2 : ((j : Int) == (i : Int) + 1 + 1) = true := by simp; omega
        have hjt3 : ((j : Int) == (i : Int) + 2) = true := by simp; omega
        clear hjs
        rcases Nat.lt_or_ge j p.size with hc1 | hc1
        · have hb := bt_at hc1
          have hc2 : bt p j < 48 ∨ 57 < bt p j := by
            rcases Nat.lt_or_ge (bt p j) 48 with h5 | h5
            · exact Or.inl h5
            · exact Or.inr (by apply Nat.lt_of_not_le; exact fun h6 => hc ⟨hc1, h5, h6⟩)
          clear hc
          generalize bt p j = c at *
          rcases hc2 with hc2 | hc2
          · go_wp2
            all_goals
              go_ret2
              rw [EN.out]
              exact ⟨0, rfl, (fun h => by cases h), ZOut.same H.out (Fr.refl _ _)⟩
          · go_wp2
            all_goals
              go_ret2
              rw [EN.out]
              exact ⟨0, rfl, (fun h => by cases h), ZOut.same H.out (Fr.refl _ _)⟩
        · clear hc
          go_wp2
          all_goals
            go_ret2
            rw [EN.out]
            exact ⟨0, rfl, (fun h => by cases h), ZOut.same H.out (Fr.refl _ _)⟩
      · have hjf1 : ((j : Int) == ((i + 2 : Nat) : Int)) = false := by simp; omega
        have hjf3 : ((j : Int) == (i : Int) + 1 + 1) = false := by simp; omega
        have hjf4 : ((j : Int) == (i : Int) + 2) = false := by simp; omega
        have EN : Hid (numP p i rs = ((j : Int) - i, (pushW (tI v) rs).1, (pushW (tI v) rs).2)) := by
          show _ = _
          unfold numP
          have ev : vP p i = v := by unfold vP; rw [HST.out, HD2.out]; rw [HSG.out]; rfl
          rw [ev, HST.out, HD2.out]; exact if_neg hjs
        have hvv : w64 (v) := by exact hv
        rcases Nat.lt_or_ge j p.size with hc1 | hc1
        · have hb := bt_at hc1
          have hc2 : bt p j < 48 ∨ 57 < bt p j := by
            rcases Nat.lt_or_ge (bt p j) 48 with h5 | h5
            · exact Or.inl h5
            · exact Or.inr (by apply Nat.lt_of_not_le; exact fun h6 => hc ⟨hc1, h5, h6⟩)
          clear hc
          generalize bt p j = c at *
          rcases hc2 with hc2 | hc2
          · go_wp2_with (go_at_call 87; refine (mpushI H.out.st HW.out.1 hvv).mono ?_; rintro e w2 ⟨rfl, sl2, vs2, h2, m2⟩)
            all_goals
              go_ret2
              rw [EN.out]
              exact ⟨_, rfl, fun _ => rfl, ZOut.of H.out h2 m2⟩
          · go_wp2_with (go_at_call 87; refine (mpushI H.out.st HW.out.1 hvv).mono ?_; rintro e w2 ⟨rfl, sl2, vs2, h2, m2⟩)
            all_goals
              go_ret2
              rw [EN.out]
              exact ⟨_, rfl, fun _ => rfl, ZOut.of H.out h2 m2⟩
        · clear hc
          go_wp2_with (go_at_call 87; refine (mpushI H.out.st HW.out.1 hvv).mono ?_; rintro e w2 ⟨rfl, sl2, vs2, h2, m2⟩)
          all_goals
            go_ret2
            rw [EN.out]
            exact ⟨_, rfl, fun _ => rfl, ZOut.of H.out h2 m2⟩
set_option maxHeartbeats 3200000 in
set_option maxRecDepth 100000 in
theorem mnum_neg {w : World} {M m : Nat} {sl : Value} {acc : Int} {rs : List Code} {vs : List (List Value)} (h : Mm w M m sl acc rs vs) (hw : Wf rs) (p : ByteArray) (hp : p.size ≤ 24) (i : Nat) (hi : i < p.size) (h1 : i + 1 < p.size) (hs : bt p (i + 1) = 45) :
    Calls Try.prog 86 #[.pointer (some ⟨M, 0, none⟩), .string p, .int .i64 i] w (NOutM w M m sl acc (numP p i rs)) := by
  have H : Hid (Mm w M m sl acc rs vs) := h
  have HW : Hid (Wf rs) := hw
  have c0 := blk_cell h.obj 0
  simp at c0
  clear h hw
  have esg : sgnP p i = true := by unfold sgnP; simp [h1, hs]
  have HST : Hid (stP p i = i + 2) := by show _ = _; unfold stP; rw [esg]; rfl
  have HSG : Hid ((sgnP p i && bt p (i + 1) == 45) = true) := by show _ = _; rw [esg, hs]; rfl
  have hbb := bt_at h1
  rw [hs] at hbb
  clear esg hs
  go_enter Try.func86, Try.ntmps86
  go_wp2
  go_loopw [8, 11] (fun a b wr => ∃ (j : Nat) (v : Int), a = .int .i64 j ∧ b = .int .i64 v ∧ i + 2 ≤ j ∧ j ≤ p.size ∧ w64 v ∧ wr = w ∧ Hid (digP p 24 (i + 2) 0 = digP p (24 - (j - (i + 2))) j v)) (fun a _ _ => p.size - (intOf a).toNat)
  case atStart => exact ⟨i + 2, 0, by go_num, rfl, by omega, by omega, by unfold w64; omega, by first | rfl | trivial, by show _ = _; rw [Nat.sub_self]⟩
  case round =>
    obtain ⟨j, v, rfl, rfl, hj0, hj, hv, rfl, HD⟩ := hrel
    by_cases hc : j < p.size ∧ 48 ≤ bt p j ∧ bt p j ≤ 57
    · obtain ⟨hc1, hc2, hc3⟩ := hc
      have hb := bt_at hc1
      have hd : digP p (24 - (j - (i + 2))) j v = digP p (24 - (j + 1 - (i + 2))) (j + 1) (wrap64 (v * 10 + ((bt p j : Int) - 48))) := by
        rw [show 24 - (j - (i + 2)) = (24 - (j + 1 - (i + 2))) + 1 from by omega, digP, if_pos ⟨hc1, hc2, hc3⟩]
      have HD2 : Hid (digP p 24 (i + 2) 0 = digP p (24 - (j + 1 - (i + 2))) (j + 1) (wrap64 (v * 10 + ((bt p j : Int) - 48)))) := HD.out.trans hd
      clear hd
      generalize bt p j = c at *
      go_wp2
      all_goals
        go_roundw
        case rel =>
          refine ⟨j + 1, wrap64 (v * 10 + ((c : Int) - 48)), by go_num, ?_, by omega, by omega, w_out _, by first | rfl | trivial, HD2⟩
          first | rfl | (congr 1; simp only [wrap64]; omega)
        case measure => simp [intOf]; omega
    · have hd : digP p (24 - (j - (i + 2))) j v = (j, v) := by
        cases h24 : 24 - (j - (i + 2)) with
        | zero => rfl
        | succ f => rw [digP, if_neg hc]
      have HD2 : Hid (digP p 24 (i + 2) 0 = (j, v)) := HD.out.trans hd
      clear hd
      by_cases hjs : j = i + 2
      · have EN : Hid (numP p i rs = (1, 11, rs)) := by show _ = _; unfold numP; rw [HST.out, HD2.out]; exact if_pos hjs
        have hjt2 : ((j : Int) == (i : Int) + 1 + 1) = true := by simp; omega
        have hjt3 : ((j : Int) == (i : Int) + 2) = true := by simp; omega
        clear hjs
        rcases Nat.lt_or_ge j p.size with hc1 | hc1
        · have hb := bt_at hc1
          have hc2 : bt p j < 48 ∨ 57 < bt p j := by
            rcases Nat.lt_or_ge (bt p j) 48 with h5 | h5
            · exact Or.inl h5
            · exact Or.inr (by apply Nat.lt_of_not_le; exact fun h6 => hc ⟨hc1, h5, h6⟩)
          clear hc
          generalize bt p j = c at *
          rcases hc2 with hc2 | hc2
          · go_wp2
            all_goals
              go_ret2
              rw [EN.out]
              exact ⟨0, rfl, (fun h => by cases h), ZOut.same H.out (Fr.refl _ _)⟩
          · go_wp2
            all_goals
              go_ret2
              rw [EN.out]
              exact ⟨0, rfl, (fun h => by cases h), ZOut.same H.out (Fr.refl _ _)⟩
        · clear hc
          go_wp2
          all_goals
            go_ret2
            rw [EN.out]
            exact ⟨0, rfl, (fun h => by cases h), ZOut.same H.out (Fr.refl _ _)⟩
      · have hjf1 : ((j : Int) == ((i + 2 : Nat) : Int)) = false := by simp; omega
        have hjf3 : ((j : Int) == (i : Int) + 1 + 1) = false := by simp; omega
        have hjf4 : ((j : Int) == (i : Int) + 2) = false := by simp; omega
        have EN : Hid (numP p i rs = ((j : Int) - i, (pushW (tI (wrap64 (-v))) rs).1, (pushW (tI (wrap64 (-v))) rs).2)) := by
          show _ = _
          unfold numP
          have ev : vP p i = (wrap64 (-v)) := by unfold vP; rw [HST.out, HD2.out]; rw [HSG.out]; rfl
          rw [ev, HST.out, HD2.out]; exact if_neg hjs
        have hvv : w64 ((wrap64 (-v))) := by exact w_out _
        rcases Nat.lt_or_ge j p.size with hc1 | hc1
        · have hb := bt_at hc1
          have hc2 : bt p j < 48 ∨ 57 < bt p j := by
            rcases Nat.lt_or_ge (bt p j) 48 with h5 | h5
            · exact Or.inl h5
            · exact Or.inr (by apply Nat.lt_of_not_le; exact fun h6 => hc ⟨hc1, h5, h6⟩)
          clear hc
          generalize bt p j = c at *
          rcases hc2 with hc2 | hc2
          · go_wp2_with (go_at_call 87; refine (mpushI H.out.st HW.out.1 hvv).mono ?_; rintro e w2 ⟨rfl, sl2, vs2, h2, m2⟩)
            all_goals
              go_ret2
              rw [EN.out]
              exact ⟨_, rfl, fun _ => rfl, ZOut.of H.out h2 m2⟩
          · go_wp2_with (go_at_call 87; refine (mpushI H.out.st HW.out.1 hvv).mono ?_; rintro e w2 ⟨rfl, sl2, vs2, h2, m2⟩)
            all_goals
              go_ret2
              rw [EN.out]
              exact ⟨_, rfl, fun _ => rfl, ZOut.of H.out h2 m2⟩
        · clear hc
          go_wp2_with (go_at_call 87; refine (mpushI H.out.st HW.out.1 hvv).mono ?_; rintro e w2 ⟨rfl, sl2, vs2, h2, m2⟩)
          all_goals
            go_ret2
            rw [EN.out]
            exact ⟨_, rfl, fun _ => rfl, ZOut.of H.out h2 m2⟩

theorem mnum_any {w : World} {M m : Nat} {sl : Value} {acc : Int} {rs : List Code} {vs : List (List Value)} (h : Mm w M m sl acc rs vs) (hw : Wf rs) (p : ByteArray) (hp : p.size ≤ 24) (i : Nat) (hi : i < p.size) :
    Calls Try.prog 86 #[.pointer (some ⟨M, 0, none⟩), .string p, .int .i64 i] w (NOutM w M m sl acc (numP p i rs)) := by
  cases hs : sgnP p i with
  | false => exact mnum_none h hw p hp i hi hs
  | true =>
    unfold sgnP at hs
    simp at hs
    rcases hs.2 with e | e
    · exact mnum_pos h hw p hp i hi hs.1 e
    · exact mnum_neg h hw p hp i hi hs.1 e
end Go.Proofs.Qxb6500336a
