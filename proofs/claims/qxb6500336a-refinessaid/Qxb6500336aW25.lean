import Derived.Test.Qxb6500336aW24
namespace Go.Proofs.Qxb6500336a
open Go.RowKit
set_option linter.unusedVariables false
set_option linter.unusedSimpArgs false

def stLen (w : World) (S : Nat) : Nat := match w.cell? ⟨S, 0, none⟩ with | some (.slice _ n _) => n | _ => 0
theorem stLen_eq {w : World} {S : Nat} {sl : Value} {rs : List Code} (h : St w S sl rs) : stLen w S = rs.length := by
  obtain ⟨us, h1, h2⟩ := h
  have c0 := blk_cell h1.obj 0
  simp at c0
  obtain ⟨p, cap, rfl⟩ := h1.len
  unfold stLen
  rw [c0]
  exact h2.len

set_option maxHeartbeats 3200000 in
set_option maxRecDepth 100000 in
theorem step_semi {w : World} {M S : Nat} {sl : Value} {acc : Int} {rs : List Code} (h : Mc w M S sl acc rs) (hw : Wf rs) (p : ByteArray) (hp : p.size ≤ 24) (i : Nat) (hi : i < p.size) (hc : bt p i = 59) :
    Calls Try.prog 33 #[.pointer (some ⟨M, 0, none⟩), .string p, .int .i64 i] w (SOut w M S sl (1, 0, acc, [])) := by
  have H : Hid (Mc w M S sl acc rs) := h
  have HW : Hid (Wf rs) := hw
  have c0 := blk_cell h.obj 0
  simp [mch] at c0
  have hb := bt_at hi
  have q1 := nqf_nil
  rw [hc] at hb
  clear h hw hc
  go_enter Try.func33, Try.ntmps33
  go_wp2
  go_loopw [82] (fun _ wr => ∃ rs' sl', Hid (Mc wr M S sl' acc rs') ∧ Hid (Wf rs') ∧ Hid (Mw w wr M S sl sl')) (fun _ wr => stLen wr S)
  case atStart => exact ⟨rs, sl, H, HW, Mw.refl _ _ _ _⟩
  case round =>
    obtain ⟨rs', sl', HM, HW', HV⟩ := hrel
    have c1 := blk_cell HM.out.obj 0
    simp [mch] at c1
    obtain ⟨us, h1, h2⟩ := HM.out.st
    have H1 : Hid (Stv wr S sl' us false) := h1
    have H2 : Hid (Shs wr rs' us) := h2
    clear h1
    cases rs' with
    | nil =>
      cases h2.nil
      clear h2
      go_wp2_with (go_at_call 52; refine (depth_any H1.out).mono ?_; rintro e w1 ⟨rfl, hf1⟩; simp only [List.length_nil, Int.natCast_zero])
      go_ret2
      exact ⟨rfl, sl', HM.out.keep0 hf1, HV.out.trans (Mw.ofFr hf1)⟩
    | cons t ts =>
      obtain ⟨u, us', rfl, h3, h4⟩ := h2.cons
      have hl4 : us'.length ≤ 4 := by have := h4.len; have := HW'.out.1; simp at this; omega
      have HWT : Hid (Wf ts) := ⟨by have := HW'.out.1; simp at this; omega, fun x hx => HW'.out.2 x (by simp [hx])⟩
      clear h2 h3 h4
      have hpos : (0 : Int) < ((us'.length + 1 : Nat) : Int) := by omega
      go_wp2_with (first | (go_at_call 52; refine (depth_any H1.out).mono ?_; rintro e w1 ⟨rfl, hf1⟩; simp only [List.length_cons]; have hM1 := HM.out.keep0 hf1; have c2 := blk_cell hM1.obj 0; simp [mch] at c2; have HM1 : Hid _ := hM1; clear hM1) | (go_at_call 49; refine (drop_any HM1.out.st HW'.out).mono ?_; rintro e w2 ⟨rfl, sl2, h2, m2⟩))
      go_roundw
      case rel => exact ⟨ts, sl2, HM1.out.keepM m2 h2, HWT, HV.out.trans ((Mw.ofFr hf1).trans (Mw.ofMv m2))⟩
      case measure =>
        rw [stLen_eq HM.out.st, stLen_eq h2]
        show ts.length < _; simp

set_option maxHeartbeats 3200000 in
set_option maxRecDepth 100000 in
theorem step_bang {w : World} {M S : Nat} {sl : Value} {acc : Int} {rs : List Code} (h : Mc w M S sl acc rs) (hw : Wf rs) (p : ByteArray) (hp : p.size ≤ 24) (i : Nat) (hi : i < p.size) (hc : bt p i = 33) :
    Calls Try.prog 33 #[.pointer (some ⟨M, 0, none⟩), .string p, .int .i64 i] w (SOut w M S sl (1, 0, 0, [])) := by
  have H : Hid (Mc (w.setCell ⟨M, 1, none⟩ (.int .i64 0)) M S sl 0 rs) := h.setAcc (by unfold w64; omega)
  have HV0 : Hid (Mw w (w.setCell ⟨M, 1, none⟩ (.int .i64 0)) M S sl sl) := Mw.setM _ _ _ _ _ _
  have HW : Hid (Wf rs) := hw
  have c0 := blk_cell h.obj 0
  have ca := blk_cell h.obj 1
  have fa := blk_frozen h.obj 1
  simp [mch] at c0 ca
  have hb := bt_at hi
  have q1 := nqf_nil
  rw [hc] at hb
  clear h hw hc
  go_enter Try.func33, Try.ntmps33
  go_wp2
  go_loopw [82] (fun _ wr => ∃ rs' sl', Hid (Mc wr M S sl' 0 rs') ∧ Hid (Wf rs') ∧ Hid (Mw w wr M S sl sl')) (fun _ wr => stLen wr S)
  case atStart => exact ⟨rs, sl, H, HW, HV0⟩
  case round =>
    obtain ⟨rs', sl', HM, HW', HV⟩ := hrel
    have c1 := blk_cell HM.out.obj 0
    simp [mch] at c1
    obtain ⟨us, h1, h2⟩ := HM.out.st
    have H1 : Hid (Stv wr S sl' us false) := h1
    have H2 : Hid (Shs wr rs' us) := h2
    clear h1
    cases rs' with
    | nil =>
      cases h2.nil
      clear h2
      go_wp2_with (go_at_call 52; refine (depth_any H1.out).mono ?_; rintro e w1 ⟨rfl, hf1⟩; simp only [List.length_nil, Int.natCast_zero])
      go_ret2
      exact ⟨rfl, sl', HM.out.keep0 hf1, HV.out.trans (Mw.ofFr hf1)⟩
    | cons t ts =>
      obtain ⟨u, us', rfl, h3, h4⟩ := h2.cons
      have hl4 : us'.length ≤ 4 := by have := h4.len; have := HW'.out.1; simp at this; omega
      have HWT : Hid (Wf ts) := ⟨by have := HW'.out.1; simp at this; omega, fun x hx => HW'.out.2 x (by simp [hx])⟩
      clear h2 h3 h4
      have hpos : (0 : Int) < ((us'.length + 1 : Nat) : Int) := by omega
      go_wp2_with (first | (go_at_call 52; refine (depth_any H1.out).mono ?_; rintro e w1 ⟨rfl, hf1⟩; simp only [List.length_cons]; have hM1 := HM.out.keep0 hf1; have c2 := blk_cell hM1.obj 0; simp [mch] at c2; have HM1 : Hid _ := hM1; clear hM1) | (go_at_call 49; refine (drop_any HM1.out.st HW'.out).mono ?_; rintro e w2 ⟨rfl, sl2, h2, m2⟩))
      go_roundw
      case rel => exact ⟨ts, sl2, HM1.out.keepM m2 h2, HWT, HV.out.trans ((Mw.ofFr hf1).trans (Mw.ofMv m2))⟩
      case measure =>
        rw [stLen_eq HM.out.st, stLen_eq h2]
        show ts.length < _; simp

theorem step_any {w : World} {M S : Nat} {sl : Value} {acc : Int} {rs : List Code} (h : Mc w M S sl acc rs) (hw : Wf rs) (p : ByteArray) (hp : p.size ≤ 24) (i : Nat) (hi : i < p.size) :
    Calls Try.prog 33 #[.pointer (some ⟨M, 0, none⟩), .string p, .int .i64 i] w (SOut w M S sl (stepP p i acc rs)) := by
  by_cases h1 : 97 ≤ bt p i ∧ bt p i ≤ 122
  · by_cases e1 : bt p i = 97; · exact step_add h hw p hp i hi e1
    by_cases e2 : bt p i = 99; · exact step_cons h hw p hp i hi e2
    by_cases e3 : bt p i = 100; · exact step_dup h hw p hp i hi e3
    by_cases e4 : bt p i = 102; · exact step_find h hw p hp i hi e4
    by_cases e5 : bt p i = 108; · exact step_len h hw p hp i hi e5
    by_cases e6 : bt p i = 110; · exact step_neg h hw p hp i hi e6
    by_cases e7 : bt p i = 112; · exact step_pair h hw p hp i hi e7
    by_cases e8 : bt p i = 115; · exact step_fold h hw p hp i hi e8
    by_cases e9 : bt p i = 120; · exact step_drop h hw p hp i hi e9
    exact step_lowno h hw p hp i hi h1.1 h1.2 e1 e2 e3 e4 e5 e6 e7 e8 e9
  · by_cases h2 : 65 ≤ bt p i ∧ bt p i ≤ 90
    · by_cases e1 : bt p i = 83; · exact step_mset h hw p hp i hi e1
      by_cases e2 : bt p i = 71; · exact step_mget h hw p hp i hi e2
      by_cases e3 : bt p i = 68; · exact step_mdiv h hw p hp i hi e3
      by_cases e4 : bt p i = 77; · exact step_mmod h hw p hp i hi e4
      exact step_upno h hw p hp i hi h2.1 h2.2 e1 e2 e3 e4
    · by_cases h3 : 48 ≤ bt p i ∧ bt p i ≤ 57
      · exact step_dig h hw p hp i hi h3.1 h3.2
      · by_cases e1 : bt p i = 33
        · have es : stepP p i acc rs = (1, 0, 0, []) := by unfold stepP; rw [e1]; rfl
          rw [es]; exact step_bang h hw p hp i hi e1
        by_cases e2 : bt p i = 59
        · have es : stepP p i acc rs = (1, 0, acc, []) := by unfold stepP; rw [e2]; rfl
          rw [es]; exact step_semi h hw p hp i hi e2
        by_cases e3 : bt p i = 91; · exact step_list h hw p hp i hi e3
        by_cases e4 : bt p i = 35; · exact step_num h hw p hp i hi e4
        by_cases e5 : bt p i = 39; · exact step_letter h hw p hp i hi e5
        exact step_no h hw p hp i hi h1 h2 h3 e1 e2 e3 e4 e5
end Go.Proofs.Qxb6500336a
