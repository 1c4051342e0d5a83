import Derived.Test.Qxb6500341aW1
namespace Go.Proofs.Qxb6500341a
open Go.RowKit
set_option linter.unusedVariables false

theorem gd_way {t : List UInt8} {way least room : Int} (h1 : way ≠ 1) (h2 : way ≠ 2) : gd t way least room = 3 := by simp [gd, h1, h2]

theorem len_list (t : ByteArray) : t.data.toList.length = t.size := by simp

theorem gd1 (t : ByteArray) (least room : Int) : gd t.data.toList 1 least room =
    if (t.size : Int) < least then 4 else if 32 < (t.size : Int) + room then 5 else if 0 ≤ fbI 10 t.data.toList then 6 else 0 := by
  simp [gd]

theorem gd2 (t : ByteArray) (least room : Int) : gd t.data.toList 2 least room =
    if (t.size : Int) < least then 4 else if 32 < (t.size : Int) + room then 5 else 0 := by
  simp [gd]

set_option maxHeartbeats 400000 in
theorem guard_any (w : World) (b : Nat) (t : ByteArray) (l m1 m2 way least room : Int) (hx : Slp w b t l (-1) m1 m2) (hsz : t.size ≤ 1000)
    (hlr : (way = 1 ∨ way = 2) → 0 ≤ least ∧ least ≤ 3 ∧ 0 ≤ room ∧ room ≤ 2) (hlet : 0 < l ↔ 0 ≤ fbI 10 t.data.toList) :
    Calls Try.prog 37 #[.pointer (some ⟨b, 0, none⟩), .int .i64 way, .int .i64 least, .int .i64 room] w fun e w' => e = .returned (.int .i64 (gd t.data.toList way least room)) ∧ w' = w := by
  have c0 := blk_cell hx 0
  have c1 := blk_cell hx 1
  by_cases h1 : way = 1
  · obtain ⟨ha, hb, hc, hd⟩ := hlr (Or.inl h1)
    have HG : Hid (gd t.data.toList 1 least room = _) := gd1 t least room
    have HL : Hid (0 < l ↔ 0 ≤ fbI 10 t.data.toList) := hlet
    clear hlet hlr hx
    subst h1
    go_enter Try.func37, Try.ntmps37
    go_wp2
    all_goals
      go_ret
      have h3 := HL.out
      exact ⟨ret_int (by rw [HG.out]; (repeat' split) <;> omega), rfl⟩
  · by_cases h2 : way = 2
    · obtain ⟨ha, hb, hc, hd⟩ := hlr (Or.inr h2)
      have HG : Hid (gd t.data.toList 2 least room = _) := gd2 t least room
      clear hlet hlr hx h1
      subst h2
      go_enter Try.func37, Try.ntmps37
      go_wp2
      all_goals
        go_ret
        exact ⟨ret_int (by rw [HG.out]; (repeat' split) <;> omega), rfl⟩
    · have HG : Hid (gd t.data.toList way least room = 3) := gd_way h1 h2
      have e1 : (way != 1) = true := by rw [bne_iff_ne]; exact h1
      have e2 : (way != 2) = true := by rw [bne_iff_ne]; exact h2
      clear hlet hlr hx h1 h2
      go_enter Try.func37, Try.ntmps37
      go_wp2
      go_ret
      exact ⟨ret_int HG.out.symm, rfl⟩

set_option maxHeartbeats 400000 in
theorem guardm_any (w : World) (b : Nat) (t : ByteArray) (way least room : Int) (hx : Slm w b t) (hsz : t.size ≤ 1000)
    (hlr : (way = 1 ∨ way = 2) → 0 ≤ least ∧ least ≤ 3 ∧ 0 ≤ room ∧ room ≤ 2) :
    Calls Try.prog 41 #[.pointer (some ⟨b, 0, none⟩), .int .i64 way, .int .i64 least, .int .i64 room] w fun e w' => e = .returned (.int .i64 (gd t.data.toList way least room)) ∧ w' = w := by
  have c0 := blk_cell hx 0
  by_cases h1 : way = 1
  · obtain ⟨ha, hb, hc, hd⟩ := hlr (Or.inl h1)
    have HG : Hid (gd t.data.toList 1 least room = _) := gd1 t least room
    clear hlr hx
    subst h1
    go_enter Try.func41, Try.ntmps41
    go_wp2_with (go_at_call 40; refine (bad_any _ _ _ (by omega) (by omega) (by omega)).mono ?_; rintro e w' ⟨rfl, rfl⟩)
    all_goals
      go_ret
      exact ⟨ret_int (by rw [HG.out]; (repeat' split) <;> omega), rfl⟩
  · by_cases h2 : way = 2
    · obtain ⟨ha, hb, hc, hd⟩ := hlr (Or.inr h2)
      have HG : Hid (gd t.data.toList 2 least room = _) := gd2 t least room
      clear hlr hx h1
      subst h2
      go_enter Try.func41, Try.ntmps41
      go_wp2_with (go_at_call 40; refine (bad_any _ _ _ (by omega) (by omega) (by omega)).mono ?_; rintro e w' ⟨rfl, rfl⟩)
      all_goals
        go_ret
        exact ⟨ret_int (by rw [HG.out]; (repeat' split) <;> omega), rfl⟩
    · have HG : Hid (gd t.data.toList way least room = 3) := gd_way h1 h2
      have e1 : (way != 1) = true := by rw [bne_iff_ne]; exact h1
      have e2 : (way != 2) = true := by rw [bne_iff_ne]; exact h2
      clear hlr hx h1 h2
      go_enter Try.func41, Try.ntmps41
      go_wp2
      go_ret
      exact ⟨ret_int HG.out.symm, rfl⟩

set_option maxHeartbeats 400000 in
theorem fit_any (w : World) (t : ByteArray) (way least room : Int) (hsz : t.size ≤ 1000)
    (hlr : (way = 1 ∨ way = 2) → 0 ≤ least ∧ least ≤ 3 ∧ 0 ≤ room ∧ room ≤ 2) :
    Calls Try.prog 21 #[.int .i64 way, .string t, .int .i64 least, .int .i64 room] w fun e w' => e = .returned (.int .i64 (gd t.data.toList way least room)) ∧ w' = w := by
  by_cases h1 : way = 1
  · obtain ⟨ha, hb, hc, hd⟩ := hlr (Or.inl h1)
    have HG : Hid (gd t.data.toList 1 least room = _) := gd1 t least room
    clear hlr
    subst h1
    go_enter Try.func21, Try.ntmps21
    go_wp2_with (go_at_call 20; refine (first_any _ _ _ (by omega) (by omega) (by omega)).mono ?_; rintro e w' ⟨rfl, rfl⟩)
    all_goals
      go_ret
      exact ⟨ret_int (by rw [HG.out]; (repeat' split) <;> omega), rfl⟩
  · by_cases h2 : way = 2
    · obtain ⟨ha, hb, hc, hd⟩ := hlr (Or.inr h2)
      have HG : Hid (gd t.data.toList 2 least room = _) := gd2 t least room
      clear hlr h1
      subst h2
      go_enter Try.func21, Try.ntmps21
      go_wp2_with (go_at_call 20; refine (first_any _ _ _ (by omega) (by omega) (by omega)).mono ?_; rintro e w' ⟨rfl, rfl⟩)
      all_goals
        go_ret
        exact ⟨ret_int (by rw [HG.out]; (repeat' split) <;> omega), rfl⟩
    · have HG : Hid (gd t.data.toList way least room = 3) := gd_way h1 h2
      have e1 : (way != 1) = true := by rw [bne_iff_ne]; exact h1
      have e2 : (way != 2) = true := by rw [bne_iff_ne]; exact h2
      clear hlr h1 h2
      go_enter Try.func21, Try.ntmps21
      go_wp2
      go_ret
      exact ⟨ret_int HG.out.symm, rfl⟩

end Go.Proofs.Qxb6500341a
