import Derived.Test.Qxb6500341aW7
namespace Go.Proofs.Qxb6500341a
open Go.RowKit
set_option linter.unusedVariables false

theorem ret_three {a b c d e f : Int} (h1 : a = d) (h2 : b = e) (h3 : c = f) :
    Ending.returned (.tuple #[.int .i64 a, .int .i64 b, .int .i64 c]) = .returned (.tuple #[.int .i64 d, .int .i64 e, .int .i64 f]) := by rw [h1, h2, h3]

/-- What Test answers where it answers OK. -/
def okR (r way : Int) : Int := if r = way - 1 then 1 else 0

set_option maxHeartbeats 800000 in
theorem test_way (w : World) (b : Nat) (t : ByteArray) (way : Int) (hr : Real w b t) (h1 : way ≠ 1) (h2 : way ≠ 2) :
    Calls Try.prog 30 #[.pointer (some ⟨b, 0, none⟩), .int .i64 way] w fun e w' => e = .returned (.tuple #[.int .i64 0, .int .i64 0, .int .i64 3]) ∧ w' = w := by
  obtain ⟨l, m1, m2, hx, hinv⟩ := hr
  have hsz := hinv.size
  have HF : Hid (0 < l ↔ 0 ≤ fbI 10 t.data.toList) := hinv.fb
  have HX : Hid (Slp w b t l (-1) m1 m2) := hx
  have hg : ∀ x y, gd t.data.toList way x y = 3 := fun x y => gd_way h1 h2
  have H1 : Hid (way ≠ 1 ∧ way ≠ 2) := ⟨h1, h2⟩
  clear hx hinv h1 h2
  go_enter Try.func30, Try.ntmps30
  go_wp2_with (go_at_call 37; refine (guard_any _ b t l m1 m2 way _ _ HX.out (by omega) (fun h => absurd h (by have := H1.out; omega)) HF.out).mono ?_; rintro e w' ⟨rfl, rfl⟩)
  go_ret3
  exact ⟨ret_three rfl rfl rfl, rfl⟩

set_option maxHeartbeats 800000 in
theorem test_err (w : World) (b : Nat) (t : ByteArray) (way : Int) (hr : Real w b t) (hw : way = 1 ∨ way = 2) (hE : testE t way ≠ 0) :
    Calls Try.prog 30 #[.pointer (some ⟨b, 0, none⟩), .int .i64 way] w fun e w' => e = .returned (.tuple #[.int .i64 0, .int .i64 0, .int .i64 (testE t way)]) ∧ w' = w := by
  obtain ⟨l, m1, m2, hx, hinv⟩ := hr
  have hsz := hinv.size
  have HF : Hid (0 < l ↔ 0 ≤ fbI 10 t.data.toList) := hinv.fb
  have HX : Hid (Slp w b t l (-1) m1 m2) := hx
  clear hx hinv
  unfold testE at *
  rcases hw with rfl | rfl
  · have hne : (gd t.data.toList 1 2 0 != 0) = true := by rw [bne_iff_ne]; exact hE
    clear hE
    go_enter Try.func30, Try.ntmps30
    go_wp2_with (go_at_call 37; refine (guard_any _ b t l m1 m2 1 _ _ HX.out (by omega) (by omega) HF.out).mono ?_; rintro e w' ⟨rfl, rfl⟩)
    go_ret3
    exact ⟨ret_three rfl rfl rfl, rfl⟩
  · have hne : (gd t.data.toList 2 3 0 != 0) = true := by rw [bne_iff_ne]; exact hE
    clear hE
    go_enter Try.func30, Try.ntmps30
    go_wp2_with (go_at_call 37; refine (guard_any _ b t l m1 m2 2 _ _ HX.out (by omega) (by omega) HF.out).mono ?_; rintro e w' ⟨rfl, rfl⟩)
    go_ret3
    exact ⟨ret_three rfl rfl rfl, rfl⟩

theorem okR_yes {r way : Int} (h : r = way - 1) : okR r way = 1 := by simp [okR, h]
theorem okR_no {r way : Int} (h : r ≠ way - 1) : okR r way = 0 := by simp [okR, h]

set_option maxHeartbeats 800000 in
/-- The memo is filled. -/
theorem test_one_held (w : World) (b : Nat) (t : ByteArray) (l m2 : Int) (hx : Slp w b t l (-1) (luhnR 0 t.data.toList) m2) (hsz : t.size ≤ 32) (hfb : 0 < l ↔ 0 ≤ fbI 10 t.data.toList) (hE : testE t 1 = 0) :
    Calls Try.prog 30 #[.pointer (some ⟨b, 0, none⟩), .int .i64 1] w fun e w' => e = .returned (.tuple #[.int .i64 (okR (luhnR 0 t.data.toList) 1), .int .i64 (luhnR 0 t.data.toList), .int .i64 0]) ∧ w' = w := by
  have HF : Hid (0 < l ↔ 0 ≤ fbI 10 t.data.toList) := hfb
  have HX : Hid (Slp w b t l (-1) (luhnR 0 t.data.toList) m2) := hx
  have hg : gd t.data.toList 1 2 0 = 0 := hE
  have c3 := blk_cell hx 3
  have hlr := luhnR_bd 0 t.data.toList
  clear hx hE hfb
  generalize luhnR 0 t.data.toList = r at *
  have hne : (r == -1) = false := by rw [beq_eq_false_iff_ne]; omega
  go_enter Try.func30, Try.ntmps30
  go_wp2_with (go_at_call 37; refine (guard_any _ b t l r m2 1 _ _ HX.out (by omega) (by omega) HF.out).mono ?_; rintro e w' ⟨rfl, rfl⟩)
  · go_ret3
    have h := eq_of_beq ‹(r == 0) = true›
    exact ⟨ret_three (okR_yes (by omega)).symm rfl rfl, rfl⟩
  · go_ret3
    have h := ne_of_beq_false ‹(r == 0) = false›
    exact ⟨ret_three (okR_no (by omega)).symm rfl rfl, rfl⟩

set_option maxHeartbeats 800000 in
/-- The memo is filled. -/
theorem test_two_held (w : World) (b : Nat) (t : ByteArray) (l m1 : Int) (hx : Slp w b t l (-1) m1 (f97 0 t.data.toList)) (hsz : t.size ≤ 32) (hfb : 0 < l ↔ 0 ≤ fbI 10 t.data.toList) (hE : testE t 2 = 0) :
    Calls Try.prog 30 #[.pointer (some ⟨b, 0, none⟩), .int .i64 2] w fun e w' => e = .returned (.tuple #[.int .i64 (okR (f97 0 t.data.toList) 2), .int .i64 (f97 0 t.data.toList), .int .i64 0]) ∧ w' = w := by
  have HF : Hid (0 < l ↔ 0 ≤ fbI 10 t.data.toList) := hfb
  have HX : Hid (Slp w b t l (-1) m1 (f97 0 t.data.toList)) := hx
  have hg : gd t.data.toList 2 3 0 = 0 := hE
  have c3 := blk_cell hx 4
  have hlr := f97_bd 0 t.data.toList (by omega)
  clear hx hE hfb
  generalize f97 0 t.data.toList = r at *
  have hne : (r == -1) = false := by rw [beq_eq_false_iff_ne]; omega
  go_enter Try.func30, Try.ntmps30
  go_wp2_with (go_at_call 37; refine (guard_any _ b t l m1 r 2 _ _ HX.out (by omega) (by omega) HF.out).mono ?_; rintro e w' ⟨rfl, rfl⟩)
  · go_ret3
    have h := eq_of_beq ‹(r == 1) = true›
    exact ⟨ret_three (okR_yes (by omega)).symm rfl rfl, rfl⟩
  · go_ret3
    have h := ne_of_beq_false ‹(r == 1) = false›
    exact ⟨ret_three (okR_no (by omega)).symm rfl rfl, rfl⟩

set_option maxHeartbeats 800000 in
/-- The memo is empty. -/
theorem test_one_fill (w : World) (b : Nat) (t : ByteArray) (l m2 : Int) (hx : Slp w b t l (-1) (-1) m2) (hsz : t.size ≤ 32) (hfb : 0 < l ↔ 0 ≤ fbI 10 t.data.toList) (hD : allOk 10 t.data.toList) (hE : testE t 1 = 0) :
    Calls Try.prog 30 #[.pointer (some ⟨b, 0, none⟩), .int .i64 1] w fun e w' => e = .returned (.tuple #[.int .i64 (okR (luhnR 0 t.data.toList) 1), .int .i64 (luhnR 0 t.data.toList), .int .i64 0]) ∧ Slp w' b t l (-1) (luhnR 0 t.data.toList) m2 ∧ Fr [b] w w' := by
  have HF : Hid (0 < l ↔ 0 ≤ fbI 10 t.data.toList) := hfb
  have HX : Hid (Slp w b t l (-1) (-1) m2) := hx
  have HD : Hid (allOk 10 t.data.toList) := hD
  have hg : gd t.data.toList 1 2 0 = 0 := hE
  have c0 := blk_cell hx 0
  have c3 := blk_cell hx 3
  have hrl := rest1 t.data.toList
  have hlr := luhnR_bd 0 t.data.toList
  rw [← hrl] at hlr ⊢
  clear hx hE hfb hD hrl
  go_enter Try.func30, Try.ntmps30
  go_wp2_with (go_at_call 37; refine (guard_any _ b t l (-1) m2 1 _ _ HX.out (by omega) (by omega) HF.out).mono ?_; rintro e w' ⟨rfl, rfl⟩)
  go_region_with (go_at_call 36; refine (rest_any _ 1 _ (by omega) (Or.inl ⟨rfl, HD.out⟩)).mono ?_; rintro e w1 ⟨rfl, hf1⟩; have hx1 := hf1.keep HX.out (by simp); have c0' := blk_cell hx1 0; have c3' := blk_cell hx1 3; have f3' := blk_frozen hx1 3; have HX1 : Hid (Slp w1 b t l (-1) (-1) m2) := hx1; clear hx1 c0 c3)
  clear HD
  generalize hq : restA 1 t.data.toList = r at *
  have HQ : Hid (restA 1 t.data.toList = r) := hq
  clear hq
  have hfr : Fr [b] w' (w1.setCell ⟨b, 3, none⟩ (.int .i64 r)) := (((Fr.refl _ _).drew.trans hf1).widen).setCell (by simp) _
  have hxs : Slp (w1.setCell ⟨b, 3, none⟩ (.int .i64 r)) b t l (-1) r m2 := blk_set HX1.out 3 _
  go_wp2
  · go_ret3
    have h := eq_of_beq ‹(r == 0) = true›
    rw [HQ.out]; exact ⟨ret_three (okR_yes (by omega)).symm rfl rfl, hxs, hfr⟩
  · go_ret3
    have h := ne_of_beq_false ‹(r == 0) = false›
    rw [HQ.out]; exact ⟨ret_three (okR_no (by omega)).symm rfl rfl, hxs, hfr⟩

set_option maxHeartbeats 800000 in
/-- The memo is empty. -/
theorem test_two_fill (w : World) (b : Nat) (t : ByteArray) (l m1 : Int) (hx : Slp w b t l (-1) m1 (-1)) (hsz : t.size ≤ 32) (hfb : 0 < l ↔ 0 ≤ fbI 10 t.data.toList) (hD : allOk 36 t.data.toList) (hE : testE t 2 = 0) :
    Calls Try.prog 30 #[.pointer (some ⟨b, 0, none⟩), .int .i64 2] w fun e w' => e = .returned (.tuple #[.int .i64 (okR (f97 0 t.data.toList) 2), .int .i64 (f97 0 t.data.toList), .int .i64 0]) ∧ Slp w' b t l (-1) m1 (f97 0 t.data.toList) ∧ Fr [b] w w' := by
  have HF : Hid (0 < l ↔ 0 ≤ fbI 10 t.data.toList) := hfb
  have HX : Hid (Slp w b t l (-1) m1 (-1)) := hx
  have HD : Hid (allOk 36 t.data.toList) := hD
  have hg : gd t.data.toList 2 3 0 = 0 := hE
  have c0 := blk_cell hx 0
  have c3 := blk_cell hx 4
  have hrl := rest2 t.data.toList
  have hlr := f97_bd 0 t.data.toList (by omega)
  rw [← hrl] at hlr ⊢
  clear hx hE hfb hD hrl
  go_enter Try.func30, Try.ntmps30
  go_wp2_with (go_at_call 37; refine (guard_any _ b t l m1 (-1) 2 _ _ HX.out (by omega) (by omega) HF.out).mono ?_; rintro e w' ⟨rfl, rfl⟩)
  go_region_with (go_at_call 36; refine (rest_any _ 2 _ (by omega) (Or.inr ⟨rfl, HD.out⟩)).mono ?_; rintro e w1 ⟨rfl, hf1⟩; have hx1 := hf1.keep HX.out (by simp); have c0' := blk_cell hx1 0; have c3' := blk_cell hx1 4; have f3' := blk_frozen hx1 4; have HX1 : Hid (Slp w1 b t l (-1) m1 (-1)) := hx1; clear hx1 c0 c3)
  clear HD
  generalize hq : restA 2 t.data.toList = r at *
  have HQ : Hid (restA 2 t.data.toList = r) := hq
  clear hq
  have hfr : Fr [b] w' (w1.setCell ⟨b, 4, none⟩ (.int .i64 r)) := (((Fr.refl _ _).drew.trans hf1).widen).setCell (by simp) _
  have hxs : Slp (w1.setCell ⟨b, 4, none⟩ (.int .i64 r)) b t l (-1) m1 r := blk_set HX1.out 4 _
  go_wp2
  · go_ret3
    have h := eq_of_beq ‹(r == 1) = true›
    rw [HQ.out]; exact ⟨ret_three (okR_yes (by omega)).symm rfl rfl, hxs, hfr⟩
  · go_ret3
    have h := ne_of_beq_false ‹(r == 1) = false›
    rw [HQ.out]; exact ⟨ret_three (okR_no (by omega)).symm rfl rfl, hxs, hfr⟩

theorem test_any (w : World) (b : Nat) (t : ByteArray) (way : Int) (hr : Real w b t) :
    Calls Try.prog 30 #[.pointer (some ⟨b, 0, none⟩), .int .i64 way] w fun e w' => e = .returned (.tuple #[.int .i64 (testO t way), .int .i64 (testR t way), .int .i64 (testE t way)]) ∧ Real w' b t ∧ Fr [b] w w' := by
  by_cases hw : way = 1 ∨ way = 2
  · by_cases hE : testE t way = 0
    · have e1 : testO t way = okR (restA way t.data.toList) way := by simp [testO, hE, okR]
      have e2 : testR t way = restA way t.data.toList := by simp [testR, hE]
      rw [e1, e2, hE]
      obtain ⟨l, m1, m2, hx, hinv⟩ := hr
      rcases hw with rfl | rfl
      · rw [rest1]
        have hD := (gd_zero1 hE).2.2
        rcases hinv.luhn with rfl | ⟨_, rfl⟩
        · refine (test_one_fill w b t l m2 hx hinv.size hinv.fb hD hE).mono ?_
          rintro e w' ⟨rfl, h1, h2⟩
          exact ⟨rfl, ⟨l, _, m2, h1, ⟨hinv.size, hinv.law, hinv.lets, Or.inr ⟨hD, rfl⟩, hinv.by97⟩⟩, h2⟩
        · refine (test_one_held w b t l m2 hx hinv.size hinv.fb hE).mono ?_
          rintro e w' ⟨rfl, rfl⟩
          exact ⟨rfl, ⟨l, _, m2, hx, hinv⟩, Fr.refl _ _⟩
      · rw [rest2]
        rcases hinv.by97 with rfl | rfl
        · refine (test_two_fill w b t l m1 hx hinv.size hinv.fb hinv.law hE).mono ?_
          rintro e w' ⟨rfl, h1, h2⟩
          exact ⟨rfl, ⟨l, m1, _, h1, ⟨hinv.size, hinv.law, hinv.lets, hinv.luhn, Or.inr rfl⟩⟩, h2⟩
        · refine (test_two_held w b t l m1 hx hinv.size hinv.fb hE).mono ?_
          rintro e w' ⟨rfl, rfl⟩
          exact ⟨rfl, ⟨l, m1, _, hx, hinv⟩, Fr.refl _ _⟩
    · have e1 : testO t way = 0 := by simp [testO, hE]
      have e2 : testR t way = 0 := by simp [testR, hE]
      rw [e1, e2]
      refine (test_err w b t way hr hw hE).mono ?_
      rintro e w' ⟨rfl, rfl⟩
      exact ⟨rfl, hr, Fr.refl _ _⟩
  · have hE : testE t way = 3 := gd_way (by omega) (by omega)
    have e1 : testO t way = 0 := by simp [testO, hE]
    have e2 : testR t way = 0 := by simp [testR, hE]
    rw [e1, e2, hE]
    refine (test_way w b t way hr (by omega) (by omega)).mono ?_
    rintro e w' ⟨rfl, rfl⟩
    exact ⟨rfl, hr, Fr.refl _ _⟩

set_option maxHeartbeats 800000 in
theorem testm_way (w : World) (b : Nat) (t : ByteArray) (way : Int) (hr : Slm w b t) (hL : Law t) (h1 : way ≠ 1) (h2 : way ≠ 2) :
    Calls Try.prog 33 #[.pointer (some ⟨b, 0, none⟩), .int .i64 way] w fun e w' => e = .returned (.tuple #[.int .i64 0, .int .i64 0, .int .i64 3]) ∧ w' = w := by
  have hsz := hL.size
  have HX : Hid (Slm w b t) := hr
  have hg : ∀ x y, gd t.data.toList way x y = 3 := fun x y => gd_way h1 h2
  have H1 : Hid (way ≠ 1 ∧ way ≠ 2) := ⟨h1, h2⟩
  clear hr h1 h2 hL
  go_enter Try.func33, Try.ntmps33
  go_wp2_with (go_at_call 41; refine (guardm_any _ b t way _ _ HX.out (by omega) (fun h => absurd h (by have := H1.out; omega))).mono ?_; rintro e w' ⟨rfl, rfl⟩)
  go_ret3
  exact ⟨ret_three rfl rfl rfl, rfl⟩

set_option maxHeartbeats 800000 in
theorem testm_err (w : World) (b : Nat) (t : ByteArray) (way : Int) (hr : Slm w b t) (hL : Law t) (hw : way = 1 ∨ way = 2) (hE : testE t way ≠ 0) :
    Calls Try.prog 33 #[.pointer (some ⟨b, 0, none⟩), .int .i64 way] w fun e w' => e = .returned (.tuple #[.int .i64 0, .int .i64 0, .int .i64 (testE t way)]) ∧ w' = w := by
  have hsz := hL.size
  have HX : Hid (Slm w b t) := hr
  clear hr hL
  unfold testE at *
  rcases hw with rfl | rfl
  · have hne : (gd t.data.toList 1 2 0 != 0) = true := by rw [bne_iff_ne]; exact hE
    clear hE
    go_enter Try.func33, Try.ntmps33
    go_wp2_with (go_at_call 41; refine (guardm_any _ b t 1 _ _ HX.out (by omega) (by omega)).mono ?_; rintro e w' ⟨rfl, rfl⟩)
    go_ret3
    exact ⟨ret_three rfl rfl rfl, rfl⟩
  · have hne : (gd t.data.toList 2 3 0 != 0) = true := by rw [bne_iff_ne]; exact hE
    clear hE
    go_enter Try.func33, Try.ntmps33
    go_wp2_with (go_at_call 41; refine (guardm_any _ b t 2 _ _ HX.out (by omega) (by omega)).mono ?_; rintro e w' ⟨rfl, rfl⟩)
    go_ret3
    exact ⟨ret_three rfl rfl rfl, rfl⟩

set_option maxHeartbeats 800000 in
theorem testm_ok (w : World) (b : Nat) (t : ByteArray) (way : Int) (hr : Slm w b t) (hL : Law t) (hw : way = 1 ∧ allOk 10 t.data.toList ∨ way = 2 ∧ allOk 36 t.data.toList) (hE : testE t way = 0) :
    Calls Try.prog 33 #[.pointer (some ⟨b, 0, none⟩), .int .i64 way] w fun e w' => e = .returned (.tuple #[.int .i64 (okR (restA way t.data.toList) way), .int .i64 (restA way t.data.toList), .int .i64 0]) ∧ Fr [] w w' := by
  have hsz := hL.size
  have c0 := blk_cell hr 0
  have HX : Hid (Slm w b t) := hr
  clear hr hL
  unfold testE at *
  rcases hw with ⟨rfl, hD⟩ | ⟨rfl, hD⟩
  · have hg : gd t.data.toList 1 2 0 = 0 := hE
    clear hE
    go_enter Try.func33, Try.ntmps33
    go_wp2_with (first
      | (go_at_call 41; refine (guardm_any _ b t 1 _ _ HX.out (by omega) (by omega)).mono ?_; rintro e w' ⟨rfl, rfl⟩)
      | (go_at_call 42; refine (restm_any _ 1 _ (by omega) (Or.inl ⟨rfl, hD⟩)).mono ?_; rintro e w1 ⟨rfl, hf1⟩))
    · go_ret3
      have h := eq_of_beq ‹(restA 1 t.data.toList == 0) = true›
      exact ⟨ret_three (okR_yes (by omega)).symm rfl rfl, hf1⟩
    · go_ret3
      have h := ne_of_beq_false ‹(restA 1 t.data.toList == 0) = false›
      exact ⟨ret_three (okR_no (by omega)).symm rfl rfl, hf1⟩
  · have hg : gd t.data.toList 2 3 0 = 0 := hE
    clear hE
    go_enter Try.func33, Try.ntmps33
    go_wp2_with (first
      | (go_at_call 41; refine (guardm_any _ b t 2 _ _ HX.out (by omega) (by omega)).mono ?_; rintro e w' ⟨rfl, rfl⟩)
      | (go_at_call 42; refine (restm_any _ 2 _ (by omega) (Or.inr ⟨rfl, hD⟩)).mono ?_; rintro e w1 ⟨rfl, hf1⟩))
    · go_ret3
      have h := eq_of_beq ‹(restA 2 t.data.toList == 1) = true›
      exact ⟨ret_three (okR_yes (by omega)).symm rfl rfl, hf1⟩
    · go_ret3
      have h := ne_of_beq_false ‹(restA 2 t.data.toList == 1) = false›
      exact ⟨ret_three (okR_no (by omega)).symm rfl rfl, hf1⟩

theorem testm_any (w : World) (b : Nat) (t : ByteArray) (way : Int) (hr : Slm w b t) (hL : Law t) :
    Calls Try.prog 33 #[.pointer (some ⟨b, 0, none⟩), .int .i64 way] w fun e w' => e = .returned (.tuple #[.int .i64 (testO t way), .int .i64 (testR t way), .int .i64 (testE t way)]) ∧ Slm w' b t ∧ Fr [b] w w' := by
  by_cases hw : way = 1 ∨ way = 2
  · by_cases hE : testE t way = 0
    · have e1 : testO t way = okR (restA way t.data.toList) way := by simp [testO, hE, okR]
      have e2 : testR t way = restA way t.data.toList := by simp [testR, hE]
      rw [e1, e2, hE]
      refine (testm_ok w b t way hr hL ?_ hE).mono ?_
      · rcases hw with rfl | rfl
        · exact Or.inl ⟨rfl, (gd_zero1 hE).2.2⟩
        · exact Or.inr ⟨rfl, hL.law⟩
      · rintro e w' ⟨rfl, h⟩
        exact ⟨rfl, hr.keep h (by simp), h.widen⟩
    · have e1 : testO t way = 0 := by simp [testO, hE]
      have e2 : testR t way = 0 := by simp [testR, hE]
      rw [e1, e2]
      refine (testm_err w b t way hr hL hw hE).mono ?_
      rintro e w' ⟨rfl, rfl⟩
      exact ⟨rfl, hr, Fr.refl _ _⟩
  · have hE : testE t way = 3 := gd_way (by omega) (by omega)
    have e1 : testO t way = 0 := by simp [testO, hE]
    have e2 : testR t way = 0 := by simp [testR, hE]
    rw [e1, e2, hE]
    refine (testm_way w b t way hr hL (by omega) (by omega)).mono ?_
    rintro e w' ⟨rfl, rfl⟩
    exact ⟨rfl, hr, Fr.refl _ _⟩

set_option maxHeartbeats 800000 in
theorem checkm_any (w : World) (b : Nat) (t : ByteArray) (hr : Slm w b t) (hL : Law t) :
    Calls Try.prog 34 #[.pointer (some ⟨b, 0, none⟩)] w fun e w' => e = .returned (.bool true) ∧ w' = w := by
  have hsz := hL.size
  have c0 := blk_cell hr 0
  have hfb : fbI 36 t.data.toList = -1 := fbI_all hL.law
  clear hr hL
  go_enter Try.func34, Try.ntmps34
  go_wp2_with (go_at_call 40; refine (bad_any _ _ _ (by omega) (by omega) (by omega)).mono ?_; rintro e w' ⟨rfl, rfl⟩)
  go_ret
  exact ⟨rfl, rfl⟩

end Go.Proofs.Qxb6500341a
