import Derived.Test.Qxb6500339aW7
namespace Go.Proofs.Qxb6500339a
open Go.RowKit
set_option linter.unusedVariables false
set_option linter.unusedSimpArgs false

set_option maxHeartbeats 6400000 in
set_option maxRecDepth 100000 in
theorem transfer_any (N : Nat) (w : World) (k p d : Nat) (R : List Nat) (n : Nat → Bl) (B : Nat → Int) (h : Dr N w d R n n []) (ht : Tw w k p d R) (hr : Rec n n [] B B) (f t v : Int) :
    Calls Try.prog 36 #[.pointer (some ⟨k, 0, none⟩), .int .i64 f, .int .i64 t, .int .i64 v] w fun e w' => e = .returned (.int .i64 (trE B f t v)) ∧ ∃ R' n' l', To N w w' d R R' n' n l' ∧ Rec n n' l' B (trS B f t v) := by
  have HD : Hid (Dr N w d R n n []) := h
  have HT : Hid (Tw w k p d R) := ht
  have HR : Hid (Rec n n [] B B) := hr
  have kc := ht.bk.c
  clear h ht hr
  by_cases h1 : 0 ≤ f ∧ f < 4
  · obtain ⟨x, rfl⟩ : ∃ x : Nat, f = x := ⟨f.toNat, by omega⟩
    have hx : x < 4 := by omega
    have hxi : (x : Int) < 4 := by omega
    have bx := HR.out.ok x hx
    have HMx : Hid (n (3 + x) = enc (B x)) := by
      show _ = _; have := HR.out.good.hm x (by omega); rw [show hv B x = B x from by unfold hv; rw [if_neg (by omega)]] at this; exact this
    by_cases h2 : 0 ≤ t ∧ t < 4
    · obtain ⟨y, rfl⟩ : ∃ y : Nat, t = y := ⟨t.toNat, by omega⟩
      have hy : y < 4 := by omega
      have hyi : (y : Int) < 4 := by omega
      have by' := HR.out.ok y hy
      have HMy : Hid (n (3 + y) = enc (B y)) := by
        show _ = _; have := HR.out.good.hm y (by omega); rw [show hv B y = B y from by unfold hv; rw [if_neg (by omega)]] at this; exact this
      by_cases h3 : (x : Int) = y
      · have d3 : ((x : Int) == (y : Int)) = true := beq_iff_eq.2 h3
        have HE : Hid (trE B x y v = 2) := by show _ = _; unfold trE; rw [if_pos h1, if_pos h2, if_pos h3]
        have HS : Hid (trS B x y v = B) := by show _ = _; unfold trS; rw [HE.out]; rfl
        clear kc
        clear h3
        go_enter Try.func36, Try.ntmps36
        go_wp2
        go_ret
        exact ⟨ret_int HE.out.symm, R, n, [], To.same HD.out (Fr.refl _ _), by rw [HS.out]; exact HR.out⟩
      · have hne : x ≠ y := by omega
        have d3 : ((x : Int) == (y : Int)) = false := beq_eq_false_iff_ne.2 h3
        by_cases h4 : v ≤ 0
        · have HE : Hid (trE B x y v = 3) := by show _ = _; unfold trE; rw [if_pos h1, if_pos h2, if_neg h3, if_pos h4]
          have HS : Hid (trS B x y v = B) := by show _ = _; unfold trS; rw [HE.out]; rfl
          clear kc
          go_enter Try.func36, Try.ntmps36
          go_wp2
          go_ret
          exact ⟨ret_int HE.out.symm, R, n, [], To.same HD.out (Fr.refl _ _), by rw [HS.out]; exact HR.out⟩
        by_cases h5 : B x < v
        · have HE : Hid (trE B x y v = 4) := by show _ = _; unfold trE; rw [if_pos h1, if_pos h2, if_neg h3, if_neg h4]; simp only [Int.toNat_natCast]; rw [if_pos h5]
          have HS : Hid (trS B x y v = B) := by show _ = _; unfold trS; rw [HE.out]; rfl
          clear kc
          go_enter Try.func36, Try.ntmps36
          go_wp2_with fail
          go_at_call 38
          refine (at_from N w _ k p d R n n [] HD.out HT.out (Fr.refl _ _) x (by omega) _ rfl (B x) HMx.out bx.1 (by omega)).mono ?_
          rintro e w1 ⟨rfl, hf1⟩
          go_wp2
          go_ret
          exact ⟨ret_int HE.out.symm, R, n, [], To.same HD.out hf1, by rw [HS.out]; exact HR.out⟩
        by_cases h6 : 1000 - B y < v
        · have HE : Hid (trE B x y v = 5) := by show _ = _; unfold trE; rw [if_pos h1, if_pos h2, if_neg h3, if_neg h4]; simp only [Int.toNat_natCast]; rw [if_neg h5, if_pos h6]
          have HS : Hid (trS B x y v = B) := by show _ = _; unfold trS; rw [HE.out]; rfl
          clear kc
          go_enter Try.func36, Try.ntmps36
          go_wp2_with fail
          go_at_call 38
          refine (at_from N w _ k p d R n n [] HD.out HT.out (Fr.refl _ _) x (by omega) _ rfl (B x) HMx.out bx.1 (by omega)).mono ?_
          rintro e w1 ⟨rfl, hf1⟩
          go_wp2_with fail
          go_at_call 38
          refine (at_from N w _ k p d R n n [] HD.out HT.out hf1 y (by omega) _ rfl (B y) HMy.out by'.1 (by omega)).mono ?_
          rintro e w2 ⟨rfl, hf2⟩
          go_wp2
          go_ret
          exact ⟨ret_int HE.out.symm, R, n, [], To.same HD.out hf2, by rw [HS.out]; exact HR.out⟩
        have HE : Hid (trE B x y v = 0) := by show _ = _; unfold trE; rw [if_pos h1, if_pos h2, if_neg h3, if_neg h4]; simp only [Int.toNat_natCast]; rw [if_neg h5, if_neg h6]
        have HS : Hid (trS B x y v = upd (upd B x (B x - v)) y (B y + v)) := by show _ = _; unfold trS; rw [if_pos HE.out]; simp only [Int.toNat_natCast]
        clear kc
        go_enter Try.func36, Try.ntmps36
        go_wp2_with fail
        go_at_call 38
        refine (at_from N w _ k p d R n n [] HD.out HT.out (Fr.refl _ _) x (by omega) _ rfl (B x) HMx.out bx.1 (by omega)).mono ?_
        rintro e w1 ⟨rfl, hf1⟩
        go_wp2_with fail
        go_at_call 38
        refine (at_from N w _ k p d R n n [] HD.out HT.out hf1 y (by omega) _ rfl (B y) HMy.out by'.1 (by omega)).mono ?_
        rintro e w2 ⟨rfl, hf2⟩
        clear hf1
        have kc : w2.cell? ⟨k, 0, none⟩ = some (.pointer (some ⟨p, 0, none⟩)) := (HT.out.keep0 hf2).bk.c
        go_wp2_with fail
        go_region_held3 (fun w' => w'.cell? ⟨k, 0, none⟩ = some (.pointer (some ⟨p, 0, none⟩))) (go_keep)
          (first
            | (go_at_call_of 38 (Value.int IntKind.i64 (x : Int)); refine (at_from N w _ k p d R n n [] HD.out HT.out (by first | assumption | (refine Fr.drew ?_; assumption)) x (by omega) _ rfl (B x) HMx.out bx.1 (by omega)).mono ?_; rintro e w2 ⟨rfl, hf2⟩; have kc : w2.cell? ⟨k, 0, none⟩ = some (.pointer (some ⟨p, 0, none⟩)) := (HT.out.keep0 hf2).bk.c)
            | (go_at_call_of 38 (Value.int IntKind.i64 (y : Int)); refine (at_from N w _ k p d R n n [] HD.out HT.out (by first | assumption | (refine Fr.drew ?_; assumption)) y (by omega) _ rfl (B y) HMy.out by'.1 (by omega)).mono ?_; rintro e w2 ⟨rfl, hf2⟩; have kc : w2.cell? ⟨k, 0, none⟩ = some (.pointer (some ⟨p, 0, none⟩)) := (HT.out.keep0 hf2).bk.c)
            | (go_at_call 40; rw [wrap_id _ (by omega) (by omega)]; refine (encode_from w _ (by first | assumption | (refine Fr.drew ?_; assumption)) _ (by omega) (by omega)).mono ?_; rintro e w2 ⟨rfl, hf2⟩; have kc : w2.cell? ⟨k, 0, none⟩ = some (.pointer (some ⟨p, 0, none⟩)) := (HT.out.keep0 hf2).bk.c)
            | (go_at_call 39; refine (put_from N w _ p d R n n HD.out HT.out.pp HT.out.pR (by first | assumption | (refine Fr.drew ?_; assumption)) x y (by omega) (by omega) (by omega) _ _ _ rfl).mono ?_; rintro e w3 ⟨rfl, t3⟩; have T3 : Hid (At N w w3 d R (app n (putW x (enc (B x - v)) y (enc (B y + v)))) n (putW x (enc (B x - v)) y (enc (B y + v)))) := t3; clear t3; have kc : w3.cell? ⟨k, 0, none⟩ = some (.pointer (some ⟨p, 0, none⟩)) := Bk.c (T3.out.other HT.out.bk HT.out.kR)))
        all_goals
          go_wp2
          go_ret
          obtain ⟨R', hto⟩ := T3.out.to
          refine ⟨ret_int HE.out.symm, R', _, _, hto, ?_⟩
          rw [HS.out]
          have := HR.out.put (B' := upd (upd B x (B x - v)) y (B y + v)) (a := x) (b := y) (OkB.tr (v := v) HR.out.ok hx hy hne (by omega) (by omega) (by omega)) (by omega) (by omega) (by omega) (hv_tr hx hy hne).2.2
          rw [(hv_tr hx hy hne).1, (hv_tr hx hy hne).2.1] at this
          exact this
    · have hg : ¬ (0 ≤ t ∧ t < 4) := h2
      by_cases g0 : t < 0
      · have HE : Hid (trE B x t v = 1) := by show _ = _; unfold trE; rw [if_pos h1, if_neg h2]
        have HS : Hid (trS B x t v = B) := by show _ = _; unfold trS; rw [HE.out]; rfl
        clear kc
        go_enter Try.func36, Try.ntmps36
        go_wp2
        go_ret
        exact ⟨ret_int HE.out.symm, R, n, [], To.same HD.out (Fr.refl _ _), by rw [HS.out]; exact HR.out⟩
      · have g4 : 4 ≤ t := by omega
        have HE : Hid (trE B x t v = 1) := by show _ = _; unfold trE; rw [if_pos h1, if_neg h2]
        have HS : Hid (trS B x t v = B) := by show _ = _; unfold trS; rw [HE.out]; rfl
        clear kc
        go_enter Try.func36, Try.ntmps36
        go_wp2
        go_ret
        exact ⟨ret_int HE.out.symm, R, n, [], To.same HD.out (Fr.refl _ _), by rw [HS.out]; exact HR.out⟩
  · by_cases g0 : f < 0
    · have HE : Hid (trE B f t v = 1) := by show _ = _; unfold trE; rw [if_neg h1]
      have HS : Hid (trS B f t v = B) := by show _ = _; unfold trS; rw [HE.out]; rfl
      clear kc
      go_enter Try.func36, Try.ntmps36
      go_wp2
      go_ret
      exact ⟨ret_int HE.out.symm, R, n, [], To.same HD.out (Fr.refl _ _), by rw [HS.out]; exact HR.out⟩
    · have g4 : 4 ≤ f := by omega
      have HE : Hid (trE B f t v = 1) := by show _ = _; unfold trE; rw [if_neg h1]
      have HS : Hid (trS B f t v = B) := by show _ = _; unfold trS; rw [HE.out]; rfl
      clear kc
      go_enter Try.func36, Try.ntmps36
      go_wp2
      go_ret
      exact ⟨ret_int HE.out.symm, R, n, [], To.same HD.out (Fr.refl _ _), by rw [HS.out]; exact HR.out⟩
end Go.Proofs.Qxb6500339a
