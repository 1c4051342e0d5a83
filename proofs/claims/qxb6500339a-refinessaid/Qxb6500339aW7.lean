import Derived.Test.Qxb6500339aW6
namespace Go.Proofs.Qxb6500339a
open Go.RowKit
set_option linter.unusedVariables false
set_option linter.unusedSimpArgs false

set_option maxHeartbeats 3200000 in
theorem mtransfer_any (w : World) (m : Nat) (B : Nat → Int) (h : Mm w m B) (hB : OkB B) (f t v : Int) : Calls Try.prog 37 #[.pointer (some ⟨m, 0, none⟩), .int .i64 f, .int .i64 t, .int .i64 v] w fun e w' => e = .returned (.int .i64 (trE B f t v)) ∧ Mm w' m (trS B f t v) ∧ Fr [m] w w' := by
  have HM : Hid (Mm w m B) := h
  by_cases h1 : 0 ≤ f ∧ f < 4
  · obtain ⟨p, rfl⟩ : ∃ p : Nat, f = p := ⟨f.toNat, by omega⟩
    have hp : p < 4 := by omega
    have hpi : (p : Int) < 4 := by omega
    by_cases h2 : 0 ≤ t ∧ t < 4
    · obtain ⟨q, rfl⟩ : ∃ q : Nat, t = q := ⟨t.toNat, by omega⟩
      have hq : q < 4 := by omega
      have hqi : (q : Int) < 4 := by omega
      by_cases h3 : (p : Int) = q
      · have d3 : ((p : Int) == (q : Int)) = true := beq_iff_eq.2 h3
        have HPQ : Hid (p = q) := by show p = q; omega
        have HE : Hid (trE B p q v = 2) := by show _ = _; unfold trE; rw [if_pos h1, if_pos h2, if_pos h3]
        have HS : Hid (trS B p q v = B) := by show _ = _; unfold trS; rw [HE.out]; rfl
        clear h hB
        clear h3
        go_enter Try.func37, Try.ntmps37
        go_wp2
        go_ret
        exact ⟨ret_int HE.out.symm, by rw [HS.out]; exact HM.out, Fr.refl _ _⟩
      · have hne : p ≠ q := by omega
        have d3 : ((p : Int) == (q : Int)) = false := beq_eq_false_iff_ne.2 h3
        have cf := h.c hp
        have ct := h.c hq
        have ff := blk_frozen h p
        have ft := blk_frozen h q
        have bp := hB p hp
        have bq := hB q hq
        by_cases h4 : v ≤ 0
        · have HE : Hid (trE B p q v = 3) := by show _ = _; unfold trE; rw [if_pos h1, if_pos h2, if_neg h3, if_pos h4]
          have HS : Hid (trS B p q v = B) := by show _ = _; unfold trS; rw [HE.out]; rfl
          clear h hB
          go_enter Try.func37, Try.ntmps37
          go_wp2
          go_ret
          exact ⟨ret_int HE.out.symm, by rw [HS.out]; exact HM.out, Fr.refl _ _⟩
        by_cases h5 : B p < v
        · have HE : Hid (trE B p q v = 4) := by show _ = _; unfold trE; rw [if_pos h1, if_pos h2, if_neg h3, if_neg h4]; simp only [Int.toNat_natCast]; rw [if_pos h5]
          have HS : Hid (trS B p q v = B) := by show _ = _; unfold trS; rw [HE.out]; rfl
          clear h hB
          go_enter Try.func37, Try.ntmps37
          go_wp2
          go_ret
          exact ⟨ret_int HE.out.symm, by rw [HS.out]; exact HM.out, Fr.refl _ _⟩
        by_cases h6 : 1000 - B q < v
        · have HE : Hid (trE B p q v = 5) := by show _ = _; unfold trE; rw [if_pos h1, if_pos h2, if_neg h3, if_neg h4]; simp only [Int.toNat_natCast]; rw [if_neg h5, if_pos h6]
          have HS : Hid (trS B p q v = B) := by show _ = _; unfold trS; rw [HE.out]; rfl
          clear h hB
          go_enter Try.func37, Try.ntmps37
          go_wp2
          go_ret
          exact ⟨ret_int HE.out.symm, by rw [HS.out]; exact HM.out, Fr.refl _ _⟩
        have HE : Hid (trE B p q v = 0) := by show _ = _; unfold trE; rw [if_pos h1, if_pos h2, if_neg h3, if_neg h4]; simp only [Int.toNat_natCast]; rw [if_neg h5, if_neg h6]
        have HS : Hid (trS B p q v = upd (upd B p (B p - v)) q (B q + v)) := by show _ = _; unfold trS; rw [if_pos HE.out]; simp only [Int.toNat_natCast]
        clear h hB
        go_enter Try.func37, Try.ntmps37
        go_wp2
        go_region
        go_wp2_with fail
        have M1 : Hid (Mm (w.setCell ⟨m, p, none⟩ (.int .i64 (B p - v))).drew m (upd B p (B p - v))) := HM.out.set hp _
        have F1 : Hid (Fr [m] w (w.setCell ⟨m, p, none⟩ (.int .i64 (B p - v))).drew) := ((Fr.refl _ _).setCell (Or.inl (by simp)) _).drew
        generalize (w.setCell ⟨m, p, none⟩ (.int .i64 (B p - v))).drew = W1 at M1 F1 ⊢
        clear cf ct ff ft
        have ct := M1.out.c hq
        rw [upd_other _ _ _ _ (Ne.symm hne)] at ct
        have ft := blk_frozen M1.out q
        go_region
        go_wp2
        go_ret
        exact ⟨ret_int HE.out.symm, by rw [HS.out]; exact M1.out.set hq _, (F1.out.setCell (Or.inl (by simp)) _).drew⟩
    · have hg : ¬ (0 ≤ t ∧ t < 4) := h2
      by_cases g0 : t < 0
      · have HE : Hid (trE B p t v = 1) := by show _ = _; unfold trE; rw [if_pos h1, if_neg h2]
        have HS : Hid (trS B p t v = B) := by show _ = _; unfold trS; rw [HE.out]; rfl
        clear h hB
        go_enter Try.func37, Try.ntmps37
        go_wp2
        go_ret
        exact ⟨ret_int HE.out.symm, by rw [HS.out]; exact HM.out, Fr.refl _ _⟩
      · have g4 : 4 ≤ t := by omega
        have HE : Hid (trE B p t v = 1) := by show _ = _; unfold trE; rw [if_pos h1, if_neg h2]
        have HS : Hid (trS B p t v = B) := by show _ = _; unfold trS; rw [HE.out]; rfl
        clear h hB
        go_enter Try.func37, Try.ntmps37
        go_wp2
        go_ret
        exact ⟨ret_int HE.out.symm, by rw [HS.out]; exact HM.out, Fr.refl _ _⟩
  · by_cases g0 : f < 0
    · have HE : Hid (trE B f t v = 1) := by show _ = _; unfold trE; rw [if_neg h1]
      have HS : Hid (trS B f t v = B) := by show _ = _; unfold trS; rw [HE.out]; rfl
      clear h hB
      go_enter Try.func37, Try.ntmps37
      go_wp2
      go_ret
      exact ⟨ret_int HE.out.symm, by rw [HS.out]; exact HM.out, Fr.refl _ _⟩
    · have g4 : 4 ≤ f := by omega
      have HE : Hid (trE B f t v = 1) := by show _ = _; unfold trE; rw [if_neg h1]
      have HS : Hid (trS B f t v = B) := by show _ = _; unfold trS; rw [HE.out]; rfl
      clear h hB
      go_enter Try.func37, Try.ntmps37
      go_wp2
      go_ret
      exact ⟨ret_int HE.out.symm, by rw [HS.out]; exact HM.out, Fr.refl _ _⟩

theorem wrap_id (x : Int) (h1 : -10000 ≤ x) (h2 : x ≤ 10000) : IntKind.i64.wrap x = x := by rw [IntKind.wrap_i64]; omega

/-! ### Contracts at a world that has come from an elder one -/
theorem at_from (N : Nat) (w0 w : World) (k p d : Nat) (R : List Nat) (n bs : Nat → Bl) (l : List (Nat × Bl)) (h : Dr N w0 d R n bs l) (ht : Tw w0 k p d R) (hf : Fr [] w0 w) (a : Nat) (ha : a < 5) (ai : Int) (hai : ai = a) (v : Int) (hv : n (3 + a) = enc v) (h0 : 0 ≤ v) (h1 : v ≤ 4000) :
    Calls Try.prog 38 #[.pointer (some ⟨k, 0, none⟩), .int .i64 ai] w fun e w' => e = .returned (.int .i64 v) ∧ Fr [] w0 w' :=
  (at_any N w k p d R n bs l (h.keep0 hf) (ht.keep0 hf) a ha ai hai v hv h0 h1).mono fun e w' ⟨h1, h2⟩ => ⟨h1, hf.trans h2⟩
theorem encode_from (w0 w : World) (hf : Fr [] w0 w) (n : Int) (h0 : 0 ≤ n) (h1 : n ≤ 4000) : Calls Try.prog 40 #[.int .i64 n] w fun e w' => e = .returned (bV (enc n)) ∧ Fr [] w0 w' :=
  (encode_any w n h0 h1).mono fun e w' ⟨h1, h2⟩ => ⟨h1, hf.trans h2⟩
theorem put_from (N : Nat) (w0 w : World) (p d : Nat) (R : List Nat) (n bs : Nat → Bl) (h : Dr N w0 d R n bs []) (hp : Pp w0 p d) (hpR : p ∉ R) (hf : Fr [] w0 w) (a b : Nat) (ha : a < 5) (hb : b < 5) (hne : a ≠ b) (x y : Bl) (bi : Int) (hbi : bi = b) :
    Calls Try.prog 39 #[.pointer (some ⟨p, 0, none⟩), .int .i64 a, bV x, .int .i64 bi, bV y] w fun e w' => e = .returned (.int .i64 0) ∧ At N w0 w' d R (app n (putW a x b y)) bs (putW a x b y) := by
  subst hbi
  exact (put_any N w p d R n bs (h.keep0 hf) (hf.keep hp (by simp)) hpR a b ha hb hne x y).mono fun e w' ⟨h1, h2⟩ => ⟨h1, h2.rebase hf⟩

theorem To.same {N : Nat} {w w' : World} {d : Nat} {R : List Nat} {n bs : Nat → Bl} {l : List (Nat × Bl)} (h : Dr N w d R n bs l) (hf : Fr [] w w') : To N w w' d R R n bs l := ⟨h.keep0 hf, fun k hk => Or.inl hk, hf.widen⟩

set_option maxHeartbeats 6400000 in
set_option maxRecDepth 100000 in
theorem deposit_any (N : Nat) (w : World) (k p d : Nat) (R : List Nat) (n : Nat → Bl) (B : Nat → Int) (h : Dr N w d R n n []) (ht : Tw w k p d R) (hr : Rec n n [] B B) (a v : Int) :
    Calls Try.prog 34 #[.pointer (some ⟨k, 0, none⟩), .int .i64 a, .int .i64 v] w fun e w' => e = .returned (.int .i64 (depE B a v)) ∧ ∃ R' n' l', To N w w' d R R' n' n l' ∧ Rec n n' l' B (depS B a v) := by
  have HD : Hid (Dr N w d R n n []) := h
  have HT : Hid (Tw w k p d R) := ht
  have HR : Hid (Rec n n [] B B) := hr
  have kc := ht.bk.c
  clear h ht hr
  by_cases h1 : 0 ≤ a ∧ a < 4
  · obtain ⟨q, rfl⟩ : ∃ q : Nat, a = q := ⟨a.toNat, by omega⟩
    have hq : q < 4 := by omega
    have hqi : (q : Int) < 4 := by omega
    have b := HR.out.ok q hq
    have HMq : Hid (n (3 + q) = enc (B q)) := by
      show _ = _; have := HR.out.good.hm q (by omega); rw [show hv B q = B q from by unfold hv; rw [if_neg (by omega)]] at this; exact this
    by_cases h2 : v ≤ 0
    · have HE : Hid (depE B q v = 3) := by show _ = _; unfold depE; rw [if_pos h1, if_pos h2]
      have HS : Hid (depS B q v = B) := by show _ = _; unfold depS; rw [HE.out]; rfl
      clear kc
      go_enter Try.func34, Try.ntmps34
      go_wp2
      go_ret
      exact ⟨ret_int HE.out.symm, R, n, [], To.same HD.out (Fr.refl _ _), by rw [HS.out]; exact HR.out⟩
    by_cases h3 : 1000 - B q < v
    · have HE : Hid (depE B q v = 5) := by show _ = _; unfold depE; rw [if_pos h1, if_neg h2, Int.toNat_natCast, if_pos h3]
      have HS : Hid (depS B q v = B) := by show _ = _; unfold depS; rw [HE.out]; rfl
      go_enter Try.func34, Try.ntmps34
      go_wp2_with fail
      go_at_call 38
      refine (at_from N w _ k p d R n n [] HD.out HT.out (Fr.refl _ _) q (by omega) _ rfl (B q) HMq.out b.1 (by omega)).mono ?_
      rintro e w1 ⟨rfl, hf1⟩
      go_wp2
      go_ret
      exact ⟨ret_int HE.out.symm, R, n, [], To.same HD.out hf1, by rw [HS.out]; exact HR.out⟩
    have HE : Hid (depE B q v = 0) := by show _ = _; unfold depE; rw [if_pos h1, if_neg h2, Int.toNat_natCast, if_neg h3]
    have HS : Hid (depS B q v = upd B q (B q + v)) := by show _ = _; unfold depS; rw [if_pos HE.out, Int.toNat_natCast]
    have HM4 : Hid (n (3 + 4) = enc (sumB B)) := HR.out.good.hm 4 (by omega)
    have b4 := HR.out.ok.hv (i := 4) (by omega)
    rw [show hv B 4 = sumB B from rfl] at b4
    have bd := (OkB.dep (v := v) HR.out.ok hq (by omega) (by omega)).hv (i := 4) (by omega)
    rw [(hv_dep hq).2.1] at bd
    go_enter Try.func34, Try.ntmps34
    go_wp2_with fail
    go_at_call 38
    refine (at_from N w _ k p d R n n [] HD.out HT.out (Fr.refl _ _) q (by omega) _ rfl (B q) HMq.out b.1 (by omega)).mono ?_
    rintro e w1 ⟨rfl, hf1⟩
    clear kc
    have T1 : Hid (Tw w1 k p d R) := HT.out.keep0 hf1
    have kc := T1.out.bk.c
    go_wp2_with fail
    go_region_held3 (fun w' => w'.cell? ⟨k, 0, none⟩ = some (.pointer (some ⟨p, 0, none⟩))) (go_keep)
      (first
        | (go_at_call_of 38 (Value.int IntKind.i64 (q : Int)); refine (at_from N w _ k p d R n n [] HD.out HT.out (by first | assumption | (refine Fr.drew ?_; assumption)) q (by omega) _ rfl (B q) HMq.out b.1 (by omega)).mono ?_; rintro e w2 ⟨rfl, hf2⟩; have kc : w2.cell? ⟨k, 0, none⟩ = some (.pointer (some ⟨p, 0, none⟩)) := (HT.out.keep0 hf2).bk.c)
        | (go_at_call_of 38 (Value.int IntKind.i64 4); refine (at_from N w _ k p d R n n [] HD.out HT.out (by first | assumption | (refine Fr.drew ?_; assumption)) 4 (by omega) 4 rfl (sumB B) HM4.out b4.1 (by omega)).mono ?_; rintro e w2 ⟨rfl, hf2⟩; have kc : w2.cell? ⟨k, 0, none⟩ = some (.pointer (some ⟨p, 0, none⟩)) := (HT.out.keep0 hf2).bk.c)
        | (go_at_call 40; rw [wrap_id _ (by omega) (by omega)]; refine (encode_from w _ (by first | assumption | (refine Fr.drew ?_; assumption)) _ (by omega) (by omega)).mono ?_; rintro e w2 ⟨rfl, hf2⟩; have kc : w2.cell? ⟨k, 0, none⟩ = some (.pointer (some ⟨p, 0, none⟩)) := (HT.out.keep0 hf2).bk.c)
        | (go_at_call 39; refine (put_from N w _ p d R n n HD.out HT.out.pp HT.out.pR (by first | assumption | (refine Fr.drew ?_; assumption)) q 4 (by omega) (by omega) (by omega) _ _ 4 rfl).mono ?_; rintro e w3 ⟨rfl, t3⟩; have T3 : Hid (At N w w3 d R (app n (putW q (enc (B q + v)) 4 (enc (sumB B + v)))) n (putW q (enc (B q + v)) 4 (enc (sumB B + v)))) := t3; clear t3; have kc : w3.cell? ⟨k, 0, none⟩ = some (.pointer (some ⟨p, 0, none⟩)) := Bk.c (T3.out.other HT.out.bk HT.out.kR)))
    all_goals
      go_wp2
      go_ret
      obtain ⟨R', hto⟩ := T3.out.to
      refine ⟨ret_int HE.out.symm, R', _, _, hto, ?_⟩
      rw [HS.out]
      have := HR.out.put (B' := upd B q (B q + v)) (a := q) (b := 4) (OkB.dep (v := v) HR.out.ok hq (by omega) (by omega)) (by omega) (by omega) (by omega) (hv_dep hq).2.2
      rw [(hv_dep hq).1, (hv_dep hq).2.1] at this
      exact this
  · have HE : Hid (depE B a v = 1) := by show _ = _; unfold depE; rw [if_neg h1]
    have HS : Hid (depS B a v = B) := by show _ = _; unfold depS; rw [HE.out]; rfl
    clear kc
    by_cases h0 : a < 0
    · go_enter Try.func34, Try.ntmps34
      go_wp2
      go_ret
      exact ⟨ret_int HE.out.symm, R, n, [], To.same HD.out (Fr.refl _ _), by rw [HS.out]; exact HR.out⟩
    · have h4 : 4 ≤ a := by omega
      go_enter Try.func34, Try.ntmps34
      go_wp2
      go_ret
      exact ⟨ret_int HE.out.symm, R, n, [], To.same HD.out (Fr.refl _ _), by rw [HS.out]; exact HR.out⟩
end Go.Proofs.Qxb6500339a
