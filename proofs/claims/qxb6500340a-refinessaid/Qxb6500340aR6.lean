import Derived.Test.Qxb6500340aR5
namespace Go.Proofs.Qxb6500340a
open Go.RowKit
set_option linter.unusedVariables false
set_option linter.unusedSimpArgs false

set_option maxHeartbeats 6400000 in
set_option maxRecDepth 100000 in
theorem mrelease_any (w : World) (b : Nat) (s : St) (hb : Mh w b (gof s)) (hi : Ib s) (p : Int) (v : Vc) :
    Calls Try.prog 43 #[.pointer (some ⟨b, 0, none⟩), .int .i64 p, .agg #[.int .i64 v.a, .int .i64 v.b]] w fun e w' => e = .returned (.int .i64 (relE s p v)) ∧ Mh w' b (gof (relR s p v)) ∧ Fr [b] w w' := by
  have HB : Hid (Mh w b (gof s)) := hb
  have HI : Hid (Ib s) := hi
  have hl := blk_lt hb
  clear hb hi
  by_cases hg : gateE s p true v = 0
  · obtain ⟨q, rfl, hq, hlq, hv⟩ := gate_ok hg
    have HG : Hid (gateE s q true v = 0) := hg
    have hq4 : (q : Int) < 4 := by omega
    have HV : Hid (okV v) := hv
    have HE : Hid (relE s q v = if leB v (s.held q) then 0 else 7) := by show _ = _; unfold relE; rw [if_pos hg, Int.toNat_natCast]
    clear hg hlq hv
    go_enter Try.func43, Try.ntmps43
    go_wp2_with fail
    go_at_call 52
    refine (mat_any _ b s (Mh.alloc HB.out _) q true v).mono ?_
    rintro e w1 ⟨rfl, hf1⟩
    rw [HG.out]
    have V1 : Hid (Vb w1 w.heap.size v) := hf1.keep (blk_new _ _) (by simp)
    have X1 : Hid (Mh w1 b (gof s)) := hf1.keep (Mh.alloc HB.out _) (by simp)
    have F1 : Hid (Fr [] w w1) := ((Fr.refl _ _).alloc _).trans hf1
    clear hf1
    have v0 := V1.out.a
    have v1 := V1.out.b
    have ha := X1.out.ha hq
    have hb := X1.out.hb hq
    dsimp only [gof] at ha hb
    go_wp2_with fail
    go_cut [23] from 8 to 36 (fun s23 wx => s23 = .bool (!(leB v (s.held q))) ∧ Hid (Mh wx b (gof s)) ∧ Hid (Vb wx w.heap.size v) ∧ Hid (Fr [] w wx))
    case first =>
      go_region_held3 (fun w' => w'.cell? ⟨w.heap.size, 0, none⟩ = some (.int .i64 v.a) ∧ w'.cell? ⟨w.heap.size, 1, none⟩ = some (.int .i64 v.b) ∧ w'.cell? ⟨b, 12 + q * 2, none⟩ = some (.int .i64 (s.held q).a) ∧ w'.cell? ⟨b, 12 + q * 2 + 1, none⟩ = some (.int .i64 (s.held q).b)) (go_keep)
        ((go_at_call 34; refine (le_any _ _ _ _ _).mono ?_; rintro e w2 ⟨rfl, hf2⟩; have V2 : Hid (Vb w2 w.heap.size v) := Vb.keep V1.out.drew hf2 (by simp); have X2 : Hid (Mh w2 b (gof s)) := Mh.keep X1.out.drew hf2 (by simp); have v0 := V2.out.a; have v1 := V2.out.b; have ha := X2.out.ha hq; have hb := X2.out.hb hq; dsimp only [gof] at ha hb))
      all_goals (go_wp2_with fail; go_meet)
      all_goals exact ⟨rfl, X2, V2, F1.out.drew.trans hf2⟩
    case rest =>
      obtain ⟨rfl, X3, V3, F3⟩ := hcut
      clear X1 V1 F1 v0 v1 ha hb
      cases hle : leB v (s.held q)
      · have HR : Hid (relR s q v = s) := by show _ = _; unfold relR; rw [if_neg (by rw [HE.out, hle]; simp)]
        have HE7 : Hid (relE s q v = 7) := by show _ = _; rw [HE.out, hle]; rfl
        go_wp2
        go_ret
        exact ⟨ret_int HE7.out.symm, by rw [HR.out]; exact X3.out, F3.out.widen⟩
      have HLE : Hid (leB v (s.held q) = true) := hle
      clear hle
      have v0 := V3.out.a
      have v1 := V3.out.b
      have ha := X3.out.ha hq
      have hb := X3.out.hb hq
      have fa := X3.out.fr (12 + q * 2)
      have fb := X3.out.fr (12 + q * 2 + 1)
      dsimp only [gof] at ha hb
      have bh := HI.out.bd.held q hq
      have bv := HV.out
      unfold okV at bv
      go_wp2_with fail
      go_region_with (go_at_call 30; refine (sub_any _ _ _ _ _ (by omega) (by omega) (by omega) (by omega)).mono ?_; rintro e w4 ⟨rfl, hf4⟩; have X4 : Hid (Mh w4 b (gof s)) := Mh.keep X3.out.drew hf4 (by simp); have V4 : Hid (Vb w4 w.heap.size v) := Vb.keep V3.out.drew hf4 (by simp); have ha := X4.out.ha hq; have hb := X4.out.hb hq; have fa := X4.out.fr (12 + q * 2); have fb := X4.out.fr (12 + q * 2 + 1); have v0 := V4.out.a; have v1 := V4.out.b; dsimp only [gof] at ha hb)
      all_goals (go_wp2; go_ret)
      all_goals
        have hz : relE s q v = 0 := by rw [HE.out, HLE.out]; rfl
        refine ⟨ret_int hz.symm, ?_, ?_⟩
        · have : relR s q v = giveS s q v := by unfold relR; rw [if_pos hz, Int.toNat_natCast]
          rw [this, gof_give]
          exact X4.out.setH hq ((s.held q).sub v)
        · exact ((F3.out.drew.trans hf4).widen.setCell (Or.inl (by simp)) _).setCell (Or.inl (by simp)) _
  · have HE : Hid (relE s p v = gateE s p true v) := by show _ = _; unfold relE; rw [if_neg hg]
    have HR : Hid (relR s p v = s) := by show _ = _; unfold relR; rw [if_neg (by rw [HE.out]; exact hg)]
    have hg' : (gateE s p true v == 0) = false := beq_eq_false_iff_ne.2 hg
    have hg2 : (gateE s p true v != 0) = true := by rw [bne_iff_ne]; exact hg
    clear hg
    go_enter Try.func43, Try.ntmps43
    go_wp2_with fail
    go_at_call 52
    refine (mat_any _ b s (Mh.alloc HB.out _) p true v).mono ?_
    rintro e w1 ⟨rfl, hf1⟩
    go_wp2
    go_ret
    exact ⟨ret_int HE.out.symm, by rw [HR.out]; exact hf1.keep (Mh.alloc HB.out _) (by simp), (((Fr.refl _ _).alloc _).trans hf1).widen⟩
end Go.Proofs.Qxb6500340a
