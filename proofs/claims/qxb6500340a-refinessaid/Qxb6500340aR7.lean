import Derived.Test.Qxb6500340aR5
namespace Go.Proofs.Qxb6500340a
open Go.RowKit
set_option linter.unusedVariables false
set_option linter.unusedSimpArgs false

theorem le_claim (s : St) (q : Nat) (v : Vc) : leB ((s.held q).add v) (clm s q) = leB v (s.need q) := by
  rw [Bool.eq_iff_iff, leB_iff, leB_iff]
  simp only [clm, Vc.add]; omega

set_option maxHeartbeats 6400000 in
set_option maxRecDepth 100000 in
theorem mrequest_any (w : World) (b : Nat) (s : St) (hb : Mh w b (gof s)) (hi : Ib s) (p : Int) (v : Vc) :
    Calls Try.prog 42 #[.pointer (some ⟨b, 0, none⟩), .int .i64 p, .agg #[.int .i64 v.a, .int .i64 v.b]] w fun e w' => e = .returned (.tuple #[.string (reqT s p v), .int .i64 (reqE s p v)]) ∧ Mh w' b (gof (reqR s p v)) ∧ Fr [b] w w' := by
  have HB : Hid (Mh w b (gof s)) := hb
  have HI : Hid (Ib s) := hi
  have hl := blk_lt hb
  clear hb hi
  by_cases hg : gateE s p true v = 0
  · obtain ⟨q, rfl, hq, hlq, hv⟩ := gate_ok hg
    have HG : Hid (gateE s q true v = 0) := hg
    have hq4 : (q : Int) < 4 := by omega
    have HV : Hid (okV v) := hv
    have HLQ : Hid (s.live q = true) := hlq
    have HE : Hid (reqE s q v = if leB v (s.need q) then (if leB v s.av then (if gOkB (reqS s q v) then 0 else 6) else 5) else 4) := by show _ = _; unfold reqE; rw [if_pos hg, Int.toNat_natCast]
    have bh := HI.out.bd.held q hq
    have bv := hv
    unfold okV at bv
    clear hg hlq hv
    go_enter Try.func42, Try.ntmps42
    go_wp2_with fail
    go_at_call 52
    refine (mat_any _ b s (Mh.alloc HB.out _) q true v).mono ?_
    rintro e w1 ⟨rfl, hf1⟩
    rw [HG.out]
    have V1 : Hid (Vb w1 w.heap.size v) := hf1.keep (blk_new _ _) (by simp)
    have X1 : Hid (Mh w1 b (gof s)) := hf1.keep (Mh.alloc HB.out _) (by simp)
    have F1 : Hid (Fr [] w w1) := ((Fr.refl _ _).alloc _).trans hf1
    clear hf1
    go_wp2_with fail
    go_at_call 53
    refine (mclone_any _ b _ X1.out).mono ?_
    rintro e w2 ⟨rfl, hm2, hf2⟩
    have C2 : Hid (Mh w2 w1.heap.size (gof s)) := hm2
    have V2 : Hid (Vb w2 w.heap.size v) := hf2.keep V1.out (by simp)
    have X2 : Hid (Mh w2 b (gof s)) := hf2.keep X1.out (by simp)
    have F2 : Hid (Fr [] w w2) := F1.out.trans hf2
    have hw1 : w.heap.size < w1.heap.size := blk_lt V1.out
    clear hm2 hf2 V1 X1 F1
    generalize w1.heap.size = c at C2 hw1 ⊢
    have v0 := V2.out.a
    have v1 := V2.out.b
    have ha := X2.out.ha hq
    have hb := X2.out.hb hq
    have ga := C2.out.ha hq
    have gb := C2.out.hb hq
    have fa := C2.out.fr (12 + q * 2)
    have fb := C2.out.fr (12 + q * 2 + 1)
    dsimp only [gof] at ha hb ga gb
    have e1 : ¬ (b = c) := by omega
    have e2 : ¬ (c = b) := by omega
    have e3 : ¬ (w.heap.size = c) := by omega
    have e4 : ¬ (c = w.heap.size) := by omega
    go_wp2_with fail
    go_region_held3 (fun w' => w'.cell? ⟨w.heap.size, 0, none⟩ = some (.int .i64 v.a) ∧ w'.cell? ⟨w.heap.size, 1, none⟩ = some (.int .i64 v.b) ∧ w'.cell? ⟨b, 12 + q * 2, none⟩ = some (.int .i64 (s.held q).a) ∧ w'.cell? ⟨b, 12 + q * 2 + 1, none⟩ = some (.int .i64 (s.held q).b)) (go_keep)
      ((go_at_call 29; refine (add_any _ _ _ _ _ (by omega) (by omega) (by omega) (by omega)).mono ?_; rintro e w3 ⟨rfl, hf3⟩; have V3 : Hid (Vb w3 w.heap.size v) := Vb.keep V2.out.drew hf3 (by simp); have X3 : Hid (Mh w3 b (gof s)) := Mh.keep X2.out.drew hf3 (by simp); have C3 : Hid (Mh w3 c (gof s)) := Mh.keep C2.out.drew hf3 (by simp); have v0 := V3.out.a; have v1 := V3.out.b; have ha := X3.out.ha hq; have hb := X3.out.hb hq; have ga := C3.out.ha hq; have gb := C3.out.hb hq; have fa := C3.out.fr (12 + q * 2); have fb := C3.out.fr (12 + q * 2 + 1); dsimp only [gof] at ha hb ga gb))
    go_wp2_with fail
    have V4 : Hid (Vb ((w3.setCell ⟨c, 12 + q * 2, none⟩ (.int .i64 ((s.held q).a + v.a))).setCell ⟨c, 12 + q * 2 + 1, none⟩ (.int .i64 ((s.held q).b + v.b))) w.heap.size v) := V3.out.far2 (by omega)
    have X4 : Hid (Mh ((w3.setCell ⟨c, 12 + q * 2, none⟩ (.int .i64 ((s.held q).a + v.a))).setCell ⟨c, 12 + q * 2 + 1, none⟩ (.int .i64 ((s.held q).b + v.b))) b (gof s)) := X3.out.far2 (by omega)
    have C4 : Hid (Mh ((w3.setCell ⟨c, 12 + q * 2, none⟩ (.int .i64 ((s.held q).a + v.a))).setCell ⟨c, 12 + q * 2 + 1, none⟩ (.int .i64 ((s.held q).b + v.b))) c (gof (reqS s q v))) := by
      show Mh _ _ _
      rw [gof_req]; exact C3.out.setH hq ((s.held q).add v)
    have F4 : Hid (Fr [] w ((w3.setCell ⟨c, 12 + q * 2, none⟩ (.int .i64 ((s.held q).a + v.a))).setCell ⟨c, 12 + q * 2 + 1, none⟩ (.int .i64 ((s.held q).b + v.b)))) := (F2.out.drew.trans hf3).set2 (by omega)
    generalize (w3.setCell ⟨c, 12 + q * 2, none⟩ (.int .i64 ((s.held q).a + v.a))).setCell ⟨c, 12 + q * 2 + 1, none⟩ (.int .i64 ((s.held q).b + v.b)) = W4 at V4 X4 C4 F4 ⊢
    clear V2 X2 C2 F2 V3 X3 C3 hf3 v0 v1 ha hb ga gb fa fb
    have hc : (reqS s q v).held q = (s.held q).add v := upd_same _ _ _
    have HC : Hid ((reqS s q v).held q = (s.held q).add v) := hc
    clear hc
    have ga := C4.out.ha hq
    have gb := C4.out.hb hq
    have ca := X4.out.ca hq
    have cb := X4.out.cb hq
    dsimp only [gof] at ga gb ca cb
    rw [HC.out] at ga gb
    go_region_held3 (fun w' => w'.cell? ⟨c, 12 + q * 2, none⟩ = some (.int .i64 ((s.held q).add v).a) ∧ w'.cell? ⟨c, 12 + q * 2 + 1, none⟩ = some (.int .i64 ((s.held q).add v).b) ∧ w'.cell? ⟨b, 4 + q * 2, none⟩ = some (.int .i64 (clm s q).a) ∧ w'.cell? ⟨b, 4 + q * 2 + 1, none⟩ = some (.int .i64 (clm s q).b)) (go_keep)
      ((go_at_call 34; refine (le_any _ _ _ _ _).mono ?_; rintro e w5 ⟨rfl, hf5⟩; have C5 : Hid (Mh w5 c (gof (reqS s q v))) := Mh.keep C4.out.drew hf5 (by simp); have X5 : Hid (Mh w5 b (gof s)) := Mh.keep X4.out.drew hf5 (by simp); have ga := C5.out.ha hq; have gb := C5.out.hb hq; have ca := X5.out.ca hq; have cb := X5.out.cb hq; dsimp only [gof] at ga gb ca cb; rw [HC.out] at ga gb))
    have V5 : Hid (Vb w5 w.heap.size v) := Vb.keep V4.out.drew hf5 (by simp)
    have F5 : Hid (Fr [] w w5) := F4.out.drew.trans hf5
    clear V4 X4 C4 F4 hf5 ga gb ca cb
    rw [show leB ⟨((s.held q).add v).a, ((s.held q).add v).b⟩ ⟨(clm s q).a, (clm s q).b⟩ = leB v (s.need q) from le_claim s q v]
    cases hle : leB v (s.need q)
    · have HE4 : Hid (reqE s q v = 4) := by show _ = _; rw [HE.out, hle]; rfl
      have HT : Hid (reqT s q v = ⟨#[]⟩) := by show _ = _; unfold reqT; rw [if_neg (by rw [HE4.out]; omega)]
      have HR : Hid (reqR s q v = s) := by show _ = _; unfold reqR; rw [if_neg (by rw [HE4.out]; omega)]
      go_wp2
      go_ret2
      exact ⟨ret_str_int HT.out.symm HE4.out.symm, by rw [HR.out]; exact X5.out, F5.out.widen⟩
    have HLN : Hid (leB v (s.need q) = true) := hle
    clear hle
    go_wp2_with fail
    go_at_call 46
    refine (mavail_any _ b s X5.out HI.out.sm).mono ?_
    rintro e w6 ⟨rfl, hf6⟩
    have V6 : Hid (Vb w6 w.heap.size v) := hf6.keep V5.out (by simp)
    have X6 : Hid (Mh w6 b (gof s)) := hf6.keep X5.out (by simp)
    have C6 : Hid (Mh w6 c (gof (reqS s q v))) := hf6.keep C5.out (by simp)
    have F6 : Hid (Fr [] w w6) := F5.out.trans hf6
    clear V5 X5 C5 F5 hf6
    have hx6 : w.heap.size < w6.heap.size := blk_lt V6.out
    have v0 := V6.out.a
    have v1 := V6.out.b
    go_wp2_with fail
    go_at_call 34
    refine (le_any _ _ _ _ _).mono ?_
    rintro e w7 ⟨rfl, hf7⟩
    rw [show leB ⟨v.a, v.b⟩ ⟨s.av.a, s.av.b⟩ = leB v s.av from rfl]
    have X7 : Hid (Mh w7 b (gof s)) := hf7.keep (Mh.alloc X6.out _) (by simp)
    have C7 : Hid (Mh w7 c (gof (reqS s q v))) := hf7.keep (Mh.alloc C6.out _) (by simp)
    have F7 : Hid (Fr [] w w7) := (F6.out.alloc _).trans hf7
    clear V6 X6 C6 F6 hf7 v0 v1 hx6
    cases hla : leB v s.av
    · have HE5 : Hid (reqE s q v = 5) := by show _ = _; rw [HE.out, HLN.out, hla]; rfl
      have HT : Hid (reqT s q v = ⟨#[]⟩) := by show _ = _; unfold reqT; rw [if_neg (by rw [HE5.out]; omega)]
      have HR : Hid (reqR s q v = s) := by show _ = _; unfold reqR; rw [if_neg (by rw [HE5.out]; omega)]
      go_wp2
      go_ret2
      exact ⟨ret_str_int HT.out.symm HE5.out.symm, by rw [HR.out]; exact X7.out, F7.out.widen⟩
    have HIR : Hid (Ib (reqS s q v)) := HI.out.req hq HLQ.out ⟨HV.out.1, HV.out.2.2.1⟩ (leB_iff.1 HLN.out) (leB_iff.1 hla)
    have HEO : Hid (reqE s q v = ordE (reqS s q v)) := by show _ = _; rw [HE.out, HLN.out, hla]; rfl
    clear hla
    go_wp2_with fail
    go_at_call 45
    refine (morder_any _ (reqS s q v) _ _ rfl C7.out HIR.out).mono ?_
    rintro e w8 ⟨rfl, hf8⟩
    have X8 : Hid (Mh w8 b (gof s)) := hf8.keep X7.out (by simp)
    have C8 : Hid (Mh w8 c (gof (reqS s q v))) := hf8.keep C7.out (by simp)
    have F8 : Hid (Fr [] w w8) := F7.out.trans hf8
    clear X7 C7 F7 hf8
    cases hg : gOkB (reqS s q v)
    · have HO : Hid (ordE (reqS s q v) = 6) := by show _ = _; unfold ordE; rw [hg]; rfl
      have HOS : Hid (ordS (reqS s q v) = ⟨#[]⟩) := by show _ = _; unfold ordS; rw [hg]; rfl
      have HT : Hid (reqT s q v = ⟨#[]⟩) := by show _ = _; unfold reqT; rw [if_neg (by rw [HEO.out, HO.out]; omega)]
      have HR : Hid (reqR s q v = s) := by show _ = _; unfold reqR; rw [if_neg (by rw [HEO.out, HO.out]; omega)]
      rw [HO.out, HOS.out]
      go_wp2
      go_ret2
      exact ⟨ret_str_int HT.out.symm (by rw [HEO.out, HO.out]), by rw [HR.out]; exact X8.out, F8.out.widen⟩
    · have HO : Hid (ordE (reqS s q v) = 0) := by show _ = _; unfold ordE; rw [hg]; rfl
      have HQ0 : Hid (reqE s q v = 0) := by show _ = _; rw [HEO.out, HO.out]
      have HT : Hid (reqT s q v = ordS (reqS s q v)) := by show _ = _; unfold reqT ordS; rw [if_pos HQ0.out, hg, Int.toNat_natCast]; rfl
      have HR : Hid (reqR s q v = reqS s q v) := by show _ = _; unfold reqR; rw [if_pos HQ0.out, Int.toNat_natCast]
      rw [HO.out]
      have ga := C8.out.ha hq
      have gb := C8.out.hb hq
      have ha := X8.out.ha hq
      have hb := X8.out.hb hq
      have fa := X8.out.fr (12 + q * 2)
      have fb := X8.out.fr (12 + q * 2 + 1)
      dsimp only [gof] at ga gb ha hb
      rw [HC.out] at ga gb
      go_wp2_with fail
      go_region
      go_wp2
      go_ret2
      refine ⟨ret_str_int HT.out.symm HQ0.out.symm, ?_, ?_⟩
      · rw [HR.out, gof_req]
        exact X8.out.setH hq ((s.held q).add v)
      · exact ((F8.out.widen.setCell (Or.inl (by simp)) _).setCell (Or.inl (by simp)) _).drew
  · have HE : Hid (reqE s p v = gateE s p true v) := by show _ = _; unfold reqE; rw [if_neg hg]
    have HT : Hid (reqT s p v = ⟨#[]⟩) := by show _ = _; unfold reqT; rw [if_neg (by rw [HE.out]; exact hg)]
    have HR : Hid (reqR s p v = s) := by show _ = _; unfold reqR; rw [if_neg (by rw [HE.out]; exact hg)]
    have hg' : (gateE s p true v == 0) = false := beq_eq_false_iff_ne.2 hg
    have hg2 : (gateE s p true v != 0) = true := by rw [bne_iff_ne]; exact hg
    clear hg
    go_enter Try.func42, Try.ntmps42
    go_wp2_with fail
    go_at_call 52
    refine (mat_any _ b s (Mh.alloc HB.out _) p true v).mono ?_
    rintro e w1 ⟨rfl, hf1⟩
    go_wp2
    go_ret2
    exact ⟨ret_str_int HT.out.symm HE.out.symm, by rw [HR.out]; exact hf1.keep (Mh.alloc HB.out _) (by simp), (((Fr.refl _ _).alloc _).trans hf1).widen⟩
end Go.Proofs.Qxb6500340a
