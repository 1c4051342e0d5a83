import Derived.Test.Qxb6500340aK10
namespace Go.Proofs.Qxb6500340a
open Go.RowKit
set_option linter.unusedVariables false
set_option linter.unusedSimpArgs false

set_option maxHeartbeats 6400000 in
set_option maxRecDepth 100000 in
theorem step_request_bad (w : World) (x g : Nat) (s : St) (hx : BkI w x s) (hg : Gh w g (gof s)) (hi : Inv s) (hne : x ≠ g) (a : Int) (b c : Int) (t u : ByteArray) (ht : t.size ≤ 9223372036854775807) (hE : fltE s a ⟨b, c⟩ ≠ 0) :
    Calls Try.prog 15 #[.pointer (some ⟨x, 0, none⟩), .pointer (some ⟨g, 0, none⟩), .agg #[.int .i64 2, .int .i64 a, .int .i64 b, .int .i64 c, .string t, .string u]] w fun e w' => e = .returned (.bool true) ∧ Kept w' x g ∧ Fr [x, g] w w' := by
  have hxl := blk_lt hx
  have hgl := blk_lt hg
  have HX : Hid (BkI w x s) := hx
  have HG : Hid (Gh w g (gof s)) := hg
  have HI : Hid (Inv s) := hi
  clear hx hg hi
  have HFE : Hid (faultE s 2 a ⟨b, c⟩ = fltE s a ⟨b, c⟩) := by show _ = _; simp [faultE]
  have HQ : Hid (reqE s a ⟨b, c⟩ = fltE s a ⟨b, c⟩) := reqE_flt hE
  have HT : Hid (reqT s a ⟨b, c⟩ = ⟨#[]⟩) := by show _ = _; unfold reqT; rw [if_neg (by rw [HQ.out]; exact hE)]
  have HRR : Hid (reqR s a ⟨b, c⟩ = s) := by show _ = _; unfold reqR; rw [if_neg (by rw [HQ.out]; exact hE)]
  have he := fun W => eq_ans W (fltE s a ⟨b, c⟩) 0 0 ⟨#[]⟩
  have d0 : (fltE s a ⟨b, c⟩ == 0) = false := beq_eq_false_iff_ne.2 hE
  have d1 : (fltE s a ⟨b, c⟩ != 0) = true := by rw [bne_iff_ne]; exact hE
  clear hE
  go_enter Try.func15, Try.ntmps15
  go_wp2_with fail
  have O1 : Hid (Ob (w.alloc (.cells #[.int .i64 2, .int .i64 a, .int .i64 b, .int .i64 c, .string t, .string u] 41)) w.heap.size 2 a b c t u) := blk_new _ _
  have G1 : Hid (Gh (w.alloc (.cells #[.int .i64 2, .int .i64 a, .int .i64 b, .int .i64 c, .string t, .string u] 41)) g (gof s)) := blk_alloc HG.out _
  have X1 : Hid (BkI (w.alloc (.cells #[.int .i64 2, .int .i64 a, .int .i64 b, .int .i64 c, .string t, .string u] 41)) x s) := blk_alloc HX.out _
  have F1 : Hid (Fr [x, g] w (w.alloc (.cells #[.int .i64 2, .int .i64 a, .int .i64 b, .int .i64 c, .string t, .string u] 41))) := (Fr.refl _ _).alloc _
  have hs1 : w.heap.size < (w.alloc (.cells #[.int .i64 2, .int .i64 a, .int .i64 b, .int .i64 c, .string t, .string u] 41)).heap.size := blk_lt O1.out
  generalize w.alloc (.cells #[.int .i64 2, .int .i64 a, .int .i64 b, .int .i64 c, .string t, .string u] 41) = W1 at O1 G1 X1 F1 hs1 ⊢
  go_cut [7, 8] from 15 to 173 (fun s7 s8 wx => ∃ q : Nat, s7 = .int .i64 a ∧ s8 = .pointer (some ⟨q, 0, none⟩) ∧ w.heap.size < q ∧ Hid (Ob wx w.heap.size 2 a b c t u) ∧ Hid (Gh wx g (gof s)) ∧ Hid (BkI wx x s) ∧ Hid (Vb wx q ⟨b, c⟩) ∧ Hid (Fr [x, g] w wx))
  case first =>
    have oa := O1.out.c1
    have ox := O1.out.c2
    have oy := O1.out.c3
    have e1 : ¬ (w.heap.size = W1.heap.size) := by omega
    have e2 : ¬ (W1.heap.size = w.heap.size) := by omega
    go_region_held3 (fun w' => w'.cell? ⟨w.heap.size, 1, none⟩ = some (.int .i64 a) ∧ w'.cell? ⟨w.heap.size, 2, none⟩ = some (.int .i64 b) ∧ w'.cell? ⟨w.heap.size, 3, none⟩ = some (.int .i64 c)) (go_keep) (fail)
    all_goals (go_wp2_with fail; go_meet)
    all_goals
      have o1 := O1.out
      have g1 := G1.out
      have x1 := X1.out
      have f1 := F1.out
      refine ⟨_, rfl, rfl, by omega, ?_, ?_, ?_, ?_, ?_⟩
      all_goals (repeat' (first | with_reducible assumption | with_reducible refine hid ?_ | with_reducible exact Vb.new _ _ _ | with_reducible exact Vb.new1 _ _ _ _ | (with_reducible refine Vb.newE ?_; (simp; done)) | with_reducible refine Vs.set ?_ _ _ | with_reducible refine Vs.alloc ?_ _ | with_reducible refine Vs.drew ?_ | with_reducible refine Vs.far ?_ ?_ | with_reducible refine Vb.alloc ?_ _ | with_reducible refine Ob.alloc ?_ _ | with_reducible refine Gh.alloc ?_ _ | with_reducible refine BkI.alloc ?_ _ | with_reducible refine Fr.alloc ?_ _ | with_reducible refine Vb.drew ?_ | with_reducible refine Ob.drew ?_ | with_reducible refine Gh.drew ?_ | with_reducible refine BkI.drew ?_ | with_reducible refine Fr.drew ?_ | with_reducible refine Vb.far ?_ ?_ | with_reducible refine Ob.far ?_ ?_ | with_reducible refine Gh.far ?_ ?_ | with_reducible refine BkI.far ?_ ?_ | with_reducible refine Fr.setN ?_ ?_ | (dsimp only; omega)))
  case rest =>
    obtain ⟨q, rfl, rfl, hq, O, G, X, V, F⟩ := hcut
    clear O1 G1 X1 F1 hs1 HX HG
    go_wp2_with fail
    go_at_call 24
    refine (show_any _ x s _ X.out HI.out).mono ?_
    rintro e w2 ⟨rfl, hf2⟩
    have O2 : Hid (Ob w2 w.heap.size 2 a b c t u) := O.out.keep hf2 (by simp)
    have G2 : Hid (Gh w2 g (gof s)) := G.out.keep hf2 (by simp)
    have X2 : Hid (BkI w2 x s) := BkI.keep X.out hf2 (by simp)
    have V2 : Hid (Vb w2 q ⟨b, c⟩) := V.out.keep hf2 (by simp)
    have F2 : Hid (Fr [x, g] w w2) := F.out.trans hf2.widen
    clear O G X V F hf2
    have o0 := O2.out.c0
    have o1 := O2.out.c1
    have o2 := O2.out.c2
    have o3 := O2.out.c3
    have o4 := O2.out.c4
    have o5 := O2.out.c5
    go_wp2_with fail
    go_at_call 26
    refine (do_request w2 x s a b c t u X2.out HI.out).mono ?_
    rintro e w3 ⟨rfl, hr3, hf3⟩
    rw [HRR.out] at hr3
    rw [HQ.out, HT.out]
    have hw2 := F2.out.size
    have O3 : Hid (Ob w3 w.heap.size 2 a b c t u) := O2.out.keep hf3 (by simp; omega)
    have G3 : Hid (Gh w3 g (gof s)) := G2.out.keep hf3 (by simp; omega)
    have X3 : Hid (BkI w3 x s) := hr3
    have V3 : Hid (Vb w3 q ⟨b, c⟩) := V2.out.keep hf3 (by simp; omega)
    have F3 : Hid (Fr [x, g] w w3) := F2.out.trans (hf3.mono (by simp))
    clear O2 G2 X2 V2 F2 hf3 hr3 o0 o1 o2 o3 o4 o5
    go_wp2_with fail
    go_at_call 24
    refine (show_any _ x _ _ (BkI.alloc X3.out _) HI.out).mono ?_
    rintro e w4 ⟨rfl, hf4⟩
    have A4 : Hid (Ab w4 w3.heap.size (fltE s a ⟨b, c⟩) 0 0 ⟨#[]⟩) := hf4.keep (blk_new _ _) (by simp)
    have O4 : Hid (Ob w4 w.heap.size 2 a b c t u) := (O3.out.alloc _).keep hf4 (by simp)
    have G4 : Hid (Gh w4 g (gof s)) := (G3.out.alloc _).keep hf4 (by simp)
    have X4 : Hid (BkI w4 x s) := (X3.out.alloc _).keep hf4 (by simp)
    have V4 : Hid (Vb w4 q ⟨b, c⟩) := (V3.out.alloc _).keep hf4 (by simp)
    have F4 : Hid (Fr [x, g] w w4) := (F3.out.alloc _).trans hf4.widen
    have hw3 := F3.out.size
    have hw4 := blk_lt A4.out
    clear O3 G3 X3 V3 F3 hf4
    have o0 := O4.out.c0
    have o1 := O4.out.c1
    have o2 := O4.out.c2
    have o3 := O4.out.c3
    have o4 := O4.out.c4
    have o5 := O4.out.c5
    have a0 := A4.out.c0
    have a1 := A4.out.c1
    have a2 := A4.out.c2
    have a3 := A4.out.c3
    go_wp2_with fail
    go_at_call 28
    refine (faulty_any _ g s G4.out HI.out 2 a b c t u (by omega) (by omega)).mono ?_
    rintro e w5 ⟨rfl, hf5⟩
    rw [HFE.out]
    have A5 : Hid (Ab w5 w3.heap.size (fltE s a ⟨b, c⟩) 0 0 ⟨#[]⟩) := A4.out.keep hf5 (by simp)
    have O5 : Hid (Ob w5 w.heap.size 2 a b c t u) := O4.out.keep hf5 (by simp)
    have G5 : Hid (Gh w5 g (gof s)) := G4.out.keep hf5 (by simp)
    have X5 : Hid (BkI w5 x s) := X4.out.keep hf5 (by simp)
    have V5 : Hid (Vb w5 q ⟨b, c⟩) := V4.out.keep hf5 (by simp)
    have F5 : Hid (Fr [x, g] w w5) := F4.out.trans hf5.widen
    clear A4 O4 G4 X4 V4 F4 hf5 o0 o1 o2 o3 o4 o5 a0 a1 a2 a3
    have o0 := O5.out.c0
    have o4 := O5.out.c4
    have a0 := A5.out.c0
    have a1 := A5.out.c1
    have a2 := A5.out.c2
    have a3 := A5.out.c3
    have v0 := V5.out.a
    have v1 := V5.out.b
    dsimp only at v0 v1
    go_wp2
    go_ret
    exact ⟨by simp, ⟨s, HI.out, X5.out, G5.out⟩, F5.out⟩

set_option maxHeartbeats 6400000 in
set_option maxRecDepth 100000 in
theorem step_request_ok (w : World) (x g : Nat) (s : St) (hx : BkI w x s) (hg : Gh w g (gof s)) (hi : Inv s) (hne : x ≠ g) (p : Nat) (hp4 : p < 4) (b c : Int) (t u : ByteArray) (ht : t.size ≤ 9223372036854775807) (hE : fltE s p ⟨b, c⟩ = 0) (hlp : s.live p = true) (hv : okV ⟨b, c⟩) (hn : b ≤ (s.need p).a ∧ c ≤ (s.need p).b) (ha : b ≤ s.av.a ∧ c ≤ s.av.b) (hg2 : gOkB (reqS s p ⟨b, c⟩) = true) :
    Calls Try.prog 15 #[.pointer (some ⟨x, 0, none⟩), .pointer (some ⟨g, 0, none⟩), .agg #[.int .i64 2, .int .i64 p, .int .i64 b, .int .i64 c, .string t, .string u]] w fun e w' => e = .returned (.bool true) ∧ Kept w' x g ∧ Fr [x, g] w w' := by
  have hxl := blk_lt hx
  have hgl := blk_lt hg
  have HX : Hid (BkI w x s) := hx
  have HG : Hid (Gh w g (gof s)) := hg
  have HI : Hid (Inv s) := hi
  clear hx hg hi
  have HFE : Hid (faultE s 2 p ⟨b, c⟩ = 0) := by show _ = _; simp [faultE, hE]
  have HQ : Hid (reqE s p ⟨b, c⟩ = 0) := by show _ = _; rw [reqE_ok hE, Int.toNat_natCast, hg2]; rfl
  have HT : Hid (reqT s p ⟨b, c⟩ = ordT (run (reqS s p ⟨b, c⟩) 4).ord) := by show _ = _; unfold reqT; rw [if_pos HQ.out, Int.toNat_natCast]
  have HRR : Hid (reqR s p ⟨b, c⟩ = reqS s p ⟨b, c⟩) := by show _ = _; unfold reqR; rw [if_pos HQ.out, Int.toNat_natCast]
  have IV : Hid (Inv (reqS s p ⟨b, c⟩)) := HI.out.req hp4 hlp ⟨hv.1, hv.2.2.1⟩ hn ha (gOkB_iff.1 hg2)
  have HV : Hid (okV ⟨b, c⟩) := hv
  have z1 := ord_size (reqS s p ⟨b, c⟩) 4
  have hpi : (p : Int) < 4 := by omega
  clear hE hg2 hn ha hv hlp
  go_enter Try.func15, Try.ntmps15
  go_wp2_with fail
  have O1 : Hid (Ob (w.alloc (.cells #[.int .i64 2, .int .i64 p, .int .i64 b, .int .i64 c, .string t, .string u] 41)) w.heap.size 2 p b c t u) := blk_new _ _
  have G1 : Hid (Gh (w.alloc (.cells #[.int .i64 2, .int .i64 p, .int .i64 b, .int .i64 c, .string t, .string u] 41)) g (gof s)) := blk_alloc HG.out _
  have X1 : Hid (BkI (w.alloc (.cells #[.int .i64 2, .int .i64 p, .int .i64 b, .int .i64 c, .string t, .string u] 41)) x s) := blk_alloc HX.out _
  have F1 : Hid (Fr [x, g] w (w.alloc (.cells #[.int .i64 2, .int .i64 p, .int .i64 b, .int .i64 c, .string t, .string u] 41))) := (Fr.refl _ _).alloc _
  have hs1 : w.heap.size < (w.alloc (.cells #[.int .i64 2, .int .i64 p, .int .i64 b, .int .i64 c, .string t, .string u] 41)).heap.size := blk_lt O1.out
  generalize w.alloc (.cells #[.int .i64 2, .int .i64 p, .int .i64 b, .int .i64 c, .string t, .string u] 41) = W1 at O1 G1 X1 F1 hs1 ⊢
  go_cut [7, 8] from 15 to 173 (fun s7 s8 wx => ∃ q : Nat, s7 = .int .i64 p ∧ s8 = .pointer (some ⟨q, 0, none⟩) ∧ w.heap.size < q ∧ Hid (Ob wx w.heap.size 2 p b c t u) ∧ Hid (Gh wx g (gof s)) ∧ Hid (BkI wx x s) ∧ Hid (Vb wx q ⟨b, c⟩) ∧ Hid (Fr [x, g] w wx))
  case first =>
    have oa := O1.out.c1
    have ox := O1.out.c2
    have oy := O1.out.c3
    have e1 : ¬ (w.heap.size = W1.heap.size) := by omega
    have e2 : ¬ (W1.heap.size = w.heap.size) := by omega
    go_region_held3 (fun w' => w'.cell? ⟨w.heap.size, 1, none⟩ = some (.int .i64 p) ∧ w'.cell? ⟨w.heap.size, 2, none⟩ = some (.int .i64 b) ∧ w'.cell? ⟨w.heap.size, 3, none⟩ = some (.int .i64 c)) (go_keep) (fail)
    all_goals (go_wp2_with fail; go_meet)
    all_goals
      have o1 := O1.out
      have g1 := G1.out
      have x1 := X1.out
      have f1 := F1.out
      refine ⟨_, rfl, rfl, by omega, ?_, ?_, ?_, ?_, ?_⟩
      all_goals (repeat' (first | with_reducible assumption | with_reducible refine hid ?_ | with_reducible exact Vb.new _ _ _ | with_reducible exact Vb.new1 _ _ _ _ | (with_reducible refine Vb.newE ?_; (simp; done)) | with_reducible refine Vs.set ?_ _ _ | with_reducible refine Vs.alloc ?_ _ | with_reducible refine Vs.drew ?_ | with_reducible refine Vs.far ?_ ?_ | with_reducible refine Vb.alloc ?_ _ | with_reducible refine Ob.alloc ?_ _ | with_reducible refine Gh.alloc ?_ _ | with_reducible refine BkI.alloc ?_ _ | with_reducible refine Fr.alloc ?_ _ | with_reducible refine Vb.drew ?_ | with_reducible refine Ob.drew ?_ | with_reducible refine Gh.drew ?_ | with_reducible refine BkI.drew ?_ | with_reducible refine Fr.drew ?_ | with_reducible refine Vb.far ?_ ?_ | with_reducible refine Ob.far ?_ ?_ | with_reducible refine Gh.far ?_ ?_ | with_reducible refine BkI.far ?_ ?_ | with_reducible refine Fr.setN ?_ ?_ | (dsimp only; omega)))
  case rest =>
    obtain ⟨q, rfl, rfl, hq, O, G, X, V, F⟩ := hcut
    clear O1 G1 X1 F1 hs1 HX HG
    go_wp2_with fail
    go_at_call 24
    refine (show_any _ x s _ X.out HI.out).mono ?_
    rintro e w2 ⟨rfl, hf2⟩
    have O2 : Hid (Ob w2 w.heap.size 2 p b c t u) := O.out.keep hf2 (by simp)
    have G2 : Hid (Gh w2 g (gof s)) := G.out.keep hf2 (by simp)
    have X2 : Hid (BkI w2 x s) := BkI.keep X.out hf2 (by simp)
    have V2 : Hid (Vb w2 q ⟨b, c⟩) := V.out.keep hf2 (by simp)
    have F2 : Hid (Fr [x, g] w w2) := F.out.trans hf2.widen
    clear O G X V F hf2
    have o0 := O2.out.c0
    have o1 := O2.out.c1
    have o2 := O2.out.c2
    have o3 := O2.out.c3
    have o4 := O2.out.c4
    have o5 := O2.out.c5
    go_wp2_with fail
    go_at_call 26
    refine (do_request w2 x s p b c t u X2.out HI.out).mono ?_
    rintro e w3 ⟨rfl, hr3, hf3⟩
    rw [HRR.out] at hr3
    rw [HQ.out, HT.out]
    have hw2 := F2.out.size
    have O3 : Hid (Ob w3 w.heap.size 2 p b c t u) := O2.out.keep hf3 (by simp; omega)
    have G3 : Hid (Gh w3 g (gof s)) := G2.out.keep hf3 (by simp; omega)
    have X3 : Hid (BkI w3 x (reqS s p ⟨b, c⟩)) := hr3
    have V3 : Hid (Vb w3 q ⟨b, c⟩) := V2.out.keep hf3 (by simp; omega)
    have F3 : Hid (Fr [x, g] w w3) := F2.out.trans (hf3.mono (by simp))
    clear O2 G2 X2 V2 F2 hf3 hr3 o0 o1 o2 o3 o4 o5
    go_wp2_with fail
    go_at_call 24
    refine (show_any _ x _ _ (BkI.alloc X3.out _) IV.out).mono ?_
    rintro e w4 ⟨rfl, hf4⟩
    have A4 : Hid (Ab w4 w3.heap.size (0) 0 0 (ordT (run (reqS s p ⟨b, c⟩) 4).ord)) := hf4.keep (blk_new _ _) (by simp)
    have O4 : Hid (Ob w4 w.heap.size 2 p b c t u) := (O3.out.alloc _).keep hf4 (by simp)
    have G4 : Hid (Gh w4 g (gof s)) := (G3.out.alloc _).keep hf4 (by simp)
    have X4 : Hid (BkI w4 x (reqS s p ⟨b, c⟩)) := (X3.out.alloc _).keep hf4 (by simp)
    have V4 : Hid (Vb w4 q ⟨b, c⟩) := (V3.out.alloc _).keep hf4 (by simp)
    have F4 : Hid (Fr [x, g] w w4) := (F3.out.alloc _).trans hf4.widen
    have hw3 := F3.out.size
    have hw4 := blk_lt A4.out
    clear O3 G3 X3 V3 F3 hf4
    have o0 := O4.out.c0
    have o1 := O4.out.c1
    have o2 := O4.out.c2
    have o3 := O4.out.c3
    have o4 := O4.out.c4
    have o5 := O4.out.c5
    have a0 := A4.out.c0
    have a1 := A4.out.c1
    have a2 := A4.out.c2
    have a3 := A4.out.c3
    go_wp2_with fail
    go_at_call 28
    refine (faulty_any _ g s G4.out HI.out 2 p b c t u (by omega) (by omega)).mono ?_
    rintro e w5 ⟨rfl, hf5⟩
    rw [HFE.out]
    have A5 : Hid (Ab w5 w3.heap.size (0) 0 0 (ordT (run (reqS s p ⟨b, c⟩) 4).ord)) := A4.out.keep hf5 (by simp)
    have O5 : Hid (Ob w5 w.heap.size 2 p b c t u) := O4.out.keep hf5 (by simp)
    have G5 : Hid (Gh w5 g (gof s)) := G4.out.keep hf5 (by simp)
    have X5 : Hid (BkI w5 x (reqS s p ⟨b, c⟩)) := X4.out.keep hf5 (by simp)
    have V5 : Hid (Vb w5 q ⟨b, c⟩) := V4.out.keep hf5 (by simp)
    have F5 : Hid (Fr [x, g] w w5) := F4.out.trans hf5.widen
    clear A4 O4 G4 X4 V4 F4 hf5 o0 o1 o2 o3 o4 o5 a0 a1 a2 a3
    have o0 := O5.out.c0
    have o4 := O5.out.c4
    have a0 := A5.out.c0
    have a1 := A5.out.c1
    have a2 := A5.out.c2
    have a3 := A5.out.c3
    have v0 := V5.out.a
    have v1 := V5.out.b
    dsimp only at v0 v1
    have lv := G5.out.li hp4
    have ca := G5.out.ca hp4
    have cb := G5.out.cb hp4
    have ha := G5.out.ha hp4
    have hb := G5.out.hb hp4
    have fl := G5.out.fr p
    have f0 := G5.out.fr (4 + p * 2)
    have f1 := G5.out.fr (4 + p * 2 + 1)
    have fa := G5.out.fr (12 + p * 2)
    have fb := G5.out.fr (12 + p * 2 + 1)
    dsimp only [gof] at lv ca cb ha hb
    have bh := HI.out.bd.held p hp4
    have bv := HV.out
    unfold okV at bv
    dsimp only at bv
    have hg5 : g < w5.heap.size := blk_lt G5.out
    have hq5 : q < w5.heap.size := blk_lt V5.out
    go_wp2_with fail
    have B6 : Hid (Vb (w5.alloc (.cells #[.int .i64 (s.held p).a, .int .i64 (s.held p).b] 27)) w5.heap.size (s.held p)) := blk_new _ _
    have A6 : Hid (Ab (w5.alloc (.cells #[.int .i64 (s.held p).a, .int .i64 (s.held p).b] 27)) w3.heap.size (0) 0 0 (ordT (run (reqS s p ⟨b, c⟩) 4).ord)) := blk_alloc A5.out _
    have O6 : Hid (Ob (w5.alloc (.cells #[.int .i64 (s.held p).a, .int .i64 (s.held p).b] 27)) w.heap.size 2 p b c t u) := blk_alloc O5.out _
    have G6 : Hid (Gh (w5.alloc (.cells #[.int .i64 (s.held p).a, .int .i64 (s.held p).b] 27)) g (gof s)) := blk_alloc G5.out _
    have X6 : Hid (BkI (w5.alloc (.cells #[.int .i64 (s.held p).a, .int .i64 (s.held p).b] 27)) x (reqS s p ⟨b, c⟩)) := blk_alloc X5.out _
    have V6 : Hid (Vb (w5.alloc (.cells #[.int .i64 (s.held p).a, .int .i64 (s.held p).b] 27)) q ⟨b, c⟩) := blk_alloc V5.out _
    have F6 : Hid (Fr [x, g] w (w5.alloc (.cells #[.int .i64 (s.held p).a, .int .i64 (s.held p).b] 27))) := F5.out.alloc _
    generalize w5.alloc (.cells #[.int .i64 (s.held p).a, .int .i64 (s.held p).b] 27) = W6 at B6 A6 O6 G6 X6 V6 F6 ⊢
    have hr5 : g ≠ w5.heap.size := by omega
    generalize w5.heap.size = r at B6 hr5 ⊢
    clear A5 O5 G5 X5 V5 F5 lv ca cb ha hb fl f0 f1 fa fb o0 o4 a0 a1 a2 a3 v0 v1 hg5 hq5
    have ha := G6.out.ha hp4
    have hb := G6.out.hb hp4
    have fa := G6.out.fr (12 + p * 2)
    have fb := G6.out.fr (12 + p * 2 + 1)
    dsimp only [gof] at ha hb
    have v0 := V6.out.a
    have v1 := V6.out.b
    dsimp only at v0 v1
    have r0 := B6.out.a
    have r1 := B6.out.b
    go_cut [7] from 15 to 173 (fun s7 wx => s7 = .int .i64 p ∧ Hid (Vb wx r (s.held p)) ∧ Hid (Ab wx w3.heap.size (0) 0 0 (ordT (run (reqS s p ⟨b, c⟩) 4).ord)) ∧ Hid (Ob wx w.heap.size 2 p b c t u) ∧ Hid (Gh wx g (gof (reqS s p ⟨b, c⟩))) ∧ Hid (BkI wx x (reqS s p ⟨b, c⟩)) ∧ Hid (Fr [x, g] w wx))
    case first =>
      have hg6 : g < w.heap.size := hgl
      go_region_held3 (fun w' => w'.cell? ⟨r, 0, none⟩ = some (.int .i64 (s.held p).a) ∧ w'.cell? ⟨r, 1, none⟩ = some (.int .i64 (s.held p).b) ∧ w'.cell? ⟨q, 0, none⟩ = some (.int .i64 b) ∧ w'.cell? ⟨q, 1, none⟩ = some (.int .i64 c)) (go_keep)
        ((go_at_call 29; refine (add_any _ _ _ _ _ (by omega) (by omega) (by omega) (by omega)).mono ?_; rintro e w7 ⟨rfl, hf7⟩; have G7 : Hid (Gh w7 g (gof s)) := Gh.keep G6.out.drew hf7 (by simp); have V7 : Hid (Vb w7 q ⟨b, c⟩) := Vb.keep V6.out.drew hf7 (by simp); have B7 : Hid (Vb w7 r (s.held p)) := Vb.keep B6.out.drew hf7 (by simp); have ha := G7.out.ha hp4; have hb := G7.out.hb hp4; have fa := G7.out.fr (12 + p * 2); have fb := G7.out.fr (12 + p * 2 + 1); have v0 := V7.out.a; have v1 := V7.out.b; have r0 := B7.out.a; have r1 := B7.out.b; have e1 : ¬ (q = g) := (by omega); have e2 : ¬ (g = q) := (by omega); have e3 : ¬ (r = g) := (by omega); have e4 : ¬ (g = r) := (by omega); dsimp only [gof] at ha hb v0 v1 r0 r1))
      all_goals (go_wp2_with fail; go_meet)
      all_goals
        refine ⟨rfl, ?_, ?_, ?_, ?_, ?_, ?_⟩
        · exact B7.out.far2 (by omega)
        · exact blk_set_far (blk_set_far (A6.out.drew.keep hf7 (by simp)) _ _ (by dsimp only; omega)) _ _ (by dsimp only; omega)
        · exact ((O6.out.drew.keep hf7 (by simp)).far (by dsimp only; omega)).far (by dsimp only; omega)
        · show Gh _ _ _
          rw [gof_req]
          exact G7.out.setH hp4 ((s.held p).add ⟨b, c⟩)
        · exact ((X6.out.drew.keep hf7 (by simp)).far hne).far hne
        · exact ((F6.out.drew.trans hf7.widen).setCell (Or.inl (by simp)) _).setCell (Or.inl (by simp)) _
    case rest =>
      obtain ⟨rfl, B7, A7, O7, G7, X7, F7⟩ := hcut
      clear B6 A6 O6 G6 X6 V6 F6 ha hb fa fb v0 v1 r0 r1
      have a0 := A7.out.c0
      have a1 := A7.out.c1
      have a2 := A7.out.c2
      have a3 := A7.out.c3
      have o4 := O7.out.c4
      go_wp2_with fail
      go_at_call 21
      refine (judge_any _ g _ _ (by omega) G7.out IV.out.sm).mono ?_
      rintro e w8 ⟨rfl, hf8⟩
      rw [judge_ord IV.out]
      have A8 : Hid (Ab w8 w3.heap.size 0 0 0 (ordT (run (reqS s p ⟨b, c⟩) 4).ord)) := A7.out.keep hf8 (by simp)
      clear a0 a1 a2 a3 o4
      have a3 := A8.out.c3
      go_wp2_with fail
      go_at_call 22
      refine (least_any _ g _ _ z1 (fun i h => ord_at h (ord_lt _)) (least_ord _) (hf8.keep G7.out (by simp)) IV.out.sm).mono ?_
      rintro e w9 ⟨rfl, hf9⟩
      go_wp2
      go_ret
      exact ⟨rfl, ⟨_, IV.out, hf9.keep (hf8.keep X7.out (by simp)) (by simp), hf9.keep (hf8.keep G7.out (by simp)) (by simp)⟩, (F7.out.trans hf8.widen).trans hf9.widen⟩

set_option maxHeartbeats 6400000 in
set_option maxRecDepth 100000 in
theorem step_request_barred (w : World) (x g : Nat) (s : St) (hx : BkI w x s) (hg : Gh w g (gof s)) (hi : Inv s) (hne : x ≠ g) (p : Nat) (hp4 : p < 4) (b c : Int) (t u : ByteArray) (ht : t.size ≤ 9223372036854775807) (hE : fltE s p ⟨b, c⟩ = 0) (hlp : s.live p = true) (hv : okV ⟨b, c⟩) (hn : b ≤ (s.need p).a ∧ c ≤ (s.need p).b) (ha : b ≤ s.av.a ∧ c ≤ s.av.b) (hg2 : gOkB (reqS s p ⟨b, c⟩) = false) :
    Calls Try.prog 15 #[.pointer (some ⟨x, 0, none⟩), .pointer (some ⟨g, 0, none⟩), .agg #[.int .i64 2, .int .i64 p, .int .i64 b, .int .i64 c, .string t, .string u]] w fun e w' => e = .returned (.bool true) ∧ Kept w' x g ∧ Fr [x, g] w w' := by
  have hxl := blk_lt hx
  have hgl := blk_lt hg
  have HX : Hid (BkI w x s) := hx
  have HG : Hid (Gh w g (gof s)) := hg
  have HI : Hid (Inv s) := hi
  clear hx hg hi
  have HFE : Hid (faultE s 2 p ⟨b, c⟩ = 0) := by show _ = _; simp [faultE, hE]
  have HQ : Hid (reqE s p ⟨b, c⟩ = 6) := by show _ = _; rw [reqE_ok hE, Int.toNat_natCast, hg2]; rfl
  have HT : Hid (reqT s p ⟨b, c⟩ = ⟨#[]⟩) := by show _ = _; unfold reqT; rw [if_neg (by rw [HQ.out]; omega)]
  have HRR : Hid (reqR s p ⟨b, c⟩ = s) := by show _ = _; unfold reqR; rw [if_neg (by rw [HQ.out]; omega)]
  have SM : Hid (Sm (reqS s p ⟨b, c⟩)) := HI.out.smr hp4 hv hn ha
  have HJ : Hid (judgeB (reqS s p ⟨b, c⟩) t.data.toList = false) := by
    show _ = _
    cases hj : judgeB (reqS s p ⟨b, c⟩) t.data.toList with
    | false => rfl
    | true =>
      have hc := judge_comp hj
      have hps : Pos (reqS s p ⟨b, c⟩) := ⟨fun q hq => by
        have h1 := HI.out.slot q hq
        unfold okV at hv
        simp only [reqS, upd]; split
        · rename_i e
          subst e
          simp only [Vc.add]; dsimp only at hv; omega
        · omega⟩
      have := gOkB_iff.2 ((gOk_iff hps).2 hc)
      rw [hg2] at this; simp at this
  have HV : Hid (okV ⟨b, c⟩) := hv
  have he := fun W => eq_ans W 6 0 0 ⟨#[]⟩
  have hpi : (p : Int) < 4 := by omega
  clear hE hg2 hn ha hv hlp
  go_enter Try.func15, Try.ntmps15
  go_wp2_with fail
  have O1 : Hid (Ob (w.alloc (.cells #[.int .i64 2, .int .i64 p, .int .i64 b, .int .i64 c, .string t, .string u] 41)) w.heap.size 2 p b c t u) := blk_new _ _
  have G1 : Hid (Gh (w.alloc (.cells #[.int .i64 2, .int .i64 p, .int .i64 b, .int .i64 c, .string t, .string u] 41)) g (gof s)) := blk_alloc HG.out _
  have X1 : Hid (BkI (w.alloc (.cells #[.int .i64 2, .int .i64 p, .int .i64 b, .int .i64 c, .string t, .string u] 41)) x s) := blk_alloc HX.out _
  have F1 : Hid (Fr [x, g] w (w.alloc (.cells #[.int .i64 2, .int .i64 p, .int .i64 b, .int .i64 c, .string t, .string u] 41))) := (Fr.refl _ _).alloc _
  have hs1 : w.heap.size < (w.alloc (.cells #[.int .i64 2, .int .i64 p, .int .i64 b, .int .i64 c, .string t, .string u] 41)).heap.size := blk_lt O1.out
  generalize w.alloc (.cells #[.int .i64 2, .int .i64 p, .int .i64 b, .int .i64 c, .string t, .string u] 41) = W1 at O1 G1 X1 F1 hs1 ⊢
  go_cut [7, 8] from 15 to 173 (fun s7 s8 wx => ∃ q : Nat, s7 = .int .i64 p ∧ s8 = .pointer (some ⟨q, 0, none⟩) ∧ w.heap.size < q ∧ Hid (Ob wx w.heap.size 2 p b c t u) ∧ Hid (Gh wx g (gof s)) ∧ Hid (BkI wx x s) ∧ Hid (Vb wx q ⟨b, c⟩) ∧ Hid (Fr [x, g] w wx))
  case first =>
    have oa := O1.out.c1
    have ox := O1.out.c2
    have oy := O1.out.c3
    have e1 : ¬ (w.heap.size = W1.heap.size) := by omega
    have e2 : ¬ (W1.heap.size = w.heap.size) := by omega
    go_region_held3 (fun w' => w'.cell? ⟨w.heap.size, 1, none⟩ = some (.int .i64 p) ∧ w'.cell? ⟨w.heap.size, 2, none⟩ = some (.int .i64 b) ∧ w'.cell? ⟨w.heap.size, 3, none⟩ = some (.int .i64 c)) (go_keep) (fail)
    all_goals (go_wp2_with fail; go_meet)
    all_goals
      have o1 := O1.out
      have g1 := G1.out
      have x1 := X1.out
      have f1 := F1.out
      refine ⟨_, rfl, rfl, by omega, ?_, ?_, ?_, ?_, ?_⟩
      all_goals (repeat' (first | with_reducible assumption | with_reducible refine hid ?_ | with_reducible exact Vb.new _ _ _ | with_reducible exact Vb.new1 _ _ _ _ | (with_reducible refine Vb.newE ?_; (simp; done)) | with_reducible refine Vs.set ?_ _ _ | with_reducible refine Vs.alloc ?_ _ | with_reducible refine Vs.drew ?_ | with_reducible refine Vs.far ?_ ?_ | with_reducible refine Vb.alloc ?_ _ | with_reducible refine Ob.alloc ?_ _ | with_reducible refine Gh.alloc ?_ _ | with_reducible refine BkI.alloc ?_ _ | with_reducible refine Fr.alloc ?_ _ | with_reducible refine Vb.drew ?_ | with_reducible refine Ob.drew ?_ | with_reducible refine Gh.drew ?_ | with_reducible refine BkI.drew ?_ | with_reducible refine Fr.drew ?_ | with_reducible refine Vb.far ?_ ?_ | with_reducible refine Ob.far ?_ ?_ | with_reducible refine Gh.far ?_ ?_ | with_reducible refine BkI.far ?_ ?_ | with_reducible refine Fr.setN ?_ ?_ | (dsimp only; omega)))
  case rest =>
    obtain ⟨q, rfl, rfl, hq, O, G, X, V, F⟩ := hcut
    clear O1 G1 X1 F1 hs1 HX HG
    go_wp2_with fail
    go_at_call 24
    refine (show_any _ x s _ X.out HI.out).mono ?_
    rintro e w2 ⟨rfl, hf2⟩
    have O2 : Hid (Ob w2 w.heap.size 2 p b c t u) := O.out.keep hf2 (by simp)
    have G2 : Hid (Gh w2 g (gof s)) := G.out.keep hf2 (by simp)
    have X2 : Hid (BkI w2 x s) := BkI.keep X.out hf2 (by simp)
    have V2 : Hid (Vb w2 q ⟨b, c⟩) := V.out.keep hf2 (by simp)
    have F2 : Hid (Fr [x, g] w w2) := F.out.trans hf2.widen
    clear O G X V F hf2
    have o0 := O2.out.c0
    have o1 := O2.out.c1
    have o2 := O2.out.c2
    have o3 := O2.out.c3
    have o4 := O2.out.c4
    have o5 := O2.out.c5
    go_wp2_with fail
    go_at_call 26
    refine (do_request w2 x s p b c t u X2.out HI.out).mono ?_
    rintro e w3 ⟨rfl, hr3, hf3⟩
    rw [HRR.out] at hr3
    rw [HQ.out, HT.out]
    have hw2 := F2.out.size
    have O3 : Hid (Ob w3 w.heap.size 2 p b c t u) := O2.out.keep hf3 (by simp; omega)
    have G3 : Hid (Gh w3 g (gof s)) := G2.out.keep hf3 (by simp; omega)
    have X3 : Hid (BkI w3 x s) := hr3
    have V3 : Hid (Vb w3 q ⟨b, c⟩) := V2.out.keep hf3 (by simp; omega)
    have F3 : Hid (Fr [x, g] w w3) := F2.out.trans (hf3.mono (by simp))
    clear O2 G2 X2 V2 F2 hf3 hr3 o0 o1 o2 o3 o4 o5
    go_wp2_with fail
    go_at_call 24
    refine (show_any _ x _ _ (BkI.alloc X3.out _) HI.out).mono ?_
    rintro e w4 ⟨rfl, hf4⟩
    have A4 : Hid (Ab w4 w3.heap.size (6) 0 0 ⟨#[]⟩) := hf4.keep (blk_new _ _) (by simp)
    have O4 : Hid (Ob w4 w.heap.size 2 p b c t u) := (O3.out.alloc _).keep hf4 (by simp)
    have G4 : Hid (Gh w4 g (gof s)) := (G3.out.alloc _).keep hf4 (by simp)
    have X4 : Hid (BkI w4 x s) := (X3.out.alloc _).keep hf4 (by simp)
    have V4 : Hid (Vb w4 q ⟨b, c⟩) := (V3.out.alloc _).keep hf4 (by simp)
    have F4 : Hid (Fr [x, g] w w4) := (F3.out.alloc _).trans hf4.widen
    have hw3 := F3.out.size
    have hw4 := blk_lt A4.out
    clear O3 G3 X3 V3 F3 hf4
    have o0 := O4.out.c0
    have o1 := O4.out.c1
    have o2 := O4.out.c2
    have o3 := O4.out.c3
    have o4 := O4.out.c4
    have o5 := O4.out.c5
    have a0 := A4.out.c0
    have a1 := A4.out.c1
    have a2 := A4.out.c2
    have a3 := A4.out.c3
    go_wp2_with fail
    go_at_call 28
    refine (faulty_any _ g s G4.out HI.out 2 p b c t u (by omega) (by omega)).mono ?_
    rintro e w5 ⟨rfl, hf5⟩
    rw [HFE.out]
    have A5 : Hid (Ab w5 w3.heap.size (6) 0 0 ⟨#[]⟩) := A4.out.keep hf5 (by simp)
    have O5 : Hid (Ob w5 w.heap.size 2 p b c t u) := O4.out.keep hf5 (by simp)
    have G5 : Hid (Gh w5 g (gof s)) := G4.out.keep hf5 (by simp)
    have X5 : Hid (BkI w5 x s) := X4.out.keep hf5 (by simp)
    have V5 : Hid (Vb w5 q ⟨b, c⟩) := V4.out.keep hf5 (by simp)
    have F5 : Hid (Fr [x, g] w w5) := F4.out.trans hf5.widen
    clear A4 O4 G4 X4 V4 F4 hf5 o0 o1 o2 o3 o4 o5 a0 a1 a2 a3
    have o0 := O5.out.c0
    have o4 := O5.out.c4
    have a0 := A5.out.c0
    have a1 := A5.out.c1
    have a2 := A5.out.c2
    have a3 := A5.out.c3
    have v0 := V5.out.a
    have v1 := V5.out.b
    dsimp only at v0 v1
    have lv := G5.out.li hp4
    have ca := G5.out.ca hp4
    have cb := G5.out.cb hp4
    have ha := G5.out.ha hp4
    have hb := G5.out.hb hp4
    have fl := G5.out.fr p
    have f0 := G5.out.fr (4 + p * 2)
    have f1 := G5.out.fr (4 + p * 2 + 1)
    have fa := G5.out.fr (12 + p * 2)
    have fb := G5.out.fr (12 + p * 2 + 1)
    dsimp only [gof] at lv ca cb ha hb
    have bh := HI.out.bd.held p hp4
    have bv := HV.out
    unfold okV at bv
    dsimp only at bv
    have hg5 : g < w5.heap.size := blk_lt G5.out
    have hq5 : q < w5.heap.size := blk_lt V5.out
    go_wp2_with fail
    have B6 : Hid (Vb (w5.alloc (.cells #[.int .i64 (s.held p).a, .int .i64 (s.held p).b] 27)) w5.heap.size (s.held p)) := blk_new _ _
    have A6 : Hid (Ab (w5.alloc (.cells #[.int .i64 (s.held p).a, .int .i64 (s.held p).b] 27)) w3.heap.size (6) 0 0 (⟨#[]⟩)) := blk_alloc A5.out _
    have O6 : Hid (Ob (w5.alloc (.cells #[.int .i64 (s.held p).a, .int .i64 (s.held p).b] 27)) w.heap.size 2 p b c t u) := blk_alloc O5.out _
    have G6 : Hid (Gh (w5.alloc (.cells #[.int .i64 (s.held p).a, .int .i64 (s.held p).b] 27)) g (gof s)) := blk_alloc G5.out _
    have X6 : Hid (BkI (w5.alloc (.cells #[.int .i64 (s.held p).a, .int .i64 (s.held p).b] 27)) x s) := blk_alloc X5.out _
    have V6 : Hid (Vb (w5.alloc (.cells #[.int .i64 (s.held p).a, .int .i64 (s.held p).b] 27)) q ⟨b, c⟩) := blk_alloc V5.out _
    have F6 : Hid (Fr [x, g] w (w5.alloc (.cells #[.int .i64 (s.held p).a, .int .i64 (s.held p).b] 27))) := F5.out.alloc _
    generalize w5.alloc (.cells #[.int .i64 (s.held p).a, .int .i64 (s.held p).b] 27) = W6 at B6 A6 O6 G6 X6 V6 F6 ⊢
    have hr5 : g ≠ w5.heap.size := by omega
    generalize w5.heap.size = r at B6 hr5 ⊢
    clear A5 O5 G5 X5 V5 F5 lv ca cb ha hb fl f0 f1 fa fb o0 o4 a0 a1 a2 a3 v0 v1 hg5 hq5
    have ha := G6.out.ha hp4
    have hb := G6.out.hb hp4
    have fa := G6.out.fr (12 + p * 2)
    have fb := G6.out.fr (12 + p * 2 + 1)
    dsimp only [gof] at ha hb
    have v0 := V6.out.a
    have v1 := V6.out.b
    dsimp only at v0 v1
    have r0 := B6.out.a
    have r1 := B6.out.b
    go_cut [7] from 15 to 173 (fun s7 wx => s7 = .int .i64 p ∧ Hid (Vb wx r (s.held p)) ∧ Hid (Ab wx w3.heap.size (6) 0 0 (⟨#[]⟩)) ∧ Hid (Ob wx w.heap.size 2 p b c t u) ∧ Hid (Gh wx g (gof (reqS s p ⟨b, c⟩))) ∧ Hid (BkI wx x s) ∧ Hid (Fr [x, g] w wx))
    case first =>
      have hg6 : g < w.heap.size := hgl
      go_region_held3 (fun w' => w'.cell? ⟨r, 0, none⟩ = some (.int .i64 (s.held p).a) ∧ w'.cell? ⟨r, 1, none⟩ = some (.int .i64 (s.held p).b) ∧ w'.cell? ⟨q, 0, none⟩ = some (.int .i64 b) ∧ w'.cell? ⟨q, 1, none⟩ = some (.int .i64 c)) (go_keep)
        ((go_at_call 29; refine (add_any _ _ _ _ _ (by omega) (by omega) (by omega) (by omega)).mono ?_; rintro e w7 ⟨rfl, hf7⟩; have G7 : Hid (Gh w7 g (gof s)) := Gh.keep G6.out.drew hf7 (by simp); have V7 : Hid (Vb w7 q ⟨b, c⟩) := Vb.keep V6.out.drew hf7 (by simp); have B7 : Hid (Vb w7 r (s.held p)) := Vb.keep B6.out.drew hf7 (by simp); have ha := G7.out.ha hp4; have hb := G7.out.hb hp4; have fa := G7.out.fr (12 + p * 2); have fb := G7.out.fr (12 + p * 2 + 1); have v0 := V7.out.a; have v1 := V7.out.b; have r0 := B7.out.a; have r1 := B7.out.b; have e1 : ¬ (q = g) := (by omega); have e2 : ¬ (g = q) := (by omega); have e3 : ¬ (r = g) := (by omega); have e4 : ¬ (g = r) := (by omega); dsimp only [gof] at ha hb v0 v1 r0 r1))
      all_goals (go_wp2_with fail; go_meet)
      all_goals
        refine ⟨rfl, ?_, ?_, ?_, ?_, ?_, ?_⟩
        · exact B7.out.far2 (by omega)
        · exact blk_set_far (blk_set_far (A6.out.drew.keep hf7 (by simp)) _ _ (by dsimp only; omega)) _ _ (by dsimp only; omega)
        · exact ((O6.out.drew.keep hf7 (by simp)).far (by dsimp only; omega)).far (by dsimp only; omega)
        · show Gh _ _ _
          rw [gof_req]
          exact G7.out.setH hp4 ((s.held p).add ⟨b, c⟩)
        · exact ((X6.out.drew.keep hf7 (by simp)).far hne).far hne
        · exact ((F6.out.drew.trans hf7.widen).setCell (Or.inl (by simp)) _).setCell (Or.inl (by simp)) _
    case rest =>
      obtain ⟨rfl, B7, A7, O7, G7, X7, F7⟩ := hcut
      clear B6 A6 O6 G6 X6 V6 F6 ha hb fa fb v0 v1 r0 r1
      have a0 := A7.out.c0
      have a1 := A7.out.c1
      have a2 := A7.out.c2
      have a3 := A7.out.c3
      have o4 := O7.out.c4
      go_wp2_with fail
      go_at_call 21
      refine (judge_any _ g _ t ht G7.out SM.out).mono ?_
      rintro e w8 ⟨rfl, hf8⟩
      rw [HJ.out]
      have A8 : Hid (Ab w8 w3.heap.size 6 0 0 ⟨#[]⟩) := A7.out.keep hf8 (by simp)
      have B8 : Hid (Vb w8 r (s.held p)) := B7.out.keep hf8 (by simp)
      have G8 : Hid (Gh w8 g (gof (reqS s p ⟨b, c⟩))) := G7.out.keep hf8 (by simp)
      have X8 : Hid (BkI w8 x s) := X7.out.keep hf8 (by simp)
      have F8 : Hid (Fr [x, g] w w8) := F7.out.trans hf8.widen
      clear A7 B7 G7 X7 F7 O7 hf8 a0 a1 a2 a3 o4
      have a0 := A8.out.c0
      have r0 := B8.out.a
      have r1 := B8.out.b
      have ha := G8.out.ha hp4
      have hb := G8.out.hb hp4
      have fa := G8.out.fr (12 + p * 2)
      have fb := G8.out.fr (12 + p * 2 + 1)
      go_wp2_with fail
      go_region
      have G9 : Hid (Gh ((w8.setCell ⟨g, 12 + p * 2, none⟩ (.int .i64 (s.held p).a)).setCell ⟨g, 12 + p * 2 + 1, none⟩ (.int .i64 (s.held p).b)).drew g (gof s)) := by
        have h := G8.out.setH hp4 (s.held p)
        rw [gof_req] at h
        dsimp only at h
        rw [upd_upd, upd_self _ _ _ rfl] at h
        exact h
      have X9 : Hid (BkI ((w8.setCell ⟨g, 12 + p * 2, none⟩ (.int .i64 (s.held p).a)).setCell ⟨g, 12 + p * 2 + 1, none⟩ (.int .i64 (s.held p).b)).drew x s) := (X8.out.far hne).far hne
      have A9 : Hid (Ab ((w8.setCell ⟨g, 12 + p * 2, none⟩ (.int .i64 (s.held p).a)).setCell ⟨g, 12 + p * 2 + 1, none⟩ (.int .i64 (s.held p).b)).drew w3.heap.size 6 0 0 ⟨#[]⟩) := blk_set_far (blk_set_far A8.out _ _ (by dsimp only; omega)) _ _ (by dsimp only; omega)
      have F9 : Hid (Fr [x, g] w ((w8.setCell ⟨g, 12 + p * 2, none⟩ (.int .i64 (s.held p).a)).setCell ⟨g, 12 + p * 2 + 1, none⟩ (.int .i64 (s.held p).b)).drew) := ((F8.out.setCell (Or.inl (by simp)) _).setCell (Or.inl (by simp)) _).drew
      generalize ((w8.setCell ⟨g, 12 + p * 2, none⟩ (.int .i64 (s.held p).a)).setCell ⟨g, 12 + p * 2 + 1, none⟩ (.int .i64 (s.held p).b)).drew = W9 at G9 X9 A9 F9 ⊢
      clear A8 B8 G8 X8 F8 a0 r0 r1 ha hb fa fb
      have a0 := A9.out.c0
      go_wp2
      go_ret
      exact ⟨rfl, ⟨s, HI.out, X9.out, G9.out⟩, F9.out⟩

end Go.Proofs.Qxb6500340a
