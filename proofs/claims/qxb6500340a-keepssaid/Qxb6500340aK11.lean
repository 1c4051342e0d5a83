import Derived.Test.Qxb6500340aK10
namespace Go.Proofs.Qxb6500340a
open Go.RowKit
set_option linter.unusedVariables false
set_option linter.unusedSimpArgs false

set_option maxHeartbeats 6400000 in
set_option maxRecDepth 100000 in
theorem step_declare_bad (w : World) (x g : Nat) (s : St) (hx : BkI w x s) (hg : Gh w g (gof s)) (hi : Inv s) (hne : x ≠ g) (a : Int) (b c : Int) (t u : ByteArray) (ht : t.size ≤ 9223372036854775807) (hE : gateE s a false ⟨b, c⟩ ≠ 0) :
    Calls Try.prog 15 #[.pointer (some ⟨x, 0, none⟩), .pointer (some ⟨g, 0, none⟩), .agg #[.int .i64 1, .int .i64 a, .int .i64 b, .int .i64 c, .string t, .string u]] w fun e w' => e = .returned (.bool true) ∧ Kept w' x g ∧ Fr [x, g] w w' := by
  have hxl := blk_lt hx
  have hgl := blk_lt hg
  have HX : Hid (BkI w x s) := hx
  have HG : Hid (Gh w g (gof s)) := hg
  have HI : Hid (Inv s) := hi
  clear hx hg hi
  have HFE : Hid (faultE s 1 a ⟨b, c⟩ = gateE s a false ⟨b, c⟩) := by show _ = _; simp [faultE]
  have HRR : Hid ((declR s a ⟨b, c⟩) = s) := by show (declR s a ⟨b, c⟩) = s; unfold declR; rw [if_neg hE]
  have he := fun W => eq_ans W (gateE s a false ⟨b, c⟩) 0 0 ⟨#[]⟩
  have d0 : (gateE s a false ⟨b, c⟩ == 0) = false := beq_eq_false_iff_ne.2 hE
  have d1 : (gateE s a false ⟨b, c⟩ != 0) = true := by rw [bne_iff_ne]; exact hE
  clear hE
  go_enter Try.func15, Try.ntmps15
  go_wp2_with fail
  have O1 : Hid (Ob (w.alloc (.cells #[.int .i64 1, .int .i64 a, .int .i64 b, .int .i64 c, .string t, .string u] 41)) w.heap.size 1 a b c t u) := blk_new _ _
  have G1 : Hid (Gh (w.alloc (.cells #[.int .i64 1, .int .i64 a, .int .i64 b, .int .i64 c, .string t, .string u] 41)) g (gof s)) := blk_alloc HG.out _
  have X1 : Hid (BkI (w.alloc (.cells #[.int .i64 1, .int .i64 a, .int .i64 b, .int .i64 c, .string t, .string u] 41)) x s) := blk_alloc HX.out _
  have F1 : Hid (Fr [x, g] w (w.alloc (.cells #[.int .i64 1, .int .i64 a, .int .i64 b, .int .i64 c, .string t, .string u] 41))) := (Fr.refl _ _).alloc _
  have hs1 : w.heap.size < (w.alloc (.cells #[.int .i64 1, .int .i64 a, .int .i64 b, .int .i64 c, .string t, .string u] 41)).heap.size := blk_lt O1.out
  generalize w.alloc (.cells #[.int .i64 1, .int .i64 a, .int .i64 b, .int .i64 c, .string t, .string u] 41) = W1 at O1 G1 X1 F1 hs1 ⊢
  go_cut [7, 8] from 15 to 173 (fun s7 s8 wx => ∃ q : Nat, s7 = .int .i64 a ∧ s8 = .pointer (some ⟨q, 0, none⟩) ∧ w.heap.size < q ∧ Hid (Ob wx w.heap.size 1 a b c t u) ∧ Hid (Gh wx g (gof s)) ∧ Hid (BkI wx x s) ∧ Hid (Vb wx q ⟨b, c⟩) ∧ Hid (Fr [x, g] w wx))
  case first =>
    have oa := O1.out.c1
    have ox := O1.out.c2
    have oy := O1.out.c3
    have e1 : ¬ (w.heap.size = W1.heap.size) := by omega
    have e2 : ¬ (W1.heap.size = w.heap.size) := by omega
    go_region_held3 (fun w' => w'.cell? ⟨w.heap.size, 1, none⟩ = some (.int .i64 a) ∧ w'.cell? ⟨w.heap.size, 2, none⟩ = some (.int .i64 b) ∧ w'.cell? ⟨w.heap.size, 3, none⟩ = some (.int .i64 c)) (go_keep) (fail)
    all_goals (go_wp2_with fail; go_meet)
    all_goals
      have o1 := O1.out
      have g1 := G1.out
      have x1 := X1.out
      have f1 := F1.out
      refine ⟨_, rfl, rfl, by omega, ?_, ?_, ?_, ?_, ?_⟩
      all_goals (repeat' (first | with_reducible assumption | with_reducible refine hid ?_ | with_reducible exact Vb.new _ _ _ | with_reducible exact Vb.new1 _ _ _ _ | (with_reducible refine Vb.newE ?_; (simp; done)) | with_reducible refine Vs.set ?_ _ _ | with_reducible refine Vs.alloc ?_ _ | with_reducible refine Vs.drew ?_ | with_reducible refine Vs.far ?_ ?_ | with_reducible refine Vb.alloc ?_ _ | with_reducible refine Ob.alloc ?_ _ | with_reducible refine Gh.alloc ?_ _ | with_reducible refine BkI.alloc ?_ _ | with_reducible refine Fr.alloc ?_ _ | with_reducible refine Vb.drew ?_ | with_reducible refine Ob.drew ?_ | with_reducible refine Gh.drew ?_ | with_reducible refine BkI.drew ?_ | with_reducible refine Fr.drew ?_ | with_reducible refine Vb.far ?_ ?_ | with_reducible refine Ob.far ?_ ?_ | with_reducible refine Gh.far ?_ ?_ | with_reducible refine BkI.far ?_ ?_ | with_reducible refine Fr.setN ?_ ?_ | (dsimp only; omega)))
  case rest =>
    obtain ⟨q, rfl, rfl, hq, O, G, X, V, F⟩ := hcut
    clear O1 G1 X1 F1 hs1 HX HG
    go_wp2_with fail
    go_at_call 24
    refine (show_any _ x s _ X.out HI.out).mono ?_
    rintro e w2 ⟨rfl, hf2⟩
    have O2 : Hid (Ob w2 w.heap.size 1 a b c t u) := O.out.keep hf2 (by simp)
    have G2 : Hid (Gh w2 g (gof s)) := G.out.keep hf2 (by simp)
    have X2 : Hid (BkI w2 x s) := BkI.keep X.out hf2 (by simp)
    have V2 : Hid (Vb w2 q ⟨b, c⟩) := V.out.keep hf2 (by simp)
    have F2 : Hid (Fr [x, g] w w2) := F.out.trans hf2.widen
    clear O G X V F hf2
    have o0 := O2.out.c0
    have o1 := O2.out.c1
    have o2 := O2.out.c2
    have o3 := O2.out.c3
    have o4 := O2.out.c4
    have o5 := O2.out.c5
    go_wp2_with fail
    go_at_call 26
    refine (do_declare w2 x s a b c t u X2.out HI.out).mono ?_
    rintro e w3 ⟨rfl, hr3, hf3⟩
    rw [HRR.out] at hr3
    have hw2 := F2.out.size
    have O3 : Hid (Ob w3 w.heap.size 1 a b c t u) := O2.out.keep hf3 (by simp; omega)
    have G3 : Hid (Gh w3 g (gof s)) := G2.out.keep hf3 (by simp; omega)
    have X3 : Hid (BkI w3 x s) := hr3
    have V3 : Hid (Vb w3 q ⟨b, c⟩) := V2.out.keep hf3 (by simp; omega)
    have F3 : Hid (Fr [x, g] w w3) := F2.out.trans (hf3.mono (by simp))
    clear O2 G2 X2 V2 F2 hf3 hr3 o0 o1 o2 o3 o4 o5
    go_wp2_with fail
    go_at_call 24
    refine (show_any _ x _ _ (BkI.alloc X3.out _) HI.out).mono ?_
    rintro e w4 ⟨rfl, hf4⟩
    have A4 : Hid (Ab w4 w3.heap.size (gateE s a false ⟨b, c⟩) 0 0 ⟨#[]⟩) := hf4.keep (blk_new _ _) (by simp)
    have O4 : Hid (Ob w4 w.heap.size 1 a b c t u) := (O3.out.alloc _).keep hf4 (by simp)
    have G4 : Hid (Gh w4 g (gof s)) := (G3.out.alloc _).keep hf4 (by simp)
    have X4 : Hid (BkI w4 x s) := (X3.out.alloc _).keep hf4 (by simp)
    have V4 : Hid (Vb w4 q ⟨b, c⟩) := (V3.out.alloc _).keep hf4 (by simp)
    have F4 : Hid (Fr [x, g] w w4) := (F3.out.alloc _).trans hf4.widen
    have hw3 := F3.out.size
    have hw4 := blk_lt A4.out
    clear O3 G3 X3 V3 F3 hf4
    have o0 := O4.out.c0
    have o1 := O4.out.c1
    have o2 := O4.out.c2
    have o3 := O4.out.c3
    have o4 := O4.out.c4
    have o5 := O4.out.c5
    have a0 := A4.out.c0
    have a1 := A4.out.c1
    have a2 := A4.out.c2
    have a3 := A4.out.c3
    go_wp2_with fail
    go_at_call 28
    refine (faulty_any _ g s G4.out HI.out 1 a b c t u (by omega) (by omega)).mono ?_
    rintro e w5 ⟨rfl, hf5⟩
    rw [HFE.out]
    have A5 : Hid (Ab w5 w3.heap.size (gateE s a false ⟨b, c⟩) 0 0 ⟨#[]⟩) := A4.out.keep hf5 (by simp)
    have O5 : Hid (Ob w5 w.heap.size 1 a b c t u) := O4.out.keep hf5 (by simp)
    have G5 : Hid (Gh w5 g (gof s)) := G4.out.keep hf5 (by simp)
    have X5 : Hid (BkI w5 x s) := X4.out.keep hf5 (by simp)
    have V5 : Hid (Vb w5 q ⟨b, c⟩) := V4.out.keep hf5 (by simp)
    have F5 : Hid (Fr [x, g] w w5) := F4.out.trans hf5.widen
    clear A4 O4 G4 X4 V4 F4 hf5 o0 o1 o2 o3 o4 o5 a0 a1 a2 a3
    have o0 := O5.out.c0
    have o4 := O5.out.c4
    have a0 := A5.out.c0
    have a1 := A5.out.c1
    have a2 := A5.out.c2
    have a3 := A5.out.c3
    have v0 := V5.out.a
    have v1 := V5.out.b
    dsimp only at v0 v1
    go_wp2
    go_ret
    exact ⟨by simp, ⟨s, HI.out, X5.out, G5.out⟩, F5.out⟩

set_option maxHeartbeats 6400000 in
set_option maxRecDepth 100000 in
theorem step_declare_ok (w : World) (x g : Nat) (s : St) (hx : BkI w x s) (hg : Gh w g (gof s)) (hi : Inv s) (hne : x ≠ g) (p : Nat) (hp4 : p < 4) (b c : Int) (t u : ByteArray) (ht : t.size ≤ 9223372036854775807) (hE : gateE s p false ⟨b, c⟩ = 0) (hlp : s.live p = false) (hv : okV ⟨b, c⟩) :
    Calls Try.prog 15 #[.pointer (some ⟨x, 0, none⟩), .pointer (some ⟨g, 0, none⟩), .agg #[.int .i64 1, .int .i64 p, .int .i64 b, .int .i64 c, .string t, .string u]] w fun e w' => e = .returned (.bool true) ∧ Kept w' x g ∧ Fr [x, g] w w' := by
  have hxl := blk_lt hx
  have hgl := blk_lt hg
  have HX : Hid (BkI w x s) := hx
  have HG : Hid (Gh w g (gof s)) := hg
  have HI : Hid (Inv s) := hi
  clear hx hg hi
  have HFE : Hid (faultE s 1 p ⟨b, c⟩ = 0) := by show _ = _; simp [faultE, hE]
  have HRR : Hid ((declR s p ⟨b, c⟩) = (declS s p ⟨b, c⟩)) := by show (declR s p ⟨b, c⟩) = (declS s p ⟨b, c⟩); unfold declR; rw [if_pos hE, Int.toNat_natCast]
  have HE0 : Hid (gateE s p false ⟨b, c⟩ = 0) := hE
  have IV : Hid (Inv (declS s p ⟨b, c⟩)) := HI.out.decl hp4 hlp hv
  have hpi : (p : Int) < 4 := by omega
  have HLP : Hid (s.live p = false) := hlp
  clear hE
  go_enter Try.func15, Try.ntmps15
  go_wp2_with fail
  have O1 : Hid (Ob (w.alloc (.cells #[.int .i64 1, .int .i64 p, .int .i64 b, .int .i64 c, .string t, .string u] 41)) w.heap.size 1 p b c t u) := blk_new _ _
  have G1 : Hid (Gh (w.alloc (.cells #[.int .i64 1, .int .i64 p, .int .i64 b, .int .i64 c, .string t, .string u] 41)) g (gof s)) := blk_alloc HG.out _
  have X1 : Hid (BkI (w.alloc (.cells #[.int .i64 1, .int .i64 p, .int .i64 b, .int .i64 c, .string t, .string u] 41)) x s) := blk_alloc HX.out _
  have F1 : Hid (Fr [x, g] w (w.alloc (.cells #[.int .i64 1, .int .i64 p, .int .i64 b, .int .i64 c, .string t, .string u] 41))) := (Fr.refl _ _).alloc _
  have hs1 : w.heap.size < (w.alloc (.cells #[.int .i64 1, .int .i64 p, .int .i64 b, .int .i64 c, .string t, .string u] 41)).heap.size := blk_lt O1.out
  generalize w.alloc (.cells #[.int .i64 1, .int .i64 p, .int .i64 b, .int .i64 c, .string t, .string u] 41) = W1 at O1 G1 X1 F1 hs1 ⊢
  go_cut [7, 8] from 15 to 173 (fun s7 s8 wx => ∃ q : Nat, s7 = .int .i64 p ∧ s8 = .pointer (some ⟨q, 0, none⟩) ∧ w.heap.size < q ∧ Hid (Ob wx w.heap.size 1 p b c t u) ∧ Hid (Gh wx g (gof s)) ∧ Hid (BkI wx x s) ∧ Hid (Vb wx q ⟨b, c⟩) ∧ Hid (Fr [x, g] w wx))
  case first =>
    have oa := O1.out.c1
    have ox := O1.out.c2
    have oy := O1.out.c3
    have e1 : ¬ (w.heap.size = W1.heap.size) := by omega
    have e2 : ¬ (W1.heap.size = w.heap.size) := by omega
    go_region_held3 (fun w' => w'.cell? ⟨w.heap.size, 1, none⟩ = some (.int .i64 p) ∧ w'.cell? ⟨w.heap.size, 2, none⟩ = some (.int .i64 b) ∧ w'.cell? ⟨w.heap.size, 3, none⟩ = some (.int .i64 c)) (go_keep) (fail)
    all_goals (go_wp2_with fail; go_meet)
    all_goals
      have o1 := O1.out
      have g1 := G1.out
      have x1 := X1.out
      have f1 := F1.out
      refine ⟨_, rfl, rfl, by omega, ?_, ?_, ?_, ?_, ?_⟩
      all_goals (repeat' (first | with_reducible assumption | with_reducible refine hid ?_ | with_reducible exact Vb.new _ _ _ | with_reducible exact Vb.new1 _ _ _ _ | (with_reducible refine Vb.newE ?_; (simp; done)) | with_reducible refine Vs.set ?_ _ _ | with_reducible refine Vs.alloc ?_ _ | with_reducible refine Vs.drew ?_ | with_reducible refine Vs.far ?_ ?_ | with_reducible refine Vb.alloc ?_ _ | with_reducible refine Ob.alloc ?_ _ | with_reducible refine Gh.alloc ?_ _ | with_reducible refine BkI.alloc ?_ _ | with_reducible refine Fr.alloc ?_ _ | with_reducible refine Vb.drew ?_ | with_reducible refine Ob.drew ?_ | with_reducible refine Gh.drew ?_ | with_reducible refine BkI.drew ?_ | with_reducible refine Fr.drew ?_ | with_reducible refine Vb.far ?_ ?_ | with_reducible refine Ob.far ?_ ?_ | with_reducible refine Gh.far ?_ ?_ | with_reducible refine BkI.far ?_ ?_ | with_reducible refine Fr.setN ?_ ?_ | (dsimp only; omega)))
  case rest =>
    obtain ⟨q, rfl, rfl, hq, O, G, X, V, F⟩ := hcut
    clear O1 G1 X1 F1 hs1 HX HG
    go_wp2_with fail
    go_at_call 24
    refine (show_any _ x s _ X.out HI.out).mono ?_
    rintro e w2 ⟨rfl, hf2⟩
    have O2 : Hid (Ob w2 w.heap.size 1 p b c t u) := O.out.keep hf2 (by simp)
    have G2 : Hid (Gh w2 g (gof s)) := G.out.keep hf2 (by simp)
    have X2 : Hid (BkI w2 x s) := BkI.keep X.out hf2 (by simp)
    have V2 : Hid (Vb w2 q ⟨b, c⟩) := V.out.keep hf2 (by simp)
    have F2 : Hid (Fr [x, g] w w2) := F.out.trans hf2.widen
    clear O G X V F hf2
    have o0 := O2.out.c0
    have o1 := O2.out.c1
    have o2 := O2.out.c2
    have o3 := O2.out.c3
    have o4 := O2.out.c4
    have o5 := O2.out.c5
    go_wp2_with fail
    go_at_call 26
    refine (do_declare w2 x s p b c t u X2.out HI.out).mono ?_
    rintro e w3 ⟨rfl, hr3, hf3⟩
    rw [HRR.out] at hr3
    rw [HE0.out]
    have hw2 := F2.out.size
    have O3 : Hid (Ob w3 w.heap.size 1 p b c t u) := O2.out.keep hf3 (by simp; omega)
    have G3 : Hid (Gh w3 g (gof s)) := G2.out.keep hf3 (by simp; omega)
    have X3 : Hid (BkI w3 x (declS s p ⟨b, c⟩)) := hr3
    have V3 : Hid (Vb w3 q ⟨b, c⟩) := V2.out.keep hf3 (by simp; omega)
    have F3 : Hid (Fr [x, g] w w3) := F2.out.trans (hf3.mono (by simp))
    clear O2 G2 X2 V2 F2 hf3 hr3 o0 o1 o2 o3 o4 o5
    go_wp2_with fail
    go_at_call 24
    refine (show_any _ x _ _ (BkI.alloc X3.out _) IV.out).mono ?_
    rintro e w4 ⟨rfl, hf4⟩
    have A4 : Hid (Ab w4 w3.heap.size (0) 0 0 ⟨#[]⟩) := hf4.keep (blk_new _ _) (by simp)
    have O4 : Hid (Ob w4 w.heap.size 1 p b c t u) := (O3.out.alloc _).keep hf4 (by simp)
    have G4 : Hid (Gh w4 g (gof s)) := (G3.out.alloc _).keep hf4 (by simp)
    have X4 : Hid (BkI w4 x (declS s p ⟨b, c⟩)) := (X3.out.alloc _).keep hf4 (by simp)
    have V4 : Hid (Vb w4 q ⟨b, c⟩) := (V3.out.alloc _).keep hf4 (by simp)
    have F4 : Hid (Fr [x, g] w w4) := (F3.out.alloc _).trans hf4.widen
    have hw3 := F3.out.size
    have hw4 := blk_lt A4.out
    clear O3 G3 X3 V3 F3 hf4
    have o0 := O4.out.c0
    have o1 := O4.out.c1
    have o2 := O4.out.c2
    have o3 := O4.out.c3
    have o4 := O4.out.c4
    have o5 := O4.out.c5
    have a0 := A4.out.c0
    have a1 := A4.out.c1
    have a2 := A4.out.c2
    have a3 := A4.out.c3
    go_wp2_with fail
    go_at_call 28
    refine (faulty_any _ g s G4.out HI.out 1 p b c t u (by omega) (by omega)).mono ?_
    rintro e w5 ⟨rfl, hf5⟩
    rw [HFE.out]
    have A5 : Hid (Ab w5 w3.heap.size (0) 0 0 ⟨#[]⟩) := A4.out.keep hf5 (by simp)
    have O5 : Hid (Ob w5 w.heap.size 1 p b c t u) := O4.out.keep hf5 (by simp)
    have G5 : Hid (Gh w5 g (gof s)) := G4.out.keep hf5 (by simp)
    have X5 : Hid (BkI w5 x (declS s p ⟨b, c⟩)) := X4.out.keep hf5 (by simp)
    have V5 : Hid (Vb w5 q ⟨b, c⟩) := V4.out.keep hf5 (by simp)
    have F5 : Hid (Fr [x, g] w w5) := F4.out.trans hf5.widen
    clear A4 O4 G4 X4 V4 F4 hf5 o0 o1 o2 o3 o4 o5 a0 a1 a2 a3
    have o0 := O5.out.c0
    have o4 := O5.out.c4
    have a0 := A5.out.c0
    have a1 := A5.out.c1
    have a2 := A5.out.c2
    have a3 := A5.out.c3
    have v0 := V5.out.a
    have v1 := V5.out.b
    dsimp only at v0 v1
    have lv := G5.out.li hp4
    have ca := G5.out.ca hp4
    have cb := G5.out.cb hp4
    have ha := G5.out.ha hp4
    have hb := G5.out.hb hp4
    have fl := G5.out.fr p
    have f0 := G5.out.fr (4 + p * 2)
    have f1 := G5.out.fr (4 + p * 2 + 1)
    have fa := G5.out.fr (12 + p * 2)
    have fb := G5.out.fr (12 + p * 2 + 1)
    dsimp only [gof] at lv ca cb ha hb
    go_wp2_with fail
    go_region
    go_wp2
    go_ret
    refine ⟨rfl, ⟨_, IV.out, ?_, ?_⟩, ?_⟩
    · exact ((X5.out.far hne).far hne).far hne
    · rw [gof_decl HI.out hp4 HLP.out]
      exact (G5.out.setLi hp4 true).setC hp4 ⟨b, c⟩
    · exact (((F5.out.setCell (Or.inl (by simp)) _).setCell (Or.inl (by simp)) _).setCell (Or.inl (by simp)) _).drew

set_option maxHeartbeats 6400000 in
set_option maxRecDepth 100000 in
theorem step_release_bad (w : World) (x g : Nat) (s : St) (hx : BkI w x s) (hg : Gh w g (gof s)) (hi : Inv s) (hne : x ≠ g) (a : Int) (b c : Int) (t u : ByteArray) (ht : t.size ≤ 9223372036854775807) (hE : relE s a ⟨b, c⟩ ≠ 0) :
    Calls Try.prog 15 #[.pointer (some ⟨x, 0, none⟩), .pointer (some ⟨g, 0, none⟩), .agg #[.int .i64 3, .int .i64 a, .int .i64 b, .int .i64 c, .string t, .string u]] w fun e w' => e = .returned (.bool true) ∧ Kept w' x g ∧ Fr [x, g] w w' := by
  have hxl := blk_lt hx
  have hgl := blk_lt hg
  have HX : Hid (BkI w x s) := hx
  have HG : Hid (Gh w g (gof s)) := hg
  have HI : Hid (Inv s) := hi
  clear hx hg hi
  have HFE : Hid (faultE s 3 a ⟨b, c⟩ = relE s a ⟨b, c⟩) := by show _ = _; simp [faultE]
  have HRR : Hid ((relR s a ⟨b, c⟩) = s) := by show (relR s a ⟨b, c⟩) = s; unfold relR; rw [if_neg hE]
  have he := fun W => eq_ans W (relE s a ⟨b, c⟩) 0 0 ⟨#[]⟩
  have d0 : (relE s a ⟨b, c⟩ == 0) = false := beq_eq_false_iff_ne.2 hE
  have d1 : (relE s a ⟨b, c⟩ != 0) = true := by rw [bne_iff_ne]; exact hE
  clear hE
  go_enter Try.func15, Try.ntmps15
  go_wp2_with fail
  have O1 : Hid (Ob (w.alloc (.cells #[.int .i64 3, .int .i64 a, .int .i64 b, .int .i64 c, .string t, .string u] 41)) w.heap.size 3 a b c t u) := blk_new _ _
  have G1 : Hid (Gh (w.alloc (.cells #[.int .i64 3, .int .i64 a, .int .i64 b, .int .i64 c, .string t, .string u] 41)) g (gof s)) := blk_alloc HG.out _
  have X1 : Hid (BkI (w.alloc (.cells #[.int .i64 3, .int .i64 a, .int .i64 b, .int .i64 c, .string t, .string u] 41)) x s) := blk_alloc HX.out _
  have F1 : Hid (Fr [x, g] w (w.alloc (.cells #[.int .i64 3, .int .i64 a, .int .i64 b, .int .i64 c, .string t, .string u] 41))) := (Fr.refl _ _).alloc _
  have hs1 : w.heap.size < (w.alloc (.cells #[.int .i64 3, .int .i64 a, .int .i64 b, .int .i64 c, .string t, .string u] 41)).heap.size := blk_lt O1.out
  generalize w.alloc (.cells #[.int .i64 3, .int .i64 a, .int .i64 b, .int .i64 c, .string t, .string u] 41) = W1 at O1 G1 X1 F1 hs1 ⊢
  go_cut [7, 8] from 15 to 173 (fun s7 s8 wx => ∃ q : Nat, s7 = .int .i64 a ∧ s8 = .pointer (some ⟨q, 0, none⟩) ∧ w.heap.size < q ∧ Hid (Ob wx w.heap.size 3 a b c t u) ∧ Hid (Gh wx g (gof s)) ∧ Hid (BkI wx x s) ∧ Hid (Vb wx q ⟨b, c⟩) ∧ Hid (Fr [x, g] w wx))
  case first =>
    have oa := O1.out.c1
    have ox := O1.out.c2
    have oy := O1.out.c3
    have e1 : ¬ (w.heap.size = W1.heap.size) := by omega
    have e2 : ¬ (W1.heap.size = w.heap.size) := by omega
    go_region_held3 (fun w' => w'.cell? ⟨w.heap.size, 1, none⟩ = some (.int .i64 a) ∧ w'.cell? ⟨w.heap.size, 2, none⟩ = some (.int .i64 b) ∧ w'.cell? ⟨w.heap.size, 3, none⟩ = some (.int .i64 c)) (go_keep) (fail)
    all_goals (go_wp2_with fail; go_meet)
    all_goals
      have o1 := O1.out
      have g1 := G1.out
      have x1 := X1.out
      have f1 := F1.out
      refine ⟨_, rfl, rfl, by omega, ?_, ?_, ?_, ?_, ?_⟩
      all_goals (repeat' (first | with_reducible assumption | with_reducible refine hid ?_ | with_reducible exact Vb.new _ _ _ | with_reducible exact Vb.new1 _ _ _ _ | (with_reducible refine Vb.newE ?_; (simp; done)) | with_reducible refine Vs.set ?_ _ _ | with_reducible refine Vs.alloc ?_ _ | with_reducible refine Vs.drew ?_ | with_reducible refine Vs.far ?_ ?_ | with_reducible refine Vb.alloc ?_ _ | with_reducible refine Ob.alloc ?_ _ | with_reducible refine Gh.alloc ?_ _ | with_reducible refine BkI.alloc ?_ _ | with_reducible refine Fr.alloc ?_ _ | with_reducible refine Vb.drew ?_ | with_reducible refine Ob.drew ?_ | with_reducible refine Gh.drew ?_ | with_reducible refine BkI.drew ?_ | with_reducible refine Fr.drew ?_ | with_reducible refine Vb.far ?_ ?_ | with_reducible refine Ob.far ?_ ?_ | with_reducible refine Gh.far ?_ ?_ | with_reducible refine BkI.far ?_ ?_ | with_reducible refine Fr.setN ?_ ?_ | (dsimp only; omega)))
  case rest =>
    obtain ⟨q, rfl, rfl, hq, O, G, X, V, F⟩ := hcut
    clear O1 G1 X1 F1 hs1 HX HG
    go_wp2_with fail
    go_at_call 24
    refine (show_any _ x s _ X.out HI.out).mono ?_
    rintro e w2 ⟨rfl, hf2⟩
    have O2 : Hid (Ob w2 w.heap.size 3 a b c t u) := O.out.keep hf2 (by simp)
    have G2 : Hid (Gh w2 g (gof s)) := G.out.keep hf2 (by simp)
    have X2 : Hid (BkI w2 x s) := BkI.keep X.out hf2 (by simp)
    have V2 : Hid (Vb w2 q ⟨b, c⟩) := V.out.keep hf2 (by simp)
    have F2 : Hid (Fr [x, g] w w2) := F.out.trans hf2.widen
    clear O G X V F hf2
    have o0 := O2.out.c0
    have o1 := O2.out.c1
    have o2 := O2.out.c2
    have o3 := O2.out.c3
    have o4 := O2.out.c4
    have o5 := O2.out.c5
    go_wp2_with fail
    go_at_call 26
    refine (do_release w2 x s a b c t u X2.out HI.out).mono ?_
    rintro e w3 ⟨rfl, hr3, hf3⟩
    rw [HRR.out] at hr3
    have hw2 := F2.out.size
    have O3 : Hid (Ob w3 w.heap.size 3 a b c t u) := O2.out.keep hf3 (by simp; omega)
    have G3 : Hid (Gh w3 g (gof s)) := G2.out.keep hf3 (by simp; omega)
    have X3 : Hid (BkI w3 x s) := hr3
    have V3 : Hid (Vb w3 q ⟨b, c⟩) := V2.out.keep hf3 (by simp; omega)
    have F3 : Hid (Fr [x, g] w w3) := F2.out.trans (hf3.mono (by simp))
    clear O2 G2 X2 V2 F2 hf3 hr3 o0 o1 o2 o3 o4 o5
    go_wp2_with fail
    go_at_call 24
    refine (show_any _ x _ _ (BkI.alloc X3.out _) HI.out).mono ?_
    rintro e w4 ⟨rfl, hf4⟩
    have A4 : Hid (Ab w4 w3.heap.size (relE s a ⟨b, c⟩) 0 0 ⟨#[]⟩) := hf4.keep (blk_new _ _) (by simp)
    have O4 : Hid (Ob w4 w.heap.size 3 a b c t u) := (O3.out.alloc _).keep hf4 (by simp)
    have G4 : Hid (Gh w4 g (gof s)) := (G3.out.alloc _).keep hf4 (by simp)
    have X4 : Hid (BkI w4 x s) := (X3.out.alloc _).keep hf4 (by simp)
    have V4 : Hid (Vb w4 q ⟨b, c⟩) := (V3.out.alloc _).keep hf4 (by simp)
    have F4 : Hid (Fr [x, g] w w4) := (F3.out.alloc _).trans hf4.widen
    have hw3 := F3.out.size
    have hw4 := blk_lt A4.out
    clear O3 G3 X3 V3 F3 hf4
    have o0 := O4.out.c0
    have o1 := O4.out.c1
    have o2 := O4.out.c2
    have o3 := O4.out.c3
    have o4 := O4.out.c4
    have o5 := O4.out.c5
    have a0 := A4.out.c0
    have a1 := A4.out.c1
    have a2 := A4.out.c2
    have a3 := A4.out.c3
    go_wp2_with fail
    go_at_call 28
    refine (faulty_any _ g s G4.out HI.out 3 a b c t u (by omega) (by omega)).mono ?_
    rintro e w5 ⟨rfl, hf5⟩
    rw [HFE.out]
    have A5 : Hid (Ab w5 w3.heap.size (relE s a ⟨b, c⟩) 0 0 ⟨#[]⟩) := A4.out.keep hf5 (by simp)
    have O5 : Hid (Ob w5 w.heap.size 3 a b c t u) := O4.out.keep hf5 (by simp)
    have G5 : Hid (Gh w5 g (gof s)) := G4.out.keep hf5 (by simp)
    have X5 : Hid (BkI w5 x s) := X4.out.keep hf5 (by simp)
    have V5 : Hid (Vb w5 q ⟨b, c⟩) := V4.out.keep hf5 (by simp)
    have F5 : Hid (Fr [x, g] w w5) := F4.out.trans hf5.widen
    clear A4 O4 G4 X4 V4 F4 hf5 o0 o1 o2 o3 o4 o5 a0 a1 a2 a3
    have o0 := O5.out.c0
    have o4 := O5.out.c4
    have a0 := A5.out.c0
    have a1 := A5.out.c1
    have a2 := A5.out.c2
    have a3 := A5.out.c3
    have v0 := V5.out.a
    have v1 := V5.out.b
    dsimp only at v0 v1
    go_wp2
    go_ret
    exact ⟨by simp, ⟨s, HI.out, X5.out, G5.out⟩, F5.out⟩

set_option maxHeartbeats 6400000 in
set_option maxRecDepth 100000 in
theorem step_release_ok (w : World) (x g : Nat) (s : St) (hx : BkI w x s) (hg : Gh w g (gof s)) (hi : Inv s) (hne : x ≠ g) (p : Nat) (hp4 : p < 4) (b c : Int) (t u : ByteArray) (ht : t.size ≤ 9223372036854775807) (hE : relE s p ⟨b, c⟩ = 0) (hlp : s.live p = true) (hv : okV ⟨b, c⟩) (hh : b ≤ (s.held p).a ∧ c ≤ (s.held p).b) :
    Calls Try.prog 15 #[.pointer (some ⟨x, 0, none⟩), .pointer (some ⟨g, 0, none⟩), .agg #[.int .i64 3, .int .i64 p, .int .i64 b, .int .i64 c, .string t, .string u]] w fun e w' => e = .returned (.bool true) ∧ Kept w' x g ∧ Fr [x, g] w w' := by
  have hxl := blk_lt hx
  have hgl := blk_lt hg
  have HX : Hid (BkI w x s) := hx
  have HG : Hid (Gh w g (gof s)) := hg
  have HI : Hid (Inv s) := hi
  clear hx hg hi
  have HFE : Hid (faultE s 3 p ⟨b, c⟩ = 0) := by show _ = _; simp [faultE, hE]
  have HRR : Hid ((relR s p ⟨b, c⟩) = (giveS s p ⟨b, c⟩)) := by show (relR s p ⟨b, c⟩) = (giveS s p ⟨b, c⟩); unfold relR; rw [if_pos hE, Int.toNat_natCast]
  have HE0 : Hid (relE s p ⟨b, c⟩ = 0) := hE
  have IV : Hid (Inv (giveS s p ⟨b, c⟩)) := HI.out.give hp4 hlp ⟨hv.1, hv.2.2.1⟩ hh
  have hpi : (p : Int) < 4 := by omega
  have HV : Hid (okV ⟨b, c⟩) := hv
  clear hE
  go_enter Try.func15, Try.ntmps15
  go_wp2_with fail
  have O1 : Hid (Ob (w.alloc (.cells #[.int .i64 3, .int .i64 p, .int .i64 b, .int .i64 c, .string t, .string u] 41)) w.heap.size 3 p b c t u) := blk_new _ _
  have G1 : Hid (Gh (w.alloc (.cells #[.int .i64 3, .int .i64 p, .int .i64 b, .int .i64 c, .string t, .string u] 41)) g (gof s)) := blk_alloc HG.out _
  have X1 : Hid (BkI (w.alloc (.cells #[.int .i64 3, .int .i64 p, .int .i64 b, .int .i64 c, .string t, .string u] 41)) x s) := blk_alloc HX.out _
  have F1 : Hid (Fr [x, g] w (w.alloc (.cells #[.int .i64 3, .int .i64 p, .int .i64 b, .int .i64 c, .string t, .string u] 41))) := (Fr.refl _ _).alloc _
  have hs1 : w.heap.size < (w.alloc (.cells #[.int .i64 3, .int .i64 p, .int .i64 b, .int .i64 c, .string t, .string u] 41)).heap.size := blk_lt O1.out
  generalize w.alloc (.cells #[.int .i64 3, .int .i64 p, .int .i64 b, .int .i64 c, .string t, .string u] 41) = W1 at O1 G1 X1 F1 hs1 ⊢
  go_cut [7, 8] from 15 to 173 (fun s7 s8 wx => ∃ q : Nat, s7 = .int .i64 p ∧ s8 = .pointer (some ⟨q, 0, none⟩) ∧ w.heap.size < q ∧ Hid (Ob wx w.heap.size 3 p b c t u) ∧ Hid (Gh wx g (gof s)) ∧ Hid (BkI wx x s) ∧ Hid (Vb wx q ⟨b, c⟩) ∧ Hid (Fr [x, g] w wx))
  case first =>
    have oa := O1.out.c1
    have ox := O1.out.c2
    have oy := O1.out.c3
    have e1 : ¬ (w.heap.size = W1.heap.size) := by omega
    have e2 : ¬ (W1.heap.size = w.heap.size) := by omega
    go_region_held3 (fun w' => w'.cell? ⟨w.heap.size, 1, none⟩ = some (.int .i64 p) ∧ w'.cell? ⟨w.heap.size, 2, none⟩ = some (.int .i64 b) ∧ w'.cell? ⟨w.heap.size, 3, none⟩ = some (.int .i64 c)) (go_keep) (fail)
    all_goals (go_wp2_with fail; go_meet)
    all_goals
      have o1 := O1.out
      have g1 := G1.out
      have x1 := X1.out
      have f1 := F1.out
      refine ⟨_, rfl, rfl, by omega, ?_, ?_, ?_, ?_, ?_⟩
      all_goals (repeat' (first | with_reducible assumption | with_reducible refine hid ?_ | with_reducible exact Vb.new _ _ _ | with_reducible exact Vb.new1 _ _ _ _ | (with_reducible refine Vb.newE ?_; (simp; done)) | with_reducible refine Vs.set ?_ _ _ | with_reducible refine Vs.alloc ?_ _ | with_reducible refine Vs.drew ?_ | with_reducible refine Vs.far ?_ ?_ | with_reducible refine Vb.alloc ?_ _ | with_reducible refine Ob.alloc ?_ _ | with_reducible refine Gh.alloc ?_ _ | with_reducible refine BkI.alloc ?_ _ | with_reducible refine Fr.alloc ?_ _ | with_reducible refine Vb.drew ?_ | with_reducible refine Ob.drew ?_ | with_reducible refine Gh.drew ?_ | with_reducible refine BkI.drew ?_ | with_reducible refine Fr.drew ?_ | with_reducible refine Vb.far ?_ ?_ | with_reducible refine Ob.far ?_ ?_ | with_reducible refine Gh.far ?_ ?_ | with_reducible refine BkI.far ?_ ?_ | with_reducible refine Fr.setN ?_ ?_ | (dsimp only; omega)))
  case rest =>
    obtain ⟨q, rfl, rfl, hq, O, G, X, V, F⟩ := hcut
    clear O1 G1 X1 F1 hs1 HX HG
    go_wp2_with fail
    go_at_call 24
    refine (show_any _ x s _ X.out HI.out).mono ?_
    rintro e w2 ⟨rfl, hf2⟩
    have O2 : Hid (Ob w2 w.heap.size 3 p b c t u) := O.out.keep hf2 (by simp)
    have G2 : Hid (Gh w2 g (gof s)) := G.out.keep hf2 (by simp)
    have X2 : Hid (BkI w2 x s) := BkI.keep X.out hf2 (by simp)
    have V2 : Hid (Vb w2 q ⟨b, c⟩) := V.out.keep hf2 (by simp)
    have F2 : Hid (Fr [x, g] w w2) := F.out.trans hf2.widen
    clear O G X V F hf2
    have o0 := O2.out.c0
    have o1 := O2.out.c1
    have o2 := O2.out.c2
    have o3 := O2.out.c3
    have o4 := O2.out.c4
    have o5 := O2.out.c5
    go_wp2_with fail
    go_at_call 26
    refine (do_release w2 x s p b c t u X2.out HI.out).mono ?_
    rintro e w3 ⟨rfl, hr3, hf3⟩
    rw [HRR.out] at hr3
    rw [HE0.out]
    have hw2 := F2.out.size
    have O3 : Hid (Ob w3 w.heap.size 3 p b c t u) := O2.out.keep hf3 (by simp; omega)
    have G3 : Hid (Gh w3 g (gof s)) := G2.out.keep hf3 (by simp; omega)
    have X3 : Hid (BkI w3 x (giveS s p ⟨b, c⟩)) := hr3
    have V3 : Hid (Vb w3 q ⟨b, c⟩) := V2.out.keep hf3 (by simp; omega)
    have F3 : Hid (Fr [x, g] w w3) := F2.out.trans (hf3.mono (by simp))
    clear O2 G2 X2 V2 F2 hf3 hr3 o0 o1 o2 o3 o4 o5
    go_wp2_with fail
    go_at_call 24
    refine (show_any _ x _ _ (BkI.alloc X3.out _) IV.out).mono ?_
    rintro e w4 ⟨rfl, hf4⟩
    have A4 : Hid (Ab w4 w3.heap.size (0) 0 0 ⟨#[]⟩) := hf4.keep (blk_new _ _) (by simp)
    have O4 : Hid (Ob w4 w.heap.size 3 p b c t u) := (O3.out.alloc _).keep hf4 (by simp)
    have G4 : Hid (Gh w4 g (gof s)) := (G3.out.alloc _).keep hf4 (by simp)
    have X4 : Hid (BkI w4 x (giveS s p ⟨b, c⟩)) := (X3.out.alloc _).keep hf4 (by simp)
    have V4 : Hid (Vb w4 q ⟨b, c⟩) := (V3.out.alloc _).keep hf4 (by simp)
    have F4 : Hid (Fr [x, g] w w4) := (F3.out.alloc _).trans hf4.widen
    have hw3 := F3.out.size
    have hw4 := blk_lt A4.out
    clear O3 G3 X3 V3 F3 hf4
    have o0 := O4.out.c0
    have o1 := O4.out.c1
    have o2 := O4.out.c2
    have o3 := O4.out.c3
    have o4 := O4.out.c4
    have o5 := O4.out.c5
    have a0 := A4.out.c0
    have a1 := A4.out.c1
    have a2 := A4.out.c2
    have a3 := A4.out.c3
    go_wp2_with fail
    go_at_call 28
    refine (faulty_any _ g s G4.out HI.out 3 p b c t u (by omega) (by omega)).mono ?_
    rintro e w5 ⟨rfl, hf5⟩
    rw [HFE.out]
    have A5 : Hid (Ab w5 w3.heap.size (0) 0 0 ⟨#[]⟩) := A4.out.keep hf5 (by simp)
    have O5 : Hid (Ob w5 w.heap.size 3 p b c t u) := O4.out.keep hf5 (by simp)
    have G5 : Hid (Gh w5 g (gof s)) := G4.out.keep hf5 (by simp)
    have X5 : Hid (BkI w5 x (giveS s p ⟨b, c⟩)) := X4.out.keep hf5 (by simp)
    have V5 : Hid (Vb w5 q ⟨b, c⟩) := V4.out.keep hf5 (by simp)
    have F5 : Hid (Fr [x, g] w w5) := F4.out.trans hf5.widen
    clear A4 O4 G4 X4 V4 F4 hf5 o0 o1 o2 o3 o4 o5 a0 a1 a2 a3
    have o0 := O5.out.c0
    have o4 := O5.out.c4
    have a0 := A5.out.c0
    have a1 := A5.out.c1
    have a2 := A5.out.c2
    have a3 := A5.out.c3
    have v0 := V5.out.a
    have v1 := V5.out.b
    dsimp only at v0 v1
    have lv := G5.out.li hp4
    have ca := G5.out.ca hp4
    have cb := G5.out.cb hp4
    have ha := G5.out.ha hp4
    have hb := G5.out.hb hp4
    have fl := G5.out.fr p
    have f0 := G5.out.fr (4 + p * 2)
    have f1 := G5.out.fr (4 + p * 2 + 1)
    have fa := G5.out.fr (12 + p * 2)
    have fb := G5.out.fr (12 + p * 2 + 1)
    dsimp only [gof] at lv ca cb ha hb
    have bh := HI.out.bd.held p hp4
    have bv := HV.out
    unfold okV at bv
    dsimp only at bv
    have hg5 : g < w5.heap.size := blk_lt G5.out
    have hq5 : q < w5.heap.size := blk_lt V5.out
    go_wp2_with fail
    go_region_with
      (go_at_call 30; refine (sub_any _ _ _ _ _ (by omega) (by omega) (by omega) (by omega)).mono ?_; rintro e w6 ⟨rfl, hf6⟩; have G6 : Hid (Gh w6 g (gof s)) := Gh.keep G5.out.drew hf6 (by simp); have V6 : Hid (Vb w6 q ⟨b, c⟩) := Vb.keep V5.out.drew hf6 (by simp); have ha := G6.out.ha hp4; have hb := G6.out.hb hp4; have fa := G6.out.fr (12 + p * 2); have fb := G6.out.fr (12 + p * 2 + 1); have v0 := V6.out.a; have v1 := V6.out.b; dsimp only [gof] at ha hb v0 v1)
    all_goals (go_wp2; go_ret)
    all_goals
      refine ⟨rfl, ⟨_, IV.out, ?_, ?_⟩, ?_⟩
      · exact ((X5.out.drew.keep hf6 (by simp)).far hne).far hne
      · rw [gof_give]
        exact G6.out.setH hp4 ((s.held p).sub ⟨b, c⟩)
      · exact ((F5.out.drew.trans hf6.widen).setCell (Or.inl (by simp)) _).setCell (Or.inl (by simp)) _

set_option maxHeartbeats 6400000 in
set_option maxRecDepth 100000 in
theorem step_finish_bad (w : World) (x g : Nat) (s : St) (hx : BkI w x s) (hg : Gh w g (gof s)) (hi : Inv s) (hne : x ≠ g) (a : Int) (b c : Int) (t u : ByteArray) (ht : t.size ≤ 9223372036854775807) (hE : gateE s a true zeroV ≠ 0) :
    Calls Try.prog 15 #[.pointer (some ⟨x, 0, none⟩), .pointer (some ⟨g, 0, none⟩), .agg #[.int .i64 4, .int .i64 a, .int .i64 b, .int .i64 c, .string t, .string u]] w fun e w' => e = .returned (.bool true) ∧ Kept w' x g ∧ Fr [x, g] w w' := by
  have hxl := blk_lt hx
  have hgl := blk_lt hg
  have HX : Hid (BkI w x s) := hx
  have HG : Hid (Gh w g (gof s)) := hg
  have HI : Hid (Inv s) := hi
  clear hx hg hi
  have HFE : Hid (faultE s 4 a ⟨b, c⟩ = gateE s a true zeroV) := by show _ = _; simp [faultE]
  have HRR : Hid ((finR s a) = s) := by show (finR s a) = s; unfold finR; rw [if_neg hE]
  have he := fun W => eq_ans W (gateE s a true zeroV) 0 0 ⟨#[]⟩
  have d0 : (gateE s a true zeroV == 0) = false := beq_eq_false_iff_ne.2 hE
  have d1 : (gateE s a true zeroV != 0) = true := by rw [bne_iff_ne]; exact hE
  clear hE
  go_enter Try.func15, Try.ntmps15
  go_wp2_with fail
  have O1 : Hid (Ob (w.alloc (.cells #[.int .i64 4, .int .i64 a, .int .i64 b, .int .i64 c, .string t, .string u] 41)) w.heap.size 4 a b c t u) := blk_new _ _
  have G1 : Hid (Gh (w.alloc (.cells #[.int .i64 4, .int .i64 a, .int .i64 b, .int .i64 c, .string t, .string u] 41)) g (gof s)) := blk_alloc HG.out _
  have X1 : Hid (BkI (w.alloc (.cells #[.int .i64 4, .int .i64 a, .int .i64 b, .int .i64 c, .string t, .string u] 41)) x s) := blk_alloc HX.out _
  have F1 : Hid (Fr [x, g] w (w.alloc (.cells #[.int .i64 4, .int .i64 a, .int .i64 b, .int .i64 c, .string t, .string u] 41))) := (Fr.refl _ _).alloc _
  have hs1 : w.heap.size < (w.alloc (.cells #[.int .i64 4, .int .i64 a, .int .i64 b, .int .i64 c, .string t, .string u] 41)).heap.size := blk_lt O1.out
  generalize w.alloc (.cells #[.int .i64 4, .int .i64 a, .int .i64 b, .int .i64 c, .string t, .string u] 41) = W1 at O1 G1 X1 F1 hs1 ⊢
  go_cut [7, 8] from 15 to 173 (fun s7 s8 wx => ∃ q : Nat, s7 = .int .i64 a ∧ s8 = .pointer (some ⟨q, 0, none⟩) ∧ w.heap.size < q ∧ Hid (Ob wx w.heap.size 4 a b c t u) ∧ Hid (Gh wx g (gof s)) ∧ Hid (BkI wx x s) ∧ Hid (Vb wx q ⟨b, c⟩) ∧ Hid (Fr [x, g] w wx))
  case first =>
    have oa := O1.out.c1
    have ox := O1.out.c2
    have oy := O1.out.c3
    have e1 : ¬ (w.heap.size = W1.heap.size) := by omega
    have e2 : ¬ (W1.heap.size = w.heap.size) := by omega
    go_region_held3 (fun w' => w'.cell? ⟨w.heap.size, 1, none⟩ = some (.int .i64 a) ∧ w'.cell? ⟨w.heap.size, 2, none⟩ = some (.int .i64 b) ∧ w'.cell? ⟨w.heap.size, 3, none⟩ = some (.int .i64 c)) (go_keep) (fail)
    all_goals (go_wp2_with fail; go_meet)
    all_goals
      have o1 := O1.out
      have g1 := G1.out
      have x1 := X1.out
      have f1 := F1.out
      refine ⟨_, rfl, rfl, by omega, ?_, ?_, ?_, ?_, ?_⟩
      all_goals (repeat' (first | with_reducible assumption | with_reducible refine hid ?_ | with_reducible exact Vb.new _ _ _ | with_reducible exact Vb.new1 _ _ _ _ | (with_reducible refine Vb.newE ?_; (simp; done)) | with_reducible refine Vs.set ?_ _ _ | with_reducible refine Vs.alloc ?_ _ | with_reducible refine Vs.drew ?_ | with_reducible refine Vs.far ?_ ?_ | with_reducible refine Vb.alloc ?_ _ | with_reducible refine Ob.alloc ?_ _ | with_reducible refine Gh.alloc ?_ _ | with_reducible refine BkI.alloc ?_ _ | with_reducible refine Fr.alloc ?_ _ | with_reducible refine Vb.drew ?_ | with_reducible refine Ob.drew ?_ | with_reducible refine Gh.drew ?_ | with_reducible refine BkI.drew ?_ | with_reducible refine Fr.drew ?_ | with_reducible refine Vb.far ?_ ?_ | with_reducible refine Ob.far ?_ ?_ | with_reducible refine Gh.far ?_ ?_ | with_reducible refine BkI.far ?_ ?_ | with_reducible refine Fr.setN ?_ ?_ | (dsimp only; omega)))
  case rest =>
    obtain ⟨q, rfl, rfl, hq, O, G, X, V, F⟩ := hcut
    clear O1 G1 X1 F1 hs1 HX HG
    go_wp2_with fail
    go_at_call 24
    refine (show_any _ x s _ X.out HI.out).mono ?_
    rintro e w2 ⟨rfl, hf2⟩
    have O2 : Hid (Ob w2 w.heap.size 4 a b c t u) := O.out.keep hf2 (by simp)
    have G2 : Hid (Gh w2 g (gof s)) := G.out.keep hf2 (by simp)
    have X2 : Hid (BkI w2 x s) := BkI.keep X.out hf2 (by simp)
    have V2 : Hid (Vb w2 q ⟨b, c⟩) := V.out.keep hf2 (by simp)
    have F2 : Hid (Fr [x, g] w w2) := F.out.trans hf2.widen
    clear O G X V F hf2
    have o0 := O2.out.c0
    have o1 := O2.out.c1
    have o2 := O2.out.c2
    have o3 := O2.out.c3
    have o4 := O2.out.c4
    have o5 := O2.out.c5
    go_wp2_with fail
    go_at_call 26
    refine (do_finish w2 x s a b c t u X2.out HI.out).mono ?_
    rintro e w3 ⟨rfl, hr3, hf3⟩
    rw [HRR.out] at hr3
    have hw2 := F2.out.size
    have O3 : Hid (Ob w3 w.heap.size 4 a b c t u) := O2.out.keep hf3 (by simp; omega)
    have G3 : Hid (Gh w3 g (gof s)) := G2.out.keep hf3 (by simp; omega)
    have X3 : Hid (BkI w3 x s) := hr3
    have V3 : Hid (Vb w3 q ⟨b, c⟩) := V2.out.keep hf3 (by simp; omega)
    have F3 : Hid (Fr [x, g] w w3) := F2.out.trans (hf3.mono (by simp))
    clear O2 G2 X2 V2 F2 hf3 hr3 o0 o1 o2 o3 o4 o5
    go_wp2_with fail
    go_at_call 24
    refine (show_any _ x _ _ (BkI.alloc X3.out _) HI.out).mono ?_
    rintro e w4 ⟨rfl, hf4⟩
    have A4 : Hid (Ab w4 w3.heap.size (gateE s a true zeroV) 0 0 ⟨#[]⟩) := hf4.keep (blk_new _ _) (by simp)
    have O4 : Hid (Ob w4 w.heap.size 4 a b c t u) := (O3.out.alloc _).keep hf4 (by simp)
    have G4 : Hid (Gh w4 g (gof s)) := (G3.out.alloc _).keep hf4 (by simp)
    have X4 : Hid (BkI w4 x s) := (X3.out.alloc _).keep hf4 (by simp)
    have V4 : Hid (Vb w4 q ⟨b, c⟩) := (V3.out.alloc _).keep hf4 (by simp)
    have F4 : Hid (Fr [x, g] w w4) := (F3.out.alloc _).trans hf4.widen
    have hw3 := F3.out.size
    have hw4 := blk_lt A4.out
    clear O3 G3 X3 V3 F3 hf4
    have o0 := O4.out.c0
    have o1 := O4.out.c1
    have o2 := O4.out.c2
    have o3 := O4.out.c3
    have o4 := O4.out.c4
    have o5 := O4.out.c5
    have a0 := A4.out.c0
    have a1 := A4.out.c1
    have a2 := A4.out.c2
    have a3 := A4.out.c3
    go_wp2_with fail
    go_at_call 28
    refine (faulty_any _ g s G4.out HI.out 4 a b c t u (by omega) (by omega)).mono ?_
    rintro e w5 ⟨rfl, hf5⟩
    rw [HFE.out]
    have A5 : Hid (Ab w5 w3.heap.size (gateE s a true zeroV) 0 0 ⟨#[]⟩) := A4.out.keep hf5 (by simp)
    have O5 : Hid (Ob w5 w.heap.size 4 a b c t u) := O4.out.keep hf5 (by simp)
    have G5 : Hid (Gh w5 g (gof s)) := G4.out.keep hf5 (by simp)
    have X5 : Hid (BkI w5 x s) := X4.out.keep hf5 (by simp)
    have V5 : Hid (Vb w5 q ⟨b, c⟩) := V4.out.keep hf5 (by simp)
    have F5 : Hid (Fr [x, g] w w5) := F4.out.trans hf5.widen
    clear A4 O4 G4 X4 V4 F4 hf5 o0 o1 o2 o3 o4 o5 a0 a1 a2 a3
    have o0 := O5.out.c0
    have o4 := O5.out.c4
    have a0 := A5.out.c0
    have a1 := A5.out.c1
    have a2 := A5.out.c2
    have a3 := A5.out.c3
    have v0 := V5.out.a
    have v1 := V5.out.b
    dsimp only at v0 v1
    go_wp2
    go_ret
    exact ⟨by simp, ⟨s, HI.out, X5.out, G5.out⟩, F5.out⟩

set_option maxHeartbeats 6400000 in
set_option maxRecDepth 100000 in
theorem step_finish_ok (w : World) (x g : Nat) (s : St) (hx : BkI w x s) (hg : Gh w g (gof s)) (hi : Inv s) (hne : x ≠ g) (p : Nat) (hp4 : p < 4) (b c : Int) (t u : ByteArray) (ht : t.size ≤ 9223372036854775807) (hE : gateE s p true zeroV = 0) (hlp : s.live p = true) :
    Calls Try.prog 15 #[.pointer (some ⟨x, 0, none⟩), .pointer (some ⟨g, 0, none⟩), .agg #[.int .i64 4, .int .i64 p, .int .i64 b, .int .i64 c, .string t, .string u]] w fun e w' => e = .returned (.bool true) ∧ Kept w' x g ∧ Fr [x, g] w w' := by
  have hxl := blk_lt hx
  have hgl := blk_lt hg
  have HX : Hid (BkI w x s) := hx
  have HG : Hid (Gh w g (gof s)) := hg
  have HI : Hid (Inv s) := hi
  clear hx hg hi
  have HFE : Hid (faultE s 4 p ⟨b, c⟩ = 0) := by show _ = _; simp [faultE, hE]
  have HRR : Hid ((finR s p) = (finS s p)) := by show (finR s p) = (finS s p); unfold finR; rw [if_pos hE, Int.toNat_natCast]
  have HE0 : Hid (gateE s p true zeroV = 0) := hE
  have IV : Hid (Inv (finS s p)) := HI.out.fin hp4 hlp
  have hpi : (p : Int) < 4 := by omega
  clear hE
  go_enter Try.func15, Try.ntmps15
  go_wp2_with fail
  have O1 : Hid (Ob (w.alloc (.cells #[.int .i64 4, .int .i64 p, .int .i64 b, .int .i64 c, .string t, .string u] 41)) w.heap.size 4 p b c t u) := blk_new _ _
  have G1 : Hid (Gh (w.alloc (.cells #[.int .i64 4, .int .i64 p, .int .i64 b, .int .i64 c, .string t, .string u] 41)) g (gof s)) := blk_alloc HG.out _
  have X1 : Hid (BkI (w.alloc (.cells #[.int .i64 4, .int .i64 p, .int .i64 b, .int .i64 c, .string t, .string u] 41)) x s) := blk_alloc HX.out _
  have F1 : Hid (Fr [x, g] w (w.alloc (.cells #[.int .i64 4, .int .i64 p, .int .i64 b, .int .i64 c, .string t, .string u] 41))) := (Fr.refl _ _).alloc _
  have hs1 : w.heap.size < (w.alloc (.cells #[.int .i64 4, .int .i64 p, .int .i64 b, .int .i64 c, .string t, .string u] 41)).heap.size := blk_lt O1.out
  generalize w.alloc (.cells #[.int .i64 4, .int .i64 p, .int .i64 b, .int .i64 c, .string t, .string u] 41) = W1 at O1 G1 X1 F1 hs1 ⊢
  go_cut [7, 8] from 15 to 173 (fun s7 s8 wx => ∃ q : Nat, s7 = .int .i64 p ∧ s8 = .pointer (some ⟨q, 0, none⟩) ∧ w.heap.size < q ∧ Hid (Ob wx w.heap.size 4 p b c t u) ∧ Hid (Gh wx g (gof s)) ∧ Hid (BkI wx x s) ∧ Hid (Vb wx q ⟨b, c⟩) ∧ Hid (Fr [x, g] w wx))
  case first =>
    have oa := O1.out.c1
    have ox := O1.out.c2
    have oy := O1.out.c3
    have e1 : ¬ (w.heap.size = W1.heap.size) := by omega
    have e2 : ¬ (W1.heap.size = w.heap.size) := by omega
    go_region_held3 (fun w' => w'.cell? ⟨w.heap.size, 1, none⟩ = some (.int .i64 p) ∧ w'.cell? ⟨w.heap.size, 2, none⟩ = some (.int .i64 b) ∧ w'.cell? ⟨w.heap.size, 3, none⟩ = some (.int .i64 c)) (go_keep) (fail)
    all_goals (go_wp2_with fail; go_meet)
    all_goals
      have o1 := O1.out
      have g1 := G1.out
      have x1 := X1.out
      have f1 := F1.out
      refine ⟨_, rfl, rfl, by omega, ?_, ?_, ?_, ?_, ?_⟩
      all_goals (repeat' (first | with_reducible assumption | with_reducible refine hid ?_ | with_reducible exact Vb.new _ _ _ | with_reducible exact Vb.new1 _ _ _ _ | (with_reducible refine Vb.newE ?_; (simp; done)) | with_reducible refine Vs.set ?_ _ _ | with_reducible refine Vs.alloc ?_ _ | with_reducible refine Vs.drew ?_ | with_reducible refine Vs.far ?_ ?_ | with_reducible refine Vb.alloc ?_ _ | with_reducible refine Ob.alloc ?_ _ | with_reducible refine Gh.alloc ?_ _ | with_reducible refine BkI.alloc ?_ _ | with_reducible refine Fr.alloc ?_ _ | with_reducible refine Vb.drew ?_ | with_reducible refine Ob.drew ?_ | with_reducible refine Gh.drew ?_ | with_reducible refine BkI.drew ?_ | with_reducible refine Fr.drew ?_ | with_reducible refine Vb.far ?_ ?_ | with_reducible refine Ob.far ?_ ?_ | with_reducible refine Gh.far ?_ ?_ | with_reducible refine BkI.far ?_ ?_ | with_reducible refine Fr.setN ?_ ?_ | (dsimp only; omega)))
  case rest =>
    obtain ⟨q, rfl, rfl, hq, O, G, X, V, F⟩ := hcut
    clear O1 G1 X1 F1 hs1 HX HG
    go_wp2_with fail
    go_at_call 24
    refine (show_any _ x s _ X.out HI.out).mono ?_
    rintro e w2 ⟨rfl, hf2⟩
    have O2 : Hid (Ob w2 w.heap.size 4 p b c t u) := O.out.keep hf2 (by simp)
    have G2 : Hid (Gh w2 g (gof s)) := G.out.keep hf2 (by simp)
    have X2 : Hid (BkI w2 x s) := BkI.keep X.out hf2 (by simp)
    have V2 : Hid (Vb w2 q ⟨b, c⟩) := V.out.keep hf2 (by simp)
    have F2 : Hid (Fr [x, g] w w2) := F.out.trans hf2.widen
    clear O G X V F hf2
    have o0 := O2.out.c0
    have o1 := O2.out.c1
    have o2 := O2.out.c2
    have o3 := O2.out.c3
    have o4 := O2.out.c4
    have o5 := O2.out.c5
    go_wp2_with fail
    go_at_call 26
    refine (do_finish w2 x s p b c t u X2.out HI.out).mono ?_
    rintro e w3 ⟨rfl, hr3, hf3⟩
    rw [HRR.out] at hr3
    rw [HE0.out]
    have hw2 := F2.out.size
    have O3 : Hid (Ob w3 w.heap.size 4 p b c t u) := O2.out.keep hf3 (by simp; omega)
    have G3 : Hid (Gh w3 g (gof s)) := G2.out.keep hf3 (by simp; omega)
    have X3 : Hid (BkI w3 x (finS s p)) := hr3
    have V3 : Hid (Vb w3 q ⟨b, c⟩) := V2.out.keep hf3 (by simp; omega)
    have F3 : Hid (Fr [x, g] w w3) := F2.out.trans (hf3.mono (by simp))
    clear O2 G2 X2 V2 F2 hf3 hr3 o0 o1 o2 o3 o4 o5
    go_wp2_with fail
    go_at_call 24
    refine (show_any _ x _ _ (BkI.alloc X3.out _) IV.out).mono ?_
    rintro e w4 ⟨rfl, hf4⟩
    have A4 : Hid (Ab w4 w3.heap.size (0) 0 0 ⟨#[]⟩) := hf4.keep (blk_new _ _) (by simp)
    have O4 : Hid (Ob w4 w.heap.size 4 p b c t u) := (O3.out.alloc _).keep hf4 (by simp)
    have G4 : Hid (Gh w4 g (gof s)) := (G3.out.alloc _).keep hf4 (by simp)
    have X4 : Hid (BkI w4 x (finS s p)) := (X3.out.alloc _).keep hf4 (by simp)
    have V4 : Hid (Vb w4 q ⟨b, c⟩) := (V3.out.alloc _).keep hf4 (by simp)
    have F4 : Hid (Fr [x, g] w w4) := (F3.out.alloc _).trans hf4.widen
    have hw3 := F3.out.size
    have hw4 := blk_lt A4.out
    clear O3 G3 X3 V3 F3 hf4
    have o0 := O4.out.c0
    have o1 := O4.out.c1
    have o2 := O4.out.c2
    have o3 := O4.out.c3
    have o4 := O4.out.c4
    have o5 := O4.out.c5
    have a0 := A4.out.c0
    have a1 := A4.out.c1
    have a2 := A4.out.c2
    have a3 := A4.out.c3
    go_wp2_with fail
    go_at_call 28
    refine (faulty_any _ g s G4.out HI.out 4 p b c t u (by omega) (by omega)).mono ?_
    rintro e w5 ⟨rfl, hf5⟩
    rw [HFE.out]
    have A5 : Hid (Ab w5 w3.heap.size (0) 0 0 ⟨#[]⟩) := A4.out.keep hf5 (by simp)
    have O5 : Hid (Ob w5 w.heap.size 4 p b c t u) := O4.out.keep hf5 (by simp)
    have G5 : Hid (Gh w5 g (gof s)) := G4.out.keep hf5 (by simp)
    have X5 : Hid (BkI w5 x (finS s p)) := X4.out.keep hf5 (by simp)
    have V5 : Hid (Vb w5 q ⟨b, c⟩) := V4.out.keep hf5 (by simp)
    have F5 : Hid (Fr [x, g] w w5) := F4.out.trans hf5.widen
    clear A4 O4 G4 X4 V4 F4 hf5 o0 o1 o2 o3 o4 o5 a0 a1 a2 a3
    have o0 := O5.out.c0
    have o4 := O5.out.c4
    have a0 := A5.out.c0
    have a1 := A5.out.c1
    have a2 := A5.out.c2
    have a3 := A5.out.c3
    have v0 := V5.out.a
    have v1 := V5.out.b
    dsimp only at v0 v1
    have lv := G5.out.li hp4
    have ca := G5.out.ca hp4
    have cb := G5.out.cb hp4
    have ha := G5.out.ha hp4
    have hb := G5.out.hb hp4
    have fl := G5.out.fr p
    have f0 := G5.out.fr (4 + p * 2)
    have f1 := G5.out.fr (4 + p * 2 + 1)
    have fa := G5.out.fr (12 + p * 2)
    have fb := G5.out.fr (12 + p * 2 + 1)
    dsimp only [gof] at lv ca cb ha hb
    go_wp2_with fail
    go_region
    go_wp2
    go_ret
    refine ⟨rfl, ⟨_, IV.out, ?_, ?_⟩, ?_⟩
    · exact ((((X5.out.far hne).far hne).far hne).far hne).far hne
    · rw [gof_fin]
      exact ((G5.out.setLi hp4 false).setC hp4 zeroV).setH hp4 zeroV
    · exact (((((F5.out.setCell (Or.inl (by simp)) _).setCell (Or.inl (by simp)) _).setCell (Or.inl (by simp)) _).setCell (Or.inl (by simp)) _).setCell (Or.inl (by simp)) _).drew

set_option maxHeartbeats 6400000 in
set_option maxRecDepth 100000 in
theorem step_drain (w : World) (x g : Nat) (s : St) (hx : BkI w x s) (hg : Gh w g (gof s)) (hi : Inv s) (hne : x ≠ g) (a b c : Int) (t u : ByteArray) :
    Calls Try.prog 15 #[.pointer (some ⟨x, 0, none⟩), .pointer (some ⟨g, 0, none⟩), .agg #[.int .i64 9, .int .i64 a, .int .i64 b, .int .i64 c, .string t, .string u]] w fun e w' => e = .returned (.bool true) ∧ Kept w' x g ∧ Fr [x, g] w w' := by
  have HX : Hid (BkI w x s) := hx
  have HG : Hid (Gh w g (gof s)) := hg
  have HI : Hid (Inv s) := hi
  clear hx hg hi
  go_enter Try.func15, Try.ntmps15
  go_wp2_with fail
  go_at_call 25
  refine (drain_any _ x g s (BkI.alloc HX.out _) (Gh.alloc HG.out _) HI.out hne).mono ?_
  rintro e w1 ⟨rfl, hk, hf1⟩
  have HK : Hid (Kept w1 x g) := hk
  clear hk
  go_wp2
  go_ret
  exact ⟨rfl, HK.out, ((Fr.refl _ _).alloc _).trans hf1⟩
end Go.Proofs.Qxb6500340a
