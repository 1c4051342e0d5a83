import Derived.Test.Qxb6500340aK9
import Derived.Test.Qxb6500340aK7
import Derived.Test.Qxb6500340aW13
namespace Go.Proofs.Qxb6500340a
open Go.RowKit
set_option linter.unusedVariables false
set_option linter.unusedSimpArgs false

/-- An answer in a block of its own. -/
def Ab (w : World) (q : Nat) (e x y : Int) (t : ByteArray) : Prop := w.heap[q]? = some (.cells #[.int .i64 e, .int .i64 x, .int .i64 y, .string t] 57)
section
variable {w w' : World} {q : Nat} {e x y : Int} {t : ByteArray}
theorem Ab.c0 (h : Ab w q e x y t) : w.cell? ⟨q, 0, none⟩ = some (.int .i64 e) := blk_cell h 0
theorem Ab.c1 (h : Ab w q e x y t) : w.cell? ⟨q, 1, none⟩ = some (.int .i64 x) := blk_cell h 1
theorem Ab.c2 (h : Ab w q e x y t) : w.cell? ⟨q, 2, none⟩ = some (.int .i64 y) := blk_cell h 2
theorem Ab.c3 (h : Ab w q e x y t) : w.cell? ⟨q, 3, none⟩ = some (.string t) := blk_cell h 3
theorem Ab.keep {S : List Nat} (h : Ab w q e x y t) (hf : Fr S w w') (hn : q ∉ S) : Ab w' q e x y t := Fr.keep hf h hn
theorem Ab.drew (h : Ab w q e x y t) : Ab w.drew q e x y t := h
end

/-- What a step leaves. -/
def Kept (w' : World) (x g : Nat) : Prop := ∃ s', Inv s' ∧ BkI w' x s' ∧ Gh w' g (gof s')

set_option maxHeartbeats 6400000 in
set_option maxRecDepth 100000 in
theorem step_order (w : World) (x g : Nat) (s : St) (hx : BkI w x s) (hg : Gh w g (gof s)) (hi : Inv s) (hne : x ≠ g) (a b c : Int) (t u : ByteArray) (ht : t.size ≤ 9223372036854775807) :
    Calls Try.prog 15 #[.pointer (some ⟨x, 0, none⟩), .pointer (some ⟨g, 0, none⟩), .agg #[.int .i64 5, .int .i64 a, .int .i64 b, .int .i64 c, .string t, .string u]] w fun e w' => e = .returned (.bool true) ∧ Kept w' x g ∧ Fr [x, g] w w' := by
  have hxl := blk_lt hx
  have hgl := blk_lt hg
  have HX : Hid (BkI w x s) := hx
  have HG : Hid (Gh w g (gof s)) := hg
  have HI : Hid (Inv s) := hi
  clear hx hg hi
  go_enter Try.func15, Try.ntmps15
  go_wp2_with fail
  have O1 : Hid (Ob (w.alloc (.cells #[.int .i64 5, .int .i64 a, .int .i64 b, .int .i64 c, .string t, .string u] 41)) w.heap.size 5 a b c t u) := blk_new _ _
  have G1 : Hid (Gh (w.alloc (.cells #[.int .i64 5, .int .i64 a, .int .i64 b, .int .i64 c, .string t, .string u] 41)) g (gof s)) := blk_alloc HG.out _
  have X1 : Hid (BkI (w.alloc (.cells #[.int .i64 5, .int .i64 a, .int .i64 b, .int .i64 c, .string t, .string u] 41)) x s) := blk_alloc HX.out _
  have F1 : Hid (Fr [x, g] w (w.alloc (.cells #[.int .i64 5, .int .i64 a, .int .i64 b, .int .i64 c, .string t, .string u] 41))) := (Fr.refl _ _).alloc _
  have hs1 : w.heap.size < (w.alloc (.cells #[.int .i64 5, .int .i64 a, .int .i64 b, .int .i64 c, .string t, .string u] 41)).heap.size := blk_lt O1.out
  generalize w.alloc (.cells #[.int .i64 5, .int .i64 a, .int .i64 b, .int .i64 c, .string t, .string u] 41) = W1 at O1 G1 X1 F1 hs1 ⊢
  go_cut [7, 8] from 15 to 173 (fun s7 s8 wx => ∃ q : Nat, s7 = .int .i64 a ∧ s8 = .pointer (some ⟨q, 0, none⟩) ∧ w.heap.size < q ∧ Hid (Ob wx w.heap.size 5 a b c t u) ∧ Hid (Gh wx g (gof s)) ∧ Hid (BkI wx x s) ∧ Hid (Vb wx q ⟨b, c⟩) ∧ Hid (Fr [x, g] w wx))
  case first =>
    have oa := O1.out.c1
    have ox := O1.out.c2
    have oy := O1.out.c3
    have e1 : ¬ (w.heap.size = W1.heap.size) := by omega
    have e2 : ¬ (W1.heap.size = w.heap.size) := by omega
    go_region_held3 (fun w' => w'.cell? ⟨w.heap.size, 1, none⟩ = some (.int .i64 a) ∧ w'.cell? ⟨w.heap.size, 2, none⟩ = some (.int .i64 b) ∧ w'.cell? ⟨w.heap.size, 3, none⟩ = some (.int .i64 c)) (go_keep) (fail)
    all_goals (go_wp2_with fail; go_meet)
    all_goals
      have o1 := O1.out
      have g1 := G1.out
      have x1 := X1.out
      have f1 := F1.out
      refine ⟨_, rfl, rfl, by omega, ?_, ?_, ?_, ?_, ?_⟩
      all_goals (repeat' (first | with_reducible assumption | with_reducible refine hid ?_ | with_reducible exact Vb.new _ _ _ | with_reducible exact Vb.new1 _ _ _ _ | (with_reducible refine Vb.newE ?_; (simp; done)) | with_reducible refine Vs.set ?_ _ _ | with_reducible refine Vs.alloc ?_ _ | with_reducible refine Vs.drew ?_ | with_reducible refine Vs.far ?_ ?_ | with_reducible refine Vb.alloc ?_ _ | with_reducible refine Ob.alloc ?_ _ | with_reducible refine Gh.alloc ?_ _ | with_reducible refine BkI.alloc ?_ _ | with_reducible refine Fr.alloc ?_ _ | with_reducible refine Vb.drew ?_ | with_reducible refine Ob.drew ?_ | with_reducible refine Gh.drew ?_ | with_reducible refine BkI.drew ?_ | with_reducible refine Fr.drew ?_ | with_reducible refine Vb.far ?_ ?_ | with_reducible refine Ob.far ?_ ?_ | with_reducible refine Gh.far ?_ ?_ | with_reducible refine BkI.far ?_ ?_ | with_reducible refine Fr.setN ?_ ?_ | (dsimp only; omega)))
  case rest =>
    obtain ⟨q, rfl, rfl, hq, O, G, X, V, F⟩ := hcut
    clear O1 G1 X1 F1 hs1 HX HG
    go_wp2_with fail
    go_at_call 24
    refine (show_any _ x s _ X.out HI.out).mono ?_
    rintro e w2 ⟨rfl, hf2⟩
    have O2 : Hid (Ob w2 w.heap.size 5 a b c t u) := O.out.keep hf2 (by simp)
    have G2 : Hid (Gh w2 g (gof s)) := G.out.keep hf2 (by simp)
    have X2 : Hid (BkI w2 x s) := BkI.keep X.out hf2 (by simp)
    have V2 : Hid (Vb w2 q ⟨b, c⟩) := V.out.keep hf2 (by simp)
    have F2 : Hid (Fr [x, g] w w2) := F.out.trans hf2.widen
    clear O G X V F hf2
    have o0 := O2.out.c0
    have o1 := O2.out.c1
    have o2 := O2.out.c2
    have o3 := O2.out.c3
    have o4 := O2.out.c4
    have o5 := O2.out.c5
    go_wp2_with fail
    go_at_call 26
    refine (do_order w2 x s a b c t u X2.out HI.out).mono ?_
    rintro e w3 ⟨rfl, hr3, hf3⟩
    have hw2 := F2.out.size
    have O3 : Hid (Ob w3 w.heap.size 5 a b c t u) := O2.out.keep hf3 (by simp; omega)
    have G3 : Hid (Gh w3 g (gof s)) := G2.out.keep hf3 (by simp; omega)
    have X3 : Hid (BkI w3 x s) := hr3
    have V3 : Hid (Vb w3 q ⟨b, c⟩) := V2.out.keep hf3 (by simp; omega)
    have F3 : Hid (Fr [x, g] w w3) := F2.out.trans (hf3.mono (by simp))
    clear O2 G2 X2 V2 F2 hf3 hr3 o0 o1 o2 o3 o4 o5
    go_wp2_with fail
    go_at_call 24
    refine (show_any _ x _ _ (BkI.alloc X3.out _) HI.out).mono ?_
    rintro e w4 ⟨rfl, hf4⟩
    have A4 : Hid (Ab w4 w3.heap.size (0) (0) (0) (ordT (run s 4).ord)) := hf4.keep (blk_new _ _) (by simp)
    have O4 : Hid (Ob w4 w.heap.size 5 a b c t u) := (O3.out.alloc _).keep hf4 (by simp)
    have G4 : Hid (Gh w4 g (gof s)) := (G3.out.alloc _).keep hf4 (by simp)
    have X4 : Hid (BkI w4 x s) := (X3.out.alloc _).keep hf4 (by simp)
    have V4 : Hid (Vb w4 q ⟨b, c⟩) := (V3.out.alloc _).keep hf4 (by simp)
    have F4 : Hid (Fr [x, g] w w4) := (F3.out.alloc _).trans hf4.widen
    have hw3 := F3.out.size
    have hw4 := blk_lt A4.out
    clear O3 G3 X3 V3 F3 hf4
    have o0 := O4.out.c0
    have o1 := O4.out.c1
    have o2 := O4.out.c2
    have o3 := O4.out.c3
    have o4 := O4.out.c4
    have o5 := O4.out.c5
    have a0 := A4.out.c0
    have a1 := A4.out.c1
    have a2 := A4.out.c2
    have a3 := A4.out.c3
    go_wp2_with fail
    go_at_call 27
    refine (eyes_order _ g s G4.out HI.out a b c t u).mono ?_
    rintro e w5 ⟨rfl, hf5⟩
    go_wp2
    go_ret
    exact ⟨rfl, ⟨s, HI.out, X4.out.keep hf5 (by simp), G4.out.keep hf5 (by simp)⟩, F4.out.trans hf5.widen⟩

set_option maxHeartbeats 6400000 in
set_option maxRecDepth 100000 in
theorem step_avail (w : World) (x g : Nat) (s : St) (hx : BkI w x s) (hg : Gh w g (gof s)) (hi : Inv s) (hne : x ≠ g) (a b c : Int) (t u : ByteArray) (ht : t.size ≤ 9223372036854775807) :
    Calls Try.prog 15 #[.pointer (some ⟨x, 0, none⟩), .pointer (some ⟨g, 0, none⟩), .agg #[.int .i64 6, .int .i64 a, .int .i64 b, .int .i64 c, .string t, .string u]] w fun e w' => e = .returned (.bool true) ∧ Kept w' x g ∧ Fr [x, g] w w' := by
  have hxl := blk_lt hx
  have hgl := blk_lt hg
  have HX : Hid (BkI w x s) := hx
  have HG : Hid (Gh w g (gof s)) := hg
  have HI : Hid (Inv s) := hi
  clear hx hg hi
  go_enter Try.func15, Try.ntmps15
  go_wp2_with fail
  have O1 : Hid (Ob (w.alloc (.cells #[.int .i64 6, .int .i64 a, .int .i64 b, .int .i64 c, .string t, .string u] 41)) w.heap.size 6 a b c t u) := blk_new _ _
  have G1 : Hid (Gh (w.alloc (.cells #[.int .i64 6, .int .i64 a, .int .i64 b, .int .i64 c, .string t, .string u] 41)) g (gof s)) := blk_alloc HG.out _
  have X1 : Hid (BkI (w.alloc (.cells #[.int .i64 6, .int .i64 a, .int .i64 b, .int .i64 c, .string t, .string u] 41)) x s) := blk_alloc HX.out _
  have F1 : Hid (Fr [x, g] w (w.alloc (.cells #[.int .i64 6, .int .i64 a, .int .i64 b, .int .i64 c, .string t, .string u] 41))) := (Fr.refl _ _).alloc _
  have hs1 : w.heap.size < (w.alloc (.cells #[.int .i64 6, .int .i64 a, .int .i64 b, .int .i64 c, .string t, .string u] 41)).heap.size := blk_lt O1.out
  generalize w.alloc (.cells #[.int .i64 6, .int .i64 a, .int .i64 b, .int .i64 c, .string t, .string u] 41) = W1 at O1 G1 X1 F1 hs1 ⊢
  go_cut [7, 8] from 15 to 173 (fun s7 s8 wx => ∃ q : Nat, s7 = .int .i64 a ∧ s8 = .pointer (some ⟨q, 0, none⟩) ∧ w.heap.size < q ∧ Hid (Ob wx w.heap.size 6 a b c t u) ∧ Hid (Gh wx g (gof s)) ∧ Hid (BkI wx x s) ∧ Hid (Vb wx q ⟨b, c⟩) ∧ Hid (Fr [x, g] w wx))
  case first =>
    have oa := O1.out.c1
    have ox := O1.out.c2
    have oy := O1.out.c3
    have e1 : ¬ (w.heap.size = W1.heap.size) := by omega
    have e2 : ¬ (W1.heap.size = w.heap.size) := by omega
    go_region_held3 (fun w' => w'.cell? ⟨w.heap.size, 1, none⟩ = some (.int .i64 a) ∧ w'.cell? ⟨w.heap.size, 2, none⟩ = some (.int .i64 b) ∧ w'.cell? ⟨w.heap.size, 3, none⟩ = some (.int .i64 c)) (go_keep) (fail)
    all_goals (go_wp2_with fail; go_meet)
    all_goals
      have o1 := O1.out
      have g1 := G1.out
      have x1 := X1.out
      have f1 := F1.out
      refine ⟨_, rfl, rfl, by omega, ?_, ?_, ?_, ?_, ?_⟩
      all_goals (repeat' (first | with_reducible assumption | with_reducible refine hid ?_ | with_reducible exact Vb.new _ _ _ | with_reducible exact Vb.new1 _ _ _ _ | (with_reducible refine Vb.newE ?_; (simp; done)) | with_reducible refine Vs.set ?_ _ _ | with_reducible refine Vs.alloc ?_ _ | with_reducible refine Vs.drew ?_ | with_reducible refine Vs.far ?_ ?_ | with_reducible refine Vb.alloc ?_ _ | with_reducible refine Ob.alloc ?_ _ | with_reducible refine Gh.alloc ?_ _ | with_reducible refine BkI.alloc ?_ _ | with_reducible refine Fr.alloc ?_ _ | with_reducible refine Vb.drew ?_ | with_reducible refine Ob.drew ?_ | with_reducible refine Gh.drew ?_ | with_reducible refine BkI.drew ?_ | with_reducible refine Fr.drew ?_ | with_reducible refine Vb.far ?_ ?_ | with_reducible refine Ob.far ?_ ?_ | with_reducible refine Gh.far ?_ ?_ | with_reducible refine BkI.far ?_ ?_ | with_reducible refine Fr.setN ?_ ?_ | (dsimp only; omega)))
  case rest =>
    obtain ⟨q, rfl, rfl, hq, O, G, X, V, F⟩ := hcut
    clear O1 G1 X1 F1 hs1 HX HG
    go_wp2_with fail
    go_at_call 24
    refine (show_any _ x s _ X.out HI.out).mono ?_
    rintro e w2 ⟨rfl, hf2⟩
    have O2 : Hid (Ob w2 w.heap.size 6 a b c t u) := O.out.keep hf2 (by simp)
    have G2 : Hid (Gh w2 g (gof s)) := G.out.keep hf2 (by simp)
    have X2 : Hid (BkI w2 x s) := BkI.keep X.out hf2 (by simp)
    have V2 : Hid (Vb w2 q ⟨b, c⟩) := V.out.keep hf2 (by simp)
    have F2 : Hid (Fr [x, g] w w2) := F.out.trans hf2.widen
    clear O G X V F hf2
    have o0 := O2.out.c0
    have o1 := O2.out.c1
    have o2 := O2.out.c2
    have o3 := O2.out.c3
    have o4 := O2.out.c4
    have o5 := O2.out.c5
    go_wp2_with fail
    go_at_call 26
    refine (do_avail w2 x s a b c t u X2.out HI.out).mono ?_
    rintro e w3 ⟨rfl, hr3, hf3⟩
    have hw2 := F2.out.size
    have O3 : Hid (Ob w3 w.heap.size 6 a b c t u) := O2.out.keep hf3 (by simp; omega)
    have G3 : Hid (Gh w3 g (gof s)) := G2.out.keep hf3 (by simp; omega)
    have X3 : Hid (BkI w3 x s) := hr3
    have V3 : Hid (Vb w3 q ⟨b, c⟩) := V2.out.keep hf3 (by simp; omega)
    have F3 : Hid (Fr [x, g] w w3) := F2.out.trans (hf3.mono (by simp))
    clear O2 G2 X2 V2 F2 hf3 hr3 o0 o1 o2 o3 o4 o5
    go_wp2_with fail
    go_at_call 24
    refine (show_any _ x _ _ (BkI.alloc X3.out _) HI.out).mono ?_
    rintro e w4 ⟨rfl, hf4⟩
    have A4 : Hid (Ab w4 w3.heap.size (0) (s.av.a) (s.av.b) ⟨#[]⟩) := hf4.keep (blk_new _ _) (by simp)
    have O4 : Hid (Ob w4 w.heap.size 6 a b c t u) := (O3.out.alloc _).keep hf4 (by simp)
    have G4 : Hid (Gh w4 g (gof s)) := (G3.out.alloc _).keep hf4 (by simp)
    have X4 : Hid (BkI w4 x s) := (X3.out.alloc _).keep hf4 (by simp)
    have V4 : Hid (Vb w4 q ⟨b, c⟩) := (V3.out.alloc _).keep hf4 (by simp)
    have F4 : Hid (Fr [x, g] w w4) := (F3.out.alloc _).trans hf4.widen
    have hw3 := F3.out.size
    have hw4 := blk_lt A4.out
    clear O3 G3 X3 V3 F3 hf4
    have o0 := O4.out.c0
    have o1 := O4.out.c1
    have o2 := O4.out.c2
    have o3 := O4.out.c3
    have o4 := O4.out.c4
    have o5 := O4.out.c5
    have a0 := A4.out.c0
    have a1 := A4.out.c1
    have a2 := A4.out.c2
    have a3 := A4.out.c3
    go_wp2_with fail
    go_at_call 27
    refine (eyes_avail _ g s G4.out HI.out a b c t u).mono ?_
    rintro e w5 ⟨rfl, hf5⟩
    go_wp2
    go_ret
    exact ⟨rfl, ⟨s, HI.out, X4.out.keep hf5 (by simp), G4.out.keep hf5 (by simp)⟩, F4.out.trans hf5.widen⟩

set_option maxHeartbeats 6400000 in
set_option maxRecDepth 100000 in
theorem step_show (w : World) (x g : Nat) (s : St) (hx : BkI w x s) (hg : Gh w g (gof s)) (hi : Inv s) (hne : x ≠ g) (a b c : Int) (t u : ByteArray) (ht : t.size ≤ 9223372036854775807) :
    Calls Try.prog 15 #[.pointer (some ⟨x, 0, none⟩), .pointer (some ⟨g, 0, none⟩), .agg #[.int .i64 7, .int .i64 a, .int .i64 b, .int .i64 c, .string t, .string u]] w fun e w' => e = .returned (.bool true) ∧ Kept w' x g ∧ Fr [x, g] w w' := by
  have hxl := blk_lt hx
  have hgl := blk_lt hg
  have HX : Hid (BkI w x s) := hx
  have HG : Hid (Gh w g (gof s)) := hg
  have HI : Hid (Inv s) := hi
  clear hx hg hi
  go_enter Try.func15, Try.ntmps15
  go_wp2_with fail
  have O1 : Hid (Ob (w.alloc (.cells #[.int .i64 7, .int .i64 a, .int .i64 b, .int .i64 c, .string t, .string u] 41)) w.heap.size 7 a b c t u) := blk_new _ _
  have G1 : Hid (Gh (w.alloc (.cells #[.int .i64 7, .int .i64 a, .int .i64 b, .int .i64 c, .string t, .string u] 41)) g (gof s)) := blk_alloc HG.out _
  have X1 : Hid (BkI (w.alloc (.cells #[.int .i64 7, .int .i64 a, .int .i64 b, .int .i64 c, .string t, .string u] 41)) x s) := blk_alloc HX.out _
  have F1 : Hid (Fr [x, g] w (w.alloc (.cells #[.int .i64 7, .int .i64 a, .int .i64 b, .int .i64 c, .string t, .string u] 41))) := (Fr.refl _ _).alloc _
  have hs1 : w.heap.size < (w.alloc (.cells #[.int .i64 7, .int .i64 a, .int .i64 b, .int .i64 c, .string t, .string u] 41)).heap.size := blk_lt O1.out
  generalize w.alloc (.cells #[.int .i64 7, .int .i64 a, .int .i64 b, .int .i64 c, .string t, .string u] 41) = W1 at O1 G1 X1 F1 hs1 ⊢
  go_cut [7, 8] from 15 to 173 (fun s7 s8 wx => ∃ q : Nat, s7 = .int .i64 a ∧ s8 = .pointer (some ⟨q, 0, none⟩) ∧ w.heap.size < q ∧ Hid (Ob wx w.heap.size 7 a b c t u) ∧ Hid (Gh wx g (gof s)) ∧ Hid (BkI wx x s) ∧ Hid (Vb wx q ⟨b, c⟩) ∧ Hid (Fr [x, g] w wx))
  case first =>
    have oa := O1.out.c1
    have ox := O1.out.c2
    have oy := O1.out.c3
    have e1 : ¬ (w.heap.size = W1.heap.size) := by omega
    have e2 : ¬ (W1.heap.size = w.heap.size) := by omega
    go_region_held3 (fun w' => w'.cell? ⟨w.heap.size, 1, none⟩ = some (.int .i64 a) ∧ w'.cell? ⟨w.heap.size, 2, none⟩ = some (.int .i64 b) ∧ w'.cell? ⟨w.heap.size, 3, none⟩ = some (.int .i64 c)) (go_keep) (fail)
    all_goals (go_wp2_with fail; go_meet)
    all_goals
      have o1 := O1.out
      have g1 := G1.out
      have x1 := X1.out
      have f1 := F1.out
      refine ⟨_, rfl, rfl, by omega, ?_, ?_, ?_, ?_, ?_⟩
      all_goals (repeat' (first | with_reducible assumption | with_reducible refine hid ?_ | with_reducible exact Vb.new _ _ _ | with_reducible exact Vb.new1 _ _ _ _ | (with_reducible refine Vb.newE ?_; (simp; done)) | with_reducible refine Vs.set ?_ _ _ | with_reducible refine Vs.alloc ?_ _ | with_reducible refine Vs.drew ?_ | with_reducible refine Vs.far ?_ ?_ | with_reducible refine Vb.alloc ?_ _ | with_reducible refine Ob.alloc ?_ _ | with_reducible refine Gh.alloc ?_ _ | with_reducible refine BkI.alloc ?_ _ | with_reducible refine Fr.alloc ?_ _ | with_reducible refine Vb.drew ?_ | with_reducible refine Ob.drew ?_ | with_reducible refine Gh.drew ?_ | with_reducible refine BkI.drew ?_ | with_reducible refine Fr.drew ?_ | with_reducible refine Vb.far ?_ ?_ | with_reducible refine Ob.far ?_ ?_ | with_reducible refine Gh.far ?_ ?_ | with_reducible refine BkI.far ?_ ?_ | with_reducible refine Fr.setN ?_ ?_ | (dsimp only; omega)))
  case rest =>
    obtain ⟨q, rfl, rfl, hq, O, G, X, V, F⟩ := hcut
    clear O1 G1 X1 F1 hs1 HX HG
    go_wp2_with fail
    go_at_call 24
    refine (show_any _ x s _ X.out HI.out).mono ?_
    rintro e w2 ⟨rfl, hf2⟩
    have O2 : Hid (Ob w2 w.heap.size 7 a b c t u) := O.out.keep hf2 (by simp)
    have G2 : Hid (Gh w2 g (gof s)) := G.out.keep hf2 (by simp)
    have X2 : Hid (BkI w2 x s) := BkI.keep X.out hf2 (by simp)
    have V2 : Hid (Vb w2 q ⟨b, c⟩) := V.out.keep hf2 (by simp)
    have F2 : Hid (Fr [x, g] w w2) := F.out.trans hf2.widen
    clear O G X V F hf2
    have o0 := O2.out.c0
    have o1 := O2.out.c1
    have o2 := O2.out.c2
    have o3 := O2.out.c3
    have o4 := O2.out.c4
    have o5 := O2.out.c5
    go_wp2_with fail
    go_at_call 26
    refine (do_show w2 x s a b c t u X2.out HI.out).mono ?_
    rintro e w3 ⟨rfl, hr3, hf3⟩
    have hw2 := F2.out.size
    have O3 : Hid (Ob w3 w.heap.size 7 a b c t u) := O2.out.keep hf3 (by simp; omega)
    have G3 : Hid (Gh w3 g (gof s)) := G2.out.keep hf3 (by simp; omega)
    have X3 : Hid (BkI w3 x s) := hr3
    have V3 : Hid (Vb w3 q ⟨b, c⟩) := V2.out.keep hf3 (by simp; omega)
    have F3 : Hid (Fr [x, g] w w3) := F2.out.trans (hf3.mono (by simp))
    clear O2 G2 X2 V2 F2 hf3 hr3 o0 o1 o2 o3 o4 o5
    go_wp2_with fail
    go_at_call 24
    refine (show_any _ x _ _ (BkI.alloc X3.out _) HI.out).mono ?_
    rintro e w4 ⟨rfl, hf4⟩
    have A4 : Hid (Ab w4 w3.heap.size (0) (0) (0) (shw s 4)) := hf4.keep (blk_new _ _) (by simp)
    have O4 : Hid (Ob w4 w.heap.size 7 a b c t u) := (O3.out.alloc _).keep hf4 (by simp)
    have G4 : Hid (Gh w4 g (gof s)) := (G3.out.alloc _).keep hf4 (by simp)
    have X4 : Hid (BkI w4 x s) := (X3.out.alloc _).keep hf4 (by simp)
    have V4 : Hid (Vb w4 q ⟨b, c⟩) := (V3.out.alloc _).keep hf4 (by simp)
    have F4 : Hid (Fr [x, g] w w4) := (F3.out.alloc _).trans hf4.widen
    have hw3 := F3.out.size
    have hw4 := blk_lt A4.out
    clear O3 G3 X3 V3 F3 hf4
    have o0 := O4.out.c0
    have o1 := O4.out.c1
    have o2 := O4.out.c2
    have o3 := O4.out.c3
    have o4 := O4.out.c4
    have o5 := O4.out.c5
    have a0 := A4.out.c0
    have a1 := A4.out.c1
    have a2 := A4.out.c2
    have a3 := A4.out.c3
    go_wp2_with fail
    go_at_call 27
    refine (eyes_show _ g s G4.out HI.out a b c t u).mono ?_
    rintro e w5 ⟨rfl, hf5⟩
    go_wp2
    go_ret
    exact ⟨rfl, ⟨s, HI.out, X4.out.keep hf5 (by simp), G4.out.keep hf5 (by simp)⟩, F4.out.trans hf5.widen⟩

set_option maxHeartbeats 6400000 in
set_option maxRecDepth 100000 in
theorem step_check (w : World) (x g : Nat) (s : St) (hx : BkI w x s) (hg : Gh w g (gof s)) (hi : Inv s) (hne : x ≠ g) (a b c : Int) (t u : ByteArray) (ht : t.size ≤ 9223372036854775807) :
    Calls Try.prog 15 #[.pointer (some ⟨x, 0, none⟩), .pointer (some ⟨g, 0, none⟩), .agg #[.int .i64 8, .int .i64 a, .int .i64 b, .int .i64 c, .string t, .string u]] w fun e w' => e = .returned (.bool true) ∧ Kept w' x g ∧ Fr [x, g] w w' := by
  have hxl := blk_lt hx
  have hgl := blk_lt hg
  have HX : Hid (BkI w x s) := hx
  have HG : Hid (Gh w g (gof s)) := hg
  have HI : Hid (Inv s) := hi
  clear hx hg hi
  go_enter Try.func15, Try.ntmps15
  go_wp2_with fail
  have O1 : Hid (Ob (w.alloc (.cells #[.int .i64 8, .int .i64 a, .int .i64 b, .int .i64 c, .string t, .string u] 41)) w.heap.size 8 a b c t u) := blk_new _ _
  have G1 : Hid (Gh (w.alloc (.cells #[.int .i64 8, .int .i64 a, .int .i64 b, .int .i64 c, .string t, .string u] 41)) g (gof s)) := blk_alloc HG.out _
  have X1 : Hid (BkI (w.alloc (.cells #[.int .i64 8, .int .i64 a, .int .i64 b, .int .i64 c, .string t, .string u] 41)) x s) := blk_alloc HX.out _
  have F1 : Hid (Fr [x, g] w (w.alloc (.cells #[.int .i64 8, .int .i64 a, .int .i64 b, .int .i64 c, .string t, .string u] 41))) := (Fr.refl _ _).alloc _
  have hs1 : w.heap.size < (w.alloc (.cells #[.int .i64 8, .int .i64 a, .int .i64 b, .int .i64 c, .string t, .string u] 41)).heap.size := blk_lt O1.out
  generalize w.alloc (.cells #[.int .i64 8, .int .i64 a, .int .i64 b, .int .i64 c, .string t, .string u] 41) = W1 at O1 G1 X1 F1 hs1 ⊢
  go_cut [7, 8] from 15 to 173 (fun s7 s8 wx => ∃ q : Nat, s7 = .int .i64 a ∧ s8 = .pointer (some ⟨q, 0, none⟩) ∧ w.heap.size < q ∧ Hid (Ob wx w.heap.size 8 a b c t u) ∧ Hid (Gh wx g (gof s)) ∧ Hid (BkI wx x s) ∧ Hid (Vb wx q ⟨b, c⟩) ∧ Hid (Fr [x, g] w wx))
  case first =>
    have oa := O1.out.c1
    have ox := O1.out.c2
    have oy := O1.out.c3
    have e1 : ¬ (w.heap.size = W1.heap.size) := by omega
    have e2 : ¬ (W1.heap.size = w.heap.size) := by omega
    go_region_held3 (fun w' => w'.cell? ⟨w.heap.size, 1, none⟩ = some (.int .i64 a) ∧ w'.cell? ⟨w.heap.size, 2, none⟩ = some (.int .i64 b) ∧ w'.cell? ⟨w.heap.size, 3, none⟩ = some (.int .i64 c)) (go_keep) (fail)
    all_goals (go_wp2_with fail; go_meet)
    all_goals
      have o1 := O1.out
      have g1 := G1.out
      have x1 := X1.out
      have f1 := F1.out
      refine ⟨_, rfl, rfl, by omega, ?_, ?_, ?_, ?_, ?_⟩
      all_goals (repeat' (first | with_reducible assumption | with_reducible refine hid ?_ | with_reducible exact Vb.new _ _ _ | with_reducible exact Vb.new1 _ _ _ _ | (with_reducible refine Vb.newE ?_; (simp; done)) | with_reducible refine Vs.set ?_ _ _ | with_reducible refine Vs.alloc ?_ _ | with_reducible refine Vs.drew ?_ | with_reducible refine Vs.far ?_ ?_ | with_reducible refine Vb.alloc ?_ _ | with_reducible refine Ob.alloc ?_ _ | with_reducible refine Gh.alloc ?_ _ | with_reducible refine BkI.alloc ?_ _ | with_reducible refine Fr.alloc ?_ _ | with_reducible refine Vb.drew ?_ | with_reducible refine Ob.drew ?_ | with_reducible refine Gh.drew ?_ | with_reducible refine BkI.drew ?_ | with_reducible refine Fr.drew ?_ | with_reducible refine Vb.far ?_ ?_ | with_reducible refine Ob.far ?_ ?_ | with_reducible refine Gh.far ?_ ?_ | with_reducible refine BkI.far ?_ ?_ | with_reducible refine Fr.setN ?_ ?_ | (dsimp only; omega)))
  case rest =>
    obtain ⟨q, rfl, rfl, hq, O, G, X, V, F⟩ := hcut
    clear O1 G1 X1 F1 hs1 HX HG
    go_wp2_with fail
    go_at_call 24
    refine (show_any _ x s _ X.out HI.out).mono ?_
    rintro e w2 ⟨rfl, hf2⟩
    have O2 : Hid (Ob w2 w.heap.size 8 a b c t u) := O.out.keep hf2 (by simp)
    have G2 : Hid (Gh w2 g (gof s)) := G.out.keep hf2 (by simp)
    have X2 : Hid (BkI w2 x s) := BkI.keep X.out hf2 (by simp)
    have V2 : Hid (Vb w2 q ⟨b, c⟩) := V.out.keep hf2 (by simp)
    have F2 : Hid (Fr [x, g] w w2) := F.out.trans hf2.widen
    clear O G X V F hf2
    have o0 := O2.out.c0
    have o1 := O2.out.c1
    have o2 := O2.out.c2
    have o3 := O2.out.c3
    have o4 := O2.out.c4
    have o5 := O2.out.c5
    go_wp2_with fail
    go_at_call 26
    refine (do_check w2 x s a b c t u X2.out HI.out).mono ?_
    rintro e w3 ⟨rfl, hr3, hf3⟩
    have hw2 := F2.out.size
    have O3 : Hid (Ob w3 w.heap.size 8 a b c t u) := O2.out.keep hf3 (by simp; omega)
    have G3 : Hid (Gh w3 g (gof s)) := G2.out.keep hf3 (by simp; omega)
    have X3 : Hid (BkI w3 x s) := hr3
    have V3 : Hid (Vb w3 q ⟨b, c⟩) := V2.out.keep hf3 (by simp; omega)
    have F3 : Hid (Fr [x, g] w w3) := F2.out.trans (hf3.mono (by simp))
    clear O2 G2 X2 V2 F2 hf3 hr3 o0 o1 o2 o3 o4 o5
    go_wp2_with fail
    go_at_call 24
    refine (show_any _ x _ _ (BkI.alloc X3.out _) HI.out).mono ?_
    rintro e w4 ⟨rfl, hf4⟩
    have A4 : Hid (Ab w4 w3.heap.size (0) (0) (0) ⟨#[]⟩) := hf4.keep (blk_new _ _) (by simp)
    have O4 : Hid (Ob w4 w.heap.size 8 a b c t u) := (O3.out.alloc _).keep hf4 (by simp)
    have G4 : Hid (Gh w4 g (gof s)) := (G3.out.alloc _).keep hf4 (by simp)
    have X4 : Hid (BkI w4 x s) := (X3.out.alloc _).keep hf4 (by simp)
    have V4 : Hid (Vb w4 q ⟨b, c⟩) := (V3.out.alloc _).keep hf4 (by simp)
    have F4 : Hid (Fr [x, g] w w4) := (F3.out.alloc _).trans hf4.widen
    have hw3 := F3.out.size
    have hw4 := blk_lt A4.out
    clear O3 G3 X3 V3 F3 hf4
    have o0 := O4.out.c0
    have o1 := O4.out.c1
    have o2 := O4.out.c2
    have o3 := O4.out.c3
    have o4 := O4.out.c4
    have o5 := O4.out.c5
    have a0 := A4.out.c0
    have a1 := A4.out.c1
    have a2 := A4.out.c2
    have a3 := A4.out.c3
    go_wp2_with fail
    go_at_call 27
    refine (eyes_none _ g s G4.out HI.out 8 a b c t u rfl rfl rfl).mono ?_
    rintro e w5 ⟨rfl, hf5⟩
    go_wp2
    go_ret
    exact ⟨rfl, ⟨s, HI.out, X4.out.keep hf5 (by simp), G4.out.keep hf5 (by simp)⟩, F4.out.trans hf5.widen⟩

set_option maxHeartbeats 6400000 in
set_option maxRecDepth 100000 in
theorem step_low (w : World) (x g : Nat) (s : St) (hx : BkI w x s) (hg : Gh w g (gof s)) (hi : Inv s) (hne : x ≠ g) (k a b c : Int) (t u : ByteArray) (ht : t.size ≤ 9223372036854775807) (hk : k < 1) :
    Calls Try.prog 15 #[.pointer (some ⟨x, 0, none⟩), .pointer (some ⟨g, 0, none⟩), .agg #[.int .i64 k, .int .i64 a, .int .i64 b, .int .i64 c, .string t, .string u]] w fun e w' => e = .returned (.bool true) ∧ Kept w' x g ∧ Fr [x, g] w w' := by
  have hxl := blk_lt hx
  have hgl := blk_lt hg
  have HX : Hid (BkI w x s) := hx
  have HG : Hid (Gh w g (gof s)) := hg
  have HI : Hid (Inv s) := hi
  clear hx hg hi
  have k9 : (k == 9) = false := beq_eq_false_iff_ne.2 (by omega)
  have hkl : k < 1 := hk
  go_enter Try.func15, Try.ntmps15
  go_wp2_with fail
  have O1 : Hid (Ob (w.alloc (.cells #[.int .i64 k, .int .i64 a, .int .i64 b, .int .i64 c, .string t, .string u] 41)) w.heap.size k a b c t u) := blk_new _ _
  have G1 : Hid (Gh (w.alloc (.cells #[.int .i64 k, .int .i64 a, .int .i64 b, .int .i64 c, .string t, .string u] 41)) g (gof s)) := blk_alloc HG.out _
  have X1 : Hid (BkI (w.alloc (.cells #[.int .i64 k, .int .i64 a, .int .i64 b, .int .i64 c, .string t, .string u] 41)) x s) := blk_alloc HX.out _
  have F1 : Hid (Fr [x, g] w (w.alloc (.cells #[.int .i64 k, .int .i64 a, .int .i64 b, .int .i64 c, .string t, .string u] 41))) := (Fr.refl _ _).alloc _
  have hs1 : w.heap.size < (w.alloc (.cells #[.int .i64 k, .int .i64 a, .int .i64 b, .int .i64 c, .string t, .string u] 41)).heap.size := blk_lt O1.out
  generalize w.alloc (.cells #[.int .i64 k, .int .i64 a, .int .i64 b, .int .i64 c, .string t, .string u] 41) = W1 at O1 G1 X1 F1 hs1 ⊢
  go_cut [7, 8] from 15 to 173 (fun s7 s8 wx => ∃ q : Nat, s7 = .int .i64 a ∧ s8 = .pointer (some ⟨q, 0, none⟩) ∧ w.heap.size < q ∧ Hid (Ob wx w.heap.size k a b c t u) ∧ Hid (Gh wx g (gof s)) ∧ Hid (BkI wx x s) ∧ Hid (Vb wx q ⟨b, c⟩) ∧ Hid (Fr [x, g] w wx))
  case first =>
    have oa := O1.out.c1
    have ox := O1.out.c2
    have oy := O1.out.c3
    have e1 : ¬ (w.heap.size = W1.heap.size) := by omega
    have e2 : ¬ (W1.heap.size = w.heap.size) := by omega
    go_region_held3 (fun w' => w'.cell? ⟨w.heap.size, 1, none⟩ = some (.int .i64 a) ∧ w'.cell? ⟨w.heap.size, 2, none⟩ = some (.int .i64 b) ∧ w'.cell? ⟨w.heap.size, 3, none⟩ = some (.int .i64 c)) (go_keep) (fail)
    all_goals (go_wp2_with fail; go_meet)
    all_goals
      have o1 := O1.out
      have g1 := G1.out
      have x1 := X1.out
      have f1 := F1.out
      refine ⟨_, rfl, rfl, by omega, ?_, ?_, ?_, ?_, ?_⟩
      all_goals (repeat' (first | with_reducible assumption | with_reducible refine hid ?_ | with_reducible exact Vb.new _ _ _ | with_reducible exact Vb.new1 _ _ _ _ | (with_reducible refine Vb.newE ?_; (simp; done)) | with_reducible refine Vs.set ?_ _ _ | with_reducible refine Vs.alloc ?_ _ | with_reducible refine Vs.drew ?_ | with_reducible refine Vs.far ?_ ?_ | with_reducible refine Vb.alloc ?_ _ | with_reducible refine Ob.alloc ?_ _ | with_reducible refine Gh.alloc ?_ _ | with_reducible refine BkI.alloc ?_ _ | with_reducible refine Fr.alloc ?_ _ | with_reducible refine Vb.drew ?_ | with_reducible refine Ob.drew ?_ | with_reducible refine Gh.drew ?_ | with_reducible refine BkI.drew ?_ | with_reducible refine Fr.drew ?_ | with_reducible refine Vb.far ?_ ?_ | with_reducible refine Ob.far ?_ ?_ | with_reducible refine Gh.far ?_ ?_ | with_reducible refine BkI.far ?_ ?_ | with_reducible refine Fr.setN ?_ ?_ | (dsimp only; omega)))
  case rest =>
    obtain ⟨q, rfl, rfl, hq, O, G, X, V, F⟩ := hcut
    clear O1 G1 X1 F1 hs1 HX HG
    go_wp2_with fail
    go_at_call 24
    refine (show_any _ x s _ X.out HI.out).mono ?_
    rintro e w2 ⟨rfl, hf2⟩
    have O2 : Hid (Ob w2 w.heap.size k a b c t u) := O.out.keep hf2 (by simp)
    have G2 : Hid (Gh w2 g (gof s)) := G.out.keep hf2 (by simp)
    have X2 : Hid (BkI w2 x s) := BkI.keep X.out hf2 (by simp)
    have V2 : Hid (Vb w2 q ⟨b, c⟩) := V.out.keep hf2 (by simp)
    have F2 : Hid (Fr [x, g] w w2) := F.out.trans hf2.widen
    clear O G X V F hf2
    have o0 := O2.out.c0
    have o1 := O2.out.c1
    have o2 := O2.out.c2
    have o3 := O2.out.c3
    have o4 := O2.out.c4
    have o5 := O2.out.c5
    go_wp2_with fail
    go_at_call 26
    refine (do_none w2 x s k a b c t u X2.out (beq_eq_false_iff_ne.2 (by omega)) (beq_eq_false_iff_ne.2 (by omega)) (beq_eq_false_iff_ne.2 (by omega)) (beq_eq_false_iff_ne.2 (by omega)) (beq_eq_false_iff_ne.2 (by omega)) (beq_eq_false_iff_ne.2 (by omega)) (beq_eq_false_iff_ne.2 (by omega)) (beq_eq_false_iff_ne.2 (by omega))).mono ?_
    rintro e w3 ⟨rfl, hr3, hf3⟩
    have hw2 := F2.out.size
    have O3 : Hid (Ob w3 w.heap.size k a b c t u) := O2.out.keep hf3 (by simp; omega)
    have G3 : Hid (Gh w3 g (gof s)) := G2.out.keep hf3 (by simp; omega)
    have X3 : Hid (BkI w3 x s) := hr3
    have V3 : Hid (Vb w3 q ⟨b, c⟩) := V2.out.keep hf3 (by simp; omega)
    have F3 : Hid (Fr [x, g] w w3) := F2.out.trans (hf3.mono (by simp))
    clear O2 G2 X2 V2 F2 hf3 hr3 o0 o1 o2 o3 o4 o5
    go_wp2_with fail
    go_at_call 24
    refine (show_any _ x _ _ (BkI.alloc X3.out _) HI.out).mono ?_
    rintro e w4 ⟨rfl, hf4⟩
    have A4 : Hid (Ab w4 w3.heap.size (0) (0) (0) ⟨#[]⟩) := hf4.keep (blk_new _ _) (by simp)
    have O4 : Hid (Ob w4 w.heap.size k a b c t u) := (O3.out.alloc _).keep hf4 (by simp)
    have G4 : Hid (Gh w4 g (gof s)) := (G3.out.alloc _).keep hf4 (by simp)
    have X4 : Hid (BkI w4 x s) := (X3.out.alloc _).keep hf4 (by simp)
    have V4 : Hid (Vb w4 q ⟨b, c⟩) := (V3.out.alloc _).keep hf4 (by simp)
    have F4 : Hid (Fr [x, g] w w4) := (F3.out.alloc _).trans hf4.widen
    have hw3 := F3.out.size
    have hw4 := blk_lt A4.out
    clear O3 G3 X3 V3 F3 hf4
    have o0 := O4.out.c0
    have o1 := O4.out.c1
    have o2 := O4.out.c2
    have o3 := O4.out.c3
    have o4 := O4.out.c4
    have o5 := O4.out.c5
    have a0 := A4.out.c0
    have a1 := A4.out.c1
    have a2 := A4.out.c2
    have a3 := A4.out.c3
    go_wp2_with fail
    go_at_call 27
    refine (eyes_none _ g s G4.out HI.out k a b c t u (beq_eq_false_iff_ne.2 (by omega)) (beq_eq_false_iff_ne.2 (by omega)) (beq_eq_false_iff_ne.2 (by omega))).mono ?_
    rintro e w5 ⟨rfl, hf5⟩
    go_wp2
    go_ret
    exact ⟨rfl, ⟨s, HI.out, X4.out.keep hf5 (by simp), G4.out.keep hf5 (by simp)⟩, F4.out.trans hf5.widen⟩

set_option maxHeartbeats 6400000 in
set_option maxRecDepth 100000 in
theorem step_high (w : World) (x g : Nat) (s : St) (hx : BkI w x s) (hg : Gh w g (gof s)) (hi : Inv s) (hne : x ≠ g) (k a b c : Int) (t u : ByteArray) (ht : t.size ≤ 9223372036854775807) (hk : 9 < k) :
    Calls Try.prog 15 #[.pointer (some ⟨x, 0, none⟩), .pointer (some ⟨g, 0, none⟩), .agg #[.int .i64 k, .int .i64 a, .int .i64 b, .int .i64 c, .string t, .string u]] w fun e w' => e = .returned (.bool true) ∧ Kept w' x g ∧ Fr [x, g] w w' := by
  have hxl := blk_lt hx
  have hgl := blk_lt hg
  have HX : Hid (BkI w x s) := hx
  have HG : Hid (Gh w g (gof s)) := hg
  have HI : Hid (Inv s) := hi
  clear hx hg hi
  have k9 : (k == 9) = false := beq_eq_false_iff_ne.2 (by omega)
  have hkl : ¬ (k < 1) := by omega
  have hkl' : decide (k < 1) = false := decide_eq_false (by omega)
  have hkh : 4 < k := by omega
  go_enter Try.func15, Try.ntmps15
  go_wp2_with fail
  have O1 : Hid (Ob (w.alloc (.cells #[.int .i64 k, .int .i64 a, .int .i64 b, .int .i64 c, .string t, .string u] 41)) w.heap.size k a b c t u) := blk_new _ _
  have G1 : Hid (Gh (w.alloc (.cells #[.int .i64 k, .int .i64 a, .int .i64 b, .int .i64 c, .string t, .string u] 41)) g (gof s)) := blk_alloc HG.out _
  have X1 : Hid (BkI (w.alloc (.cells #[.int .i64 k, .int .i64 a, .int .i64 b, .int .i64 c, .string t, .string u] 41)) x s) := blk_alloc HX.out _
  have F1 : Hid (Fr [x, g] w (w.alloc (.cells #[.int .i64 k, .int .i64 a, .int .i64 b, .int .i64 c, .string t, .string u] 41))) := (Fr.refl _ _).alloc _
  have hs1 : w.heap.size < (w.alloc (.cells #[.int .i64 k, .int .i64 a, .int .i64 b, .int .i64 c, .string t, .string u] 41)).heap.size := blk_lt O1.out
  generalize w.alloc (.cells #[.int .i64 k, .int .i64 a, .int .i64 b, .int .i64 c, .string t, .string u] 41) = W1 at O1 G1 X1 F1 hs1 ⊢
  go_cut [7, 8] from 15 to 173 (fun s7 s8 wx => ∃ q : Nat, s7 = .int .i64 a ∧ s8 = .pointer (some ⟨q, 0, none⟩) ∧ w.heap.size < q ∧ Hid (Ob wx w.heap.size k a b c t u) ∧ Hid (Gh wx g (gof s)) ∧ Hid (BkI wx x s) ∧ Hid (Vb wx q ⟨b, c⟩) ∧ Hid (Fr [x, g] w wx))
  case first =>
    have oa := O1.out.c1
    have ox := O1.out.c2
    have oy := O1.out.c3
    have e1 : ¬ (w.heap.size = W1.heap.size) := by omega
    have e2 : ¬ (W1.heap.size = w.heap.size) := by omega
    go_region_held3 (fun w' => w'.cell? ⟨w.heap.size, 1, none⟩ = some (.int .i64 a) ∧ w'.cell? ⟨w.heap.size, 2, none⟩ = some (.int .i64 b) ∧ w'.cell? ⟨w.heap.size, 3, none⟩ = some (.int .i64 c)) (go_keep) (fail)
    all_goals (go_wp2_with fail; go_meet)
    all_goals
      have o1 := O1.out
      have g1 := G1.out
      have x1 := X1.out
      have f1 := F1.out
      refine ⟨_, rfl, rfl, by omega, ?_, ?_, ?_, ?_, ?_⟩
      all_goals (repeat' (first | with_reducible assumption | with_reducible refine hid ?_ | with_reducible exact Vb.new _ _ _ | with_reducible exact Vb.new1 _ _ _ _ | (with_reducible refine Vb.newE ?_; (simp; done)) | with_reducible refine Vs.set ?_ _ _ | with_reducible refine Vs.alloc ?_ _ | with_reducible refine Vs.drew ?_ | with_reducible refine Vs.far ?_ ?_ | with_reducible refine Vb.alloc ?_ _ | with_reducible refine Ob.alloc ?_ _ | with_reducible refine Gh.alloc ?_ _ | with_reducible refine BkI.alloc ?_ _ | with_reducible refine Fr.alloc ?_ _ | with_reducible refine Vb.drew ?_ | with_reducible refine Ob.drew ?_ | with_reducible refine Gh.drew ?_ | with_reducible refine BkI.drew ?_ | with_reducible refine Fr.drew ?_ | with_reducible refine Vb.far ?_ ?_ | with_reducible refine Ob.far ?_ ?_ | with_reducible refine Gh.far ?_ ?_ | with_reducible refine BkI.far ?_ ?_ | with_reducible refine Fr.setN ?_ ?_ | (dsimp only; omega)))
  case rest =>
    obtain ⟨q, rfl, rfl, hq, O, G, X, V, F⟩ := hcut
    clear O1 G1 X1 F1 hs1 HX HG
    go_wp2_with fail
    go_at_call 24
    refine (show_any _ x s _ X.out HI.out).mono ?_
    rintro e w2 ⟨rfl, hf2⟩
    have O2 : Hid (Ob w2 w.heap.size k a b c t u) := O.out.keep hf2 (by simp)
    have G2 : Hid (Gh w2 g (gof s)) := G.out.keep hf2 (by simp)
    have X2 : Hid (BkI w2 x s) := BkI.keep X.out hf2 (by simp)
    have V2 : Hid (Vb w2 q ⟨b, c⟩) := V.out.keep hf2 (by simp)
    have F2 : Hid (Fr [x, g] w w2) := F.out.trans hf2.widen
    clear O G X V F hf2
    have o0 := O2.out.c0
    have o1 := O2.out.c1
    have o2 := O2.out.c2
    have o3 := O2.out.c3
    have o4 := O2.out.c4
    have o5 := O2.out.c5
    go_wp2_with fail
    go_at_call 26
    refine (do_none w2 x s k a b c t u X2.out (beq_eq_false_iff_ne.2 (by omega)) (beq_eq_false_iff_ne.2 (by omega)) (beq_eq_false_iff_ne.2 (by omega)) (beq_eq_false_iff_ne.2 (by omega)) (beq_eq_false_iff_ne.2 (by omega)) (beq_eq_false_iff_ne.2 (by omega)) (beq_eq_false_iff_ne.2 (by omega)) (beq_eq_false_iff_ne.2 (by omega))).mono ?_
    rintro e w3 ⟨rfl, hr3, hf3⟩
    have hw2 := F2.out.size
    have O3 : Hid (Ob w3 w.heap.size k a b c t u) := O2.out.keep hf3 (by simp; omega)
    have G3 : Hid (Gh w3 g (gof s)) := G2.out.keep hf3 (by simp; omega)
    have X3 : Hid (BkI w3 x s) := hr3
    have V3 : Hid (Vb w3 q ⟨b, c⟩) := V2.out.keep hf3 (by simp; omega)
    have F3 : Hid (Fr [x, g] w w3) := F2.out.trans (hf3.mono (by simp))
    clear O2 G2 X2 V2 F2 hf3 hr3 o0 o1 o2 o3 o4 o5
    go_wp2_with fail
    go_at_call 24
    refine (show_any _ x _ _ (BkI.alloc X3.out _) HI.out).mono ?_
    rintro e w4 ⟨rfl, hf4⟩
    have A4 : Hid (Ab w4 w3.heap.size (0) (0) (0) ⟨#[]⟩) := hf4.keep (blk_new _ _) (by simp)
    have O4 : Hid (Ob w4 w.heap.size k a b c t u) := (O3.out.alloc _).keep hf4 (by simp)
    have G4 : Hid (Gh w4 g (gof s)) := (G3.out.alloc _).keep hf4 (by simp)
    have X4 : Hid (BkI w4 x s) := (X3.out.alloc _).keep hf4 (by simp)
    have V4 : Hid (Vb w4 q ⟨b, c⟩) := (V3.out.alloc _).keep hf4 (by simp)
    have F4 : Hid (Fr [x, g] w w4) := (F3.out.alloc _).trans hf4.widen
    have hw3 := F3.out.size
    have hw4 := blk_lt A4.out
    clear O3 G3 X3 V3 F3 hf4
    have o0 := O4.out.c0
    have o1 := O4.out.c1
    have o2 := O4.out.c2
    have o3 := O4.out.c3
    have o4 := O4.out.c4
    have o5 := O4.out.c5
    have a0 := A4.out.c0
    have a1 := A4.out.c1
    have a2 := A4.out.c2
    have a3 := A4.out.c3
    go_wp2_with fail
    go_at_call 27
    refine (eyes_none _ g s G4.out HI.out k a b c t u (beq_eq_false_iff_ne.2 (by omega)) (beq_eq_false_iff_ne.2 (by omega)) (beq_eq_false_iff_ne.2 (by omega))).mono ?_
    rintro e w5 ⟨rfl, hf5⟩
    go_wp2
    go_ret
    exact ⟨rfl, ⟨s, HI.out, X4.out.keep hf5 (by simp), G4.out.keep hf5 (by simp)⟩, F4.out.trans hf5.widen⟩

end Go.Proofs.Qxb6500340a
