import Derived.Test.Qxb6500340aK6
import Derived.Deep.RegionHeld3
namespace Go.Proofs.Qxb6500340a
open Go.RowKit
set_option linter.unusedVariables false
set_option linter.unusedSimpArgs false

/-- An op in a block of its own. -/
def Ob (w : World) (b : Nat) (k a x y : Int) (t u : ByteArray) : Prop := w.heap[b]? = some (.cells #[.int .i64 k, .int .i64 a, .int .i64 x, .int .i64 y, .string t, .string u] 41)
section
variable {w : World} {b : Nat} {k a x y : Int} {t u : ByteArray}
theorem Ob.c0 (h : Ob w b k a x y t u) : w.cell? ⟨b, 0, none⟩ = some (.int .i64 k) := blk_cell h 0
theorem Ob.c1 (h : Ob w b k a x y t u) : w.cell? ⟨b, 1, none⟩ = some (.int .i64 a) := blk_cell h 1
theorem Ob.c2 (h : Ob w b k a x y t u) : w.cell? ⟨b, 2, none⟩ = some (.int .i64 x) := blk_cell h 2
theorem Ob.c3 (h : Ob w b k a x y t u) : w.cell? ⟨b, 3, none⟩ = some (.int .i64 y) := blk_cell h 3
theorem Ob.c4 (h : Ob w b k a x y t u) : w.cell? ⟨b, 4, none⟩ = some (.string t) := blk_cell h 4
theorem Ob.c5 (h : Ob w b k a x y t u) : w.cell? ⟨b, 5, none⟩ = some (.string u) := blk_cell h 5
end

theorem hid {p : Prop} (h : p) : Hid p := h
section
variable {w : World} {b : Nat}
theorem Vb.new (w : World) (x y : Int) : Vb (w.alloc (.cells #[.int .i64 x, .int .i64 y] 27)) w.heap.size ⟨x, y⟩ := blk_new _ _
theorem Vb.newE {w : World} {x y : Int} {b : Nat} (h : w.heap.size = b) : Vb (w.alloc (.cells #[.int .i64 x, .int .i64 y] 27)) b ⟨x, y⟩ := by rw [← h]; exact blk_new _ _
/-- Some vector stands there. -/
def Vs (w : World) (b : Nat) : Prop := ∃ x, Vb w b x
theorem Vb.vs {v : Vc} (h : Vb w b v) : Vs w b := ⟨_, h⟩
theorem Vs.alloc (h : Vs w b) (o : Obj) : Vs (w.alloc o) b := by obtain ⟨x, h⟩ := h; exact ⟨x, blk_alloc h o⟩
theorem Vs.drew (h : Vs w b) : Vs w.drew b := h
theorem Vs.far (h : Vs w b) {p : Addr} {v : Value} (hp : b ≠ p.block) : Vs (w.setCell p v) b := by obtain ⟨x, h⟩ := h; exact ⟨x, h.far hp⟩
theorem Vs.set (h : Vs w b) (u v : Int) : Vb ((w.setCell ⟨b, 0, none⟩ (.int .i64 u)).setCell ⟨b, 1, none⟩ (.int .i64 v)) b ⟨u, v⟩ := by obtain ⟨x, h⟩ := h; exact h.set u v
theorem Vb.new1 (w : World) (o : Obj) (x y : Int) : Vb ((w.alloc o).alloc (.cells #[.int .i64 x, .int .i64 y] 27)) (w.heap.size + 1) ⟨x, y⟩ := blk_new1 _ _ _
theorem Vb.alloc {v : Vc} (h : Vb w b v) (o : Obj) : Vb (w.alloc o) b v := blk_alloc h o
theorem Gh.alloc {v : Gs} (h : Gh w b v) (o : Obj) : Gh (w.alloc o) b v := blk_alloc h o
theorem BkI.alloc {v : St} (h : BkI w b v) (o : Obj) : BkI (w.alloc o) b v := blk_alloc h o
theorem BkI.drew {v : St} (h : BkI w b v) : BkI w.drew b v := h
theorem Ob.alloc {k a x y : Int} {t u : ByteArray} (h : Ob w b k a x y t u) (o : Obj) : Ob (w.alloc o) b k a x y t u := blk_alloc h o
theorem Ob.drew {k a x y : Int} {t u : ByteArray} (h : Ob w b k a x y t u) : Ob w.drew b k a x y t u := h
theorem Ob.keep {k a x y : Int} {t u : ByteArray} {S : List Nat} {w' : World} (h : Ob w b k a x y t u) (hf : Fr S w w') (hn : b ∉ S) : Ob w' b k a x y t u := Fr.keep hf h hn
theorem Ob.far {k a x y : Int} {t u : ByteArray} (h : Ob w b k a x y t u) {p : Addr} {v : Value} (hp : b ≠ p.block) : Ob (w.setCell p v) b k a x y t u := blk_set_far h p v hp
theorem Fr.setN {S : List Nat} {a : World} (h : Fr S a w) {p : Addr} {v : Value} (hp : a.heap.size ≤ p.block) : Fr S a (w.setCell p v) := h.setCell (Or.inr hp) _
end
/-- What the words demand. -/
def faultE (s : St) (k a : Int) (v : Vc) : Int :=
  if k = 1 then gateE s a false v else if k = 2 then fltE s a v else if k = 3 then relE s a v else gateE s a true zeroV

set_option maxHeartbeats 6400000 in
set_option maxRecDepth 100000 in
theorem faulty_any (w : World) (g : Nat) (s : St) (hg : Gh w g (gof s)) (hi : Inv s) (k a x y : Int) (t u : ByteArray) (hk1 : 1 ≤ k) (hk4 : k ≤ 4) :
    Calls Try.prog 28 #[.pointer (some ⟨g, 0, none⟩), .agg #[.int .i64 k, .int .i64 a, .int .i64 x, .int .i64 y, .string t, .string u]] w fun e w' => e = .returned (.int .i64 (faultE s k a ⟨x, y⟩)) ∧ Fr [] w w' := by
  have hgl := blk_lt hg
  have HG : Hid (Gh w g (gof s)) := hg
  have HI : Hid (Inv s) := hi
  clear hg hi
  go_enter Try.func28, Try.ntmps28
  go_wp2_with fail
  have O1 : Hid (Ob (w.alloc (.cells #[.int .i64 k, .int .i64 a, .int .i64 x, .int .i64 y, .string t, .string u] 41)) w.heap.size k a x y t u) := blk_new _ _
  have G1 : Hid (Gh (w.alloc (.cells #[.int .i64 k, .int .i64 a, .int .i64 x, .int .i64 y, .string t, .string u] 41)) g (gof s)) := blk_alloc HG.out _
  have F1 : Hid (Fr [] w (w.alloc (.cells #[.int .i64 k, .int .i64 a, .int .i64 x, .int .i64 y, .string t, .string u] 41))) := (Fr.refl _ _).alloc _
  have hs1 : w.heap.size < (w.alloc (.cells #[.int .i64 k, .int .i64 a, .int .i64 x, .int .i64 y, .string t, .string u] 41)).heap.size := blk_lt O1.out
  generalize w.alloc (.cells #[.int .i64 k, .int .i64 a, .int .i64 x, .int .i64 y, .string t, .string u] 41) = W1 at O1 G1 F1 hs1 ⊢
  go_cut [5, 6, 7] from 10 to 96 (fun s5 s6 s7 wx => ∃ q r : Nat, s5 = .int .i64 a ∧ s6 = .pointer (some ⟨q, 0, none⟩) ∧ s7 = .pointer (some ⟨r, 0, none⟩) ∧ w.heap.size < q ∧ w.heap.size < r ∧ Hid (Ob wx w.heap.size k a x y t u) ∧ Hid (Gh wx g (gof s)) ∧ Hid (Vb wx q ⟨x, y⟩) ∧ Hid (Vb wx r ⟨5, 3⟩) ∧ Hid (Fr [] w wx))
  case first =>
    have oa := O1.out.c1
    have ox := O1.out.c2
    have oy := O1.out.c3
    have e1 : ¬ (w.heap.size = W1.heap.size) := by omega
    have e2 : ¬ (W1.heap.size = w.heap.size) := by omega
    have e3 : ¬ (w.heap.size = W1.heap.size + 1) := by omega
    have e4 : ¬ (W1.heap.size + 1 = w.heap.size) := by omega
    go_region_held3 (fun w' => w'.cell? ⟨w.heap.size, 1, none⟩ = some (.int .i64 a) ∧ w'.cell? ⟨w.heap.size, 2, none⟩ = some (.int .i64 x) ∧ w'.cell? ⟨w.heap.size, 3, none⟩ = some (.int .i64 y)) (go_keep)
      ((go_at_call 17; refine (total_any _).mono ?_; rintro e w2 ⟨rfl, hf2⟩; have O2 : Hid (Ob w2 w.heap.size k a x y t u) := (by refine Fr.keep hf2 ?_ (by simp); first | exact blk_alloc (blk_alloc O1.out _) _ | exact blk_alloc O1.out _ | exact O1.out); have hz0 := blk_lt O2.out; have e5 : ¬ (w.heap.size = w2.heap.size) := (by omega); have e6 : ¬ (w2.heap.size = w.heap.size) := (by omega); have e7 : ¬ (w.heap.size = w2.heap.size + 1) := (by omega); have e8 : ¬ (w2.heap.size + 1 = w.heap.size) := (by omega); have oa := O2.out.c1; have ox := O2.out.c2; have oy := O2.out.c3; try (have N1 : Hid (Vb w2 W1.heap.size zeroV) := (by refine Fr.keep hf2 ?_ (by simp); first | exact blk_new _ _ | exact blk_new0 _ _ _); have hz1 := blk_lt N1.out; have n0 := N1.out.a; have n1 := N1.out.b; have m0 := N1.out.fr 0; have m1 := N1.out.fr 1); try (have N2 : Hid (Vb w2 (W1.heap.size + 1) zeroV) := (by refine Fr.keep hf2 ?_ (by simp); exact blk_new1 _ _ _); have hz2 := blk_lt N2.out; have n2 := N2.out.a; have n3 := N2.out.b; have m2 := N2.out.fr 0; have m3 := N2.out.fr 1)))
    all_goals (go_wp2_with fail; go_meet)
    all_goals
      have hsz := hf2.size
      simp only [World.drew, World.size_alloc] at hsz
      have o2 := O2.out
      have g2 : Gh w2 g (gof s) := by
        refine Fr.keep hf2 ?_ (by simp)
        first | exact blk_alloc (blk_alloc G1.out _) _ | exact blk_alloc G1.out _ | exact G1.out
      have f1 := F1.out
      have f2 : Fr [] w w2 := by
        refine Fr.trans ?_ hf2
        (repeat' (first | with_reducible assumption | with_reducible refine hid ?_ | with_reducible exact Vb.new _ _ _ | with_reducible exact Vb.new1 _ _ _ _ | (with_reducible refine Vb.newE ?_; (simp; done)) | with_reducible refine Vs.set ?_ _ _ | with_reducible refine Vs.alloc ?_ _ | with_reducible refine Vs.drew ?_ | with_reducible refine Vs.far ?_ ?_ | with_reducible refine Vb.alloc ?_ _ | with_reducible refine Ob.alloc ?_ _ | with_reducible refine Gh.alloc ?_ _ | with_reducible refine BkI.alloc ?_ _ | with_reducible refine Fr.alloc ?_ _ | with_reducible refine Vb.drew ?_ | with_reducible refine Ob.drew ?_ | with_reducible refine Gh.drew ?_ | with_reducible refine BkI.drew ?_ | with_reducible refine Fr.drew ?_ | with_reducible refine Vb.far ?_ ?_ | with_reducible refine Ob.far ?_ ?_ | with_reducible refine Gh.far ?_ ?_ | with_reducible refine BkI.far ?_ ?_ | with_reducible refine Fr.setN ?_ ?_ | (dsimp only; omega)))
      try have n1' := N1.out.vs
      try have n2' := N2.out.vs
      refine ⟨_, _, rfl, rfl, rfl, by omega, by omega, ?_, ?_, ?_, ?_, ?_⟩
      all_goals (repeat' (first | with_reducible assumption | with_reducible refine hid ?_ | with_reducible exact Vb.new _ _ _ | with_reducible exact Vb.new1 _ _ _ _ | (with_reducible refine Vb.newE ?_; (simp; done)) | with_reducible refine Vs.set ?_ _ _ | with_reducible refine Vs.alloc ?_ _ | with_reducible refine Vs.drew ?_ | with_reducible refine Vs.far ?_ ?_ | with_reducible refine Vb.alloc ?_ _ | with_reducible refine Ob.alloc ?_ _ | with_reducible refine Gh.alloc ?_ _ | with_reducible refine BkI.alloc ?_ _ | with_reducible refine Fr.alloc ?_ _ | with_reducible refine Vb.drew ?_ | with_reducible refine Ob.drew ?_ | with_reducible refine Gh.drew ?_ | with_reducible refine BkI.drew ?_ | with_reducible refine Fr.drew ?_ | with_reducible refine Vb.far ?_ ?_ | with_reducible refine Ob.far ?_ ?_ | with_reducible refine Gh.far ?_ ?_ | with_reducible refine BkI.far ?_ ?_ | with_reducible refine Fr.setN ?_ ?_ | (dsimp only; omega)))
  case rest =>
    obtain ⟨q, r, rfl, rfl, rfl, hq, hr, O, G, V, T, F⟩ := hcut
    clear O1 G1 F1 hs1 HG
    have ok := O.out.c0
    have v0 := V.out.a
    have v1 := V.out.b
    have t0 := T.out.a
    have t1 := T.out.b
    dsimp only at v0 v1 t0 t1
    by_cases hp : 0 ≤ a ∧ a < 4
    · obtain ⟨p, rfl⟩ : ∃ p : Nat, a = p := ⟨a.toNat, by omega⟩
      have hp4 : p < 4 := by omega
      have hpi : (p : Int) < 4 := by omega
      have lv := G.out.li hp4
      dsimp only [gof] at lv
      clear hp
      rcases (by omega : k = 1 ∨ k = 2 ∨ k = 3 ∨ k = 4) with rfl | rfl | rfl | rfl
      · cases hl : s.live p
        · rw [hl] at lv
          by_cases hc : cntB x y = true
          · have hcc := hc
            unfold cntB at hcc
            simp only [decide_eq_true_eq] at hcc
            have d0 : decide (x < 0) = false := decide_eq_false (by omega)
            have d1 : decide (y < 0) = false := decide_eq_false (by omega)
            have d2 : decide (5 < x) = false := decide_eq_false (by omega)
            have d3 : decide (3 < y) = false := decide_eq_false (by omega)
            have HC : Hid (cntB x y = true) := hc
            clear hc
            have HE : Hid (faultE s 1 p ⟨x, y⟩ = 0) := by show _ = _; simp [faultE, gateE_in hp4, hl, HC.out]
            go_wp2
            go_region
            all_goals (go_wp2; go_ret; exact ⟨ret_int HE.out.symm, by first | exact F.out.drew | exact F.out⟩)
          · have hcf : cntB x y = false := by simpa using hc
            have HE : Hid (faultE s 1 p ⟨x, y⟩ = 3) := by
              show _ = _
              simp [faultE, fltE, relE, gateE_in hp4, hl, hcf]
            have hcc : ¬ (0 ≤ x ∧ x ≤ 5 ∧ 0 ≤ y ∧ y ≤ 3) := by
              unfold cntB at hc; simpa only [decide_eq_true_eq] using hc
            clear hc hcf
            by_cases d0 : x < 0
            · go_wp2
              go_region
              all_goals (go_wp2; go_ret; exact ⟨ret_int HE.out.symm, by first | exact F.out.drew | exact F.out⟩)
            by_cases d1 : y < 0
            · have d0' : decide (x < 0) = false := decide_eq_false (by omega)
              go_wp2
              go_region
              all_goals (go_wp2; go_ret; exact ⟨ret_int HE.out.symm, by first | exact F.out.drew | exact F.out⟩)
            by_cases d2 : 5 < x
            · have d0' : decide (x < 0) = false := decide_eq_false (by omega)
              have d1' : decide (y < 0) = false := decide_eq_false (by omega)
              go_wp2
              go_region
              all_goals (go_wp2; go_ret; exact ⟨ret_int HE.out.symm, by first | exact F.out.drew | exact F.out⟩)
            · have d3 : 3 < y := by omega
              have d0' : decide (x < 0) = false := decide_eq_false (by omega)
              have d1' : decide (y < 0) = false := decide_eq_false (by omega)
              have d2' : decide (5 < x) = false := decide_eq_false (by omega)
              go_wp2
              go_region
              all_goals (go_wp2; go_ret; exact ⟨ret_int HE.out.symm, by first | exact F.out.drew | exact F.out⟩)
        · rw [hl] at lv
          have HE : Hid (faultE s 1 p ⟨x, y⟩ = 2) := by show _ = _; simp [faultE, fltE, relE, gateE_in hp4, hl]; try decide
          go_wp2
          go_region
          all_goals (go_wp2; go_ret; exact ⟨ret_int HE.out.symm, by first | exact F.out.drew | exact F.out⟩)
      · cases hl : s.live p
        · rw [hl] at lv
          have HE : Hid (faultE s 2 p ⟨x, y⟩ = 2) := by show _ = _; simp [faultE, fltE, relE, gateE_in hp4, hl]; try decide
          go_wp2
          go_region
          all_goals (go_wp2; go_ret; exact ⟨ret_int HE.out.symm, by first | exact F.out.drew | exact F.out⟩)
        · rw [hl] at lv
          by_cases hc : cntB x y = true
          · have hcc := hc
            unfold cntB at hcc
            simp only [decide_eq_true_eq] at hcc
            have d0 : decide (x < 0) = false := decide_eq_false (by omega)
            have d1 : decide (y < 0) = false := decide_eq_false (by omega)
            have d2 : decide (5 < x) = false := decide_eq_false (by omega)
            have d3 : decide (3 < y) = false := decide_eq_false (by omega)
            have HC : Hid (cntB x y = true) := hc
            clear hc
            have ca := G.out.ca hp4
            have cb := G.out.cb hp4
            have ha := G.out.ha hp4
            have hb := G.out.hb hp4
            dsimp only [gof] at ca cb ha hb
            have bn := HI.out.bd.need p hp4
            have bh := HI.out.bd.held p hp4
            have BC : Hid ((clm s p).a = (s.need p).a + (s.held p).a ∧ (clm s p).b = (s.need p).b + (s.held p).b) := ⟨rfl, rfl⟩
            have bc1 : -200 ≤ (clm s p).a ∧ (clm s p).a ≤ 200 ∧ -200 ≤ (clm s p).b ∧ (clm s p).b ≤ 200 := by have := BC.out; omega
            have HE : Hid (faultE s 2 p ⟨x, y⟩ = if leB ⟨x, y⟩ (s.need p) then (if leB ⟨x, y⟩ s.av then 0 else 5) else 4) := by show _ = _; simp [faultE, fltE, gateE_in hp4, hl, HC.out]
            go_wp2
            go_region
            go_wp2
            have G2 : Hid (Gh wc.drew g (gof s)) := G.out
            have V2 : Hid (Vb wc.drew q ⟨x, y⟩) := V.out
            have F2 : Hid (Fr [] w wc.drew) := F.out.drew
            generalize wc.drew = W2 at G2 V2 F2 ⊢
            clear ca cb ha hb lv ok v0 v1 t0 t1 G V T O F
            have ca := G2.out.ca hp4
            have cb := G2.out.cb hp4
            have ha := G2.out.ha hp4
            have hb := G2.out.hb hp4
            dsimp only [gof] at ca cb ha hb
            have hg2 : g < W2.heap.size := blk_lt G2.out
            have hq2 : q < W2.heap.size := blk_lt V2.out
            have hw2 := F2.out.size
            go_cut [8] from 10 to 96 (fun s8 wx => ∃ z : Nat, s8 = .pointer (some ⟨z, 0, none⟩) ∧ w.heap.size ≤ z ∧ Hid (Gh wx g (gof s)) ∧ Hid (Vb wx q ⟨x, y⟩) ∧ Hid (Vb wx z (s.need p)) ∧ Hid (Fr [] w wx))
            case first =>
              have HN : Hid (∀ y : Vc, y.a = (clm s p).a - (s.held p).a → y.b = (clm s p).b - (s.held p).b → y = s.need p) := fun y h1 h2 => Vc.eq (by rw [h1, BC.out.1]; omega) (by rw [h2, BC.out.2]; omega)
              have e1 : ¬ (g = W2.heap.size) := by omega
              have e2 : ¬ (W2.heap.size = g) := by omega
              go_region_held3 (fun w' => w'.cell? ⟨g, 4 + p * 2, none⟩ = some (.int .i64 (clm s p).a) ∧ w'.cell? ⟨g, 4 + p * 2 + 1, none⟩ = some (.int .i64 (clm s p).b) ∧ w'.cell? ⟨g, 12 + p * 2, none⟩ = some (.int .i64 (s.held p).a) ∧ w'.cell? ⟨g, 12 + p * 2 + 1, none⟩ = some (.int .i64 (s.held p).b)) (go_keep)
                ((go_at_call 30; refine (sub_any _ _ _ _ _ (by omega) (by omega) (by omega) (by omega)).mono ?_; rintro e w2 ⟨rfl, hf2⟩; have G3 : Hid (Gh w2 g (gof s)) := (by refine Fr.keep hf2 ?_ (by simp); first | exact blk_alloc G2.out _ | exact G2.out); have hz0 := blk_lt G3.out; have e5 : ¬ (g = w2.heap.size) := (by omega); have e6 : ¬ (w2.heap.size = g) := (by omega); have ca := G3.out.ca hp4; have cb := G3.out.cb hp4; have ha := G3.out.ha hp4; have hb := G3.out.hb hp4; dsimp only [gof] at ca cb ha hb; try (have N1 : Hid (Vb w2 W2.heap.size zeroV) := (by refine Fr.keep hf2 ?_ (by simp); exact blk_new _ _); have hz1 := blk_lt N1.out; have n0 := N1.out.a; have n1 := N1.out.b; have m0 := N1.out.fr 0; have m1 := N1.out.fr 1)))
              all_goals (go_wp2_with fail; go_meet)
              all_goals
                have hsz := hf2.size
                simp only [World.drew, World.size_alloc] at hsz
                have g3 := G3.out
                have v2 := V2.out
                have f1 := F2.out
                have f2 : Fr [] w w2 := by
                  refine Fr.trans ?_ hf2
                  (repeat' (first | with_reducible assumption | with_reducible refine hid ?_ | with_reducible exact Vb.new _ _ _ | with_reducible exact Vb.new1 _ _ _ _ | (with_reducible refine Vb.newE ?_; (simp; done)) | with_reducible refine Vs.set ?_ _ _ | with_reducible refine Vs.alloc ?_ _ | with_reducible refine Vs.drew ?_ | with_reducible refine Vs.far ?_ ?_ | with_reducible refine Vb.alloc ?_ _ | with_reducible refine Ob.alloc ?_ _ | with_reducible refine Gh.alloc ?_ _ | with_reducible refine BkI.alloc ?_ _ | with_reducible refine Fr.alloc ?_ _ | with_reducible refine Vb.drew ?_ | with_reducible refine Ob.drew ?_ | with_reducible refine Gh.drew ?_ | with_reducible refine BkI.drew ?_ | with_reducible refine Fr.drew ?_ | with_reducible refine Vb.far ?_ ?_ | with_reducible refine Ob.far ?_ ?_ | with_reducible refine Gh.far ?_ ?_ | with_reducible refine BkI.far ?_ ?_ | with_reducible refine Fr.setN ?_ ?_ | (dsimp only; omega)))
                have v3 : Vb w2 q ⟨x, y⟩ := by
                  refine Vb.keep ?_ hf2 (by simp)
                  (repeat' (first | with_reducible assumption | with_reducible refine hid ?_ | with_reducible exact Vb.new _ _ _ | with_reducible exact Vb.new1 _ _ _ _ | (with_reducible refine Vb.newE ?_; (simp; done)) | with_reducible refine Vs.set ?_ _ _ | with_reducible refine Vs.alloc ?_ _ | with_reducible refine Vs.drew ?_ | with_reducible refine Vs.far ?_ ?_ | with_reducible refine Vb.alloc ?_ _ | with_reducible refine Ob.alloc ?_ _ | with_reducible refine Gh.alloc ?_ _ | with_reducible refine BkI.alloc ?_ _ | with_reducible refine Fr.alloc ?_ _ | with_reducible refine Vb.drew ?_ | with_reducible refine Ob.drew ?_ | with_reducible refine Gh.drew ?_ | with_reducible refine BkI.drew ?_ | with_reducible refine Fr.drew ?_ | with_reducible refine Vb.far ?_ ?_ | with_reducible refine Ob.far ?_ ?_ | with_reducible refine Gh.far ?_ ?_ | with_reducible refine BkI.far ?_ ?_ | with_reducible refine Fr.setN ?_ ?_ | (dsimp only; omega)))
                try have n1' := N1.out.vs
                refine ⟨_, rfl, by omega, ?_, ?_, ?nd, ?_⟩
                case nd =>
                  rw [← HN.out ⟨_, _⟩ rfl rfl]
                  (repeat' (first | with_reducible assumption | with_reducible refine hid ?_ | with_reducible exact Vb.new _ _ _ | with_reducible exact Vb.new1 _ _ _ _ | (with_reducible refine Vb.newE ?_; (simp; done)) | with_reducible refine Vs.set ?_ _ _ | with_reducible refine Vs.alloc ?_ _ | with_reducible refine Vs.drew ?_ | with_reducible refine Vs.far ?_ ?_ | with_reducible refine Vb.alloc ?_ _ | with_reducible refine Ob.alloc ?_ _ | with_reducible refine Gh.alloc ?_ _ | with_reducible refine BkI.alloc ?_ _ | with_reducible refine Fr.alloc ?_ _ | with_reducible refine Vb.drew ?_ | with_reducible refine Ob.drew ?_ | with_reducible refine Gh.drew ?_ | with_reducible refine BkI.drew ?_ | with_reducible refine Fr.drew ?_ | with_reducible refine Vb.far ?_ ?_ | with_reducible refine Ob.far ?_ ?_ | with_reducible refine Gh.far ?_ ?_ | with_reducible refine BkI.far ?_ ?_ | with_reducible refine Fr.setN ?_ ?_ | (dsimp only; omega)))
                all_goals (repeat' (first | with_reducible assumption | with_reducible refine hid ?_ | with_reducible exact Vb.new _ _ _ | with_reducible exact Vb.new1 _ _ _ _ | (with_reducible refine Vb.newE ?_; (simp; done)) | with_reducible refine Vs.set ?_ _ _ | with_reducible refine Vs.alloc ?_ _ | with_reducible refine Vs.drew ?_ | with_reducible refine Vs.far ?_ ?_ | with_reducible refine Vb.alloc ?_ _ | with_reducible refine Ob.alloc ?_ _ | with_reducible refine Gh.alloc ?_ _ | with_reducible refine BkI.alloc ?_ _ | with_reducible refine Fr.alloc ?_ _ | with_reducible refine Vb.drew ?_ | with_reducible refine Ob.drew ?_ | with_reducible refine Gh.drew ?_ | with_reducible refine BkI.drew ?_ | with_reducible refine Fr.drew ?_ | with_reducible refine Vb.far ?_ ?_ | with_reducible refine Ob.far ?_ ?_ | with_reducible refine Gh.far ?_ ?_ | with_reducible refine BkI.far ?_ ?_ | with_reducible refine Fr.setN ?_ ?_ | (dsimp only; omega)))
            case rest =>
              obtain ⟨z, rfl, hz, G3, V3, N3, F3⟩ := hcut
              clear G2 V2 F2 ca cb ha hb hg2 hq2 hw2
              have v0 := V3.out.a
              have v1 := V3.out.b
              dsimp only at v0 v1
              have n0 := N3.out.a
              have n1 := N3.out.b
              go_wp2_with fail
              go_at_call 34
              refine (le_any _ _ _ _ _).mono ?_
              rintro e w4 ⟨rfl, hf4⟩
              rw [show leB ⟨x, y⟩ ⟨(s.need p).a, (s.need p).b⟩ = leB ⟨x, y⟩ (s.need p) from rfl]
              cases hle : leB ⟨x, y⟩ (s.need p)
              · go_wp2
                go_ret
                exact ⟨ret_int (by rw [HE.out, hle]; rfl), F3.out.trans hf4⟩
              · go_wp2_with fail
                go_at_call 19
                refine (free_any _ g s (hf4.keep G3.out (by simp)) HI.out.sm).mono ?_
                rintro e w5 ⟨rfl, hf5⟩
                have V5 : Hid (Vb w5 q ⟨x, y⟩) := hf5.keep (hf4.keep V3.out (by simp)) (by simp)
                have F5 : Hid (Fr [] w w5) := (F3.out.trans hf4).trans hf5
                have hq5 : q < w5.heap.size := blk_lt V5.out
                clear v0 v1 n0 n1
                have v0 := V5.out.a
                have v1 := V5.out.b
                dsimp only at v0 v1
                go_wp2_with fail
                go_at_call 34
                refine (le_any _ _ _ _ _).mono ?_
                rintro e w6 ⟨rfl, hf6⟩
                rw [show leB ⟨x, y⟩ ⟨s.av.a, s.av.b⟩ = leB ⟨x, y⟩ s.av from rfl]
                cases hla : leB ⟨x, y⟩ s.av
                all_goals
                  go_wp2
                  go_ret
                  exact ⟨ret_int (by rw [HE.out, hle, hla]; rfl), (F5.out.alloc _).trans hf6⟩
          · have hcf : cntB x y = false := by simpa using hc
            have HE : Hid (faultE s 2 p ⟨x, y⟩ = 3) := by
              show _ = _
              simp [faultE, fltE, relE, gateE_in hp4, hl, hcf]
            have hcc : ¬ (0 ≤ x ∧ x ≤ 5 ∧ 0 ≤ y ∧ y ≤ 3) := by
              unfold cntB at hc; simpa only [decide_eq_true_eq] using hc
            clear hc hcf
            by_cases d0 : x < 0
            · go_wp2
              go_region
              all_goals (go_wp2; go_ret; exact ⟨ret_int HE.out.symm, by first | exact F.out.drew | exact F.out⟩)
            by_cases d1 : y < 0
            · have d0' : decide (x < 0) = false := decide_eq_false (by omega)
              go_wp2
              go_region
              all_goals (go_wp2; go_ret; exact ⟨ret_int HE.out.symm, by first | exact F.out.drew | exact F.out⟩)
            by_cases d2 : 5 < x
            · have d0' : decide (x < 0) = false := decide_eq_false (by omega)
              have d1' : decide (y < 0) = false := decide_eq_false (by omega)
              go_wp2
              go_region
              all_goals (go_wp2; go_ret; exact ⟨ret_int HE.out.symm, by first | exact F.out.drew | exact F.out⟩)
            · have d3 : 3 < y := by omega
              have d0' : decide (x < 0) = false := decide_eq_false (by omega)
              have d1' : decide (y < 0) = false := decide_eq_false (by omega)
              have d2' : decide (5 < x) = false := decide_eq_false (by omega)
              go_wp2
              go_region
              all_goals (go_wp2; go_ret; exact ⟨ret_int HE.out.symm, by first | exact F.out.drew | exact F.out⟩)
      · cases hl : s.live p
        · rw [hl] at lv
          have HE : Hid (faultE s 3 p ⟨x, y⟩ = 2) := by show _ = _; simp [faultE, fltE, relE, gateE_in hp4, hl]; try decide
          go_wp2
          go_region
          all_goals (go_wp2; go_ret; exact ⟨ret_int HE.out.symm, by first | exact F.out.drew | exact F.out⟩)
        · rw [hl] at lv
          by_cases hc : cntB x y = true
          · have hcc := hc
            unfold cntB at hcc
            simp only [decide_eq_true_eq] at hcc
            have d0 : decide (x < 0) = false := decide_eq_false (by omega)
            have d1 : decide (y < 0) = false := decide_eq_false (by omega)
            have d2 : decide (5 < x) = false := decide_eq_false (by omega)
            have d3 : decide (3 < y) = false := decide_eq_false (by omega)
            have HC : Hid (cntB x y = true) := hc
            clear hc
            have ha := G.out.ha hp4
            have hb := G.out.hb hp4
            dsimp only [gof] at ha hb
            have HE : Hid (faultE s 3 p ⟨x, y⟩ = if leB ⟨x, y⟩ (s.held p) then 0 else 7) := by show _ = _; simp [faultE, relE, gateE_in hp4, hl, HC.out]
            go_wp2
            go_region
            go_wp2
            go_region_with (go_at_call 34; refine (le_any _ _ _ _ _).mono ?_; rintro e w4 ⟨rfl, hf4⟩)
            all_goals
              cases hle : leB ⟨x, y⟩ ⟨(s.held p).a, (s.held p).b⟩
              all_goals
                go_wp2
                go_ret
                refine ⟨ret_int ?_, Fr.trans ?_ hf4⟩
                · rw [HE.out, show leB ⟨x, y⟩ (s.held p) = leB ⟨x, y⟩ ⟨(s.held p).a, (s.held p).b⟩ from rfl, hle]; rfl
                · have f := F.out
                  (repeat' (first | with_reducible assumption | with_reducible refine hid ?_ | with_reducible exact Vb.new _ _ _ | with_reducible exact Vb.new1 _ _ _ _ | (with_reducible refine Vb.newE ?_; (simp; done)) | with_reducible refine Vs.set ?_ _ _ | with_reducible refine Vs.alloc ?_ _ | with_reducible refine Vs.drew ?_ | with_reducible refine Vs.far ?_ ?_ | with_reducible refine Vb.alloc ?_ _ | with_reducible refine Ob.alloc ?_ _ | with_reducible refine Gh.alloc ?_ _ | with_reducible refine BkI.alloc ?_ _ | with_reducible refine Fr.alloc ?_ _ | with_reducible refine Vb.drew ?_ | with_reducible refine Ob.drew ?_ | with_reducible refine Gh.drew ?_ | with_reducible refine BkI.drew ?_ | with_reducible refine Fr.drew ?_ | with_reducible refine Vb.far ?_ ?_ | with_reducible refine Ob.far ?_ ?_ | with_reducible refine Gh.far ?_ ?_ | with_reducible refine BkI.far ?_ ?_ | with_reducible refine Fr.setN ?_ ?_ | (dsimp only; omega)))
          · have hcf : cntB x y = false := by simpa using hc
            have HE : Hid (faultE s 3 p ⟨x, y⟩ = 3) := by
              show _ = _
              simp [faultE, fltE, relE, gateE_in hp4, hl, hcf]
            have hcc : ¬ (0 ≤ x ∧ x ≤ 5 ∧ 0 ≤ y ∧ y ≤ 3) := by
              unfold cntB at hc; simpa only [decide_eq_true_eq] using hc
            clear hc hcf
            by_cases d0 : x < 0
            · go_wp2
              go_region
              all_goals (go_wp2; go_ret; exact ⟨ret_int HE.out.symm, by first | exact F.out.drew | exact F.out⟩)
            by_cases d1 : y < 0
            · have d0' : decide (x < 0) = false := decide_eq_false (by omega)
              go_wp2
              go_region
              all_goals (go_wp2; go_ret; exact ⟨ret_int HE.out.symm, by first | exact F.out.drew | exact F.out⟩)
            by_cases d2 : 5 < x
            · have d0' : decide (x < 0) = false := decide_eq_false (by omega)
              have d1' : decide (y < 0) = false := decide_eq_false (by omega)
              go_wp2
              go_region
              all_goals (go_wp2; go_ret; exact ⟨ret_int HE.out.symm, by first | exact F.out.drew | exact F.out⟩)
            · have d3 : 3 < y := by omega
              have d0' : decide (x < 0) = false := decide_eq_false (by omega)
              have d1' : decide (y < 0) = false := decide_eq_false (by omega)
              have d2' : decide (5 < x) = false := decide_eq_false (by omega)
              go_wp2
              go_region
              all_goals (go_wp2; go_ret; exact ⟨ret_int HE.out.symm, by first | exact F.out.drew | exact F.out⟩)
      · cases hl : s.live p
        · rw [hl] at lv
          have HE : Hid (faultE s 4 p ⟨x, y⟩ = 2) := by show _ = _; simp [faultE, fltE, relE, gateE_in hp4, hl]; try decide
          go_wp2
          go_region
          all_goals (go_wp2; go_ret; exact ⟨ret_int HE.out.symm, by first | exact F.out.drew | exact F.out⟩)
        · rw [hl] at lv
          have HE : Hid (faultE s 4 p ⟨x, y⟩ = 0) := by show _ = _; simp [faultE, fltE, relE, gateE_in hp4, hl]; try decide
          go_wp2
          go_region
          all_goals (go_wp2; go_ret; exact ⟨ret_int HE.out.symm, by first | exact F.out.drew | exact F.out⟩)
    · have HE : Hid (faultE s k a ⟨x, y⟩ = 1) := by
        show _ = _
        unfold faultE fltE relE gateE
        simp [if_neg hp]
      by_cases h0 : a < 0
      · go_wp2
        go_ret
        exact ⟨ret_int HE.out.symm, F.out⟩
      · have h4 : 4 ≤ a := by omega
        go_wp2
        go_ret
        exact ⟨ret_int HE.out.symm, F.out⟩
end Go.Proofs.Qxb6500340a
