import Derived.Test.Qxb6500340aK3
import Derived.Deep.RegionHeld3
namespace Go.Proofs.Qxb6500340a
open Go.RowKit
set_option linter.unusedVariables false
set_option linter.unusedSimpArgs false

/-! ### The model's block: the books as the ledger has them -/
def Mh (w : World) (b : Nat) (g : Gs) : Prop := w.heap[b]? = some (.cells (ghC g) 72)
section
variable {w : World} {b : Nat} {g : Gs}
theorem Mh.li (h : Mh w b g) {p : Nat} (hp : p < 4) : w.cell? ⟨b, p, none⟩ = some (.bool (g.live p)) := by
  rcases lt4 hp with rfl | rfl | rfl | rfl <;> exact blk_cell h _
theorem Mh.ca (h : Mh w b g) {p : Nat} (hp : p < 4) : w.cell? ⟨b, 4 + p * 2, none⟩ = some (.int .i64 (g.claim p).a) := by
  rcases lt4 hp with rfl | rfl | rfl | rfl <;> exact blk_cell h _
theorem Mh.cb (h : Mh w b g) {p : Nat} (hp : p < 4) : w.cell? ⟨b, 4 + p * 2 + 1, none⟩ = some (.int .i64 (g.claim p).b) := by
  rcases lt4 hp with rfl | rfl | rfl | rfl <;> exact blk_cell h _
theorem Mh.ha (h : Mh w b g) {p : Nat} (hp : p < 4) : w.cell? ⟨b, 12 + p * 2, none⟩ = some (.int .i64 (g.held p).a) := by
  rcases lt4 hp with rfl | rfl | rfl | rfl <;> exact blk_cell h _
theorem Mh.hb (h : Mh w b g) {p : Nat} (hp : p < 4) : w.cell? ⟨b, 12 + p * 2 + 1, none⟩ = some (.int .i64 (g.held p).b) := by
  rcases lt4 hp with rfl | rfl | rfl | rfl <;> exact blk_cell h _
theorem Mh.fr (h : Mh w b g) (i : Nat) : w.frozen? ⟨b, i, none⟩ = false := blk_frozen h i
theorem Mh.keep {w' : World} {S : List Nat} (h : Mh w b g) (hf : Fr S w w') (hn : b ∉ S) : Mh w' b g := Fr.keep hf h hn
theorem Mh.setLi (h : Mh w b g) {p : Nat} (hp : p < 4) (v : Bool) : Mh (w.setCell ⟨b, p, none⟩ (.bool v)) b { g with live := upd g.live p v } := by
  unfold Mh; rw [blk_set h]; rcases lt4 hp with rfl | rfl | rfl | rfl <;> rfl
theorem Mh.setCa (h : Mh w b g) {p : Nat} (hp : p < 4) (v : Int) : Mh (w.setCell ⟨b, 4 + p * 2, none⟩ (.int .i64 v)) b { g with claim := upd g.claim p ⟨v, (g.claim p).b⟩ } := by
  unfold Mh; rw [blk_set h]; rcases lt4 hp with rfl | rfl | rfl | rfl <;> rfl
theorem Mh.setCb (h : Mh w b g) {p : Nat} (hp : p < 4) (v : Int) : Mh (w.setCell ⟨b, 4 + p * 2 + 1, none⟩ (.int .i64 v)) b { g with claim := upd g.claim p ⟨(g.claim p).a, v⟩ } := by
  unfold Mh; rw [blk_set h]; rcases lt4 hp with rfl | rfl | rfl | rfl <;> rfl
theorem Mh.setHa (h : Mh w b g) {p : Nat} (hp : p < 4) (v : Int) : Mh (w.setCell ⟨b, 12 + p * 2, none⟩ (.int .i64 v)) b { g with held := upd g.held p ⟨v, (g.held p).b⟩ } := by
  unfold Mh; rw [blk_set h]; rcases lt4 hp with rfl | rfl | rfl | rfl <;> rfl
theorem Mh.setHb (h : Mh w b g) {p : Nat} (hp : p < 4) (v : Int) : Mh (w.setCell ⟨b, 12 + p * 2 + 1, none⟩ (.int .i64 v)) b { g with held := upd g.held p ⟨(g.held p).a, v⟩ } := by
  unfold Mh; rw [blk_set h]; rcases lt4 hp with rfl | rfl | rfl | rfl <;> rfl
/-- A whole vector of claim | held is laid in. -/
theorem Mh.setC (h : Mh w b g) {p : Nat} (hp : p < 4) (v : Vc) : Mh ((w.setCell ⟨b, 4 + p * 2, none⟩ (.int .i64 v.a)).setCell ⟨b, 4 + p * 2 + 1, none⟩ (.int .i64 v.b)) b { g with claim := upd g.claim p v } := by
  have := (h.setCa hp v.a).setCb hp v.b
  simp only [upd_upd, upd_same] at this; exact this
theorem Mh.setH (h : Mh w b g) {p : Nat} (hp : p < 4) (v : Vc) : Mh ((w.setCell ⟨b, 12 + p * 2, none⟩ (.int .i64 v.a)).setCell ⟨b, 12 + p * 2 + 1, none⟩ (.int .i64 v.b)) b { g with held := upd g.held p v } := by
  have := (h.setHa hp v.a).setHb hp v.b
  simp only [upd_upd, upd_same] at this; exact this
end

theorem Mh.far {w : World} {b : Nat} {g : Gs} (h : Mh w b g) {p : Addr} {v : Value} (hp : b ≠ p.block) : Mh (w.setCell p v) b g := blk_set_far h p v hp
section
variable {w : World} {b v i j : Nat} {x y : Value}
theorem Mh.far2 {g : Gs} (h : Mh w b g) (hp : b ≠ v) : Mh ((w.setCell ⟨v, i, none⟩ x).setCell ⟨v, j, none⟩ y) b g := (h.far hp).far hp
theorem Mh.drew {g : Gs} (h : Mh w b g) : Mh w.drew b g := h
theorem Mh.alloc {g : Gs} (h : Mh w b g) (o : Obj) : Mh (w.alloc o) b g := blk_alloc h o
end

set_option maxHeartbeats 3200000 in
set_option maxRecDepth 100000 in
theorem mavail_any (w : World) (b : Nat) (s : St) (hb : Mh w b (gof s)) (hm : Sm s) :
    Calls Try.prog 46 #[.pointer (some ⟨b, 0, none⟩)] w fun e w' => e = .returned (.agg #[.int .i64 s.av.a, .int .i64 s.av.b]) ∧ Fr [] w w' := by
  have hl := blk_lt hb
  have HM : Hid (Sm s) := hm
  have HB : Hid (Mh w b (gof s)) := hb
  clear hb hm
  go_enter Try.func46, Try.ntmps46
  go_wp2_with fail
  go_at_call 17
  refine (total_any _).mono ?_
  rintro e w1 ⟨rfl, hf1⟩
  go_wp2_with fail
  have X1 : Hid (Mh (w1.alloc (.cells #[.int .i64 5, .int .i64 3] 27)) b (gof s)) := blk_alloc (hf1.keep (blk_alloc HB.out _) (by simp)) _
  have R1 : Hid (Vb (w1.alloc (.cells #[.int .i64 5, .int .i64 3] 27)) w.heap.size zeroV) := blk_alloc (hf1.keep (blk_new _ _) (by simp)) _
  have V1 : Hid (Vb (w1.alloc (.cells #[.int .i64 5, .int .i64 3] 27)) w1.heap.size (fsub s 0)) := blk_new _ _
  have F1 : Hid (Fr [] w (w1.alloc (.cells #[.int .i64 5, .int .i64 3] 27))) := (((Fr.refl _ _).alloc _).trans hf1).alloc _
  have hl1 : w.heap.size < w1.heap.size := by have := hf1.size; simp at this; omega
  generalize w1.alloc (.cells #[.int .i64 5, .int .i64 3] 27) = W1 at X1 R1 V1 F1 ⊢
  clear HB hf1
  generalize w1.heap.size = v at V1 hl1 ⊢
  clear w1
  go_loopg [4] 4 (fun g s4 wx => ∃ k : Nat, k + g = 4 ∧ s4 = .int .i64 k ∧ Hid (Mh wx b (gof s)) ∧ Hid (Vb wx w.heap.size zeroV) ∧ Hid (Vb wx v (fsub s k)) ∧ Hid (Fr [] w wx))
  case atStart => exact ⟨0, by omega, rfl, X1, R1, V1, F1⟩
  case round =>
    clear X1 R1 V1 F1
    obtain ⟨k, hkg, rfl, X, R, V, F⟩ := hrel
    have v0 := V.out.a
    have v1 := V.out.b
    cases gk with
    | zero =>
      have hk4 : ¬ ((k : Int) < 4) := by omega
      have hk : k = 4 := by omega
      subst hk
      have r0 := R.out.a
      have r1 := R.out.b
      have q0 := R.out.fr 0
      have q1 := R.out.fr 1
      have HE : Hid (fsub s 4 = s.av) := fsub_av HM.out
      go_wp2
      rw [← HE.out]
      refine bodyPost_ret (v := .agg #[.int .i64 (fsub s 4).a, .int .i64 (fsub s 4).b]) (by simp [results, Try.results46, go_sem, r0, r1]) rfl ⟨rfl, ?_⟩
      exact (F.out.setCell (Or.inr (by dsimp only; omega)) _).setCell (Or.inr (by dsimp only; omega)) _
    | succ g1 =>
      have hk4 : (k : Int) < 4 := by omega
      have hk : k < 4 := by omega
      have ha := X.out.ha hk
      have hb := X.out.hb hk
      dsimp only [gof] at ha hb
      have q0 := V.out.fr 0
      have q1 := V.out.fr 1
      have b1 := fsub_bd HM.out.bd (k := k) (by omega)
      have b2 := HM.out.bd.held k hk
      go_wp2
      go_region_with (go_at_call 30; refine (sub_any _ _ _ _ _ (by omega) (by omega) (by omega) (by omega)).mono ?_; rintro e w2 ⟨rfl, hf2⟩; have V3 : Hid (Vb w2 v (fsub s k)) := Vb.keep (by exact V.out) hf2 (by simp); have v0 := V3.out.a; have v1 := V3.out.b; have q0 := V3.out.fr 0; have q1 := V3.out.fr 1)
      all_goals (go_wp2; go_roundg g1)
      all_goals first
        | omega
        | exact ⟨k + 1, by omega, by go_num, (X.out.drew.keep hf2 (by simp)).far2 (by omega), (R.out.drew.keep hf2 (by simp)).far2 (by omega), V3.out.set _ _, (F.out.drew.trans hf2).set2 (by omega)⟩

set_option maxHeartbeats 3200000 in
set_option maxRecDepth 100000 in
theorem mshow_any (w : World) (b : Nat) (s : St) (hb : Mh w b (gof s)) (hi : Inv s) :
    Calls Try.prog 40 #[.pointer (some ⟨b, 0, none⟩)] w fun e w' => e = .returned (.string (shw s 4)) ∧ Fr [] w w' := by
  have hl := blk_lt hb
  have HB : Hid (Mh w b (gof s)) := hb
  have HI : Hid (Inv s) := hi
  clear hb hi
  go_enter Try.func40, Try.ntmps40
  go_wp2_with fail
  go_at_call 46
  refine (mavail_any _ b s HB.out HI.out.sm).mono ?_
  rintro e w1 ⟨rfl, hf1⟩
  have HB1 : Hid (Mh w1 b (gof s)) := hf1.keep HB.out (by simp)
  clear HB
  go_wp2_with fail
  go_at_call 11
  refine (text_any _ s.av HI.out.oka).mono ?_
  rintro e w2 ⟨rfl, hf2⟩
  have HB2 : Hid (Mh w2 b (gof s)) := hf2.keep (blk_alloc HB1.out _) (by simp)
  have F2 : Fr [] w w2 := (hf1.alloc _).trans hf2
  clear HB1 hf1 hf2
  go_wp2_with fail
  go_loopg [4, 5] 4 (fun g s4 s5 wx => ∃ k : Nat, k + g = 4 ∧ s5 = .int .i64 k ∧ s4 = .string (shw s k) ∧ Hid (Mh wx b (gof s)) ∧ Fr [] w wx)
  case atStart => exact ⟨0, by omega, rfl, rfl, HB2, F2⟩
  case round =>
    obtain ⟨k, hkg, rfl, rfl, HG, hfr⟩ := hrel
    clear HB2 F2
    cases gk with
    | zero =>
      have hk4 : ¬ ((k : Int) < 4) := by omega
      have hk : k = 4 := by omega
      go_wp2
      go_ret
      exact ⟨by rw [← hk]; rfl, hfr⟩
    | succ g1 =>
      have hk4 : (k : Int) < 4 := by omega
      have hk : k < 4 := by omega
      have ca := HG.out.ca hk
      have cb := HG.out.cb hk
      have ha := HG.out.ha hk
      have hb := HG.out.hb hk
      have lv := HG.out.li hk
      dsimp only [gof] at ca cb ha hb lv
      have z1 := shw_size s k
      have z2 := row_size (s.live k) (clm s k) (s.held k)
      go_wp2
      go_region_with (go_at_call 10; refine (row_any _ (s.live k) (clm s k) (s.held k) (HI.out.okc hk).1 (HI.out.okc hk).2).mono ?_; rintro e w2 ⟨rfl, hf2⟩)
      all_goals (go_wp2; go_roundg g1)
      all_goals first
        | omega
        | exact ⟨k + 1, by omega, by go_num, rfl, HG.out.drew.keep hf2 (by simp), hfr.drew.trans hf2⟩


set_option maxHeartbeats 800000 in
theorem mnew_any (w : World) : Calls Try.prog 31 #[] w fun e w' => e = .returned (.pointer (some ⟨w.heap.size, 0, none⟩)) ∧ Mh w' w.heap.size (gof initS) ∧ Fr [] w w' := by
  go_enter Try.func31, Try.ntmps31
  go_wp2
  go_ret
  exact ⟨rfl, blk_new _ _, (Fr.refl _ _).alloc _⟩

set_option maxHeartbeats 800000 in
theorem mcheck_any (w : World) (b : Nat) : Calls Try.prog 47 #[.pointer (some ⟨b, 0, none⟩)] w fun e w' => e = .returned (.int .i64 0) ∧ w' = w := by
  go_enter Try.func47, Try.ntmps47
  go_wp2
  go_ret
  exact ⟨rfl, rfl⟩

set_option maxHeartbeats 1600000 in
theorem mat_any (w : World) (b : Nat) (s : St) (hb : Mh w b (gof s)) (p : Int) (lv : Bool) (v : Vc) :
    Calls Try.prog 52 #[.pointer (some ⟨b, 0, none⟩), .int .i64 p, .bool lv, .agg #[.int .i64 v.a, .int .i64 v.b]] w fun e w' => (e = .returned (.int .i64 (gateE s p lv v))) ∧ Fr [] w w' := by
  by_cases h0 : 0 ≤ p ∧ p < 4
  · obtain ⟨q, rfl⟩ : ∃ q : Nat, p = q := ⟨p.toNat, by omega⟩
    have hp : q < 4 := by omega
    have cl := hb.li hp
    dsimp only [gof] at cl
    have hl := blk_lt hb
    rw [gateE_in hp]
    clear hb
    generalize s.live q = x at *
    generalize hc : cntB v.a v.b = y at *
    cases x <;> cases lv <;> cases y
    all_goals
      go_enter Try.func52, Try.ntmps52
      go_wp2_with (go_at_call 54; refine (counts_any _ _ _).mono ?_; rintro e w1 ⟨rfl, hf1⟩; rw [hc])
      go_ret
      first
        | exact ⟨rfl, ((Fr.refl _ _).alloc _).trans hf1⟩
        | exact ⟨rfl, (Fr.refl _ _).alloc _⟩
  · have hE : gateE s p lv v = 1 := by unfold gateE; rw [if_neg h0]
    rw [hE]
    clear hb
    by_cases h1 : p < 0
    · go_enter Try.func52, Try.ntmps52
      go_wp2
      go_ret
      exact ⟨rfl, ((Fr.refl _ _).alloc _)⟩
    · go_enter Try.func52, Try.ntmps52
      go_wp2
      go_ret
      exact ⟨rfl, ((Fr.refl _ _).alloc _)⟩
end Go.Proofs.Qxb6500340a
