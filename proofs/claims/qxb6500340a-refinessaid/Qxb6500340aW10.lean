import Derived.Test.Qxb6500340aW9
namespace Go.Proofs.Qxb6500340a
open Go.RowKit
set_option linter.unusedVariables false
set_option linter.unusedSimpArgs false

/-- What is available and what the slots below n hold. -/
def sumU (s : St) : Nat → Vc
  | 0 => s.av
  | n + 1 => (sumU s n).add (s.held n)
theorem sumU_bd {s : St} (h : Bd s) (n : Nat) (hn : n ≤ 4) : -100 - 100 * (n : Int) ≤ (sumU s n).a ∧ (sumU s n).a ≤ 100 + 100 * (n : Int) ∧ -100 - 100 * (n : Int) ≤ (sumU s n).b ∧ (sumU s n).b ≤ 100 + 100 * (n : Int) := by
  induction n with
  | zero => have := h.av; simp only [sumU]; omega
  | succ n ih => have := h.held n (by omega); have := ih (by omega); simp only [sumU, Vc.add]; omega
theorem sumU_all {s : St} (h : Inv s) : (sumU s 4).a = 5 ∧ (sumU s 4).b = 3 := by
  have h1 := h.suma; have h2 := h.sumb
  simp only [sumU, Vc.add]
  omega

set_option maxHeartbeats 6400000 in
set_option maxRecDepth 100000 in
theorem check_any (w : World) (b : Nat) (s : St) (hb : BkI w b s) (hi : Inv s) :
    Calls Try.prog 39 #[.pointer (some ⟨b, 0, none⟩)] w fun e w' => e = .returned (.int .i64 0) ∧ Fr [] w w' := by
  have hl := blk_lt hb
  have HB : Hid (Bk w b s (ordT (run s 4).ord)) := hb
  have HI : Hid (Inv s) := hi
  clear hb hi
  go_enter Try.func39, Try.ntmps39
  go_wp2_with fail
  go_at_call 17
  refine (total_any _).mono ?_
  rintro e w1 ⟨rfl, hf1⟩
  have HB1 : Hid (Bk w1 b s (ordT (run s 4).ord)) := hf1.keep HB.out (by simp)
  have hl1 := blk_lt HB1.out
  have ca := HB1.out.aa
  have cb := HB1.out.ab
  go_wp2
  go_loopg [15] 4 (fun g s15 wx => ∃ k : Nat, k + g = 4 ∧ s15 = .int .i64 k ∧ Hid (Bk wx b s (ordT (run s 4).ord)) ∧ Hid (wx.heap[w1.heap.size]? = some (.cells #[.int .i64 5, .int .i64 3] 27)) ∧
    Hid (wx.heap[w1.heap.size + 1]? = some (.cells (vcC (sumU s k)) 27)) ∧ Fr [] w wx)
  case atStart => exact ⟨0, by omega, rfl, blk_alloc (blk_alloc HB1.out _) _, blk_alloc (blk_new _ _) _, blk_new1 _ _ _, (hf1.alloc _).alloc _⟩
  case round =>
    obtain ⟨k, hkg, rfl, HG, HT, HS, hfr⟩ := hrel
    clear HB HB1 ca cb
    cases gk with
    | zero =>
      have hk4 : ¬ ((k : Int) < 4) := by omega
      have hk : k = 4 := by omega
      subst hk
      have hsm := sumU_all HI.out
      go_wp2_with fail
      go_at_call 49
      refine (greedy_any wr b s _ HG.out HI.out.bd).mono ?_
      rintro e w2 ⟨rfl, hf2⟩
      rw [HI.out.gb, if_pos rfl]
      have HG2 : Hid (Bk w2 b s (ordT (run s 4).ord)) := hf2.keep HG.out (by simp)
      have t0 : w2.cell? ⟨w1.heap.size, 0, none⟩ = some (.int .i64 5) := blk_cell (hf2.keep HT.out (by simp)) 0
      have t1 : w2.cell? ⟨w1.heap.size, 1, none⟩ = some (.int .i64 3) := blk_cell (hf2.keep HT.out (by simp)) 1
      have s0 : w2.cell? ⟨w1.heap.size + 1, 0, none⟩ = some (.int .i64 (sumU s 4).a) := blk_cell (hf2.keep HS.out (by simp)) 0
      have s1 : w2.cell? ⟨w1.heap.size + 1, 1, none⟩ = some (.int .i64 (sumU s 4).b) := blk_cell (hf2.keep HS.out (by simp)) 1
      have ce := HG2.out.ce
      have he := fun W => eq_vec W 5 3 5 3
      rw [hsm.1] at s0
      rw [hsm.2] at s1
      go_wp2
      go_ret
      exact ⟨rfl, hfr.trans hf2⟩
    | succ g1 =>
      have hk4 : (k : Int) < 4 := by omega
      have hk : k < 4 := by omega
      have hlk := blk_lt HG.out
      have na := HG.out.na hk
      have nb := HG.out.nb hk
      have ha := HG.out.ha hk
      have hb := HG.out.hb hk
      have lv := HG.out.li hk
      have ix0 := fun W => ix_vec0 W (s.held k).a (s.held k).b
      have ix1 := fun W => ix_vec1 W (s.held k).a (s.held k).b
      have bn := HI.out.slot k hk
      have bs := sumU_bd HI.out.bd k (by omega)
      have t0 : wr.cell? ⟨w1.heap.size, 0, none⟩ = some (.int .i64 5) := blk_cell HT.out 0
      have t1 : wr.cell? ⟨w1.heap.size, 1, none⟩ = some (.int .i64 3) := blk_cell HT.out 1
      have s0 : wr.cell? ⟨w1.heap.size + 1, 0, none⟩ = some (.int .i64 (sumU s k).a) := blk_cell HS.out 0
      have s1 : wr.cell? ⟨w1.heap.size + 1, 1, none⟩ = some (.int .i64 (sumU s k).b) := blk_cell HS.out 1
      have f0 := blk_frozen HS.out 0
      have f1 := blk_frozen HS.out 1
      have g0 : decide ((s.held k).a < 0) = false := decide_eq_false (by omega)
      have g1' : decide ((s.held k).b < 0) = false := decide_eq_false (by omega)
      have g2 : decide ((s.need k).a < 0) = false := decide_eq_false (by omega)
      have g3 : decide ((s.need k).b < 0) = false := decide_eq_false (by omega)
      have g4 : decide (5 < (s.held k).a + (s.need k).a) = false := decide_eq_false (by omega)
      have g5 : decide (3 < (s.held k).b + (s.need k).b) = false := decide_eq_false (by omega)
      cases hlv : s.live k
      · rw [hlv] at lv
        have hid := HI.out.idle k hk hlv
        have e1 := fun W => eq_vec W (s.need k).a (s.need k).b 0 0
        have e2 := fun W => eq_vec W (s.held k).a (s.held k).b 0 0
        rw [show ((s.need k).a == 0 && (s.need k).b == 0) = true from by simp [hid, zeroV]] at e1
        rw [show ((s.held k).a == 0 && (s.held k).b == 0) = true from by simp [hid, zeroV]] at e2
        clear hid
        go_wp2
        refine wp_loop_rounds 3 ?_
        rw [rounds_succ]
        go_wp2
        go_quiet (fail)
        go_wp2
        rw [rounds_succ]
        have HG1 : Hid (Bk ((wr.drewN nq).setCell ⟨w1.heap.size + 1, 0, none⟩ (.int .i64 ((sumU s k).a + (s.held k).a))) b s (ordT (run s 4).ord)) := blk_set_far (blk_drewN HG.out _) _ _ (by show b ≠ w1.heap.size + 1; omega)
        have HT1 : Hid (((wr.drewN nq).setCell ⟨w1.heap.size + 1, 0, none⟩ (.int .i64 ((sumU s k).a + (s.held k).a))).heap[w1.heap.size]? = some (.cells #[.int .i64 5, .int .i64 3] 27)) := blk_set_far (blk_drewN HT.out _) _ _ (by show w1.heap.size ≠ w1.heap.size + 1; omega)
        have HS1 : Hid (((wr.drewN nq).setCell ⟨w1.heap.size + 1, 0, none⟩ (.int .i64 ((sumU s k).a + (s.held k).a))).heap[w1.heap.size + 1]? = some (.cells #[.int .i64 ((sumU s k).a + (s.held k).a), .int .i64 (sumU s k).b] 27)) := blk_set (blk_drewN HS.out _) 0 _
        have fr1 : Fr [] w ((wr.drewN nq).setCell ⟨w1.heap.size + 1, 0, none⟩ (.int .i64 ((sumU s k).a + (s.held k).a))) := (hfr.drewN _).setCell (Or.inr (by show w.heap.size ≤ w1.heap.size + 1; have := hf1.size; omega)) _
        generalize (wr.drewN nq).setCell ⟨w1.heap.size + 1, 0, none⟩ (.int .i64 ((sumU s k).a + (s.held k).a)) = V1 at HG1 HT1 HS1 fr1 ⊢
        clear na nb ha hb lv t0 t1 s0 s1 f0 f1 HG HT HS hfr
        have nb := HG1.out.nb hk
        have hb := HG1.out.hb hk
        have t1 : V1.cell? ⟨w1.heap.size, 1, none⟩ = some (.int .i64 3) := blk_cell HT1.out 1
        have s1 : V1.cell? ⟨w1.heap.size + 1, 1, none⟩ = some (.int .i64 (sumU s k).b) := blk_cell HS1.out 1
        have f1 := blk_frozen HS1.out 1
        go_wp2
        go_quiet (fail)
        go_wp2
        rw [rounds_succ]
        go_wp2
        go_roundg g1
        case measure => omega
        case rel => exact ⟨k + 1, by omega, by go_num, blk_set_far (blk_drewN HG1.out _) _ _ (by show b ≠ w1.heap.size + 1; omega), blk_set_far (blk_drewN HT1.out _) _ _ (by show w1.heap.size ≠ w1.heap.size + 1; omega), blk_set (blk_drewN HS1.out _) 1 _, (fr1.drewN _).setCell (Or.inr (by show w.heap.size ≤ w1.heap.size + 1; have := hf1.size; omega)) _⟩
      · rw [hlv] at lv
        go_wp2
        refine wp_loop_rounds 3 ?_
        rw [rounds_succ]
        go_wp2
        go_quiet (fail)
        go_wp2
        rw [rounds_succ]
        have HG1 : Hid (Bk ((wr.drewN nq).setCell ⟨w1.heap.size + 1, 0, none⟩ (.int .i64 ((sumU s k).a + (s.held k).a))) b s (ordT (run s 4).ord)) := blk_set_far (blk_drewN HG.out _) _ _ (by show b ≠ w1.heap.size + 1; omega)
        have HT1 : Hid (((wr.drewN nq).setCell ⟨w1.heap.size + 1, 0, none⟩ (.int .i64 ((sumU s k).a + (s.held k).a))).heap[w1.heap.size]? = some (.cells #[.int .i64 5, .int .i64 3] 27)) := blk_set_far (blk_drewN HT.out _) _ _ (by show w1.heap.size ≠ w1.heap.size + 1; omega)
        have HS1 : Hid (((wr.drewN nq).setCell ⟨w1.heap.size + 1, 0, none⟩ (.int .i64 ((sumU s k).a + (s.held k).a))).heap[w1.heap.size + 1]? = some (.cells #[.int .i64 ((sumU s k).a + (s.held k).a), .int .i64 (sumU s k).b] 27)) := blk_set (blk_drewN HS.out _) 0 _
        have fr1 : Fr [] w ((wr.drewN nq).setCell ⟨w1.heap.size + 1, 0, none⟩ (.int .i64 ((sumU s k).a + (s.held k).a))) := (hfr.drewN _).setCell (Or.inr (by show w.heap.size ≤ w1.heap.size + 1; have := hf1.size; omega)) _
        generalize (wr.drewN nq).setCell ⟨w1.heap.size + 1, 0, none⟩ (.int .i64 ((sumU s k).a + (s.held k).a)) = V1 at HG1 HT1 HS1 fr1 ⊢
        clear na nb ha hb lv t0 t1 s0 s1 f0 f1 HG HT HS hfr
        have nb := HG1.out.nb hk
        have hb := HG1.out.hb hk
        have t1 : V1.cell? ⟨w1.heap.size, 1, none⟩ = some (.int .i64 3) := blk_cell HT1.out 1
        have s1 : V1.cell? ⟨w1.heap.size + 1, 1, none⟩ = some (.int .i64 (sumU s k).b) := blk_cell HS1.out 1
        have f1 := blk_frozen HS1.out 1
        go_wp2
        go_quiet (fail)
        go_wp2
        rw [rounds_succ]
        go_wp2
        go_roundg g1
        case measure => omega
        case rel => exact ⟨k + 1, by omega, by go_num, blk_set_far (blk_drewN HG1.out _) _ _ (by show b ≠ w1.heap.size + 1; omega), blk_set_far (blk_drewN HT1.out _) _ _ (by show w1.heap.size ≠ w1.heap.size + 1; omega), blk_set (blk_drewN HS1.out _) 1 _, (fr1.drewN _).setCell (Or.inr (by show w.heap.size ≤ w1.heap.size + 1; have := hf1.size; omega)) _⟩
end Go.Proofs.Qxb6500340a
