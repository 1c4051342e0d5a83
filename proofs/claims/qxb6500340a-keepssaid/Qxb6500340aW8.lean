import Derived.Test.Qxb6500340aW7
namespace Go.Proofs.Qxb6500340a
open Go.RowKit
set_option linter.unusedVariables false
set_option linter.unusedSimpArgs false

/-- Request's answer. -/
def reqE (s : St) (p : Int) (v : Vc) : Int :=
  if gateE s p true v = 0 then (if leB v (s.need p.toNat) then (if leB v s.av then (if gOkB (reqS s p.toNat v) then 0 else 6) else 5) else 4) else gateE s p true v
def reqT (s : St) (p : Int) (v : Vc) : ByteArray := if reqE s p v = 0 then ordT (run (reqS s p.toNat v) 4).ord else ⟨#[]⟩

theorem upd_self {α : Type} (f : Nat → α) (p : Nat) (v : α) (h : v = f p) : upd f p v = f := by
  funext q; unfold upd; split
  · rename_i e; rw [e, h]
  · rfl
theorem Vc.eq {x y : Vc} (h1 : x.a = y.a) (h2 : x.b = y.b) : x = y := by cases x; cases y; simp_all
theorem req_zero (s : St) (p : Nat) (v : Vc) (h1 : v.a = 0) (h2 : v.b = 0) : reqS s p v = s := by
  refine St.eq ?_ rfl ?_ ?_
  · exact Vc.eq (by simp [reqS, Vc.sub, h1]) (by simp [reqS, Vc.sub, h2])
  · exact upd_self _ _ _ (Vc.eq (by simp [Vc.sub, h1]) (by simp [Vc.sub, h2]))
  · exact upd_self _ _ _ (Vc.eq (by simp [Vc.add, h1]) (by simp [Vc.add, h2]))
theorem req_give (s : St) (p : Nat) (v : Vc) : giveS (reqS s p v) p v = s := by
  refine St.eq ?_ rfl ?_ ?_
  · exact Vc.eq (by simp [giveS, reqS, Vc.sub, Vc.add]) (by simp [giveS, reqS, Vc.sub, Vc.add])
  · simp only [giveS, reqS, upd_upd, upd_same]
    exact upd_self _ _ _ (Vc.eq (by simp [Vc.sub, Vc.add]) (by simp [Vc.sub, Vc.add]))
  · simp only [giveS, reqS, upd_upd, upd_same]
    exact upd_self _ _ _ (Vc.eq (by simp [Vc.sub, Vc.add]) (by simp [Vc.sub, Vc.add]))
theorem req_bd {s : St} (h : Inv s) {p : Nat} (hp : p < 4) {v : Vc} (hv : okV v) (hn : v.a ≤ (s.need p).a ∧ v.b ≤ (s.need p).b) (ha : v.a ≤ s.av.a ∧ v.b ≤ s.av.b) : Bd (reqS s p v) := by
  have h0 := h.bd
  have hs := h.slot p hp
  have h1 := h.ava; have h2 := h.avb
  unfold okV at hv
  refine ⟨?_, fun q hq => ?_, fun q hq => ?_⟩
  · have := h0.av; simp only [reqS, Vc.sub]; omega
  · have := h0.need q hq
    simp only [reqS, upd]; split
    · simp only [Vc.sub]; omega
    · exact this
  · have := h0.held q hq
    simp only [reqS, upd]; split
    · simp only [Vc.add]; omega
    · exact this
theorem ret_str_int {a c : ByteArray} {x y : Int} (h1 : a = c) (h2 : x = y) : Ending.returned (.tuple #[.string a, .int .i64 x]) = .returned (.tuple #[.string c, .int .i64 y]) := by rw [h1, h2]

set_option maxHeartbeats 6400000 in
set_option maxRecDepth 100000 in
theorem request_gate (w : World) (b : Nat) (s : St) (hb : BkI w b s) (hi : Inv s) (p : Int) (v : Vc) (hg : gateE s p true v ≠ 0) :
    Calls Try.prog 35 #[.pointer (some ⟨b, 0, none⟩), .int .i64 p, .agg #[.int .i64 v.a, .int .i64 v.b]] w fun e w' =>
      e = .returned (.tuple #[.string (reqT s p v), .int .i64 (reqE s p v)]) ∧ BkI w' b (if reqE s p v = 0 then reqS s p.toNat v else s) ∧ Fr [b] w w' := by
  have hl := blk_lt hb
  have HB : Hid (Bk w b s (ordT (run s 4).ord)) := hb
  have hE : reqE s p v = gateE s p true v := by unfold reqE; rw [if_neg hg]
  have hT : reqT s p v = ⟨#[]⟩ := by unfold reqT; rw [hE, if_neg hg]
  rw [hT, hE, if_neg hg]
  have hg' : (gateE s p true v != 0) = true := by rw [bne_iff_ne]; exact hg
  clear hi hb
  go_enter Try.func35, Try.ntmps35
  go_wp2_with fail
  go_at_call 48
  refine (gate_any _ b s _ (blk_alloc HB.out _) _ _ _).mono ?_
  rintro e w1 ⟨rfl, hf1⟩
  go_wp2
  go_ret2
  exact ⟨rfl, hf1.keep (blk_alloc HB.out _) (by simp), (((Fr.refl _ _).alloc _).trans hf1).widen⟩

set_option maxHeartbeats 6400000 in
set_option maxRecDepth 100000 in
theorem request_claim (w : World) (b : Nat) (s : St) (hb : BkI w b s) (hi : Inv s) (p : Nat) (hp : p < 4) (v : Vc) (hg : gateE s p true v = 0) (hn : ¬ (v.a ≤ (s.need p).a ∧ v.b ≤ (s.need p).b)) :
    Calls Try.prog 35 #[.pointer (some ⟨b, 0, none⟩), .int .i64 (p : Int), .agg #[.int .i64 v.a, .int .i64 v.b]] w fun e w' =>
      e = .returned (.tuple #[.string (reqT s (p : Int) v), .int .i64 (reqE s (p : Int) v)]) ∧ BkI w' b (if reqE s (p : Int) v = 0 then reqS s p v else s) ∧ Fr [b] w w' := by
  have hE : reqE s p v = 4 := by
    unfold reqE; rw [if_pos hg, if_neg]; simp only [Int.toNat_natCast, leB_no.2 hn]; simp
  have hT : reqT s p v = ⟨#[]⟩ := by unfold reqT; rw [hE, if_neg (by omega)]
  rw [hT, hE, if_neg (by omega)]
  have hl := blk_lt hb
  have HB : Hid (Bk w b s (ordT (run s 4).ord)) := hb
  have hp4 : (p : Int) < 4 := by omega
  have ix0 := fun W => ix_vec0 W v.a v.b
  have ix1 := fun W => ix_vec1 W v.a v.b
  clear hi hb hE hT
  by_cases ha : v.a ≤ (s.need p).a
  · have da : decide ((s.need p).a < v.a) = false := decide_eq_false (by omega)
    have db : (s.need p).b < v.b := by omega
    go_enter Try.func35, Try.ntmps35
    go_wp2_with fail
    go_at_call 48
    refine (gate_any _ b s _ (blk_alloc HB.out _) _ _ _).mono ?_
    rintro e w1 ⟨rfl, hf1⟩
    rw [hg]
    have c5 := hf1.keep (blk_new _ _) (by simp)
    have X0 : Hid (Bk w1 b s (ordT (run s 4).ord)) := hf1.keep (blk_alloc HB.out _) (by simp)
    have fr0 : Fr [b] w w1 := (((Fr.refl _ _).alloc _).trans hf1).widen
    have C5 : Hid (w1.heap[w.heap.size]? = some (.cells #[.int .i64 v.a, .int .i64 v.b] 27)) := c5
    have v0 : w1.cell? ⟨w.heap.size, 0, none⟩ = some (.int .i64 v.a) := blk_cell c5 0
    have v1 : w1.cell? ⟨w.heap.size, 1, none⟩ = some (.int .i64 v.b) := blk_cell c5 1
    clear c5 hf1
    have na := X0.out.na hp
    have nb := X0.out.nb hp
    have ua := X0.out.aa
    have ub := X0.out.ab
    have ce := X0.out.ce
    go_wp2
    go_rounds 2
    go_ret2
    exact ⟨rfl, X0.out, fr0⟩
  · have da : (s.need p).a < v.a := by omega
    go_enter Try.func35, Try.ntmps35
    go_wp2_with fail
    go_at_call 48
    refine (gate_any _ b s _ (blk_alloc HB.out _) _ _ _).mono ?_
    rintro e w1 ⟨rfl, hf1⟩
    rw [hg]
    have c5 := hf1.keep (blk_new _ _) (by simp)
    have X0 : Hid (Bk w1 b s (ordT (run s 4).ord)) := hf1.keep (blk_alloc HB.out _) (by simp)
    have fr0 : Fr [b] w w1 := (((Fr.refl _ _).alloc _).trans hf1).widen
    have C5 : Hid (w1.heap[w.heap.size]? = some (.cells #[.int .i64 v.a, .int .i64 v.b] 27)) := c5
    have v0 : w1.cell? ⟨w.heap.size, 0, none⟩ = some (.int .i64 v.a) := blk_cell c5 0
    have v1 : w1.cell? ⟨w.heap.size, 1, none⟩ = some (.int .i64 v.b) := blk_cell c5 1
    clear c5 hf1
    have na := X0.out.na hp
    have nb := X0.out.nb hp
    have ua := X0.out.aa
    have ub := X0.out.ab
    have ce := X0.out.ce
    go_wp2
    go_rounds 1
    go_ret2
    exact ⟨rfl, X0.out, fr0⟩

set_option maxHeartbeats 6400000 in
set_option maxRecDepth 100000 in
theorem request_wait (w : World) (b : Nat) (s : St) (hb : BkI w b s) (hi : Inv s) (p : Nat) (hp : p < 4) (v : Vc) (hg : gateE s p true v = 0) (hn : v.a ≤ (s.need p).a ∧ v.b ≤ (s.need p).b) (hw : ¬ (v.a ≤ s.av.a ∧ v.b ≤ s.av.b)) :
    Calls Try.prog 35 #[.pointer (some ⟨b, 0, none⟩), .int .i64 (p : Int), .agg #[.int .i64 v.a, .int .i64 v.b]] w fun e w' =>
      e = .returned (.tuple #[.string (reqT s (p : Int) v), .int .i64 (reqE s (p : Int) v)]) ∧ BkI w' b (if reqE s (p : Int) v = 0 then reqS s p v else s) ∧ Fr [b] w w' := by
  have hE : reqE s p v = 5 := by
    unfold reqE; rw [if_pos hg]; simp only [Int.toNat_natCast, leB_no.2 hw, leB_iff.2 hn]; simp
  have hT : reqT s p v = ⟨#[]⟩ := by unfold reqT; rw [hE, if_neg (by omega)]
  rw [hT, hE, if_neg (by omega)]
  have hl := blk_lt hb
  have HB : Hid (Bk w b s (ordT (run s 4).ord)) := hb
  have hp4 : (p : Int) < 4 := by omega
  have ix0 := fun W => ix_vec0 W v.a v.b
  have ix1 := fun W => ix_vec1 W v.a v.b
  clear hi hb hE hT
  have na0 : decide ((s.need p).a < v.a) = false := decide_eq_false (by omega)
  have nb0 : decide ((s.need p).b < v.b) = false := decide_eq_false (by omega)
  by_cases ha : v.a ≤ s.av.a
  · have da : decide (s.av.a < v.a) = false := decide_eq_false (by omega)
    have db : s.av.b < v.b := by omega
    go_enter Try.func35, Try.ntmps35
    go_wp2_with fail
    go_at_call 48
    refine (gate_any _ b s _ (blk_alloc HB.out _) _ _ _).mono ?_
    rintro e w1 ⟨rfl, hf1⟩
    rw [hg]
    have c5 := hf1.keep (blk_new _ _) (by simp)
    have X0 : Hid (Bk w1 b s (ordT (run s 4).ord)) := hf1.keep (blk_alloc HB.out _) (by simp)
    have fr0 : Fr [b] w w1 := (((Fr.refl _ _).alloc _).trans hf1).widen
    have C5 : Hid (w1.heap[w.heap.size]? = some (.cells #[.int .i64 v.a, .int .i64 v.b] 27)) := c5
    have v0 : w1.cell? ⟨w.heap.size, 0, none⟩ = some (.int .i64 v.a) := blk_cell c5 0
    have v1 : w1.cell? ⟨w.heap.size, 1, none⟩ = some (.int .i64 v.b) := blk_cell c5 1
    clear c5 hf1
    have na := X0.out.na hp
    have nb := X0.out.nb hp
    have ua := X0.out.aa
    have ub := X0.out.ab
    have ce := X0.out.ce
    go_wp2
    go_rounds 3
    go_rounds 2
    go_ret2
    exact ⟨rfl, X0.out, fr0⟩
  · have da : s.av.a < v.a := by omega
    go_enter Try.func35, Try.ntmps35
    go_wp2_with fail
    go_at_call 48
    refine (gate_any _ b s _ (blk_alloc HB.out _) _ _ _).mono ?_
    rintro e w1 ⟨rfl, hf1⟩
    rw [hg]
    have c5 := hf1.keep (blk_new _ _) (by simp)
    have X0 : Hid (Bk w1 b s (ordT (run s 4).ord)) := hf1.keep (blk_alloc HB.out _) (by simp)
    have fr0 : Fr [b] w w1 := (((Fr.refl _ _).alloc _).trans hf1).widen
    have C5 : Hid (w1.heap[w.heap.size]? = some (.cells #[.int .i64 v.a, .int .i64 v.b] 27)) := c5
    have v0 : w1.cell? ⟨w.heap.size, 0, none⟩ = some (.int .i64 v.a) := blk_cell c5 0
    have v1 : w1.cell? ⟨w.heap.size, 1, none⟩ = some (.int .i64 v.b) := blk_cell c5 1
    clear c5 hf1
    have na := X0.out.na hp
    have nb := X0.out.nb hp
    have ua := X0.out.aa
    have ub := X0.out.ab
    have ce := X0.out.ce
    go_wp2
    go_rounds 3
    go_rounds 1
    go_ret2
    exact ⟨rfl, X0.out, fr0⟩

set_option maxHeartbeats 6400000 in
set_option maxRecDepth 100000 in
theorem request_zero (w : World) (b : Nat) (s : St) (hb : BkI w b s) (hi : Inv s) (p : Nat) (hp : p < 4) (v : Vc) (hg : gateE s p true v = 0) (hv : okV v) (hn : v.a ≤ (s.need p).a ∧ v.b ≤ (s.need p).b) (hw : v.a ≤ s.av.a ∧ v.b ≤ s.av.b) (hz : v.a = 0 ∧ v.b = 0) :
    Calls Try.prog 35 #[.pointer (some ⟨b, 0, none⟩), .int .i64 (p : Int), .agg #[.int .i64 v.a, .int .i64 v.b]] w fun e w' =>
      e = .returned (.tuple #[.string (reqT s (p : Int) v), .int .i64 (reqE s (p : Int) v)]) ∧ BkI w' b (if reqE s (p : Int) v = 0 then reqS s p v else s) ∧ Fr [b] w w' := by
  have hE : reqE s p v = 0 := by
    unfold reqE; rw [if_pos hg]; simp only [Int.toNat_natCast, leB_iff.2 hw, leB_iff.2 hn, req_zero s p v hz.1 hz.2, hi.gb]; simp
  have hT : reqT s p v = ordT (run s 4).ord := by unfold reqT; rw [hE, if_pos rfl, Int.toNat_natCast, req_zero s p v hz.1 hz.2]
  rw [hT, hE, if_pos rfl, req_zero s p v hz.1 hz.2]
  have hl := blk_lt hb
  have HB : Hid (Bk w b s (ordT (run s 4).ord)) := hb
  have hp4 : (p : Int) < 4 := by omega
  have ix0 := fun W => ix_vec0 W v.a v.b
  have ix1 := fun W => ix_vec1 W v.a v.b
  have na0 : decide ((s.need p).a < v.a) = false := decide_eq_false (by omega)
  have nb0 : decide ((s.need p).b < v.b) = false := decide_eq_false (by omega)
  have aa0 : decide (s.av.a < v.a) = false := decide_eq_false (by omega)
  have ab0 : decide (s.av.b < v.b) = false := decide_eq_false (by omega)
  have he := fun W => eq_vec W v.a v.b 0 0
  have hee : (v.a == 0 && v.b == 0) = true := by simp [hz.1, hz.2]
  rw [hee] at he
  clear hi hb hE hT hz hee
  go_enter Try.func35, Try.ntmps35
  go_wp2_with fail
  go_at_call 48
  refine (gate_any _ b s _ (blk_alloc HB.out _) _ _ _).mono ?_
  rintro e w1 ⟨rfl, hf1⟩
  rw [hg]
  have c5 := hf1.keep (blk_new _ _) (by simp)
  have X0 : Hid (Bk w1 b s (ordT (run s 4).ord)) := hf1.keep (blk_alloc HB.out _) (by simp)
  have fr0 : Fr [b] w w1 := (((Fr.refl _ _).alloc _).trans hf1).widen
  have C5 : Hid (w1.heap[w.heap.size]? = some (.cells #[.int .i64 v.a, .int .i64 v.b] 27)) := c5
  have v0 : w1.cell? ⟨w.heap.size, 0, none⟩ = some (.int .i64 v.a) := blk_cell c5 0
  have v1 : w1.cell? ⟨w.heap.size, 1, none⟩ = some (.int .i64 v.b) := blk_cell c5 1
  clear c5 hf1
  have na := X0.out.na hp
  have nb := X0.out.nb hp
  have ua := X0.out.aa
  have ub := X0.out.ab
  have ce := X0.out.ce
  go_wp2
  go_rounds 3
  go_rounds 3
  go_ret2
  exact ⟨rfl, X0.out, fr0⟩

set_option maxHeartbeats 6400000 in
set_option maxRecDepth 100000 in
theorem request_grant (w : World) (b : Nat) (s : St) (hb : BkI w b s) (hi : Inv s) (p : Nat) (hp : p < 4) (v : Vc) (hg : gateE s p true v = 0) (hv : okV v) (hn : v.a ≤ (s.need p).a ∧ v.b ≤ (s.need p).b) (hw : v.a ≤ s.av.a ∧ v.b ≤ s.av.b) (hz : ¬ (v.a = 0 ∧ v.b = 0)) (hok : gOkB (reqS s p v) = true) :
    Calls Try.prog 35 #[.pointer (some ⟨b, 0, none⟩), .int .i64 (p : Int), .agg #[.int .i64 v.a, .int .i64 v.b]] w fun e w' =>
      e = .returned (.tuple #[.string (reqT s (p : Int) v), .int .i64 (reqE s (p : Int) v)]) ∧ BkI w' b (if reqE s (p : Int) v = 0 then reqS s p v else s) ∧ Fr [b] w w' := by
  have hE : reqE s p v = 0 := by
    unfold reqE; rw [if_pos hg]; simp only [Int.toNat_natCast, leB_iff.2 hw, leB_iff.2 hn, hok]; simp
  have hT : reqT s p v = ordT (run (reqS s p v) 4).ord := by unfold reqT; rw [hE, if_pos rfl, Int.toNat_natCast]
  rw [hT, hE, if_pos rfl]
  have hl := blk_lt hb
  have HB : Hid (Bk w b s (ordT (run s 4).ord)) := hb
  have hp4 : (p : Int) < 4 := by omega
  have ix0 := fun W => ix_vec0 W v.a v.b
  have ix1 := fun W => ix_vec1 W v.a v.b
  have na0 : decide ((s.need p).a < v.a) = false := decide_eq_false (by omega)
  have nb0 : decide ((s.need p).b < v.b) = false := decide_eq_false (by omega)
  have aa0 : decide (s.av.a < v.a) = false := decide_eq_false (by omega)
  have ab0 : decide (s.av.b < v.b) = false := decide_eq_false (by omega)
  have hzz : (v.a == 0 && v.b == 0) = false := by
    rw [Bool.eq_false_iff]; intro h; simp only [Bool.and_eq_true, beq_iff_eq] at h; exact hz h
  have he := fun W => eq_vec W v.a v.b 0 0
  rw [hzz] at he
  have bd := hi.bd
  have b1 := bd.av
  have b2 := bd.need p hp
  have b3 := bd.held p hp
  have HBD : Hid (Bd (reqS s p v)) := req_bd hi hp hv hn hw
  have HV : Hid (-100 ≤ v.a ∧ v.a ≤ 100 ∧ -100 ≤ v.b ∧ v.b ≤ 100) := by
    have := hv; unfold okV at this
    show _ ∧ _; omega
  have hv1 := HV.out
  clear hi hb hE hT hz hzz bd
  go_enter Try.func35, Try.ntmps35
  go_wp2_with fail
  go_at_call 48
  refine (gate_any _ b s _ (blk_alloc HB.out _) _ _ _).mono ?_
  rintro e w1 ⟨rfl, hf1⟩
  rw [hg]
  have c5 := hf1.keep (blk_new _ _) (by simp)
  have X0 : Hid (Bk w1 b s (ordT (run s 4).ord)) := hf1.keep (blk_alloc HB.out _) (by simp)
  have fr0 : Fr [b] w w1 := (((Fr.refl _ _).alloc _).trans hf1).widen
  have C5 : Hid (w1.heap[w.heap.size]? = some (.cells #[.int .i64 v.a, .int .i64 v.b] 27)) := c5
  have v0 : w1.cell? ⟨w.heap.size, 0, none⟩ = some (.int .i64 v.a) := blk_cell c5 0
  have v1 : w1.cell? ⟨w.heap.size, 1, none⟩ = some (.int .i64 v.b) := blk_cell c5 1
  clear c5 hf1
  have na := X0.out.na hp
  have nb := X0.out.nb hp
  have ua := X0.out.aa
  have ub := X0.out.ab
  have ce := X0.out.ce
  go_wp2
  refine wp_loop_rounds 3 ?_
  rw [rounds_succ]
  go_wp2
  rw [rounds_succ]
  go_wp2
  rw [rounds_succ]
  go_wp2
  refine wp_loop_rounds 3 ?_
  rw [rounds_succ]
  go_wp2
  rw [rounds_succ]
  go_wp2
  rw [rounds_succ]
  go_wp2
  refine wp_loop_rounds 3 ?_
  rw [rounds_succ]
  have kc := X0.out.aa
  have fc := X0.out.fr (0)
  go_wp2
  go_region
  have X1 : Hid (Bk ((w1.setCell ⟨b, 0, none⟩ (.int .i64 (s.av.a - v.a))).drew) b (stAa s (s.av.a - v.a)) (ordT (run s 4).ord)) := X0.out.setAa (s.av.a - v.a)
  have fr1 : Fr [b] w ((w1.setCell ⟨b, 0, none⟩ (.int .i64 (s.av.a - v.a))).drew) := (fr0.setCell (Or.inl (by simp)) _).drew
  have D1 : Hid (((w1.setCell ⟨b, 0, none⟩ (.int .i64 (s.av.a - v.a))).drew).heap[w.heap.size]? = some (.cells #[.int .i64 v.a, .int .i64 v.b] 27)) := blk_set_far C5.out _ _ (by show w.heap.size ≠ b; omega)
  generalize (w1.setCell ⟨b, 0, none⟩ (.int .i64 (s.av.a - v.a))).drew = V1 at X1 fr1 D1 ⊢
  clear kc fc X0 fr0 v0 v1 na nb ua ub ce
  have kc := X1.out.na hp
  have fc := X1.out.fr (6 + p * 2)
  simp only [stAa, stAb, stNa, stNb, stHa, stHb, upd_same] at kc
  go_wp2
  go_region
  have X2 : Hid (Bk ((V1.setCell ⟨b, 6 + p * 2, none⟩ (.int .i64 ((s.need p).a - v.a))).drew) b (stNa (stAa s (s.av.a - v.a)) p ((s.need p).a - v.a)) (ordT (run s 4).ord)) := X1.out.setNa hp ((s.need p).a - v.a)
  have fr2 : Fr [b] w ((V1.setCell ⟨b, 6 + p * 2, none⟩ (.int .i64 ((s.need p).a - v.a))).drew) := (fr1.setCell (Or.inl (by simp)) _).drew
  have D2 : Hid (((V1.setCell ⟨b, 6 + p * 2, none⟩ (.int .i64 ((s.need p).a - v.a))).drew).heap[w.heap.size]? = some (.cells #[.int .i64 v.a, .int .i64 v.b] 27)) := blk_set_far D1.out _ _ (by show w.heap.size ≠ b; omega)
  generalize (V1.setCell ⟨b, 6 + p * 2, none⟩ (.int .i64 ((s.need p).a - v.a))).drew = V2 at X2 fr2 D2 ⊢
  clear kc fc X1 fr1
  have kc := X2.out.ha hp
  have fc := X2.out.fr (14 + p * 2)
  simp only [stAa, stAb, stNa, stNb, stHa, stHb, upd_same] at kc
  go_wp2
  go_region
  have X3 : Hid (Bk ((V2.setCell ⟨b, 14 + p * 2, none⟩ (.int .i64 ((s.held p).a + v.a))).drew) b (stHa (stNa (stAa s (s.av.a - v.a)) p ((s.need p).a - v.a)) p ((s.held p).a + v.a)) (ordT (run s 4).ord)) := X2.out.setHa hp ((s.held p).a + v.a)
  have fr3 : Fr [b] w ((V2.setCell ⟨b, 14 + p * 2, none⟩ (.int .i64 ((s.held p).a + v.a))).drew) := (fr2.setCell (Or.inl (by simp)) _).drew
  have D3 : Hid (((V2.setCell ⟨b, 14 + p * 2, none⟩ (.int .i64 ((s.held p).a + v.a))).drew).heap[w.heap.size]? = some (.cells #[.int .i64 v.a, .int .i64 v.b] 27)) := blk_set_far D2.out _ _ (by show w.heap.size ≠ b; omega)
  generalize (V2.setCell ⟨b, 14 + p * 2, none⟩ (.int .i64 ((s.held p).a + v.a))).drew = V3 at X3 fr3 D3 ⊢
  clear kc fc X2 fr2
  go_wp2
  rw [rounds_succ]
  have kc := X3.out.ab
  have fc := X3.out.fr (1)
  simp only [stAa, stAb, stNa, stNb, stHa, stHb, upd_same] at kc
  go_wp2
  go_region
  have X4 : Hid (Bk ((V3.setCell ⟨b, 1, none⟩ (.int .i64 (s.av.b - v.b))).drew) b (stAb (stHa (stNa (stAa s (s.av.a - v.a)) p ((s.need p).a - v.a)) p ((s.held p).a + v.a)) (s.av.b - v.b)) (ordT (run s 4).ord)) := X3.out.setAb (s.av.b - v.b)
  have fr4 : Fr [b] w ((V3.setCell ⟨b, 1, none⟩ (.int .i64 (s.av.b - v.b))).drew) := (fr3.setCell (Or.inl (by simp)) _).drew
  have D4 : Hid (((V3.setCell ⟨b, 1, none⟩ (.int .i64 (s.av.b - v.b))).drew).heap[w.heap.size]? = some (.cells #[.int .i64 v.a, .int .i64 v.b] 27)) := blk_set_far D3.out _ _ (by show w.heap.size ≠ b; omega)
  generalize (V3.setCell ⟨b, 1, none⟩ (.int .i64 (s.av.b - v.b))).drew = V4 at X4 fr4 D4 ⊢
  clear kc fc X3 fr3
  have kc := X4.out.nb hp
  have fc := X4.out.fr (6 + p * 2 + 1)
  simp only [stAa, stAb, stNa, stNb, stHa, stHb, upd_same] at kc
  go_wp2
  go_region
  have X5 : Hid (Bk ((V4.setCell ⟨b, 6 + p * 2 + 1, none⟩ (.int .i64 ((s.need p).b - v.b))).drew) b (stNb (stAb (stHa (stNa (stAa s (s.av.a - v.a)) p ((s.need p).a - v.a)) p ((s.held p).a + v.a)) (s.av.b - v.b)) p ((s.need p).b - v.b)) (ordT (run s 4).ord)) := X4.out.setNb hp ((s.need p).b - v.b)
  have fr5 : Fr [b] w ((V4.setCell ⟨b, 6 + p * 2 + 1, none⟩ (.int .i64 ((s.need p).b - v.b))).drew) := (fr4.setCell (Or.inl (by simp)) _).drew
  have D5 : Hid (((V4.setCell ⟨b, 6 + p * 2 + 1, none⟩ (.int .i64 ((s.need p).b - v.b))).drew).heap[w.heap.size]? = some (.cells #[.int .i64 v.a, .int .i64 v.b] 27)) := blk_set_far D4.out _ _ (by show w.heap.size ≠ b; omega)
  generalize (V4.setCell ⟨b, 6 + p * 2 + 1, none⟩ (.int .i64 ((s.need p).b - v.b))).drew = V5 at X5 fr5 D5 ⊢
  clear kc fc X4 fr4
  have kc := X5.out.hb hp
  have fc := X5.out.fr (14 + p * 2 + 1)
  simp only [stAa, stAb, stNa, stNb, stHa, stHb, upd_same] at kc
  go_wp2
  go_region
  have X6 : Hid (Bk ((V5.setCell ⟨b, 14 + p * 2 + 1, none⟩ (.int .i64 ((s.held p).b + v.b))).drew) b (stHb (stNb (stAb (stHa (stNa (stAa s (s.av.a - v.a)) p ((s.need p).a - v.a)) p ((s.held p).a + v.a)) (s.av.b - v.b)) p ((s.need p).b - v.b)) p ((s.held p).b + v.b)) (ordT (run s 4).ord)) := X5.out.setHb hp ((s.held p).b + v.b)
  have fr6 : Fr [b] w ((V5.setCell ⟨b, 14 + p * 2 + 1, none⟩ (.int .i64 ((s.held p).b + v.b))).drew) := (fr5.setCell (Or.inl (by simp)) _).drew
  have D6 : Hid (((V5.setCell ⟨b, 14 + p * 2 + 1, none⟩ (.int .i64 ((s.held p).b + v.b))).drew).heap[w.heap.size]? = some (.cells #[.int .i64 v.a, .int .i64 v.b] 27)) := blk_set_far D5.out _ _ (by show w.heap.size ≠ b; omega)
  generalize (V5.setCell ⟨b, 14 + p * 2 + 1, none⟩ (.int .i64 ((s.held p).b + v.b))).drew = V6 at X6 fr6 D6 ⊢
  clear kc fc X5 fr5
  go_wp2
  rw [rounds_succ]
  go_wp2_with fail
  have X7 : Hid (Bk V6 b (reqS s p v) (ordT (run s 4).ord)) := by
    show Bk _ _ _ _
    rw [← req_eq]; exact X6.out
  clear X6
  go_at_call 49
  refine (greedy_any V6 b _ _ X7.out HBD.out).mono ?_
  rintro e w2 ⟨rfl, hf2⟩
  have X8 : Hid (Bk w2 b (reqS s p v) (ordT (run s 4).ord)) := hf2.keep X7.out (by simp)
  have F8 : Fr [b] w w2 := fr6.trans hf2.widen
  have d8 := hf2.keep D6.out (by simp)
  have v0 : w2.cell? ⟨w.heap.size, 0, none⟩ = some (.int .i64 v.a) := blk_cell d8 0
  have v1 : w2.cell? ⟨w.heap.size, 1, none⟩ = some (.int .i64 v.b) := blk_cell d8 1
  clear X7 fr6 hf2 d8
  rw [hok, if_pos rfl]
  have ce := X8.out.ce
  have fe := X8.out.fr 22
  go_wp2
  go_ret2
  exact ⟨rfl, X8.out.setCe _, F8.setCell (Or.inl (by simp)) _⟩

set_option maxHeartbeats 6400000 in
set_option maxRecDepth 100000 in
theorem request_barred (w : World) (b : Nat) (s : St) (hb : BkI w b s) (hi : Inv s) (p : Nat) (hp : p < 4) (v : Vc) (hg : gateE s p true v = 0) (hv : okV v) (hn : v.a ≤ (s.need p).a ∧ v.b ≤ (s.need p).b) (hw : v.a ≤ s.av.a ∧ v.b ≤ s.av.b) (hz : ¬ (v.a = 0 ∧ v.b = 0)) (hok : gOkB (reqS s p v) = false) :
    Calls Try.prog 35 #[.pointer (some ⟨b, 0, none⟩), .int .i64 (p : Int), .agg #[.int .i64 v.a, .int .i64 v.b]] w fun e w' =>
      e = .returned (.tuple #[.string (reqT s (p : Int) v), .int .i64 (reqE s (p : Int) v)]) ∧ BkI w' b (if reqE s (p : Int) v = 0 then reqS s p v else s) ∧ Fr [b] w w' := by
  have hE : reqE s p v = 6 := by
    unfold reqE; rw [if_pos hg]; simp only [Int.toNat_natCast, leB_iff.2 hw, leB_iff.2 hn, hok]; simp
  have hT : reqT s p v = ⟨#[]⟩ := by unfold reqT; rw [hE, if_neg (by omega)]
  rw [hT, hE, if_neg (by omega)]
  have hl := blk_lt hb
  have HB : Hid (Bk w b s (ordT (run s 4).ord)) := hb
  have hp4 : (p : Int) < 4 := by omega
  have ix0 := fun W => ix_vec0 W v.a v.b
  have ix1 := fun W => ix_vec1 W v.a v.b
  have na0 : decide ((s.need p).a < v.a) = false := decide_eq_false (by omega)
  have nb0 : decide ((s.need p).b < v.b) = false := decide_eq_false (by omega)
  have aa0 : decide (s.av.a < v.a) = false := decide_eq_false (by omega)
  have ab0 : decide (s.av.b < v.b) = false := decide_eq_false (by omega)
  have hzz : (v.a == 0 && v.b == 0) = false := by
    rw [Bool.eq_false_iff]; intro h; simp only [Bool.and_eq_true, beq_iff_eq] at h; exact hz h
  have he := fun W => eq_vec W v.a v.b 0 0
  rw [hzz] at he
  have bd := hi.bd
  have b1 := bd.av
  have b2 := bd.need p hp
  have b3 := bd.held p hp
  have HBD : Hid (Bd (reqS s p v)) := req_bd hi hp hv hn hw
  have HV : Hid (-100 ≤ v.a ∧ v.a ≤ 100 ∧ -100 ≤ v.b ∧ v.b ≤ 100) := by
    have := hv; unfold okV at this
    show _ ∧ _; omega
  have hv1 := HV.out
  clear hi hb hE hT hz hzz bd
  go_enter Try.func35, Try.ntmps35
  go_wp2_with fail
  go_at_call 48
  refine (gate_any _ b s _ (blk_alloc HB.out _) _ _ _).mono ?_
  rintro e w1 ⟨rfl, hf1⟩
  rw [hg]
  have c5 := hf1.keep (blk_new _ _) (by simp)
  have X0 : Hid (Bk w1 b s (ordT (run s 4).ord)) := hf1.keep (blk_alloc HB.out _) (by simp)
  have fr0 : Fr [b] w w1 := (((Fr.refl _ _).alloc _).trans hf1).widen
  have C5 : Hid (w1.heap[w.heap.size]? = some (.cells #[.int .i64 v.a, .int .i64 v.b] 27)) := c5
  have v0 : w1.cell? ⟨w.heap.size, 0, none⟩ = some (.int .i64 v.a) := blk_cell c5 0
  have v1 : w1.cell? ⟨w.heap.size, 1, none⟩ = some (.int .i64 v.b) := blk_cell c5 1
  clear c5 hf1
  have na := X0.out.na hp
  have nb := X0.out.nb hp
  have ua := X0.out.aa
  have ub := X0.out.ab
  have ce := X0.out.ce
  go_wp2
  refine wp_loop_rounds 3 ?_
  rw [rounds_succ]
  go_wp2
  rw [rounds_succ]
  go_wp2
  rw [rounds_succ]
  go_wp2
  refine wp_loop_rounds 3 ?_
  rw [rounds_succ]
  go_wp2
  rw [rounds_succ]
  go_wp2
  rw [rounds_succ]
  go_wp2
  refine wp_loop_rounds 3 ?_
  rw [rounds_succ]
  have kc := X0.out.aa
  have fc := X0.out.fr (0)
  go_wp2
  go_region
  have X1 : Hid (Bk ((w1.setCell ⟨b, 0, none⟩ (.int .i64 (s.av.a - v.a))).drew) b (stAa s (s.av.a - v.a)) (ordT (run s 4).ord)) := X0.out.setAa (s.av.a - v.a)
  have fr1 : Fr [b] w ((w1.setCell ⟨b, 0, none⟩ (.int .i64 (s.av.a - v.a))).drew) := (fr0.setCell (Or.inl (by simp)) _).drew
  have D1 : Hid (((w1.setCell ⟨b, 0, none⟩ (.int .i64 (s.av.a - v.a))).drew).heap[w.heap.size]? = some (.cells #[.int .i64 v.a, .int .i64 v.b] 27)) := blk_set_far C5.out _ _ (by show w.heap.size ≠ b; omega)
  generalize (w1.setCell ⟨b, 0, none⟩ (.int .i64 (s.av.a - v.a))).drew = V1 at X1 fr1 D1 ⊢
  clear kc fc X0 fr0 v0 v1 na nb ua ub ce
  have kc := X1.out.na hp
  have fc := X1.out.fr (6 + p * 2)
  simp only [stAa, stAb, stNa, stNb, stHa, stHb, upd_same] at kc
  go_wp2
  go_region
  have X2 : Hid (Bk ((V1.setCell ⟨b, 6 + p * 2, none⟩ (.int .i64 ((s.need p).a - v.a))).drew) b (stNa (stAa s (s.av.a - v.a)) p ((s.need p).a - v.a)) (ordT (run s 4).ord)) := X1.out.setNa hp ((s.need p).a - v.a)
  have fr2 : Fr [b] w ((V1.setCell ⟨b, 6 + p * 2, none⟩ (.int .i64 ((s.need p).a - v.a))).drew) := (fr1.setCell (Or.inl (by simp)) _).drew
  have D2 : Hid (((V1.setCell ⟨b, 6 + p * 2, none⟩ (.int .i64 ((s.need p).a - v.a))).drew).heap[w.heap.size]? = some (.cells #[.int .i64 v.a, .int .i64 v.b] 27)) := blk_set_far D1.out _ _ (by show w.heap.size ≠ b; omega)
  generalize (V1.setCell ⟨b, 6 + p * 2, none⟩ (.int .i64 ((s.need p).a - v.a))).drew = V2 at X2 fr2 D2 ⊢
  clear kc fc X1 fr1
  have kc := X2.out.ha hp
  have fc := X2.out.fr (14 + p * 2)
  simp only [stAa, stAb, stNa, stNb, stHa, stHb, upd_same] at kc
  go_wp2
  go_region
  have X3 : Hid (Bk ((V2.setCell ⟨b, 14 + p * 2, none⟩ (.int .i64 ((s.held p).a + v.a))).drew) b (stHa (stNa (stAa s (s.av.a - v.a)) p ((s.need p).a - v.a)) p ((s.held p).a + v.a)) (ordT (run s 4).ord)) := X2.out.setHa hp ((s.held p).a + v.a)
  have fr3 : Fr [b] w ((V2.setCell ⟨b, 14 + p * 2, none⟩ (.int .i64 ((s.held p).a + v.a))).drew) := (fr2.setCell (Or.inl (by simp)) _).drew
  have D3 : Hid (((V2.setCell ⟨b, 14 + p * 2, none⟩ (.int .i64 ((s.held p).a + v.a))).drew).heap[w.heap.size]? = some (.cells #[.int .i64 v.a, .int .i64 v.b] 27)) := blk_set_far D2.out _ _ (by show w.heap.size ≠ b; omega)
  generalize (V2.setCell ⟨b, 14 + p * 2, none⟩ (.int .i64 ((s.held p).a + v.a))).drew = V3 at X3 fr3 D3 ⊢
  clear kc fc X2 fr2
  go_wp2
  rw [rounds_succ]
  have kc := X3.out.ab
  have fc := X3.out.fr (1)
  simp only [stAa, stAb, stNa, stNb, stHa, stHb, upd_same] at kc
  go_wp2
  go_region
  have X4 : Hid (Bk ((V3.setCell ⟨b, 1, none⟩ (.int .i64 (s.av.b - v.b))).drew) b (stAb (stHa (stNa (stAa s (s.av.a - v.a)) p ((s.need p).a - v.a)) p ((s.held p).a + v.a)) (s.av.b - v.b)) (ordT (run s 4).ord)) := X3.out.setAb (s.av.b - v.b)
  have fr4 : Fr [b] w ((V3.setCell ⟨b, 1, none⟩ (.int .i64 (s.av.b - v.b))).drew) := (fr3.setCell (Or.inl (by simp)) _).drew
  have D4 : Hid (((V3.setCell ⟨b, 1, none⟩ (.int .i64 (s.av.b - v.b))).drew).heap[w.heap.size]? = some (.cells #[.int .i64 v.a, .int .i64 v.b] 27)) := blk_set_far D3.out _ _ (by show w.heap.size ≠ b; omega)
  generalize (V3.setCell ⟨b, 1, none⟩ (.int .i64 (s.av.b - v.b))).drew = V4 at X4 fr4 D4 ⊢
  clear kc fc X3 fr3
  have kc := X4.out.nb hp
  have fc := X4.out.fr (6 + p * 2 + 1)
  simp only [stAa, stAb, stNa, stNb, stHa, stHb, upd_same] at kc
  go_wp2
  go_region
  have X5 : Hid (Bk ((V4.setCell ⟨b, 6 + p * 2 + 1, none⟩ (.int .i64 ((s.need p).b - v.b))).drew) b (stNb (stAb (stHa (stNa (stAa s (s.av.a - v.a)) p ((s.need p).a - v.a)) p ((s.held p).a + v.a)) (s.av.b - v.b)) p ((s.need p).b - v.b)) (ordT (run s 4).ord)) := X4.out.setNb hp ((s.need p).b - v.b)
  have fr5 : Fr [b] w ((V4.setCell ⟨b, 6 + p * 2 + 1, none⟩ (.int .i64 ((s.need p).b - v.b))).drew) := (fr4.setCell (Or.inl (by simp)) _).drew
  have D5 : Hid (((V4.setCell ⟨b, 6 + p * 2 + 1, none⟩ (.int .i64 ((s.need p).b - v.b))).drew).heap[w.heap.size]? = some (.cells #[.int .i64 v.a, .int .i64 v.b] 27)) := blk_set_far D4.out _ _ (by show w.heap.size ≠ b; omega)
  generalize (V4.setCell ⟨b, 6 + p * 2 + 1, none⟩ (.int .i64 ((s.need p).b - v.b))).drew = V5 at X5 fr5 D5 ⊢
  clear kc fc X4 fr4
  have kc := X5.out.hb hp
  have fc := X5.out.fr (14 + p * 2 + 1)
  simp only [stAa, stAb, stNa, stNb, stHa, stHb, upd_same] at kc
  go_wp2
  go_region
  have X6 : Hid (Bk ((V5.setCell ⟨b, 14 + p * 2 + 1, none⟩ (.int .i64 ((s.held p).b + v.b))).drew) b (stHb (stNb (stAb (stHa (stNa (stAa s (s.av.a - v.a)) p ((s.need p).a - v.a)) p ((s.held p).a + v.a)) (s.av.b - v.b)) p ((s.need p).b - v.b)) p ((s.held p).b + v.b)) (ordT (run s 4).ord)) := X5.out.setHb hp ((s.held p).b + v.b)
  have fr6 : Fr [b] w ((V5.setCell ⟨b, 14 + p * 2 + 1, none⟩ (.int .i64 ((s.held p).b + v.b))).drew) := (fr5.setCell (Or.inl (by simp)) _).drew
  have D6 : Hid (((V5.setCell ⟨b, 14 + p * 2 + 1, none⟩ (.int .i64 ((s.held p).b + v.b))).drew).heap[w.heap.size]? = some (.cells #[.int .i64 v.a, .int .i64 v.b] 27)) := blk_set_far D5.out _ _ (by show w.heap.size ≠ b; omega)
  generalize (V5.setCell ⟨b, 14 + p * 2 + 1, none⟩ (.int .i64 ((s.held p).b + v.b))).drew = V6 at X6 fr6 D6 ⊢
  clear kc fc X5 fr5
  go_wp2
  rw [rounds_succ]
  go_wp2_with fail
  have X7 : Hid (Bk V6 b (reqS s p v) (ordT (run s 4).ord)) := by
    show Bk _ _ _ _
    rw [← req_eq]; exact X6.out
  clear X6
  go_at_call 49
  refine (greedy_any V6 b _ _ X7.out HBD.out).mono ?_
  rintro e w2 ⟨rfl, hf2⟩
  have X8 : Hid (Bk w2 b (reqS s p v) (ordT (run s 4).ord)) := hf2.keep X7.out (by simp)
  have F8 : Fr [b] w w2 := fr6.trans hf2.widen
  have d8 := hf2.keep D6.out (by simp)
  have v0 : w2.cell? ⟨w.heap.size, 0, none⟩ = some (.int .i64 v.a) := blk_cell d8 0
  have v1 : w2.cell? ⟨w.heap.size, 1, none⟩ = some (.int .i64 v.b) := blk_cell d8 1
  clear X7 fr6 hf2 d8
  rw [hok, if_neg (by simp)]
  go_wp2_with fail
  go_at_call 50
  refine (give_any _ b (reqS s p v) _ X8.out HBD.out p hp v HV.out).mono ?_
  rintro e w3 ⟨rfl, hx3, hf3⟩
  rw [req_give] at hx3
  have HX : Hid (Bk w3 b s (ordT (run s 4).ord)) := hx3
  clear hx3
  go_wp2
  go_ret2
  exact ⟨rfl, HX.out, F8.trans hf3⟩

theorem request_any (w : World) (b : Nat) (s : St) (hb : BkI w b s) (hi : Inv s) (p : Int) (v : Vc) :
    Calls Try.prog 35 #[.pointer (some ⟨b, 0, none⟩), .int .i64 p, .agg #[.int .i64 v.a, .int .i64 v.b]] w fun e w' =>
      e = .returned (.tuple #[.string (reqT s p v), .int .i64 (reqE s p v)]) ∧ BkI w' b (if reqE s p v = 0 then reqS s p.toNat v else s) ∧ Fr [b] w w' := by
  by_cases hg : gateE s p true v = 0
  · obtain ⟨q, rfl, hq, hlq, hv⟩ := gate_ok hg
    rw [show ((q : Int)).toNat = q from by simp]
    by_cases hn : v.a ≤ (s.need q).a ∧ v.b ≤ (s.need q).b
    · by_cases hw : v.a ≤ s.av.a ∧ v.b ≤ s.av.b
      · by_cases hz : v.a = 0 ∧ v.b = 0
        · exact request_zero w b s hb hi q hq v hg hv hn hw hz
        · cases hok : gOkB (reqS s q v)
          · exact request_barred w b s hb hi q hq v hg hv hn hw hz hok
          · exact request_grant w b s hb hi q hq v hg hv hn hw hz hok
      · exact request_wait w b s hb hi q hq v hg hn hw
    · exact request_claim w b s hb hi q hq v hg hn
  · exact request_gate w b s hb hi p v hg
end Go.Proofs.Qxb6500340a
