import Derived.Test.Qxb6500340aW6
namespace Go.Proofs.Qxb6500340a
open Go.RowKit
set_option linter.unusedVariables false
set_option linter.unusedSimpArgs false

theorem gOkB_iff {s : St} : gOkB s = true ↔ gOk s := by
  unfold gOkB gOk
  simp only [Bool.and_eq_true, beq_iff_eq]
  constructor
  · rintro ⟨⟨⟨h0, h1⟩, h2⟩, h3⟩ p hp
    rcases lt4 hp with rfl | rfl | rfl | rfl <;> assumption
  · intro h
    exact ⟨⟨⟨h 0 (by omega), h 1 (by omega)⟩, h 2 (by omega)⟩, h 3 (by omega)⟩
theorem Inv.bd {s : St} (h : Inv s) : Bd s := by
  have h0 := h.slot 0 (by omega)
  have h1 := h.slot 1 (by omega)
  have h2 := h.slot 2 (by omega)
  have h3 := h.slot 3 (by omega)
  have ha := h.ava; have hb := h.avb; have hc := h.suma; have hd := h.sumb
  refine ⟨?_, fun p hp => ?_, fun p hp => ?_⟩
  · omega
  · have := h.slot p hp; omega
  · have := h.slot p hp; omega
theorem Inv.gb {s : St} (h : Inv s) : gOkB s = true := gOkB_iff.2 h.gok
/-- The bank with its certificate. -/
def BkI (w : World) (b : Nat) (s : St) : Prop := Bk w b s (ordT (run s 4).ord)

theorem cnt_ok {v : Vc} (h : cntB v.a v.b = true) : okV v := by
  unfold cntB at h; simp only [decide_eq_true_eq] at h; exact h
theorem gate_ok {s : St} {p : Int} {lv : Bool} {v : Vc} (h : gateE s p lv v = 0) : ∃ q : Nat, p = q ∧ q < 4 ∧ s.live q = lv ∧ okV v := by
  unfold gateE at h
  split at h
  · rename_i hp
    split at h
    · rename_i hl
      split at h
      · rename_i hc
        refine ⟨p.toNat, by omega, by omega, ?_, cnt_ok hc⟩
        exact hl
      · omega
    · omega
  · omega

set_option maxHeartbeats 3200000 in
set_option maxRecDepth 100000 in
theorem declare_any (w : World) (b : Nat) (s : St) (hb : BkI w b s) (hi : Inv s) (p : Int) (v : Vc) :
    Calls Try.prog 37 #[.pointer (some ⟨b, 0, none⟩), .int .i64 p, .agg #[.int .i64 v.a, .int .i64 v.b]] w fun e w' =>
      e = .returned (.int .i64 (gateE s p false v)) ∧ BkI w' b (if gateE s p false v = 0 then declS s p.toNat v else s) ∧ Fr [b] w w' := by
  have hl := blk_lt hb
  have HB : Hid (Bk w b s (ordT (run s 4).ord)) := hb
  by_cases hg : gateE s p false v = 0
  · obtain ⟨q, rfl, hq, hlq, hv⟩ := gate_ok hg
    rw [if_pos hg]
    have hi' := hi.decl hq hlq hv
    have HI : Hid (Inv (declS s q v)) := hi'
    have hq4 : (q : Int) < 4 := by omega
    rw [show ((q : Int)).toNat = q from by simp]
    clear hi hi' hb
    go_enter Try.func37, Try.ntmps37
    go_wp2_with fail
    go_at_call 48
    refine (gate_any _ b s _ (blk_alloc HB.out _) _ _ _).mono ?_
    rintro e w1 ⟨rfl, hf1⟩
    rw [hg]
    have c5 := hf1.keep (blk_new _ _) (by simp)
    have X1 : Hid (Bk w1 b s (ordT (run s 4).ord)) := hf1.keep (blk_alloc HB.out _) (by simp)
    have F1 : Fr [b] w w1 := (((Fr.refl _ _).alloc _).trans hf1).widen
    have v0 : w1.cell? ⟨w.heap.size, 0, none⟩ = some (.int .i64 v.a) := blk_cell c5 0
    have v1 : w1.cell? ⟨w.heap.size, 1, none⟩ = some (.int .i64 v.b) := blk_cell c5 1
    clear c5 hf1
    have cl := X1.out.li hq
    have fl := X1.out.fr (2 + q)
    have ca := X1.out.na hq
    have fa := X1.out.fr (6 + q * 2)
    have cb := X1.out.nb hq
    have fb := X1.out.fr (6 + q * 2 + 1)
    go_wp2
    go_region
    go_wp2_with fail
    have X2 : Hid (Bk (((w1.setCell ⟨b, 2 + q, none⟩ (.bool true)).setCell ⟨b, 6 + q * 2, none⟩ (.int .i64 v.a)).setCell ⟨b, 6 + q * 2 + 1, none⟩ (.int .i64 v.b)).drew b (declS s q v) (ordT (run s 4).ord)) := by
      rw [← decl_eq]; exact ((X1.out.setLi hq true).setNa hq v.a).setNb hq v.b
    have F2 : Fr [b] w (((w1.setCell ⟨b, 2 + q, none⟩ (.bool true)).setCell ⟨b, 6 + q * 2, none⟩ (.int .i64 v.a)).setCell ⟨b, 6 + q * 2 + 1, none⟩ (.int .i64 v.b)).drew :=
      (((F1.setCell (Or.inl (by simp)) _).setCell (Or.inl (by simp)) _).setCell (Or.inl (by simp)) _).drew
    generalize (((w1.setCell ⟨b, 2 + q, none⟩ (.bool true)).setCell ⟨b, 6 + q * 2, none⟩ (.int .i64 v.a)).setCell ⟨b, 6 + q * 2 + 1, none⟩ (.int .i64 v.b)).drew = W2 at X2 F2 ⊢
    clear X1 F1 v0 v1 cl fl ca fa cb fb
    go_at_call 49
    refine (greedy_any W2 b _ _ X2.out HI.out.bd).mono ?_
    rintro e w2 ⟨rfl, hf2⟩
    rw [HI.out.gb, if_pos rfl]
    have X3 : Hid (Bk w2 b (declS s q v) (ordT (run s 4).ord)) := hf2.keep X2.out (by simp)
    have F3 : Fr [b] w w2 := F2.trans hf2.widen
    clear X2 F2 hf2
    have ce := X3.out.ce
    have fe := X3.out.fr 22
    go_wp2
    go_ret
    exact ⟨ret_int hg.symm, X3.out.setCe _, F3.setCell (Or.inl (by simp)) _⟩
  · rw [if_neg hg]
    have hg' : (gateE s p false v == 0) = false := beq_eq_false_iff_ne.2 hg
    clear hi hb
    go_enter Try.func37, Try.ntmps37
    go_wp2_with fail
    go_at_call 48
    refine (gate_any _ b s _ (blk_alloc HB.out _) _ _ _).mono ?_
    rintro e w1 ⟨rfl, hf1⟩
    go_wp2
    go_ret
    exact ⟨rfl, hf1.keep (blk_alloc HB.out _) (by simp), (((Fr.refl _ _).alloc _).trans hf1).widen⟩

set_option maxHeartbeats 3200000 in
set_option maxRecDepth 100000 in
theorem finish_any (w : World) (b : Nat) (s : St) (hb : BkI w b s) (hi : Inv s) (p : Int) :
    Calls Try.prog 36 #[.pointer (some ⟨b, 0, none⟩), .int .i64 p] w fun e w' =>
      e = .returned (.int .i64 (gateE s p true zeroV)) ∧ BkI w' b (if gateE s p true zeroV = 0 then finS s p.toNat else s) ∧ Fr [b] w w' := by
  have hl := blk_lt hb
  have HB : Hid (Bk w b s (ordT (run s 4).ord)) := hb
  by_cases hg : gateE s p true zeroV = 0
  · obtain ⟨q, rfl, hq, hlq, hv⟩ := gate_ok hg
    rw [if_pos hg]
    have hi' := hi.fin hq hlq
    have HI : Hid (Inv (finS s q)) := hi'
    have hq4 : (q : Int) < 4 := by omega
    have hh := hi.bd.held q hq
    have HD : Hid (Bd s) := hi.bd
    rw [show ((q : Int)).toNat = q from by simp]
    clear hi hi' hb
    go_enter Try.func36, Try.ntmps36
    go_wp2_with fail
    go_at_call 48
    refine (gate_any _ b s _ HB.out _ _ zeroV).mono ?_
    rintro e w1 ⟨rfl, hf1⟩
    rw [hg]
    have X1 : Hid (Bk w1 b s (ordT (run s 4).ord)) := hf1.keep HB.out (by simp)
    have F1 : Fr [b] w w1 := hf1.widen
    clear hf1
    have ca := X1.out.ha hq
    have cb := X1.out.hb hq
    go_wp2_with fail
    go_at_call 50
    refine (give_any _ b s _ X1.out HD.out q hq (s.held q) hh).mono ?_
    rintro e w2 ⟨rfl, hx2, hf2⟩
    have X2 : Hid (Bk w2 b (giveS s q (s.held q)) (ordT (run s 4).ord)) := hx2
    have F2 : Fr [b] w w2 := F1.trans hf2
    clear X1 F1 ca cb hx2 hf2
    have cl := X2.out.li hq
    have fl := X2.out.fr (2 + q)
    have ca := X2.out.na hq
    have fa := X2.out.fr (6 + q * 2)
    have cb := X2.out.nb hq
    have fb := X2.out.fr (6 + q * 2 + 1)
    go_wp2
    go_region
    go_wp2_with fail
    have X3 : Hid (Bk (((w2.setCell ⟨b, 2 + q, none⟩ (.bool false)).setCell ⟨b, 6 + q * 2, none⟩ (.int .i64 0)).setCell ⟨b, 6 + q * 2 + 1, none⟩ (.int .i64 0)).drew b (finS s q) (ordT (run s 4).ord)) := by
      rw [← fin_eq]; exact ((X2.out.setLi hq false).setNa hq 0).setNb hq 0
    have F3 : Fr [b] w (((w2.setCell ⟨b, 2 + q, none⟩ (.bool false)).setCell ⟨b, 6 + q * 2, none⟩ (.int .i64 0)).setCell ⟨b, 6 + q * 2 + 1, none⟩ (.int .i64 0)).drew :=
      (((F2.setCell (Or.inl (by simp)) _).setCell (Or.inl (by simp)) _).setCell (Or.inl (by simp)) _).drew
    generalize (((w2.setCell ⟨b, 2 + q, none⟩ (.bool false)).setCell ⟨b, 6 + q * 2, none⟩ (.int .i64 0)).setCell ⟨b, 6 + q * 2 + 1, none⟩ (.int .i64 0)).drew = W3 at X3 F3 ⊢
    clear X2 F2 cl fl ca fa cb fb
    go_at_call 49
    refine (greedy_any W3 b _ _ X3.out HI.out.bd).mono ?_
    rintro e w4 ⟨rfl, hf4⟩
    rw [HI.out.gb, if_pos rfl]
    have X4 : Hid (Bk w4 b (finS s q) (ordT (run s 4).ord)) := hf4.keep X3.out (by simp)
    have F4 : Fr [b] w w4 := F3.trans hf4.widen
    clear X3 F3 hf4
    have ce := X4.out.ce
    have fe := X4.out.fr 22
    go_wp2
    go_ret
    exact ⟨ret_int hg.symm, X4.out.setCe _, F4.setCell (Or.inl (by simp)) _⟩
  · rw [if_neg hg]
    have hg' : (gateE s p true zeroV == 0) = false := beq_eq_false_iff_ne.2 hg
    clear hi hb
    go_enter Try.func36, Try.ntmps36
    go_wp2_with fail
    go_at_call 48
    refine (gate_any _ b s _ HB.out _ _ zeroV).mono ?_
    rintro e w1 ⟨rfl, hf1⟩
    go_wp2
    go_ret
    exact ⟨rfl, hf1.keep HB.out (by simp), hf1.widen⟩

/-- Release's answer. -/
def relE (s : St) (p : Int) (v : Vc) : Int := if gateE s p true v = 0 then (if leB v (s.held p.toNat) then 0 else 7) else gateE s p true v

set_option maxHeartbeats 3200000 in
set_option maxRecDepth 100000 in
theorem release_any (w : World) (b : Nat) (s : St) (hb : BkI w b s) (hi : Inv s) (p : Int) (v : Vc) :
    Calls Try.prog 38 #[.pointer (some ⟨b, 0, none⟩), .int .i64 p, .agg #[.int .i64 v.a, .int .i64 v.b]] w fun e w' =>
      e = .returned (.int .i64 (relE s p v)) ∧ BkI w' b (if relE s p v = 0 then giveS s p.toNat v else s) ∧ Fr [b] w w' := by
  have hl := blk_lt hb
  have HB : Hid (Bk w b s (ordT (run s 4).ord)) := hb
  by_cases hg : gateE s p true v = 0
  · obtain ⟨q, rfl, hq, hlq, hv⟩ := gate_ok hg
    have hq4 : (q : Int) < 4 := by omega
    have HD : Hid (Bd s) := hi.bd
    unfold relE
    rw [if_pos hg]
    rw [show ((q : Int)).toNat = q from by simp]
    have ix0 := fun W => ix_vec0 W v.a v.b
    have ix1 := fun W => ix_vec1 W v.a v.b
    by_cases ha : v.a ≤ (s.held q).a
    · by_cases hbb : v.b ≤ (s.held q).b
      · have hle : leB v (s.held q) = true := leB_iff.2 ⟨ha, hbb⟩
        have HI : Hid (Inv (giveS s q v)) := hi.give hq hlq ⟨hv.1, hv.2.2.1⟩ ⟨ha, hbb⟩
        have hv' : -100 ≤ v.a ∧ v.a ≤ 100 ∧ -100 ≤ v.b ∧ v.b ≤ 100 := by have := hv; unfold okV at this; omega
        have HV : Hid (-100 ≤ v.a ∧ v.a ≤ 100 ∧ -100 ≤ v.b ∧ v.b ≤ 100) := hv'
        have da : decide ((s.held q).a < v.a) = false := decide_eq_false (by omega)
        have db : decide ((s.held q).b < v.b) = false := decide_eq_false (by omega)
        rw [hle]
        simp only [if_true]
        clear hi hb hv'
        go_enter Try.func38, Try.ntmps38
        go_wp2_with fail
        go_at_call 48
        refine (gate_any _ b s _ (blk_alloc HB.out _) _ _ _).mono ?_
        rintro e w1 ⟨rfl, hf1⟩
        rw [hg]
        have c5 := hf1.keep (blk_new _ _) (by simp)
        have X1 : Hid (Bk w1 b s (ordT (run s 4).ord)) := hf1.keep (blk_alloc HB.out _) (by simp)
        have F1 : Fr [b] w w1 := (((Fr.refl _ _).alloc _).trans hf1).widen
        have v0 : w1.cell? ⟨w.heap.size, 0, none⟩ = some (.int .i64 v.a) := blk_cell c5 0
        have v1 : w1.cell? ⟨w.heap.size, 1, none⟩ = some (.int .i64 v.b) := blk_cell c5 1
        clear c5 hf1
        have ca := X1.out.ha hq
        have cb := X1.out.hb hq
        go_wp2
        refine wp_loop_rounds 3 ?_
        rw [rounds_succ]
        go_wp2
        rw [rounds_succ]
        go_wp2
        rw [rounds_succ]
        go_wp2_with fail
        go_at_call 50
        refine (give_any _ b s _ X1.out HD.out q hq v HV.out).mono ?_
        rintro e w2 ⟨rfl, hx2, hf2⟩
        have X2 : Hid (Bk w2 b (giveS s q v) (ordT (run s 4).ord)) := hx2
        have F2 : Fr [b] w w2 := F1.trans hf2
        clear X1 F1 ca cb hx2 hf2 v0 v1
        go_wp2_with fail
        go_at_call 49
        refine (greedy_any w2 b _ _ X2.out HI.out.bd).mono ?_
        rintro e w4 ⟨rfl, hf4⟩
        rw [HI.out.gb, if_pos rfl]
        have X4 : Hid (Bk w4 b (giveS s q v) (ordT (run s 4).ord)) := hf4.keep X2.out (by simp)
        have F4 : Fr [b] w w4 := F2.trans hf4.widen
        clear X2 F2 hf4
        have ce := X4.out.ce
        have fe := X4.out.fr 22
        go_wp2
        go_ret
        exact ⟨rfl, X4.out.setCe _, F4.setCell (Or.inl (by simp)) _⟩
      · have hle : leB v (s.held q) = false := leB_no.2 (fun h => hbb h.2)
        have da : decide ((s.held q).a < v.a) = false := decide_eq_false (by omega)
        have db : (s.held q).b < v.b := by omega
        rw [hle]
        rw [if_neg (by simp), if_neg (by simp)]
        clear hi hb
        go_enter Try.func38, Try.ntmps38
        go_wp2_with fail
        go_at_call 48
        refine (gate_any _ b s _ (blk_alloc HB.out _) _ _ _).mono ?_
        rintro e w1 ⟨rfl, hf1⟩
        rw [hg]
        have c5 := hf1.keep (blk_new _ _) (by simp)
        have X1 : Hid (Bk w1 b s (ordT (run s 4).ord)) := hf1.keep (blk_alloc HB.out _) (by simp)
        have F1 : Fr [b] w w1 := (((Fr.refl _ _).alloc _).trans hf1).widen
        have v0 : w1.cell? ⟨w.heap.size, 0, none⟩ = some (.int .i64 v.a) := blk_cell c5 0
        have v1 : w1.cell? ⟨w.heap.size, 1, none⟩ = some (.int .i64 v.b) := blk_cell c5 1
        clear c5 hf1
        have ca := X1.out.ha hq
        have cb := X1.out.hb hq
        go_wp2
        go_rounds 2
        go_ret
        exact ⟨rfl, X1.out, F1⟩
    · have hle : leB v (s.held q) = false := leB_no.2 (fun h => ha h.1)
      have da : (s.held q).a < v.a := by omega
      rw [hle]
      rw [if_neg (by simp), if_neg (by simp)]
      clear hi hb
      go_enter Try.func38, Try.ntmps38
      go_wp2_with fail
      go_at_call 48
      refine (gate_any _ b s _ (blk_alloc HB.out _) _ _ _).mono ?_
      rintro e w1 ⟨rfl, hf1⟩
      rw [hg]
      have c5 := hf1.keep (blk_new _ _) (by simp)
      have X1 : Hid (Bk w1 b s (ordT (run s 4).ord)) := hf1.keep (blk_alloc HB.out _) (by simp)
      have F1 : Fr [b] w w1 := (((Fr.refl _ _).alloc _).trans hf1).widen
      have v0 : w1.cell? ⟨w.heap.size, 0, none⟩ = some (.int .i64 v.a) := blk_cell c5 0
      have v1 : w1.cell? ⟨w.heap.size, 1, none⟩ = some (.int .i64 v.b) := blk_cell c5 1
      clear c5 hf1
      have ca := X1.out.ha hq
      go_wp2
      go_rounds 1
      go_ret
      exact ⟨rfl, X1.out, F1⟩
  · unfold relE
    rw [if_neg hg, if_neg hg]
    have hg' : (gateE s p true v != 0) = true := by rw [bne_iff_ne]; exact hg
    clear hi hb
    go_enter Try.func38, Try.ntmps38
    go_wp2_with fail
    go_at_call 48
    refine (gate_any _ b s _ (blk_alloc HB.out _) _ _ _).mono ?_
    rintro e w1 ⟨rfl, hf1⟩
    go_wp2
    go_ret
    exact ⟨rfl, hf1.keep (blk_alloc HB.out _) (by simp), (((Fr.refl _ _).alloc _).trans hf1).widen⟩
end Go.Proofs.Qxb6500340a
