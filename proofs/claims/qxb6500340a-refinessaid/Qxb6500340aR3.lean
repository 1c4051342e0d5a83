import Derived.Test.Qxb6500340aR1
import Derived.Test.Qxb6500340aR2
import Derived.BigRegion
namespace Go.Proofs.Qxb6500340a
open Go.RowKit
set_option linter.unusedVariables false
set_option linter.unusedSimpArgs false

theorem gof_declB {s : St} (h : Ib s) {p : Nat} (hp : p < 4) (hl : s.live p = false) (v : Vc) : gof (declS s p v) = ⟨upd s.live p true, upd (clm s) p v, upd s.held p zeroV⟩ := by
  obtain ⟨i1, i2, _, _⟩ := h.idle p hp hl
  refine Gs.eq rfl ?_ ?_
  · funext q; show clm (declS s p v) q = _; unfold clm; simp only [declS, upd]; split
    · rename_i e; subst e; exact Vc.eq (by simp [Vc.add, i1]) (by simp [Vc.add, i2])
    · rfl
  · show s.held = _
    exact (upd_self _ _ _ (Vc.eq i1.symm i2.symm)).symm

set_option maxHeartbeats 3200000 in
set_option maxRecDepth 100000 in
theorem mset_any (w : World) (b : Nat) (s t : St) (hb : Mh w b (gof s)) (p : Int) (lv : Bool) (v : Vc) (ht : gateE s p (!lv) v = 0 → gof t = ⟨upd s.live p.toNat lv, upd (clm s) p.toNat v, upd s.held p.toNat zeroV⟩) (he : gateE s p (!lv) v ≠ 0 → t = s) :
    Calls Try.prog 51 #[.pointer (some ⟨b, 0, none⟩), .int .i64 p, .bool lv, .agg #[.int .i64 v.a, .int .i64 v.b]] w fun e w' => e = .returned (.int .i64 (gateE s p (!lv) v)) ∧ Mh w' b (gof t) ∧ Fr [b] w w' := by
  have HB : Hid (Mh w b (gof s)) := hb
  have hl := blk_lt hb
  clear hb
  by_cases hg : gateE s p (!lv) v = 0
  · obtain ⟨q, rfl, hq, hlq, hv⟩ := gate_ok hg
    have HT : Hid (gof t = ⟨upd s.live q lv, upd (clm s) q v, upd s.held q zeroV⟩) := by
      have := ht hg; rw [Int.toNat_natCast] at this; exact this
    have HG : Hid (gateE s q (!lv) v = 0) := hg
    have hq4 : (q : Int) < 4 := by omega
    clear ht he hg hlq hv
    go_enter Try.func51, Try.ntmps51
    go_wp2_with fail
    go_at_call 52
    refine (mat_any _ b s (Mh.alloc HB.out _) q (!lv) v).mono ?_
    rintro e w1 ⟨rfl, hf1⟩
    rw [HG.out]
    have V1 : Hid (Vb w1 w.heap.size v) := hf1.keep (blk_new _ _) (by simp)
    have X1 : Hid (Mh w1 b (gof s)) := hf1.keep (Mh.alloc HB.out _) (by simp)
    have F1 : Hid (Fr [b] w w1) := (((Fr.refl _ _).alloc _).trans hf1).widen
    clear hf1
    have v0 := V1.out.a
    have v1 := V1.out.b
    have li := X1.out.li hq
    have ca := X1.out.ca hq
    have cb := X1.out.cb hq
    have ha := X1.out.ha hq
    have hb := X1.out.hb hq
    have f0 := X1.out.fr q
    have f1 := X1.out.fr (4 + q * 2)
    have f2 := X1.out.fr (4 + q * 2 + 1)
    have f3 := X1.out.fr (12 + q * 2)
    have f4 := X1.out.fr (12 + q * 2 + 1)
    dsimp only [gof] at li ca cb ha hb
    go_wp2
    go_region
    go_wp2
    go_ret
    refine ⟨ret_int HG.out.symm, ?_, ?_⟩
    · rw [HT.out]
      exact ((X1.out.setLi hq lv).setC hq v).setH hq zeroV
    · exact (((((F1.out.setCell (Or.inl (by simp)) _).setCell (Or.inl (by simp)) _).setCell (Or.inl (by simp)) _).setCell (Or.inl (by simp)) _).setCell (Or.inl (by simp)) _).drew
  · have HE := he hg
    have HEQ : Hid (t = s) := HE
    have hg' : (gateE s p (!lv) v == 0) = false := beq_eq_false_iff_ne.2 hg
    clear ht he HE
    go_enter Try.func51, Try.ntmps51
    go_wp2_with fail
    go_at_call 52
    refine (mat_any _ b s (Mh.alloc HB.out _) p (!lv) v).mono ?_
    rintro e w1 ⟨rfl, hf1⟩
    go_wp2
    go_ret
    exact ⟨rfl, by rw [HEQ.out]; exact hf1.keep (Mh.alloc HB.out _) (by simp), (((Fr.refl _ _).alloc _).trans hf1).widen⟩

set_option maxHeartbeats 800000 in
theorem mdeclare_any (w : World) (b : Nat) (s : St) (hb : Mh w b (gof s)) (hi : Ib s) (p : Int) (v : Vc) :
    Calls Try.prog 41 #[.pointer (some ⟨b, 0, none⟩), .int .i64 p, .agg #[.int .i64 v.a, .int .i64 v.b]] w fun e w' => e = .returned (.int .i64 (gateE s p false v)) ∧ Mh w' b (gof (declR s p v)) ∧ Fr [b] w w' := by
  have HB : Hid (Mh w b (gof s)) := hb
  have H1 : Hid (gateE s p false v = 0 → gof (declR s p v) = ⟨upd s.live p.toNat true, upd (clm s) p.toNat v, upd s.held p.toNat zeroV⟩) := fun hg => by
    obtain ⟨q, rfl, hq, hlq, hv⟩ := gate_ok hg
    unfold declR; rw [if_pos hg, Int.toNat_natCast]; exact gof_declB hi hq hlq v
  have H2 : Hid (gateE s p false v ≠ 0 → declR s p v = s) := fun hg => by unfold declR; rw [if_neg hg]
  clear hb hi
  go_enter Try.func41, Try.ntmps41
  go_wp2_with fail
  go_at_call 51
  refine (mset_any _ b s (declR s p v) (Mh.alloc HB.out _) p true v H1.out H2.out).mono ?_
  rintro e w1 ⟨rfl, hm, hf⟩
  have HM : Hid (Mh w1 b (gof (declR s p v))) := hm
  clear hm
  go_wp2
  go_ret
  exact ⟨rfl, HM.out, ((Fr.refl _ _).alloc _).widen.trans hf⟩

set_option maxHeartbeats 800000 in
theorem mfinish_any (w : World) (b : Nat) (s : St) (hb : Mh w b (gof s)) (p : Int) :
    Calls Try.prog 44 #[.pointer (some ⟨b, 0, none⟩), .int .i64 p] w fun e w' => e = .returned (.int .i64 (gateE s p true zeroV)) ∧ Mh w' b (gof (finR s p)) ∧ Fr [b] w w' := by
  have HB : Hid (Mh w b (gof s)) := hb
  have H1 : Hid (gateE s p true zeroV = 0 → gof (finR s p) = ⟨upd s.live p.toNat false, upd (clm s) p.toNat zeroV, upd s.held p.toNat zeroV⟩) := fun hg => by
    unfold finR; rw [if_pos hg]; exact gof_fin s _
  have H2 : Hid (gateE s p true zeroV ≠ 0 → finR s p = s) := fun hg => by unfold finR; rw [if_neg hg]
  clear hb
  go_enter Try.func44, Try.ntmps44
  go_wp2_with fail
  go_at_call 51
  refine (mset_any _ b s (finR s p) HB.out p false zeroV H1.out H2.out).mono ?_
  rintro e w1 ⟨rfl, hm, hf⟩
  have HM : Hid (Mh w1 b (gof (finR s p))) := hm
  clear hm
  go_wp2
  go_ret
  exact ⟨rfl, HM.out, hf⟩

end Go.Proofs.Qxb6500340a
