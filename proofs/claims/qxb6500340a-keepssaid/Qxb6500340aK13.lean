import Derived.Test.Qxb6500340aK11
import Derived.Test.Qxb6500340aK12
import Derived.Test.Qxb6500340aSc
namespace Go.Proofs.Qxb6500340a
open Go.RowKit
set_option linter.unusedVariables false
set_option linter.unusedSimpArgs false

theorem step_any (w : World) (x g : Nat) (s : St) (hx : BkI w x s) (hg : Gh w g (gof s)) (hi : Inv s) (hne : x ≠ g) (o : OpT) (hs : o.s.size ≤ maxLen) :
    Calls Try.prog 15 #[.pointer (some ⟨x, 0, none⟩), .pointer (some ⟨g, 0, none⟩), o.val] w fun e w' => e = .returned (.bool true) ∧ Kept w' x g ∧ Fr [x, g] w w' := by
  obtain ⟨k, a, b, c, t, u⟩ := o
  have ht : t.size ≤ 9223372036854775807 := by unfold maxLen at hs; exact hs
  unfold OpT.val
  dsimp only
  by_cases hl : k < 1
  · exact step_low w x g s hx hg hi hne k a b c t u ht hl
  by_cases hh : 9 < k
  · exact step_high w x g s hx hg hi hne k a b c t u ht hh
  rcases (by omega : k = 1 ∨ k = 2 ∨ k = 3 ∨ k = 4 ∨ k = 5 ∨ k = 6 ∨ k = 7 ∨ k = 8 ∨ k = 9) with rfl | rfl | rfl | rfl | rfl | rfl | rfl | rfl | rfl
  · by_cases hE : gateE s a false ⟨b, c⟩ = 0
    · obtain ⟨p, rfl, hp, hlp, hv⟩ := gate_ok hE
      exact step_declare_ok w x g s hx hg hi hne p hp b c t u ht hE hlp hv
    · exact step_declare_bad w x g s hx hg hi hne a b c t u ht hE
  · by_cases hE : fltE s a ⟨b, c⟩ = 0
    · obtain ⟨p, rfl, hp, hlp, hv, hn, ha, _⟩ := flt_ok hE
      cases hg2 : gOkB (reqS s p ⟨b, c⟩)
      · exact step_request_barred w x g s hx hg hi hne p hp b c t u ht hE hlp hv hn ha hg2
      · exact step_request_ok w x g s hx hg hi hne p hp b c t u ht hE hlp hv hn ha hg2
    · exact step_request_bad w x g s hx hg hi hne a b c t u ht hE
  · by_cases hE : relE s a ⟨b, c⟩ = 0
    · obtain ⟨p, rfl, hp, hlp, hv, hh⟩ := rel_ok hE
      exact step_release_ok w x g s hx hg hi hne p hp b c t u ht hE hlp hv hh
    · exact step_release_bad w x g s hx hg hi hne a b c t u ht hE
  · by_cases hE : gateE s a true zeroV = 0
    · obtain ⟨p, rfl, hp, hlp, hv⟩ := gate_ok hE
      exact step_finish_ok w x g s hx hg hi hne p hp b c t u ht hE hlp
    · exact step_finish_bad w x g s hx hg hi hne a b c t u ht hE
  · exact step_order w x g s hx hg hi hne a b c t u ht
  · exact step_avail w x g s hx hg hi hne a b c t u ht
  · exact step_show w x g s hx hg hi hne a b c t u ht
  · exact step_check w x g s hx hg hi hne a b c t u ht
  · exact step_drain w x g s hx hg hi hne a b c t u

theorem init_inv : Inv initS := by
  refine ⟨by decide, by decide, by decide, by decide, fun p hp => by simp [initS, zeroV], fun p hp _ => by simp [initS, zeroV], ?_⟩
  exact comp_all (fun p hp => rfl)
theorem gof_init : gof initS = ⟨fun _ => false, fun _ => zeroV, fun _ => zeroV⟩ := Gs.eq rfl (by funext q; rfl) rfl

set_option maxRecDepth 100000 in
set_option maxHeartbeats 3200000 in
theorem keeps_upto_some (w : World) (bs off len cap : Nat) (ops : Nat → OpT) (hlen : len ≤ maxLen) (hb : bs < w.heap.size) (hsc : Scr w bs off len ops) :
    Calls Try.prog 7 #[.slice (some ⟨bs, off, none⟩) len cap] w fun e w' => e = .returned (.int .i64 (-1)) ∧ Fr [] w w' := by
  have hl63 : len ≤ 9223372036854775807 := by unfold maxLen at hlen; omega
  have HS : Hid (Scr w bs off len ops) := hsc
  clear hsc hlen
  go_enter Try.func7, Try.ntmps7
  go_wp2_with fail
  go_at_call 13
  refine (new_any _).mono ?_
  rintro e w1 ⟨x, hx, rfl, hb1, hf1⟩
  have HX1 : Hid (BkI w1 x initS) := hb1
  have hxl := blk_lt hb1
  clear hb1
  go_wp2_with fail
  have G2 : Hid (Gh (w1.alloc (.cells (ghC ⟨fun _ => false, fun _ => zeroV, fun _ => zeroV⟩) 37)) w1.heap.size (gof initS)) := by
    rw [gof_init]; exact blk_new _ _
  have X2 : Hid (BkI (w1.alloc (.cells (ghC ⟨fun _ => false, fun _ => zeroV, fun _ => zeroV⟩) 37)) x initS) := blk_alloc HX1.out _
  have F2 : Hid (Fr [] w (w1.alloc (.cells (ghC ⟨fun _ => false, fun _ => zeroV, fun _ => zeroV⟩) 37))) := hf1.alloc _
  have hgl : w.heap.size ≤ w1.heap.size := hf1.size
  generalize hW : w1.alloc (.cells _ 37) = W2
  have hW' : w1.alloc (.cells (ghC ⟨fun _ => false, fun _ => zeroV, fun _ => zeroV⟩) 37) = W2 := hW
  rw [hW'] at G2 X2 F2
  clear hW hW' HX1 hf1
  generalize w1.heap.size = g at G2 hxl hgl ⊢
  have hne : x ≠ g := by omega
  go_at_call 6
  refine (facts_any _).mono ?_
  rintro e w3 ⟨rfl, hf3⟩
  go_wp2_with fail
  go_at_call 14
  refine (sound_any _ x g _ (hf3.keep X2.out (by simp)) (hf3.keep G2.out (by simp)) init_inv).mono ?_
  rintro e w4 ⟨rfl, hf4⟩
  have X4 : Hid (BkI w4 x initS) := hf4.keep (hf3.keep X2.out (by simp)) (by simp)
  have G4 : Hid (Gh w4 g (gof initS)) := hf4.keep (hf3.keep G2.out (by simp)) (by simp)
  have F4 : Hid (Fr [] w w4) := (F2.out.trans hf3).trans hf4
  clear X2 G2 F2 hf3 hf4
  go_wp2_with fail
  go_loopw [5] (fun i wr => ∃ (k : Nat) (s : St), i = .int .i64 k ∧ k ≤ len ∧ Hid (Inv s) ∧ Hid (BkI wr x s) ∧ Hid (Gh wr g (gof s)) ∧ Fr [] w wr) (fun i _ => len - (intOf i).toNat)
  case atStart => exact ⟨0, initS, rfl, by omega, init_inv, X4, G4, F4.out⟩
  case round =>
    clear X4 G4 F4
    obtain ⟨k, s, rfl, hk, HI, X, G, hfr⟩ := hrel
    by_cases hlt : k < len
    · by_cases hq : (k : Int) < 4398046511104
      · have hsz := (HS.out k hlt).1
        obtain ⟨e0, e1, e2, e3, e4, e5⟩ := HS.out.cells hb hfr hlt
        go_wp2_with fail
        go_at_call 15
        refine (step_any wr x g s X.out G.out HI.out hne (ops k) hsz).mono ?_
        rintro e w5 ⟨rfl, ⟨s5, i5, x5, g5⟩, hf5⟩
        have I5 : Hid (Inv s5) := i5
        have X5 : Hid (BkI w5 x s5) := x5
        have G5 : Hid (Gh w5 g (gof s5)) := g5
        have F5 : Fr [] w w5 := hfr.narrow hf5 (by simp; omega)
        clear i5 x5 g5 hf5 X G HI hfr e0 e1 e2 e3 e4 e5
        go_wp2_with fail
        go_at_call 14
        refine (sound_any _ x g _ X5.out G5.out I5.out).mono ?_
        rintro e w6 ⟨rfl, hf6⟩
        go_wp2
        go_roundw
        case rel => exact ⟨k + 1, s5, by go_num, by omega, I5, hf6.keep X5.out (by simp), hf6.keep G5.out (by simp), F5.trans hf6⟩
        case measure => simp [intOf]; omega
      · go_wp2
        go_ret
        exact ⟨rfl, hfr⟩
    · have hk2 : k = len := by omega
      subst hk2
      go_wp2
      go_ret
      exact ⟨rfl, hfr⟩

set_option maxRecDepth 100000 in
set_option maxHeartbeats 3200000 in
theorem keeps_upto_nil (a0 : Option Addr) (cap : Nat) (w : World) :
    Calls Try.prog 7 #[.slice a0 0 cap] w fun e w' => e = .returned (.int .i64 (-1)) ∧ Fr [] w w' := by
  go_enter Try.func7, Try.ntmps7
  go_wp2_with fail
  go_at_call 13
  refine (new_any _).mono ?_
  rintro e w1 ⟨x, hx, rfl, hb1, hf1⟩
  have HX1 : Hid (BkI w1 x initS) := hb1
  have hxl := blk_lt hb1
  clear hb1
  go_wp2_with fail
  have G2 : Hid (Gh (w1.alloc (.cells (ghC ⟨fun _ => false, fun _ => zeroV, fun _ => zeroV⟩) 37)) w1.heap.size (gof initS)) := by
    rw [gof_init]; exact blk_new _ _
  have X2 : Hid (BkI (w1.alloc (.cells (ghC ⟨fun _ => false, fun _ => zeroV, fun _ => zeroV⟩) 37)) x initS) := blk_alloc HX1.out _
  have F2 : Hid (Fr [] w (w1.alloc (.cells (ghC ⟨fun _ => false, fun _ => zeroV, fun _ => zeroV⟩) 37))) := hf1.alloc _
  have hgl : w.heap.size ≤ w1.heap.size := hf1.size
  generalize hW : w1.alloc (.cells _ 37) = W2
  have hW' : w1.alloc (.cells (ghC ⟨fun _ => false, fun _ => zeroV, fun _ => zeroV⟩) 37) = W2 := hW
  rw [hW'] at G2 X2 F2
  clear hW hW' HX1 hf1
  generalize w1.heap.size = g at G2 hxl hgl ⊢
  have hne : x ≠ g := by omega
  go_at_call 6
  refine (facts_any _).mono ?_
  rintro e w3 ⟨rfl, hf3⟩
  go_wp2_with fail
  go_at_call 14
  refine (sound_any _ x g _ (hf3.keep X2.out (by simp)) (hf3.keep G2.out (by simp)) init_inv).mono ?_
  rintro e w4 ⟨rfl, hf4⟩
  have X4 : Hid (BkI w4 x initS) := hf4.keep (hf3.keep X2.out (by simp)) (by simp)
  have G4 : Hid (Gh w4 g (gof initS)) := hf4.keep (hf3.keep G2.out (by simp)) (by simp)
  have F4 : Hid (Fr [] w w4) := (F2.out.trans hf3).trans hf4
  clear X2 G2 F2 hf3 hf4
  go_wp2_with fail
  go_loopw [5] (fun i wr => i = .int .i64 0 ∧ Fr [] w wr) (fun _ _ => 0)
  case atStart => exact ⟨rfl, F4.out⟩
  case round =>
    obtain ⟨rfl, hfr⟩ := hrel
    go_wp2
    go_ret
    exact ⟨rfl, hfr⟩

theorem keeps_upto (w : World) (v : Value) (h : ScrV w v) : Calls Try.prog 7 #[v] w fun e w' => e = .returned (.int .i64 (-1)) ∧ Fr [] w w' := by
  rcases h with ⟨a0, cap, rfl⟩ | ⟨bs, off, len, cap, ops, rfl, h1, h2, h3⟩
  · exact keeps_upto_nil a0 cap w
  · exact keeps_upto_some w bs off len cap ops h1 h2 h3

set_option maxHeartbeats 400000 in
theorem keeps_walk (w : World) (v : Value) (h : ScrV w v) : Calls Try.prog 3 #[v] w fun e w' => e = .returned (.bool true) ∧ Fr [] w w' := by
  have H : Hid (ScrV w v) := h
  clear h
  go_enter Try.func3, Try.ntmps3
  go_wp2_with (go_at_call 7; refine (keeps_upto _ _ H.out).mono ?_; rintro e w1 ⟨rfl, hf⟩)
  go_ret
  exact ⟨rfl, hf⟩
end Go.Proofs.Qxb6500340a
