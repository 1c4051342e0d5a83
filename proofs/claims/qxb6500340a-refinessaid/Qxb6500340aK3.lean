import Derived.Test.Qxb6500340aK2
namespace Go.Proofs.Qxb6500340a
open Go.RowKit
set_option linter.unusedVariables false
set_option linter.unusedSimpArgs false

set_option maxHeartbeats 3200000 in
set_option maxRecDepth 100000 in
theorem shown_any (w : World) (b : Nat) (s : St) (hb : Gh w b (gof s)) (hi : Inv s) :
    Calls Try.prog 23 #[.pointer (some ⟨b, 0, none⟩)] w fun e w' => e = .returned (.string (shw s 4)) ∧ Fr [] w w' := by
  have hl := blk_lt hb
  have HB : Hid (Gh w b (gof s)) := hb
  have HI : Hid (Inv s) := hi
  clear hb hi
  go_enter Try.func23, Try.ntmps23
  go_wp2_with fail
  go_at_call 19
  refine (free_any _ b s HB.out HI.out.sm).mono ?_
  rintro e w1 ⟨rfl, hf1⟩
  have HB1 : Hid (Gh w1 b (gof s)) := hf1.keep HB.out (by simp)
  clear HB
  go_wp2_with fail
  go_at_call 11
  refine (text_any _ s.av HI.out.oka).mono ?_
  rintro e w2 ⟨rfl, hf2⟩
  have HB2 : Hid (Gh w2 b (gof s)) := hf2.keep (blk_alloc HB1.out _) (by simp)
  have F2 : Fr [] w w2 := (hf1.alloc _).trans hf2
  clear HB1 hf1 hf2
  go_wp2_with fail
  go_loopg [4, 5] 4 (fun g s4 s5 wx => ∃ k : Nat, k + g = 4 ∧ s5 = .int .i64 k ∧ s4 = .string (shw s k) ∧ Hid (Gh wx b (gof s)) ∧ Fr [] w wx)
  case atStart => exact ⟨0, by omega, rfl, rfl, HB2, F2⟩
  case round =>
    obtain ⟨k, hkg, rfl, rfl, HG, hfr⟩ := hrel
    clear HB2 F2
    cases gk with
    | zero =>
      have hk4 : ¬ ((k : Int) < 4) := by omega
      have hk : k = 4 := by omega
      go_wp2
      go_ret
      exact ⟨by rw [← hk]; rfl, hfr⟩
    | succ g1 =>
      have hk4 : (k : Int) < 4 := by omega
      have hk : k < 4 := by omega
      have ca := HG.out.ca hk
      have cb := HG.out.cb hk
      have ha := HG.out.ha hk
      have hb := HG.out.hb hk
      have lv := HG.out.li hk
      dsimp only [gof] at ca cb ha hb lv
      have z1 := shw_size s k
      have z2 := row_size (s.live k) (clm s k) (s.held k)
      go_wp2
      go_region_with (go_at_call 10; refine (row_any _ (s.live k) (clm s k) (s.held k) (HI.out.okc hk).1 (HI.out.okc hk).2).mono ?_; rintro e w2 ⟨rfl, hf2⟩)
      all_goals (go_wp2; go_roundg g1)
      all_goals first
        | omega
        | exact ⟨k + 1, by omega, by go_num, rfl, HG.out.drew.keep hf2 (by simp), hfr.drew.trans hf2⟩

end Go.Proofs.Qxb6500340a
