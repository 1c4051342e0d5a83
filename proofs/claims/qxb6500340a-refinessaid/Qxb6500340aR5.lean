import Derived.Test.Qxb6500340aR4
import Derived.Deep.CutRange
namespace Go.Proofs.Qxb6500340a
open Go.RowKit
set_option linter.unusedVariables false
set_option linter.unusedSimpArgs false

theorem dig_cons {p : Nat} (hp : p < 4) (l : List Nat) : (⟨#[48, 49, 50, 51]⟩ : ByteArray).extract p (p + 1) ++ ordT l = ordT (p :: l) := by
  have hx : (⟨#[48, 49, 50, 51]⟩ : ByteArray).extract p (p + 1) = ⟨#[UInt8.ofNat (48 + p)]⟩ := by
    rcases lt4 hp with rfl | rfl | rfl | rfl <;> rfl
  rw [hx]
  apply ByteArray.ext
  simp [ordT, dgs]
theorem fin_gate {s : St} {p : Nat} (hp : p < 4) (hl : s.live p = true) : finR s p = finS s p := by
  have : gateE s p true zeroV = 0 := by rw [gateE_in hp, if_pos hl]; decide
  unfold finR; rw [if_pos this, Int.toNat_natCast]

set_option maxHeartbeats 6400000 in
set_option maxRecDepth 100000 in
theorem morder_step (N : Nat) (ih : Hid (∀ (s : St) (w : World) (b : Nat), nlive s = N → Mh w b (gof s) → Ib s → Calls Try.prog 45 #[.pointer (some ⟨b, 0, none⟩)] w fun e w' => e = .returned (.tuple #[.string (ordS s), .int .i64 (ordE s)]) ∧ Fr [] w w')) (s : St) (w : World) (b : Nat) (hN : nlive s = N + 1) (hb : Mh w b (gof s)) (hi : Ib s) :
    Calls Try.prog 45 #[.pointer (some ⟨b, 0, none⟩)] w fun e w' => e = .returned (.tuple #[.string (ordS s), .int .i64 (ordE s)]) ∧ Fr [] w w' := by
  have HB : Hid (Mh w b (gof s)) := hb
  have HI : Hid (Ib s) := hi
  have HN : Hid (nlive s = N + 1) := hN
  have l0 := hb.li (p := 0) (by omega)
  have l1 := hb.li (p := 1) (by omega)
  have l2 := hb.li (p := 2) (by omega)
  have l3 := hb.li (p := 3) (by omega)
  dsimp only [gof] at l0 l1 l2 l3
  have he := fun W => eq_live W (s.live 0) (s.live 1) (s.live 2) (s.live 3) false false false false
  have hne : (s.live 0 == false && s.live 1 == false && s.live 2 == false && s.live 3 == false) = false := by
    cases hh : (s.live 0 == false && s.live 1 == false && s.live 2 == false && s.live 3 == false) with
    | false => rfl
    | true =>
      simp at hh
      unfold nlive cd at hN
      rw [hh.1.1.1, hh.1.1.2, hh.1.2, hh.2] at hN
      simp [b1] at hN
  rw [hne] at he
  have HL : Hid (∃ q, q < 4 ∧ s.live q = true) := by
    apply Classical.byContradiction
    intro hno
    have hf : ∀ q, q < 4 → s.live q = false := fun q hq => by
      cases hl : s.live q with
      | false => rfl
      | true => exact absurd ⟨q, hq, hl⟩ hno
    rw [hf 0 (by omega), hf 1 (by omega), hf 2 (by omega), hf 3 (by omega)] at hne
    simp at hne
  have hl := blk_lt hb
  clear hb hi hN hne
  go_enter Try.func45, Try.ntmps45
  go_wp2_with fail
  go_at_call 46
  refine (mavail_any _ b s HB.out HI.out.sm).mono ?_
  rintro e w1 ⟨rfl, hf1⟩
  clear l0 l1 l2 l3 he
  go_wp2_with fail
  have X1 : Hid (Mh (w1.alloc (.cells #[.int .i64 s.av.a, .int .i64 s.av.b] 27)) b (gof s)) := Mh.alloc (hf1.keep HB.out (by simp)) _
  have V1 : Hid (Vb (w1.alloc (.cells #[.int .i64 s.av.a, .int .i64 s.av.b] 27)) w1.heap.size s.av) := blk_new _ _
  have F1 : Hid (Fr [] w (w1.alloc (.cells #[.int .i64 s.av.a, .int .i64 s.av.b] 27))) := hf1.alloc _
  have hs1 : w.heap.size ≤ w1.heap.size := hf1.size
  generalize w1.alloc (.cells #[.int .i64 s.av.a, .int .i64 s.av.b] 27) = W1 at X1 V1 F1 ⊢
  generalize w1.heap.size = v at V1 hs1 ⊢
  clear hf1
  go_loopg [5] 4 (fun g s5 wx => ∃ k : Nat, k + g = 4 ∧ s5 = .int .i64 k ∧ Hid (gOkB s = true → ∀ q, q < k → elig s (fun _ => false) s.av q = false) ∧ Hid (Mh wx b (gof s)) ∧ Hid (Vb wx v s.av) ∧ Hid (Fr [] w wx))
  case atStart => exact ⟨0, by omega, rfl, fun _ q hq => by omega, X1, V1, F1⟩
  case round =>
    clear X1 V1 F1
    obtain ⟨k, hkg, rfl, HE, X, V, F⟩ := hrel
    cases gk with
    | zero =>
      have hk4 : ¬ ((k : Int) < 4) := by omega
      have HG : Hid (gOkB s = false) := by
        cases hg : gOkB s with
        | false => exact rfl
        | true =>
          obtain ⟨q, hq, hlq⟩ := HL.out
          have := gok_stuck HI.out (fun p hp => HE.out hg p (by omega)) hq hlq
          rw [hg] at this; simp at this
      go_wp2
      go_ret2
      exact ⟨by unfold ordS ordE; rw [HG.out]; rfl, F.out⟩
    | succ g1 =>
      have hk : k < 4 := by omega
      have hk4 : (k : Int) < 4 := by omega
      have hb2 : b < wr.heap.size := blk_lt X.out
      have hv2 : v < wr.heap.size := blk_lt V.out
      have ca := X.out.ca hk
      have cb := X.out.cb hk
      have ha := X.out.ha hk
      have hb := X.out.hb hk
      dsimp only [gof] at ca cb ha hb
      have bn := HI.out.bd.need k hk
      have bh := HI.out.bd.held k hk
      have BC : Hid ((clm s k).a = (s.need k).a + (s.held k).a ∧ (clm s k).b = (s.need k).b + (s.held k).b) := ⟨rfl, rfl⟩
      have bc1 : -200 ≤ (clm s k).a ∧ (clm s k).a ≤ 200 ∧ -200 ≤ (clm s k).b ∧ (clm s k).b ≤ 200 := by have := BC.out; omega
      go_wp2_with fail
      go_cut [6] from 18 to 63 (fun s6 wx => ∃ q : Nat, s6 = .pointer (some ⟨q, 0, none⟩) ∧ Hid (Mh wx b (gof s)) ∧ Hid (Vb wx v s.av) ∧ Hid (Vb wx q (s.need k)) ∧ Hid (Fr [] w wx))
      case first =>
        have HN2 : Hid (∀ x : Vc, x.a = (clm s k).a - (s.held k).a → x.b = (clm s k).b - (s.held k).b → x = s.need k) := fun x h1 h2 => Vc.eq (by rw [h1, BC.out.1]; omega) (by rw [h2, BC.out.2]; omega)
        have e1 : ¬ (b = wr.heap.size) := by omega
        have e2 : ¬ (wr.heap.size = b) := by omega
        go_region_held3 (fun w' => w'.cell? ⟨b, 4 + k * 2, none⟩ = some (.int .i64 (clm s k).a) ∧ w'.cell? ⟨b, 4 + k * 2 + 1, none⟩ = some (.int .i64 (clm s k).b) ∧ w'.cell? ⟨b, 12 + k * 2, none⟩ = some (.int .i64 (s.held k).a) ∧ w'.cell? ⟨b, 12 + k * 2 + 1, none⟩ = some (.int .i64 (s.held k).b)) (go_keep)
          ((go_at_call 30; refine (sub_any _ _ _ _ _ (by omega) (by omega) (by omega) (by omega)).mono ?_; rintro e w2 ⟨rfl, hf2⟩; have G3 : Hid (Mh w2 b (gof s)) := (by refine Fr.keep hf2 ?_ (by simp); first | exact blk_alloc X.out _ | exact X.out); have hz0 := blk_lt G3.out; have e5 : ¬ (b = w2.heap.size) := (by omega); have e6 : ¬ (w2.heap.size = b) := (by omega); have ca := G3.out.ca hk; have cb := G3.out.cb hk; have ha := G3.out.ha hk; have hb := G3.out.hb hk; dsimp only [gof] at ca cb ha hb; try (have N1 : Hid (Vb w2 wr.heap.size zeroV) := (by refine Fr.keep hf2 ?_ (by simp); exact blk_new _ _); have hz1 := blk_lt N1.out; have n0 := N1.out.a; have n1 := N1.out.b; have m0 := N1.out.fr 0; have m1 := N1.out.fr 1)))
        all_goals (go_wp2_with fail; go_meet)
        all_goals have hwr := F.out.size
        all_goals first
          | exact ⟨w2.heap.size, rfl, blk_alloc (hf2.keep X.out.drew (by simp)) _, blk_alloc (hf2.keep V.out.drew (by simp)) _, by rw [← HN2.out ⟨_, _⟩ rfl rfl]; exact blk_new _ _, (F.out.drew.trans hf2).alloc _⟩
          | exact ⟨wr.heap.size, rfl, Mh.far2 (hf2.keep (blk_alloc X.out _) (by simp)) (by omega), Vb.far2 (hf2.keep (blk_alloc V.out _) (by simp)) (by omega), by rw [← HN2.out ⟨_, _⟩ rfl rfl]; exact N1.out.set _ _, ((F.out.alloc _).drew.trans hf2).set2 (by omega)⟩
      case rest =>
        obtain ⟨q, rfl, X3, V3, N3, F3⟩ := hcut
        clear X V F ca cb ha hb hb2 hv2
        have n0 := N3.out.a
        have n1 := N3.out.b
        have v0 := V3.out.a
        have v1 := V3.out.b
        have lv := X3.out.li hk
        dsimp only [gof] at lv
        cases hlk : s.live k
        · have HX : Hid (gOkB s = true → ∀ q, q < k + 1 → elig s (fun _ => false) s.av q = false) := fun hg q hq => by
            by_cases e : q = k
            · rw [e]; simp [elig, hlk]
            · exact HE.out hg q (by omega)
          rw [hlk] at lv
          go_wp2
          go_roundg g1
          case measure => omega
          case rel => exact ⟨k + 1, by omega, by go_num, HX, X3, V3, F3⟩
        · rw [hlk] at lv
          go_wp2_with fail
          go_at_call 34
          refine (le_any _ _ _ _ _).mono ?_
          rintro e w4 ⟨rfl, hf4⟩
          rw [show leB ⟨(s.need k).a, (s.need k).b⟩ ⟨s.av.a, s.av.b⟩ = leB (s.need k) s.av from rfl]
          have X4 : Hid (Mh w4 b (gof s)) := hf4.keep X3.out (by simp)
          have V4 : Hid (Vb w4 v s.av) := hf4.keep V3.out (by simp)
          have F4 : Hid (Fr [] w w4) := F3.out.trans hf4
          clear X3 V3 N3 F3 hf4 n0 n1 v0 v1 lv
          cases hle : leB (s.need k) s.av
          · have HX : Hid (gOkB s = true → ∀ q, q < k + 1 → elig s (fun _ => false) s.av q = false) := fun hg q hq => by
              by_cases e : q = k
              · rw [e]; simp [elig, hlk, hle]
              · exact HE.out hg q (by omega)
            go_wp2
            go_roundg g1
            case measure => omega
            case rel => exact ⟨k + 1, by omega, by go_num, HX, X4, V4, F4⟩
          · have hel : elig s (fun _ => false) s.av k = true := elig_iff.2 ⟨rfl, hlk, hle⟩
            have HEL : Hid (elig s (fun _ => false) s.av k = true) := hel
            have HFG : Hid (gOkB (finS s k) = gOkB s) := gok_fin HI.out hk hel
            have HFN : Hid (nlive (finS s k) = N) := by have h1 := nlive_fin hk hlk; have h2 := HN.out; show nlive (finS s k) = N; omega
            have HFR : Hid (finR s k = finS s k) := fin_gate hk hlk
            clear hel
            go_wp2_with fail
            go_at_call 53
            refine (mclone_any _ b _ X4.out).mono ?_
            rintro e w5 ⟨rfl, hm5, hf5⟩
            have C5 : Hid (Mh w5 w4.heap.size (gof s)) := hm5
            have X5 : Hid (Mh w5 b (gof s)) := hf5.keep X4.out (by simp)
            have V5 : Hid (Vb w5 v s.av) := hf5.keep V4.out (by simp)
            have F5 : Hid (Fr [] w w5) := F4.out.trans hf5
            have hbl : b < w4.heap.size := blk_lt X4.out
            have hvl : v < w4.heap.size := blk_lt V4.out
            have hwl := F4.out.size
            clear hm5 hf5 X4 V4 F4
            go_wp2_with fail
            go_at_call 44
            refine (mfinish_any _ _ s C5.out k).mono ?_
            rintro e w6 ⟨rfl, hm6, hf6⟩
            rw [HFR.out] at hm6
            have C6 : Hid (Mh w6 w4.heap.size (gof (finS s k))) := hm6
            have X6 : Hid (Mh w6 b (gof s)) := hf6.keep X5.out (by simp; omega)
            have V6 : Hid (Vb w6 v s.av) := hf6.keep V5.out (by simp; omega)
            have F6 : Hid (Fr [] w w6) := F5.out.narrow hf6 (fun i hi => by simp at hi; right; omega)
            clear hm6 hf6 X5 V5 F5 C5
            go_wp2_with fail
            go_at_call 45
            refine (ih.out (finS s k) _ _ HFN.out C6.out (HI.out.fin hk)).mono ?_
            rintro e w7 ⟨rfl, hf7⟩
            cases hg : gOkB s
            · have HO : Hid (ordE (finS s k) = 6) := by show _ = _; unfold ordE; rw [HFG.out, hg]; rfl
              have HX : Hid (gOkB s = true → ∀ q, q < k + 1 → elig s (fun _ => false) s.av q = false) := fun h => by rw [hg] at h; simp at h
              rw [HO.out]
              generalize ordS (finS s k) = T
              go_wp2
              go_roundg g1
              case measure => omega
              case rel => exact ⟨k + 1, by omega, by go_num, HX, hf7.keep X6.out (by simp), hf7.keep V6.out (by simp), F6.out.trans hf7⟩
            · have HO : Hid (ordE (finS s k) = 0) := by show _ = _; unfold ordE; rw [HFG.out, hg]; rfl
              have HS2 : Hid (ordS (finS s k) = ordT (run (finS s k) 4).ord) := by show _ = _; unfold ordS; rw [HFG.out, hg]; rfl
              have HP : Hid (pick s (fun _ => false) s.av = some k) := pick_at hk HEL.out (HE.out hg)
              have HR : Hid (Ending.returned (.tuple #[.string ((⟨#[48, 49, 50, 51]⟩ : ByteArray).extract k (k + 1) ++ ordT (run (finS s k) 4).ord), .int .i64 0]) = .returned (.tuple #[.string (ordS s), .int .i64 (ordE s)])) := by
                show _ = _
                unfold ordS ordE; rw [hg, dig_cons hk, ord_cons HP.out]; rfl
              rw [HO.out, HS2.out]
              have z1 := ord_size (finS s k) 4
              have z2 := dig_size hk
              go_wp2
              go_ret2
              exact ⟨HR.out, F6.out.trans hf7⟩

set_option maxHeartbeats 1600000 in
theorem morder_zero (s : St) (w : World) (b : Nat) (hN : nlive s = 0) (hb : Mh w b (gof s)) (hi : Ib s) :
    Calls Try.prog 45 #[.pointer (some ⟨b, 0, none⟩)] w fun e w' => e = .returned (.tuple #[.string (ordS s), .int .i64 (ordE s)]) ∧ Fr [] w w' := by
  have hf : ∀ q, q < 4 → s.live q = false := fun q hq => by
    cases hl : s.live q with
    | false => rfl
    | true =>
      unfold nlive cd at hN
      rcases lt4 hq with rfl | rfl | rfl | rfl <;> (rw [hl] at hN; simp [b1] at hN)
  obtain ⟨g1, g2⟩ := gok_none hi hf
  have HR : Hid (Ending.returned (.tuple #[.string ⟨#[]⟩, .int .i64 0]) = .returned (.tuple #[.string (ordS s), .int .i64 (ordE s)])) := by
    show _ = _; unfold ordS ordE; rw [g1, g2]; rfl
  have l0 := hb.li (p := 0) (by omega)
  have l1 := hb.li (p := 1) (by omega)
  have l2 := hb.li (p := 2) (by omega)
  have l3 := hb.li (p := 3) (by omega)
  dsimp only [gof] at l0 l1 l2 l3
  rw [hf 0 (by omega)] at l0
  rw [hf 1 (by omega)] at l1
  rw [hf 2 (by omega)] at l2
  rw [hf 3 (by omega)] at l3
  have he : ∀ W, _ := fun W => eq_live W false false false false false false false false
  simp only [BEq.rfl, Bool.and_self] at he
  clear hb hi hf g1 g2
  go_enter Try.func45, Try.ntmps45
  go_wp2
  go_ret2
  exact ⟨HR.out, Fr.refl _ _⟩

theorem morder_any (N : Nat) : ∀ (s : St) (w : World) (b : Nat), nlive s = N → Mh w b (gof s) → Ib s → Calls Try.prog 45 #[.pointer (some ⟨b, 0, none⟩)] w fun e w' => e = .returned (.tuple #[.string (ordS s), .int .i64 (ordE s)]) ∧ Fr [] w w' := by
  induction N with
  | zero => intro s w b h1 h2 h3; exact morder_zero s w b h1 h2 h3
  | succ N ih => intro s w b h1 h2 h3; exact morder_step N ih s w b h1 h2 h3
end Go.Proofs.Qxb6500340a
