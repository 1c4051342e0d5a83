import Derived.Test.Qxb6500340aK4
namespace Go.Proofs.Qxb6500340a
open Go.RowKit
set_option linter.unusedVariables false
set_option linter.unusedSimpArgs false

set_option maxHeartbeats 3200000 in
set_option maxRecDepth 100000 in
theorem least_any (w : World) (b : Nat) (s : St) (t : ByteArray) (ht : t.size ≤ 4) (hd : ∀ i (h : i < t.size), 48 ≤ t[i].toNat ∧ t[i].toNat < 52) (hL : ll s (fun _ => false) s.av t.data.toList = true) (hb : Gh w b (gof s)) (hm : Sm s) :
    Calls Try.prog 22 #[.pointer (some ⟨b, 0, none⟩), .string t] w fun e w' => e = .returned (.bool true) ∧ Fr [] w w' := by
  have hl := blk_lt hb
  have HB : Hid (Gh w b (gof s)) := hb
  have HM : Hid (Sm s) := hm
  have HD : Hid (∀ i (h : i < t.size), 48 ≤ t[i].toNat ∧ t[i].toNat < 52) := hd
  have HL : Hid (ll s (fun _ => false) s.av (t.data.toList.drop 0) = true) := by show _ = _; rw [List.drop_zero]; exact hL
  clear hb hm hd hL
  go_enter Try.func22, Try.ntmps22
  go_wp2_with fail
  go_at_call 19
  refine (free_any _ b s HB.out HM.out).mono ?_
  rintro e w1 ⟨rfl, hf1⟩
  go_wp2_with fail
  have hs1 := hf1.size
  have X1 : Hid (Gh ((w1.alloc (.cells #[.int .i64 s.av.a, .int .i64 s.av.b] 27)).alloc (.cells #[.bool false, .bool false, .bool false, .bool false] 34)) b (gof s)) := blk_alloc (blk_alloc (hf1.keep HB.out (by simp)) _) _
  have V1 : Hid (Vb ((w1.alloc (.cells #[.int .i64 s.av.a, .int .i64 s.av.b] 27)).alloc (.cells #[.bool false, .bool false, .bool false, .bool false] 34)) w1.heap.size s.av) := blk_new0 _ _ _
  have S1 : Hid (Sb ((w1.alloc (.cells #[.int .i64 s.av.a, .int .i64 s.av.b] 27)).alloc (.cells #[.bool false, .bool false, .bool false, .bool false] 34)) (w1.heap.size + 1) (fun _ => false)) := blk_new1 _ _ _
  have F1 : Hid (Fr [] w ((w1.alloc (.cells #[.int .i64 s.av.a, .int .i64 s.av.b] 27)).alloc (.cells #[.bool false, .bool false, .bool false, .bool false] 34))) := (hf1.alloc _).alloc _
  generalize ((w1.alloc (.cells #[.int .i64 s.av.a, .int .i64 s.av.b] 27)).alloc (.cells #[.bool false, .bool false, .bool false, .bool false] 34)) = W1 at X1 V1 S1 F1 ⊢
  generalize w1.heap.size = v at hs1 V1 S1 ⊢
  clear hf1 HB
  go_loopg [7] t.size (fun g s7 wx => ∃ (i : Nat) (d : Nat → Bool) (wk : Vc), i + g = t.size ∧ s7 = .int .i64 i ∧ Hid (ll s d wk (t.data.toList.drop i) = true) ∧ Hid (-100 - 100 * (i : Int) ≤ wk.a ∧ wk.a ≤ 100 + 100 * (i : Int) ∧ -100 - 100 * (i : Int) ≤ wk.b ∧ wk.b ≤ 100 + 100 * (i : Int)) ∧ Hid (Gh wx b (gof s)) ∧ Hid (Vb wx v wk) ∧ Hid (Sb wx (v + 1) d) ∧ Hid (Fr [] w wx))
  case atStart => exact ⟨0, _, _, by omega, rfl, HL, by have := HM.out.bd.av; show _ ∧ _; omega, X1, V1, S1, F1⟩
  case round =>
    clear X1 V1 S1 F1 HL
    obtain ⟨i, d, wk, hig, rfl, HJ, HK, X, V, S, F⟩ := hrel
    cases gk with
    | zero =>
      have hi : i = t.size := by omega
      subst hi
      go_wp2
      go_ret
      exact ⟨rfl, F.out⟩
    | succ g1 =>
      have hi : i < t.size := by omega
      have hii : (i : Int) < (t.size : Int) := by omega
      have hJ := HJ.out
      rw [drop_at t i hi] at hJ
      simp only [ll, Bool.and_eq_true, decide_eq_true_eq] at hJ
      have h256 : t[i].toNat < 256 := t[i].toNat_lt
      have hdi := HD.out i hi
      obtain ⟨p, hp⟩ : ∃ p, t[i].toNat = 48 + p := ⟨t[i].toNat - 48, by omega⟩
      have hp4 : p < 4 := by omega
      rw [show t[i].toNat - 48 = p from by omega] at hJ
      have hpe : (t[i].toNat : Int) - 48 = (p : Int) := by omega
      have hpi : (p : Int) < 4 := by omega
      have HE : Hid (∀ r, r < p → elig s d wk r = false) := hJ.1
      have HJ2 : Hid (ll s (upd d p true) (wk.add (s.held p)) (t.data.toList.drop (i + 1)) = true) := hJ.2
      clear hJ HJ hp hdi
      go_wp2_with fail
      go_loopg [9] p (fun g s9 wx => ∃ (k : Nat), k + g = p ∧ s9 = .int .i64 k ∧ Hid (Gh wx b (gof s)) ∧ Hid (Vb wx v wk) ∧ Hid (Sb wx (v + 1) d) ∧ Hid (Fr [] w wx))
      case atStart => exact ⟨0, by omega, rfl, X, V, S, F⟩
      case round =>
        clear X V S F
        obtain ⟨k, hkg, rfl, X, V, S, F⟩ := hrel
        cases gk with
        | zero =>
          have hk : k = p := by omega
          subst hk
          have sv := S.out.at hp4
          have sf := S.out.fr k
          go_wp2
          have X1 : Hid (Gh (wr.setCell ⟨v + 1, k, none⟩ (.bool true)) b (gof s)) := X.out.far (by dsimp only; omega)
          have V1 : Hid (Vb (wr.setCell ⟨v + 1, k, none⟩ (.bool true)) v wk) := V.out.far (by dsimp only; omega)
          have S1 : Hid (Sb (wr.setCell ⟨v + 1, k, none⟩ (.bool true)) (v + 1) (upd d k true)) := S.out.set hp4
          have F1 : Hid (Fr [] w (wr.setCell ⟨v + 1, k, none⟩ (.bool true))) := F.out.setCell (Or.inr (by dsimp only; omega)) _
          generalize wr.setCell ⟨v + 1, k, none⟩ (.bool true) = W2 at X1 V1 S1 F1 ⊢
          clear X V S F sv sf
          have v0 := V1.out.a
          have v1 := V1.out.b
          have q0 := V1.out.fr 0
          have q1 := V1.out.fr 1
          have ha := X1.out.ha hp4
          have hb := X1.out.hb hp4
          dsimp only [gof] at ha hb
          have hk := HK.out
          have bh := HM.out.bd.held k hp4
          go_region_with (go_at_call 29; refine (add_any _ _ _ _ _ (by omega) (by omega) (by omega) (by omega)).mono ?_; rintro e w5 ⟨rfl, hf5⟩; have V5 : Hid (Vb w5 v wk) := Vb.keep V1.out.drew hf5 (by simp); have v0 := V5.out.a; have v1 := V5.out.b; have q0 := V5.out.fr 0; have q1 := V5.out.fr 1)
          all_goals (go_wp2; go_roundg g1)
          all_goals first
            | omega
            | exact ⟨i + 1, upd d k true, wk.add (s.held k), by omega, by go_num, HJ2, by show _ ∧ _; simp only [Vc.add]; omega, (X1.out.drew.keep hf5 (by simp)).far2 (by omega), V5.out.set _ _, (S1.out.drew.keep hf5 (by simp)).far2 (by omega), (F1.out.drew.trans hf5).set2 (by omega)⟩
        | succ g2 =>
          have hk : k < p := by omega
          have hki : (k : Int) < (p : Int) := by omega
          have hk4 : k < 4 := by omega
          have hki4 : (k : Int) < 4 := by omega
          have HEk : Hid (elig s d wk k = false) := HE.out k hk
          have hb2 : b < wr.heap.size := blk_lt X.out
          have hv2 : v + 1 < wr.heap.size := blk_lt S.out
          have ca := X.out.ca hk4
          have cb := X.out.cb hk4
          have ha := X.out.ha hk4
          have hb := X.out.hb hk4
          dsimp only [gof] at ca cb ha hb
          have bn := HM.out.bd.need k hk4
          have bh := HM.out.bd.held k hk4
          have bc : (clm s k).a = (s.need k).a + (s.held k).a ∧ (clm s k).b = (s.need k).b + (s.held k).b := ⟨rfl, rfl⟩
          obtain ⟨bca, bcb⟩ := bc
          have BC : Hid ((clm s k).a = (s.need k).a + (s.held k).a ∧ (clm s k).b = (s.need k).b + (s.held k).b) := ⟨bca, bcb⟩
          have bc1 : -200 ≤ (clm s k).a ∧ (clm s k).a ≤ 200 ∧ -200 ≤ (clm s k).b ∧ (clm s k).b ≤ 200 := by omega
          clear bca bcb
          go_wp2_with fail
          go_cut [10] from 24 to 58 (fun s10 wx => ∃ q : Nat, s10 = .pointer (some ⟨q, 0, none⟩) ∧ v + 1 < q ∧ Hid (Gh wx b (gof s)) ∧ Hid (Vb wx v wk) ∧ Hid (Sb wx (v + 1) d) ∧ Hid (Vb wx q (s.need k)) ∧ Hid (Fr [] w wx))
          case first =>
            have HN : Hid (∀ x : Vc, x.a = (clm s k).a - (s.held k).a → x.b = (clm s k).b - (s.held k).b → x = s.need k) := fun x h1 h2 => Vc.eq (by rw [h1, BC.out.1]; omega) (by rw [h2, BC.out.2]; omega)
            go_region_with (go_at_call 30; refine (sub_any _ _ _ _ _ (by omega) (by omega) (by omega) (by omega)).mono ?_; rintro e w2 ⟨rfl, hf2⟩; try (have N : Hid (Vb w2 wr.heap.size zeroV) := Fr.keep hf2 (blk_new _ _) (by simp); have n0 := N.out.a; have n1 := N.out.b; have m0 := N.out.fr 0; have m1 := N.out.fr 1))
            all_goals (go_wp2_with fail; go_meet)
            all_goals first
              | exact ⟨w2.heap.size, rfl, by have := hf2.size; simp at this; omega, blk_alloc (hf2.keep X.out.drew (by simp)) _, blk_alloc (hf2.keep V.out.drew (by simp)) _, blk_alloc (hf2.keep S.out.drew (by simp)) _, by rw [← HN.out ⟨_, _⟩ rfl rfl]; exact blk_new _ _, (F.out.drew.trans hf2).alloc _⟩
              | exact ⟨wr.heap.size, rfl, by omega, Gh.far2 (hf2.keep (blk_alloc X.out _) (by simp)) (by omega), Vb.far2 (hf2.keep (blk_alloc V.out _) (by simp)) (by omega), Sb.far2 (hf2.keep (blk_alloc S.out _) (by simp)) (by omega), by rw [← HN.out ⟨_, _⟩ rfl rfl]; exact N.out.set _ _, ((F.out.alloc _).drew.trans hf2).set2 (by have := F.out.size; omega)⟩
          case rest =>
            obtain ⟨q, rfl, hq, X3, V3, S3, N3, F3⟩ := hcut
            clear X V S F hb2 hv2 ca cb ha hb
            have n0 := N3.out.a
            have n1 := N3.out.b
            have v0 := V3.out.a
            have v1 := V3.out.b
            have lv := X3.out.li hk4
            have sv := S3.out.at hk4
            dsimp only [gof] at lv
            cases hlk : s.live k
            · rw [hlk] at lv
              go_wp2
              go_roundg g2
              case measure => omega
              case rel => exact ⟨k + 1, by omega, by go_num, X3, V3, S3, F3⟩
            · rw [hlk] at lv
              cases hdk : d k
              · rw [hdk] at sv
                have hle : leB ⟨(s.need k).a, (s.need k).b⟩ ⟨wk.a, wk.b⟩ = false := by
                  have := HEk.out
                  unfold elig at this
                  rw [hlk, hdk] at this
                  exact this
                have HLE : Hid (leB ⟨(s.need k).a, (s.need k).b⟩ ⟨wk.a, wk.b⟩ = false) := hle
                clear hle
                go_wp2_with fail
                go_at_call 34
                refine (le_any _ _ _ _ _).mono ?_
                rintro e w4 ⟨rfl, hf4⟩
                rw [HLE.out]
                go_wp2
                go_roundg g2
                case measure => omega
                case rel => exact ⟨k + 1, by omega, by go_num, hf4.keep X3.out (by simp), hf4.keep V3.out (by simp), hf4.keep S3.out (by simp), F3.out.trans hf4⟩
              · rw [hdk] at sv
                go_wp2
                go_roundg g2
                case measure => omega
                case rel => exact ⟨k + 1, by omega, by go_num, X3, V3, S3, F3⟩
end Go.Proofs.Qxb6500340a
