import Derived.Test.Qxb6500340aK3
import Derived.Deep.CutRange
namespace Go.Proofs.Qxb6500340a
open Go.RowKit
set_option linter.unusedVariables false
set_option linter.unusedSimpArgs false

def nlk (s : St) : Nat → Nat
  | 0 => 0
  | k + 1 => nlk s k + b1 (s.live k)
theorem nlk_4 (s : St) : nlk s 4 = nlive s := by simp [nlk, nlive, cd]
theorem nlk_le (s : St) (k : Nat) : nlk s k ≤ k := by
  induction k with
  | zero => simp [nlk]
  | succ k ih => have := b1_le (s.live k); simp only [nlk]; omega
theorem drop_at (t : ByteArray) (i : Nat) (h : i < t.size) : t.data.toList.drop i = t[i] :: t.data.toList.drop (i + 1) := by
  have h' : i < t.data.toList.length := by simpa using h
  rw [List.drop_eq_getElem_cons h']
  simp [ByteArray.getElem_eq_getElem_data]

set_option maxHeartbeats 3200000 in
set_option maxRecDepth 100000 in
theorem judge_any (w : World) (b : Nat) (s : St) (t : ByteArray) (ht : t.size ≤ 9223372036854775807) (hb : Gh w b (gof s)) (hm : Sm s) :
    Calls Try.prog 21 #[.pointer (some ⟨b, 0, none⟩), .string t] w fun e w' => e = .returned (.bool (judgeB s t.data.toList)) ∧ Fr [] w w' := by
  have hl := blk_lt hb
  have HB : Hid (Gh w b (gof s)) := hb
  have HM : Hid (Sm s) := hm
  clear hb hm
  obtain ⟨W0, hW0⟩ : ∃ W : World, W = w := ⟨w, rfl⟩
  have HW0 : Hid (W0 = w) := hW0
  clear hW0
  go_enter Try.func21, Try.ntmps21
  go_wp2_with fail
  go_loopg [5, 6] 4 (fun g s5 s6 wx => ∃ k : Nat, k + g = 4 ∧ s6 = .int .i64 k ∧ s5 = .int .i64 (nlk s k) ∧ wx = w)
  case atStart => exact ⟨0, by omega, rfl, rfl, rfl⟩
  case round =>
    obtain ⟨k, hkg, rfl, rfl, hwr⟩ := hrel
    subst hwr
    have hn := nlk_le s k
    cases gk with
    | zero =>
      have hk4 : ¬ ((k : Int) < 4) := by omega
      have hk : k = 4 := by omega
      subst hk
      have hln : t.data.toList.length = t.size := by simp
      by_cases hlen : t.size = nlk s 4
      · have d0 : ((t.size : Int) != (nlk s 4 : Int)) = false := by simp [hlen]
        have HJ : Hid (judgeB s t.data.toList = jl s (fun _ => false) s.av (t.data.toList.drop 0)) := by
          show _ = _
          unfold judgeB; rw [hln, hlen, nlk_4]; simp
        have ht4 : t.size ≤ 4 := by omega
        clear hln hlen
        generalize nlk s 4 = n at d0 hn ⊢
        go_wp2_with fail
        go_at_call 19
        refine (free_any _ b s HB.out HM.out).mono ?_
        rintro e w1 ⟨rfl, hf1⟩
        go_wp2_with fail
        have hs1 : W0.heap.size ≤ w1.heap.size := by rw [HW0.out]; exact hf1.size
        have hl0 : b < W0.heap.size := by rw [HW0.out]; exact hl
        have X1 : Hid (Gh ((w1.alloc (.cells #[.int .i64 s.av.a, .int .i64 s.av.b] 27)).alloc (.cells #[.bool false, .bool false, .bool false, .bool false] 34)) b (gof s)) := blk_alloc (blk_alloc (hf1.keep HB.out (by simp)) _) _
        have V1 : Hid (Vb ((w1.alloc (.cells #[.int .i64 s.av.a, .int .i64 s.av.b] 27)).alloc (.cells #[.bool false, .bool false, .bool false, .bool false] 34)) w1.heap.size s.av) := blk_new0 _ _ _
        have S1 : Hid (Sb ((w1.alloc (.cells #[.int .i64 s.av.a, .int .i64 s.av.b] 27)).alloc (.cells #[.bool false, .bool false, .bool false, .bool false] 34)) (w1.heap.size + 1) (fun _ => false)) := blk_new1 _ _ _
        have F1 : Hid (Fr [] W0 ((w1.alloc (.cells #[.int .i64 s.av.a, .int .i64 s.av.b] 27)).alloc (.cells #[.bool false, .bool false, .bool false, .bool false] 34))) := by show Fr _ _ _; rw [HW0.out]; exact (hf1.alloc _).alloc _
        generalize ((w1.alloc (.cells #[.int .i64 s.av.a, .int .i64 s.av.b] 27)).alloc (.cells #[.bool false, .bool false, .bool false, .bool false] 34)) = W1 at X1 V1 S1 F1 ⊢
        generalize w1.heap.size = v at hs1 V1 S1 ⊢
        clear hf1
        go_loopg [9] t.size (fun g s9 wx => ∃ (i : Nat) (d : Nat → Bool) (wk : Vc), i + g = t.size ∧ s9 = .int .i64 i ∧ Hid (judgeB s t.data.toList = jl s d wk (t.data.toList.drop i)) ∧ Hid (-100 - 100 * (i : Int) ≤ wk.a ∧ wk.a ≤ 100 + 100 * (i : Int) ∧ -100 - 100 * (i : Int) ≤ wk.b ∧ wk.b ≤ 100 + 100 * (i : Int)) ∧ Hid (Gh wx b (gof s)) ∧ Hid (Vb wx v wk) ∧ Hid (Sb wx (v + 1) d) ∧ Hid (Fr [] W0 wx))
        case atStart => exact ⟨0, _, _, by omega, rfl, HJ, by have := HM.out.bd.av; show _ ∧ _; omega, X1, V1, S1, F1⟩
        case round =>
          clear X1 V1 S1 F1 HJ
          obtain ⟨i, d, wk, hig, rfl, HJ, HK, X, V, S, F⟩ := hrel
          cases gk with
          | zero =>
            have hi : i = t.size := by omega
            subst hi
            have HT : Hid (judgeB s t.data.toList = true) := by
              show _ = _
              rw [HJ.out, List.drop_of_length_le (by simp)]; rfl
            go_wp2
            go_ret
            exact ⟨by rw [HT.out]; rfl, by rw [← HW0.out]; exact F.out⟩
          | succ g1 =>
            have hi : i < t.size := by omega
            have hii : (i : Int) < (t.size : Int) := by omega
            have hJ := HJ.out
            rw [drop_at t i hi] at hJ
            simp only [jl] at hJ
            have h256 : t[i].toNat < 256 := t[i].toNat_lt
            by_cases h48 : t[i].toNat < 48
            · rw [if_neg (by omega)] at hJ
              have HJ2 : Hid (judgeB s t.data.toList = false) := hJ
              clear hJ HJ
              go_wp2
              go_ret
              exact ⟨by rw [HJ2.out]; rfl, by rw [← HW0.out]; exact F.out⟩
            by_cases h52 : 52 ≤ t[i].toNat
            · rw [if_neg (by omega)] at hJ
              have HJ2 : Hid (judgeB s t.data.toList = false) := hJ
              clear hJ HJ
              go_wp2
              go_ret
              exact ⟨by rw [HJ2.out]; rfl, by rw [← HW0.out]; exact F.out⟩
            obtain ⟨p, hp⟩ : ∃ p, t[i].toNat = 48 + p := ⟨t[i].toNat - 48, by omega⟩
            have hp4 : p < 4 := by omega
            rw [show t[i].toNat - 48 = p from by omega] at hJ
            have hpe : (t[i].toNat : Int) - 48 = (p : Int) := by omega
            have lv := X.out.li hp4
            have sv := S.out.at hp4
            dsimp only [gof] at lv
            clear h48 h52
            have hpi : (p : Int) < 4 := by omega
            cases hlp : s.live p
            · rw [if_neg (by rw [hlp]; simp)] at hJ
              rw [hlp] at lv
              have HJ2 : Hid (judgeB s t.data.toList = false) := hJ
              clear hJ HJ hp
              go_wp2
              go_ret
              exact ⟨by rw [HJ2.out]; rfl, by rw [← HW0.out]; exact F.out⟩
            rw [hlp] at lv
            cases hdp : d p
            · rw [hdp] at sv
              have sf := S.out.fr p
              have HJ1 : Hid (judgeB s t.data.toList = _) := hJ
              clear hJ HJ hp
              go_wp2
              have X1 : Hid (Gh (wr.setCell ⟨v + 1, p, none⟩ (.bool true)) b (gof s)) := X.out.far (by dsimp only; omega)
              have V1 : Hid (Vb (wr.setCell ⟨v + 1, p, none⟩ (.bool true)) v wk) := V.out.far (by dsimp only; omega)
              have S1 : Hid (Sb (wr.setCell ⟨v + 1, p, none⟩ (.bool true)) (v + 1) (upd d p true)) := S.out.set hp4
              have F1 : Hid (Fr [] W0 (wr.setCell ⟨v + 1, p, none⟩ (.bool true))) := F.out.setCell (Or.inr (by dsimp only; omega)) _
              generalize wr.setCell ⟨v + 1, p, none⟩ (.bool true) = W2 at X1 V1 S1 F1 ⊢
              clear X V S F lv sv sf
              have hb2 : b < W2.heap.size := blk_lt X1.out
              have hv2 : v + 1 < W2.heap.size := blk_lt S1.out
              have ca := X1.out.ca hp4
              have cb := X1.out.cb hp4
              have ha := X1.out.ha hp4
              have hb := X1.out.hb hp4
              dsimp only [gof] at ca cb ha hb
              have bn := HM.out.bd.need p hp4
              have bh := HM.out.bd.held p hp4
              have bc : (clm s p).a = (s.need p).a + (s.held p).a ∧ (clm s p).b = (s.need p).b + (s.held p).b := ⟨rfl, rfl⟩
              obtain ⟨bca, bcb⟩ := bc
              have BC : Hid ((clm s p).a = (s.need p).a + (s.held p).a ∧ (clm s p).b = (s.need p).b + (s.held p).b) := ⟨bca, bcb⟩
              have bc1 : -200 ≤ (clm s p).a ∧ (clm s p).a ≤ 200 ∧ -200 ≤ (clm s p).b ∧ (clm s p).b ≤ 200 := by omega
              clear bca bcb
              go_cut [11] from 30 to 87 (fun s11 wx => ∃ q : Nat, s11 = .pointer (some ⟨q, 0, none⟩) ∧ v + 1 < q ∧ Hid (Gh wx b (gof s)) ∧ Hid (Vb wx v wk) ∧ Hid (Sb wx (v + 1) (upd d p true)) ∧ Hid (Vb wx q (s.need p)) ∧ Hid (Fr [] W0 wx))
              case first =>
                have HN : Hid (∀ x : Vc, x.a = (clm s p).a - (s.held p).a → x.b = (clm s p).b - (s.held p).b → x = s.need p) := fun x h1 h2 => Vc.eq (by rw [h1, BC.out.1]; omega) (by rw [h2, BC.out.2]; omega)
                go_region_with (go_at_call 30; refine (sub_any _ _ _ _ _ (by omega) (by omega) (by omega) (by omega)).mono ?_; rintro e w2 ⟨rfl, hf2⟩; try (have N : Hid (Vb w2 W2.heap.size zeroV) := Fr.keep hf2 (blk_new _ _) (by simp); have n0 := N.out.a; have n1 := N.out.b; have m0 := N.out.fr 0; have m1 := N.out.fr 1))
                all_goals (go_wp2_with fail; go_meet)
                all_goals first
                  | exact ⟨w2.heap.size, rfl, by have := hf2.size; simp at this; omega, blk_alloc (hf2.keep X1.out.drew (by simp)) _, blk_alloc (hf2.keep V1.out.drew (by simp)) _, blk_alloc (hf2.keep S1.out.drew (by simp)) _, by rw [← HN.out ⟨_, _⟩ rfl rfl]; exact blk_new _ _, (F1.out.drew.trans hf2).alloc _⟩
                  | exact ⟨W2.heap.size, rfl, by omega, Gh.far2 (hf2.keep (blk_alloc X1.out _) (by simp)) (by omega), Vb.far2 (hf2.keep (blk_alloc V1.out _) (by simp)) (by omega), Sb.far2 (hf2.keep (blk_alloc S1.out _) (by simp)) (by omega), by rw [← HN.out ⟨_, _⟩ rfl rfl]; exact N.out.set _ _, ((F1.out.alloc _).drew.trans hf2).set2 (by omega)⟩
                  | trace_state
              case rest =>
                obtain ⟨q, rfl, hq, X3, V3, S3, N3, F3⟩ := hcut
                clear X1 V1 S1 F1 hb2 hv2 ca cb ha hb
                have n0 := N3.out.a
                have n1 := N3.out.b
                have v0 := V3.out.a
                have v1 := V3.out.b
                go_wp2_with fail
                go_at_call 34
                refine (le_any _ _ _ _ _).mono ?_
                rintro e w4 ⟨rfl, hf4⟩
                rw [show leB ⟨(s.need p).a, (s.need p).b⟩ ⟨wk.a, wk.b⟩ = leB (s.need p) wk from rfl]
                have X4 : Hid (Gh w4 b (gof s)) := hf4.keep X3.out (by simp)
                have V4 : Hid (Vb w4 v wk) := hf4.keep V3.out (by simp)
                have S4 : Hid (Sb w4 (v + 1) (upd d p true)) := hf4.keep S3.out (by simp)
                have F4 : Hid (Fr [] W0 w4) := F3.out.trans hf4
                clear X3 V3 S3 N3 F3 n0 n1 v0 v1 hf4
                cases hle : leB (s.need p) wk
                · have HJ2 : Hid (judgeB s t.data.toList = false) := by
                    show _ = _
                    rw [HJ1.out, if_neg (by rw [hle]; simp)]
                  go_wp2
                  go_ret
                  exact ⟨by rw [HJ2.out]; rfl, by rw [← HW0.out]; exact F4.out⟩
                · have HJ2 : Hid (judgeB s t.data.toList = jl s (upd d p true) (wk.add (s.held p)) (t.data.toList.drop (i + 1))) := by
                    show _ = _
                    rw [HJ1.out, if_pos ⟨by omega, by omega, hlp, hdp, hle⟩]
                  have v0 := V4.out.a
                  have v1 := V4.out.b
                  have q0 := V4.out.fr 0
                  have q1 := V4.out.fr 1
                  have ha := X4.out.ha hp4
                  have hb := X4.out.hb hp4
                  dsimp only [gof] at ha hb
                  have hk := HK.out
                  go_wp2
                  go_region_with (go_at_call 29; refine (add_any _ _ _ _ _ (by omega) (by omega) (by omega) (by omega)).mono ?_; rintro e w5 ⟨rfl, hf5⟩; have V5 : Hid (Vb w5 v wk) := Vb.keep V4.out.drew hf5 (by simp); have v0 := V5.out.a; have v1 := V5.out.b; have q0 := V5.out.fr 0; have q1 := V5.out.fr 1)
                  all_goals (go_wp2; go_roundg g1)
                  all_goals first
                    | omega
                    | exact ⟨i + 1, upd d p true, wk.add (s.held p), by omega, by go_num, HJ2, by show _ ∧ _; simp only [Vc.add]; omega, (X4.out.drew.keep hf5 (by simp)).far2 (by omega), V5.out.set _ _, (S4.out.drew.keep hf5 (by simp)).far2 (by omega), (F4.out.drew.trans hf5).set2 (by omega)⟩
                    | trace_state
            · rw [if_neg (by rw [hdp]; simp)] at hJ
              rw [hdp] at sv
              have HJ2 : Hid (judgeB s t.data.toList = false) := hJ
              clear hJ HJ hp
              go_wp2
              go_ret
              exact ⟨by rw [HJ2.out]; rfl, by rw [← HW0.out]; exact F.out⟩
      · have d0 : ((t.size : Int) != (nlk s 4 : Int)) = true := by rw [bne_iff_ne]; omega
        have HJ : Hid (judgeB s t.data.toList = false) := by
          show _ = _
          unfold judgeB; rw [hln, ← nlk_4]; simp [hlen]
        clear hln
        generalize nlk s 4 = n at d0 hn ⊢
        go_wp2
        go_ret
        exact ⟨by rw [HJ.out]; rfl, Fr.refl _ _⟩
    | succ g1 =>
      have hk4 : (k : Int) < 4 := by omega
      have hk : k < 4 := by omega
      have lv := HB.out.li hk
      dsimp only [gof] at lv
      cases hlk : s.live k
      · rw [hlk] at lv
        go_wp2
        go_roundg g1
        case measure => omega
        case rel => exact ⟨k + 1, by omega, by go_num, by simp [nlk, hlk, b1], rfl⟩
      · rw [hlk] at lv
        go_wp2
        go_roundg g1
        case measure => omega
        case rel => exact ⟨k + 1, by omega, by go_num, by simp [nlk, hlk, b1], rfl⟩
end Go.Proofs.Qxb6500340a
