import Derived.Test.Qxb6500340aK6
namespace Go.Proofs.Qxb6500340a
open Go.RowKit
set_option linter.unusedVariables false
set_option linter.unusedSimpArgs false

theorem gof_full (s : St) (p : Nat) : gof (reqS s p (s.need p)) = ⟨s.live, clm s, upd s.held p (clm s p)⟩ := by
  rw [gof_req]
  have : (s.held p).add (s.need p) = clm s p := Vc.eq (by simp only [clm, Vc.add]; omega) (by simp only [clm, Vc.add]; omega)
  rw [this]
theorem drop_cons {t : ByteArray} {i : Nat} (h : i < t.size) {l : List Nat} (hd : t.data.toList.drop i = dgs l) (hl : ∀ p, p ∈ l → p < 4) : ∃ p l', l = p :: l' ∧ t[i].toNat = 48 + p ∧ t.data.toList.drop (i + 1) = dgs l' := by
  rw [drop_at t i h] at hd
  cases l with
  | nil => simp [dgs] at hd
  | cons p l' =>
    simp only [dgs, List.map_cons, List.cons.injEq] at hd
    exact ⟨p, l', rfl, by rw [hd.1, dg_nat (hl p (by simp))], hd.2⟩

set_option maxHeartbeats 6400000 in
set_option maxRecDepth 100000 in
theorem drain_any (w : World) (x g : Nat) (s : St) (hx : BkI w x s) (hg : Gh w g (gof s)) (hi : Inv s) (hne : x ≠ g) :
    Calls Try.prog 25 #[.pointer (some ⟨x, 0, none⟩), .pointer (some ⟨g, 0, none⟩)] w fun e w' => e = .returned (.bool true) ∧ (∃ s', Inv s' ∧ BkI w' x s' ∧ Gh w' g (gof s')) ∧ Fr [x, g] w w' := by
  have hxl := blk_lt hx
  have hgl := blk_lt hg
  have HX : Hid (BkI w x s) := hx
  have HG : Hid (Gh w g (gof s)) := hg
  have HI : Hid (Inv s) := hi
  clear hx hg hi
  go_enter Try.func25, Try.ntmps25
  go_wp2_with fail
  go_at_call 20
  refine (order_any _ x s _ HX.out).mono ?_
  rintro e w1 ⟨rfl, hf1⟩
  have z1 := ord_size s 4
  go_wp2_with fail
  go_at_call 21
  refine (judge_any _ g s _ (by omega) (hf1.keep HG.out (by simp)) HI.out.sm).mono ?_
  rintro e w2 ⟨rfl, hf2⟩
  rw [judge_ord HI.out]
  have F2 : Hid (Fr [x, g] w w2) := (hf1.trans hf2).widen
  have X2 : Hid (BkI w2 x s) := hf2.keep (hf1.keep HX.out (by simp)) (by simp)
  have G2 : Hid (Gh w2 g (gof s)) := hf2.keep (hf1.keep HG.out (by simp)) (by simp)
  have D2 : Hid (Drn s (run s 4).ord) := Drn.start HI.out
  have L2 : Hid ((ordT (run s 4).ord).data.toList.drop 0 = dgs (run s 4).ord) := by show _ = _; rw [List.drop_zero, ordT_list]
  clear hf1 hf2
  generalize hT : ordT (run s 4).ord = T at z1 L2 ⊢
  clear hT
  generalize (run s 4).ord = l at D2 L2
  go_wp2_with fail
  go_loopg [7] T.size (fun gk s7 wx => ∃ (i : Nat) (s' : St) (l : List Nat), i + gk = T.size ∧ s7 = .int .i64 i ∧ Hid (Drn s' l) ∧ Hid (T.data.toList.drop i = dgs l) ∧ Hid (BkI wx x s') ∧ Hid (Gh wx g (gof s')) ∧ Hid (Fr [x, g] w wx))
  case atStart => exact ⟨0, s, _, by omega, rfl, D2, L2, X2, G2, F2⟩
  case round =>
    clear D2 L2 X2 G2 F2
    obtain ⟨i, s', l, hig, rfl, D, L, X, G, F⟩ := hrel
    cases gk with
    | zero =>
      have hi : i = T.size := by omega
      subst hi
      have hl : l = [] := by
        have := L.out
        rw [List.drop_of_length_le (by simp)] at this
        cases l with
        | nil => rfl
        | cons p l' => simp [dgs] at this
      subst hl
      obtain ⟨t1, t2⟩ := D.out.done
      have HT : Hid (s'.av.a = 5 ∧ s'.av.b = 3) := ⟨t1, t2⟩
      clear t1 t2
      go_wp2_with fail
      go_at_call 18
      refine (avail_any _ x s' _ X.out).mono ?_
      rintro e w3 ⟨rfl, hf3⟩
      rw [HT.out.1, HT.out.2]
      have A3 : Hid (Vb (w3.alloc (.cells #[.int .i64 5, .int .i64 3] 27)) w3.heap.size totV) := blk_new _ _
      have X3 : Hid (BkI (w3.alloc (.cells #[.int .i64 5, .int .i64 3] 27)) x s') := blk_alloc (hf3.keep X.out (by simp)) _
      have G3 : Hid (Gh (w3.alloc (.cells #[.int .i64 5, .int .i64 3] 27)) g (gof s')) := blk_alloc (hf3.keep G.out (by simp)) _
      have F3 : Hid (Fr [x, g] w (w3.alloc (.cells #[.int .i64 5, .int .i64 3] 27))) := (F.out.trans hf3.widen).alloc _
      go_wp2_with fail
      generalize w3.alloc (.cells #[.int .i64 5, .int .i64 3] 27) = W4 at A3 X3 G3 F3 ⊢
      have a0 := A3.out.a
      have a1 := A3.out.b
      have he : ∀ W, _ := fun W => eq_vec W 5 3 5 3
      simp only [BEq.rfl, Bool.and_self] at he
      dsimp only [totV] at a0 a1
      go_region_with (go_at_call 17; refine (total_any _).mono ?_; rintro e w5 ⟨rfl, hf5⟩; have A5 : Hid (Vb w5 w3.heap.size totV) := Vb.keep A3.out.drew hf5 (by simp); have a0 := A5.out.a; have a1 := A5.out.b; dsimp only [totV] at a0 a1)
      all_goals (go_wp2; go_ret)
      all_goals exact ⟨rfl, ⟨s', D.out.inv, hf5.keep (blk_drew X3.out) (by simp), hf5.keep (blk_drew G3.out) (by simp)⟩, F3.out.drew.trans hf5.widen⟩
    | succ g1 =>
      have hi : i < T.size := by omega
      have hii : (i : Int) < (T.size : Int) := by omega
      obtain ⟨p, l', rfl, hp, L'⟩ := drop_cons hi L.out D.out.full.lt
      obtain ⟨hp4, hlp, hfl, hiv, hdn⟩ := D.out.step
      have L1 : Hid (T.data.toList.drop (i + 1) = dgs l') := L'
      have DN : Hid (Drn (finS (reqS s' p (s'.need p)) p) l') := hdn
      have IV : Hid (Inv (reqS s' p (s'.need p))) := hiv
      have FL : Hid (fltE s' p (s'.need p) = 0) := hfl
      have HLP : Hid (s'.live p = true) := hlp
      have HII : Hid (Inv s') := D.out.inv
      have h256 : T[i].toNat < 256 := T[i].toNat_lt
      have hpe : (T[i].toNat : Int) - 48 = (p : Int) := by omega
      have hpi : (p : Int) < 4 := by omega
      clear hp hlp hfl hiv hdn L' L
      have hb2 : g < wr.heap.size := blk_lt G.out
      have ca := G.out.ca hp4
      have cb := G.out.cb hp4
      have ha := G.out.ha hp4
      have hb := G.out.hb hp4
      dsimp only [gof] at ca cb ha hb
      have bn := HII.out.bd.need p hp4
      have bh := HII.out.bd.held p hp4
      have bc : (clm s' p).a = (s'.need p).a + (s'.held p).a ∧ (clm s' p).b = (s'.need p).b + (s'.held p).b := ⟨rfl, rfl⟩
      obtain ⟨bca, bcb⟩ := bc
      have BC : Hid ((clm s' p).a = (s'.need p).a + (s'.held p).a ∧ (clm s' p).b = (s'.need p).b + (s'.held p).b) := ⟨bca, bcb⟩
      have bc1 : -200 ≤ (clm s' p).a ∧ (clm s' p).a ≤ 200 ∧ -200 ≤ (clm s' p).b ∧ (clm s' p).b ≤ 200 := by omega
      clear bca bcb
      go_wp2_with fail
      go_cut [9] from 26 to 97 (fun s9 wx => ∃ q : Nat, s9 = .pointer (some ⟨q, 0, none⟩) ∧ wr.heap.size ≤ q ∧ Hid (Gh wx g (gof s')) ∧ Hid (BkI wx x s') ∧ Hid (Vb wx q (s'.need p)) ∧ Hid (Fr [x, g] w wx))
      case first =>
        have HN : Hid (∀ y : Vc, y.a = (clm s' p).a - (s'.held p).a → y.b = (clm s' p).b - (s'.held p).b → y = s'.need p) := fun y h1 h2 => Vc.eq (by rw [h1, BC.out.1]; omega) (by rw [h2, BC.out.2]; omega)
        go_region_with (go_at_call 30; refine (sub_any _ _ _ _ _ (by omega) (by omega) (by omega) (by omega)).mono ?_; rintro e w2 ⟨rfl, hf2⟩; try (have N : Hid (Vb w2 wr.heap.size zeroV) := Fr.keep hf2 (blk_new _ _) (by simp); have n0 := N.out.a; have n1 := N.out.b; have m0 := N.out.fr 0; have m1 := N.out.fr 1))
        all_goals (go_wp2_with fail; go_meet)
        all_goals have hxw : x < wr.heap.size := blk_lt X.out
        all_goals have hww := F.out.size
        all_goals first
          | exact ⟨w2.heap.size, rfl, by have := hf2.size; simp at this; omega, blk_alloc (hf2.keep G.out.drew (by simp)) _, blk_alloc (hf2.keep (blk_drew X.out) (by simp)) _, by rw [← HN.out ⟨_, _⟩ rfl rfl]; exact blk_new _ _, (F.out.drew.trans hf2.widen).alloc _⟩
          | exact ⟨wr.heap.size, rfl, by omega, Gh.far2 (hf2.keep (blk_alloc G.out _) (by simp)) (by omega), BkI.far (BkI.far (hf2.keep (blk_alloc X.out _) (by simp)) (by dsimp only; omega)) (by dsimp only; omega), by rw [← HN.out ⟨_, _⟩ rfl rfl]; exact N.out.set _ _, ((F.out.alloc _).drew.trans hf2.widen).set2 (by omega)⟩
      case rest =>
        obtain ⟨q, rfl, hq, G3, X3, N3, F3⟩ := hcut
        have hwr := F.out.size
        clear X G F ca cb ha hb
        have n0 := N3.out.a
        have n1 := N3.out.b
        go_wp2_with fail
        go_at_call 35
        refine (request_any _ x s' X3.out HII.out p (s'.need p)).mono ?_
        rintro e w4 ⟨rfl, hr4, hf4⟩
        have hq0 : reqE s' p (s'.need p) = 0 := by
          rw [reqE_ok FL.out, Int.toNat_natCast, IV.out.gb]; rfl
        have hqt : reqT s' p (s'.need p) = ordT (run (reqS s' p (s'.need p)) 4).ord := by
          unfold reqT; rw [if_pos hq0, Int.toNat_natCast]
        rw [if_pos hq0, Int.toNat_natCast] at hr4
        rw [hq0, hqt]
        have X4 : Hid (BkI w4 x (reqS s' p (s'.need p))) := hr4
        have G4 : Hid (Gh w4 g (gof s')) := hf4.keep G3.out (by simp; omega)
        have F4 : Hid (Fr [x, g] w w4) := F3.out.trans (hf4.mono (by simp))
        clear hq0 hqt hr4 hf4 X3 G3 F3 N3 n0 n1
        have ca := G4.out.ca hp4
        have cb := G4.out.cb hp4
        have ha := G4.out.ha hp4
        have hb := G4.out.hb hp4
        have fa := G4.out.fr (12 + p * 2)
        have fb := G4.out.fr (12 + p * 2 + 1)
        dsimp only [gof] at ca cb ha hb
        go_wp2_with fail
        go_region
        go_wp2_with fail
        have G5 : Hid (Gh ((w4.setCell ⟨g, 12 + p * 2, none⟩ (.int .i64 (clm s' p).a)).setCell ⟨g, 12 + p * 2 + 1, none⟩ (.int .i64 (clm s' p).b)).drew g (gof (reqS s' p (s'.need p)))) := by
          rw [gof_full]; exact G4.out.setH hp4 (clm s' p)
        have X5 : Hid (BkI ((w4.setCell ⟨g, 12 + p * 2, none⟩ (.int .i64 (clm s' p).a)).setCell ⟨g, 12 + p * 2 + 1, none⟩ (.int .i64 (clm s' p).b)).drew x (reqS s' p (s'.need p))) := (X4.out.far hne).far hne
        have F5 : Hid (Fr [x, g] w ((w4.setCell ⟨g, 12 + p * 2, none⟩ (.int .i64 (clm s' p).a)).setCell ⟨g, 12 + p * 2 + 1, none⟩ (.int .i64 (clm s' p).b)).drew) := ((F4.out.setCell (Or.inl (by simp)) _).setCell (Or.inl (by simp)) _).drew
        generalize ((w4.setCell ⟨g, 12 + p * 2, none⟩ (.int .i64 (clm s' p).a)).setCell ⟨g, 12 + p * 2 + 1, none⟩ (.int .i64 (clm s' p).b)).drew = W5 at G5 X5 F5 ⊢
        clear G4 X4 F4 ca cb ha hb fa fb
        have z2 := ord_size (reqS s' p (s'.need p)) 4
        go_at_call 21
        refine (judge_any _ g _ _ (by omega) G5.out IV.out.sm).mono ?_
        rintro e w6 ⟨rfl, hf6⟩
        rw [judge_ord IV.out]
        have G6 : Hid (Gh w6 g (gof (reqS s' p (s'.need p)))) := hf6.keep G5.out (by simp)
        have X6 : Hid (BkI w6 x (reqS s' p (s'.need p))) := hf6.keep X5.out (by simp)
        have F6 : Hid (Fr [x, g] w w6) := F5.out.trans hf6.widen
        clear G5 X5 F5 hf6
        have hg0 : gateE (reqS s' p (s'.need p)) p true zeroV = 0 := by
          rw [gateE_in hp4, if_pos (by exact HLP.out)]; decide
        have HG0 : Hid (gateE (reqS s' p (s'.need p)) p true zeroV = 0) := hg0
        clear hg0
        go_wp2_with fail
        go_at_call 36
        refine (finish_any _ x _ X6.out IV.out p).mono ?_
        rintro e w7 ⟨rfl, hr7, hf7⟩
        rw [HG0.out]
        rw [if_pos HG0.out, Int.toNat_natCast] at hr7
        have X7 : Hid (BkI w7 x (finS (reqS s' p (s'.need p)) p)) := hr7
        have G7 : Hid (Gh w7 g (gof (reqS s' p (s'.need p)))) := hf7.keep G6.out (by simp; omega)
        have F7 : Hid (Fr [x, g] w w7) := F6.out.trans (hf7.mono (by simp))
        clear hr7 hf7 G6 X6 F6
        have GF : Hid (gof (finS (reqS s' p (s'.need p)) p) = _) := gof_fin _ p
        have DN2 : Hid (Drn (finS (reqS s' p (s'.need p)) p) l') := DN
        generalize finS (reqS s' p (s'.need p)) p = s2 at X7 GF DN2
        generalize reqS s' p (s'.need p) = s1 at G7 GF
        clear DN IV HG0 z2
        have ca := G7.out.ca hp4
        have cb := G7.out.cb hp4
        have ha := G7.out.ha hp4
        have hb := G7.out.hb hp4
        have lv := G7.out.li hp4
        have fl := G7.out.fr p
        have f0 := G7.out.fr (4 + p * 2)
        have f1 := G7.out.fr (4 + p * 2 + 1)
        have fa := G7.out.fr (12 + p * 2)
        have fb := G7.out.fr (12 + p * 2 + 1)
        dsimp only [gof] at ca cb ha hb lv
        go_wp2_with fail
        go_region
        go_wp2_with fail
        go_roundg g1
        case measure => omega
        case rel =>
          refine ⟨i + 1, s2, l', by omega, by go_num, DN2, L1, ?_, ?_, ?_⟩
          · exact ((((X7.out.far hne).far hne).far hne).far hne).far hne
          · show Gh _ _ _
            rw [GF.out]
            exact ((G7.out.setLi hp4 false).setC hp4 zeroV).setH hp4 zeroV
          · exact (((((F7.out.setCell (Or.inl (by simp)) _).setCell (Or.inl (by simp)) _).setCell (Or.inl (by simp)) _).setCell (Or.inl (by simp)) _).setCell (Or.inl (by simp)) _).drew
end Go.Proofs.Qxb6500340a
