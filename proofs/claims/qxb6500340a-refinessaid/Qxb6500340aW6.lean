import Derived.Test.Qxb6500340aW5
namespace Go.Proofs.Qxb6500340a
open Go.RowKit
set_option linter.unusedVariables false
set_option linter.unusedSimpArgs false

set_option maxHeartbeats 3200000 in
set_option maxRecDepth 100000 in
theorem give_any (w : World) (b : Nat) (s : St) (cert : ByteArray) (hb : Bk w b s cert) (hd : Bd s) (p : Nat) (hp : p < 4) (v : Vc) (hv : -100 ≤ v.a ∧ v.a ≤ 100 ∧ -100 ≤ v.b ∧ v.b ≤ 100) :
    Calls Try.prog 50 #[.pointer (some ⟨b, 0, none⟩), .int .i64 (p : Int), .agg #[.int .i64 v.a, .int .i64 v.b]] w fun e w' => e = .returned (.tuple #[]) ∧ Bk w' b (giveS s p v) cert ∧ Fr [b] w w' := by
  have hp4 : (p : Int) < 4 := by omega
  have b1 := hd.av
  have b2 := hd.need p hp
  have b3 := hd.held p hp
  have ix0 := fun W => ix_vec0 W v.a v.b
  have ix1 := fun W => ix_vec1 W v.a v.b
  have X0 : Hid (Bk (w.alloc (.cells #[.int .i64 v.a, .int .i64 v.b] 27)) b s cert) := blk_alloc hb _
  have fr0 : Fr [b] w (w.alloc (.cells #[.int .i64 v.a, .int .i64 v.b] 27)) := (Fr.refl _ _).alloc _
  have hl := blk_lt hb
  clear hb hd
  go_enter Try.func50, Try.ntmps50
  go_wp2
  generalize w.alloc (.cells #[.int .i64 v.a, .int .i64 v.b] 27) = V0 at X0 fr0 ⊢
  refine wp_loop_rounds 3 ?_
  rw [rounds_succ]
  have kc := X0.out.aa
  have fc := X0.out.fr (0)
  go_wp2
  go_region
  have X1 : Hid (Bk ((V0.setCell ⟨b, 0, none⟩ (.int .i64 (s.av.a + v.a))).drew) b (stAa s (s.av.a + v.a)) cert) := X0.out.setAa (s.av.a + v.a)
  have fr1 : Fr [b] w ((V0.setCell ⟨b, 0, none⟩ (.int .i64 (s.av.a + v.a))).drew) := (fr0.setCell (Or.inl (by simp)) _).drew
  generalize (V0.setCell ⟨b, 0, none⟩ (.int .i64 (s.av.a + v.a))).drew = V1 at X1 fr1 ⊢
  clear kc fc X0 fr0
  have kc := X1.out.na hp
  have fc := X1.out.fr (6 + p * 2)
  simp only [stAa, stAb, stNa, stNb, stHa, stHb, upd_same] at kc
  go_wp2
  go_region
  have X2 : Hid (Bk ((V1.setCell ⟨b, 6 + p * 2, none⟩ (.int .i64 ((s.need p).a + v.a))).drew) b (stNa (stAa s (s.av.a + v.a)) p ((s.need p).a + v.a)) cert) := X1.out.setNa hp ((s.need p).a + v.a)
  have fr2 : Fr [b] w ((V1.setCell ⟨b, 6 + p * 2, none⟩ (.int .i64 ((s.need p).a + v.a))).drew) := (fr1.setCell (Or.inl (by simp)) _).drew
  generalize (V1.setCell ⟨b, 6 + p * 2, none⟩ (.int .i64 ((s.need p).a + v.a))).drew = V2 at X2 fr2 ⊢
  clear kc fc X1 fr1
  have kc := X2.out.ha hp
  have fc := X2.out.fr (14 + p * 2)
  simp only [stAa, stAb, stNa, stNb, stHa, stHb, upd_same] at kc
  go_wp2
  go_region
  have X3 : Hid (Bk ((V2.setCell ⟨b, 14 + p * 2, none⟩ (.int .i64 ((s.held p).a - v.a))).drew) b (stHa (stNa (stAa s (s.av.a + v.a)) p ((s.need p).a + v.a)) p ((s.held p).a - v.a)) cert) := X2.out.setHa hp ((s.held p).a - v.a)
  have fr3 : Fr [b] w ((V2.setCell ⟨b, 14 + p * 2, none⟩ (.int .i64 ((s.held p).a - v.a))).drew) := (fr2.setCell (Or.inl (by simp)) _).drew
  generalize (V2.setCell ⟨b, 14 + p * 2, none⟩ (.int .i64 ((s.held p).a - v.a))).drew = V3 at X3 fr3 ⊢
  clear kc fc X2 fr2
  go_wp2
  rw [rounds_succ]
  have kc := X3.out.ab
  have fc := X3.out.fr (1)
  simp only [stAa, stAb, stNa, stNb, stHa, stHb, upd_same] at kc
  go_wp2
  go_region
  have X4 : Hid (Bk ((V3.setCell ⟨b, 1, none⟩ (.int .i64 (s.av.b + v.b))).drew) b (stAb (stHa (stNa (stAa s (s.av.a + v.a)) p ((s.need p).a + v.a)) p ((s.held p).a - v.a)) (s.av.b + v.b)) cert) := X3.out.setAb (s.av.b + v.b)
  have fr4 : Fr [b] w ((V3.setCell ⟨b, 1, none⟩ (.int .i64 (s.av.b + v.b))).drew) := (fr3.setCell (Or.inl (by simp)) _).drew
  generalize (V3.setCell ⟨b, 1, none⟩ (.int .i64 (s.av.b + v.b))).drew = V4 at X4 fr4 ⊢
  clear kc fc X3 fr3
  have kc := X4.out.nb hp
  have fc := X4.out.fr (6 + p * 2 + 1)
  simp only [stAa, stAb, stNa, stNb, stHa, stHb, upd_same] at kc
  go_wp2
  go_region
  have X5 : Hid (Bk ((V4.setCell ⟨b, 6 + p * 2 + 1, none⟩ (.int .i64 ((s.need p).b + v.b))).drew) b (stNb (stAb (stHa (stNa (stAa s (s.av.a + v.a)) p ((s.need p).a + v.a)) p ((s.held p).a - v.a)) (s.av.b + v.b)) p ((s.need p).b + v.b)) cert) := X4.out.setNb hp ((s.need p).b + v.b)
  have fr5 : Fr [b] w ((V4.setCell ⟨b, 6 + p * 2 + 1, none⟩ (.int .i64 ((s.need p).b + v.b))).drew) := (fr4.setCell (Or.inl (by simp)) _).drew
  generalize (V4.setCell ⟨b, 6 + p * 2 + 1, none⟩ (.int .i64 ((s.need p).b + v.b))).drew = V5 at X5 fr5 ⊢
  clear kc fc X4 fr4
  have kc := X5.out.hb hp
  have fc := X5.out.fr (14 + p * 2 + 1)
  simp only [stAa, stAb, stNa, stNb, stHa, stHb, upd_same] at kc
  go_wp2
  go_region
  have X6 : Hid (Bk ((V5.setCell ⟨b, 14 + p * 2 + 1, none⟩ (.int .i64 ((s.held p).b - v.b))).drew) b (stHb (stNb (stAb (stHa (stNa (stAa s (s.av.a + v.a)) p ((s.need p).a + v.a)) p ((s.held p).a - v.a)) (s.av.b + v.b)) p ((s.need p).b + v.b)) p ((s.held p).b - v.b)) cert) := X5.out.setHb hp ((s.held p).b - v.b)
  have fr6 : Fr [b] w ((V5.setCell ⟨b, 14 + p * 2 + 1, none⟩ (.int .i64 ((s.held p).b - v.b))).drew) := (fr5.setCell (Or.inl (by simp)) _).drew
  generalize (V5.setCell ⟨b, 14 + p * 2 + 1, none⟩ (.int .i64 ((s.held p).b - v.b))).drew = V6 at X6 fr6 ⊢
  clear kc fc X5 fr5
  go_wp2
  rw [rounds_succ]
  go_wp2
  have HF : Bk V6 b (giveS s p v) cert := by rw [← give_eq]; exact X6.out
  go_end0
  exact ⟨rfl, HF, fr6⟩
end Go.Proofs.Qxb6500340a
