import Derived.Test.Qxb6500339aW5
namespace Go.Proofs.Qxb6500339a
open Go.RowKit
set_option linter.unusedVariables false
set_option linter.unusedSimpArgs false

set_option maxHeartbeats 6400000 in
set_option maxRecDepth 100000 in
theorem pair_open_full (N : Nat) (w : World) (d : Nat) (R : List Nat) (n bs : Nat → Bl) (a b : Nat) (h : Dr N w d R n bs []) (h0 : n 0 = hdr a b) (ha : a < 5) (hb : b < 5) (hne : a ≠ b) :
    Calls Try.prog 19 #[.pointer (some ⟨d, 0, none⟩)] w fun e w' => ∃ p R', e = .returned (.pointer (some ⟨p, 0, none⟩)) ∧ Pp w' p d ∧ p ∉ R' ∧ w.heap.size ≤ p ∧ To N w w' d R R' (app n [(3 + a, n 1), (3 + b, n 2), (0, zB)]) bs [(3 + a, n 1), (3 + b, n 2), (0, zB)] := by
  have HD : Hid (Dr N w d R n bs []) := h
  have H0 : Hid (n 0 = hdr a b) := h0
  have HR : Hid (∀ k, k ∈ R → N ≤ k ∧ k < w.heap.size) := h.low
  have hai : (a : Int) < 5 := by omega
  have hbi : (b : Int) < 5 := by omega
  have hne2 : ((a : Int) != (b : Int)) = true := by rw [bne_iff_ne]; omega
  clear h h0
  go_enter Try.func19, Try.ntmps19
  go_wp2_with fail
  go_at_call 27
  refine (read_at N w _ d R n bs [] (At.start HD.out) 0 (by omega) _ rfl).mono ?_
  rintro e w1 ⟨rfl, hf1⟩
  rw [H0.out]
  unfold bV hdr
  dsimp only
  go_wp2_with fail
  have F1 : Hid (Fr [] w (w1.alloc (.cells #[.int .u8 1, .int .u8 a, .int .u8 b, .int .u8 0] 41))) := hf1.alloc _
  have X1 : (w1.alloc (.cells #[.int .u8 1, .int .u8 a, .int .u8 b, .int .u8 0] 41)).heap[w1.heap.size]? = some (.cells #[.int .u8 1, .int .u8 a, .int .u8 b, .int .u8 0] 41) := blk_new _ _
  generalize w1.alloc (.cells #[.int .u8 1, .int .u8 a, .int .u8 b, .int .u8 0] 41) = W1 at F1 X1 ⊢
  have x1 := blk_cell X1 1
  have x2 := blk_cell X1 2
  have x0 := blk_cell X1 0
  clear X1
  go_region
  go_wp2_with fail
  have F2 : Hid (Fr [] w W1.drew) := F1.out.drew
  generalize W1.drew = W2 at F2 ⊢
  clear F1 x0 x1 x2 hf1
  go_at_call 27
  refine (read_at N w _ d R n bs [] (At.start (HD.out.keep0 F2.out) |>.rebase F2.out) 1 (by omega) _ rfl).mono ?_
  rintro e w3 ⟨rfl, hf3⟩
  unfold bV
  go_wp2_with fail
  have X4 : Hid (Bx (w3.alloc (.cells (bC (n 1)) 41)) w3.heap.size (n 1)) := blk_new _ _
  have F4 : Hid (Fr [] w (w3.alloc (.cells (bC (n 1)) 41))) := (F2.out.trans hf3).alloc _
  unfold bC at X4 F4
  generalize w3.alloc (.cells #[.int .u8 (n 1).a, .int .u8 (n 1).b, .int .u8 (n 1).c, .int .u8 (n 1).d] 41) = W4 at X4 F4 ⊢
  have hq3 : w.heap.size ≤ w3.heap.size := (F2.out.trans hf3).size
  generalize w3.heap.size = q at X4 hq3 ⊢
  clear F2 hf3
  go_at_call 27
  refine (read_at N w _ d R n bs [] (At.start (HD.out.keep0 F4.out) |>.rebase F4.out) 2 (by omega) _ rfl).mono ?_
  rintro e w5 ⟨rfl, hf5⟩
  unfold bV
  go_wp2_with fail
  have Y6 : Hid (Bx (w5.alloc (.cells (bC (n 2)) 41)) w5.heap.size (n 2)) := blk_new _ _
  have X6 : Hid (Bx (w5.alloc (.cells (bC (n 2)) 41)) q (n 1)) := (X4.out.keep hf5 (by simp)).alloc _
  have F6 : Hid (Fr [] w (w5.alloc (.cells (bC (n 2)) 41))) := (F4.out.trans hf5).alloc _
  unfold bC at Y6 X6 F6
  have hq5 : w.heap.size ≤ w5.heap.size := (F4.out.trans hf5).size
  generalize w5.alloc (.cells #[.int .u8 (n 2).a, .int .u8 (n 2).b, .int .u8 (n 2).c, .int .u8 (n 2).d] 41) = W6 at Y6 X6 F6 ⊢
  generalize w5.heap.size = r at Y6 hq5 ⊢
  clear F4 X4 hf5
  have T6 : Hid (At N W6 W6 d R n bs []) := At.start (HD.out.keep0 F6.out)
  have NX : Hid (q ∉ R) := fun hk => by have := (HR.out _ hk).2; omega
  have NY : Hid (r ∉ R) := fun hk => by have := (HR.out _ hk).2; omega
  have x0 := X6.out.a
  have x1 := X6.out.b
  have x2 := X6.out.c
  have x3 := X6.out.d
  go_region_held3 (fun w' => w'.cell? ⟨q, 0, none⟩ = some (.int .u8 (n 1).a) ∧ w'.cell? ⟨q, 1, none⟩ = some (.int .u8 (n 1).b) ∧ w'.cell? ⟨q, 2, none⟩ = some (.int .u8 (n 1).c) ∧ w'.cell? ⟨q, 3, none⟩ = some (.int .u8 (n 1).d)) (go_keep)
    (first
      | (go_at_call 29; refine (home_any _ a ha).mono ?_; rintro e wh ⟨rfl, rfl⟩)
      | (go_at_call 28; refine (write_at N W6 _ d R _ bs _ (T6.out.drew) (by simp) (3 + a) (by omega) (n 1) _ (by simp)).mono ?_; rintro e w7 ⟨rfl, t7⟩; have T7 : Hid (At N W6 w7 d R (upd n (3 + a) (n 1)) bs ([] ++ [(3 + a, n 1)])) := t7; clear t7; have X7 : Hid (Bx w7 q (n 1)) := T7.out.other X6.out NX.out; have x0 := X7.out.a; have x1 := X7.out.b; have x2 := X7.out.c; have x3 := X7.out.d))
  go_wp2_with fail
  have Y7 : Hid (Bx w7 r (n 2)) := T7.out.other Y6.out NY.out
  have y0 := Y7.out.a
  have y1 := Y7.out.b
  have y2 := Y7.out.c
  have y3 := Y7.out.d
  go_region_held3 (fun w' => w'.cell? ⟨r, 0, none⟩ = some (.int .u8 (n 2).a) ∧ w'.cell? ⟨r, 1, none⟩ = some (.int .u8 (n 2).b) ∧ w'.cell? ⟨r, 2, none⟩ = some (.int .u8 (n 2).c) ∧ w'.cell? ⟨r, 3, none⟩ = some (.int .u8 (n 2).d)) (go_keep)
    (first
      | (go_at_call 29; refine (home_any _ b hb).mono ?_; rintro e wh ⟨rfl, rfl⟩)
      | (go_at_call 28; refine (write_at N W6 _ d R _ bs _ (T7.out.drew) (by simp) (3 + b) (by omega) (n 2) _ (by simp)).mono ?_; rintro e w8 ⟨rfl, t8⟩; have T8 : Hid (At N W6 w8 d R (upd (upd n (3 + a) (n 1)) (3 + b) (n 2)) bs ([] ++ [(3 + a, n 1)] ++ [(3 + b, n 2)])) := t8; clear t8; have Y8 : Hid (Bx w8 r (n 2)) := T8.out.other Y6.out NY.out; have y0 := Y8.out.a; have y1 := Y8.out.b; have y2 := Y8.out.c; have y3 := Y8.out.d))
  go_wp2_with fail
  go_at_call 28
  refine (write_at N W6 _ d R _ bs _ T8.out (by simp) 0 (by omega) zB _ (by simp)).mono ?_
  rintro e w9 ⟨rfl, t9⟩
  have T9 : Hid (At N w w9 d R (app n [(3 + a, n 1), (3 + b, n 2), (0, zB)]) bs [(3 + a, n 1), (3 + b, n 2), (0, zB)]) := t9.rebase F6.out
  clear t9
  go_wp2
  go_ret
  obtain ⟨R', hto⟩ := T9.out.to
  refine ⟨w9.heap.size, R', rfl, blk_new _ _, ?_, T9.out.size, hto.dr.keep0 ((Fr.refl _ _).alloc _), hto.sub, hto.fr.alloc _⟩
  intro hk
  have := (hto.dr.low _ hk).2
  omega

set_option maxHeartbeats 800000 in
theorem bank_open_any (w : World) (p : Nat) : Calls Try.prog 18 #[.pointer (some ⟨p, 0, none⟩)] w fun e w' => e = .returned (.pointer (some ⟨w.heap.size, 0, none⟩)) ∧ Bk w' w.heap.size p ∧ Fr [] w w' := by
  go_enter Try.func18, Try.ntmps18
  go_wp2
  go_ret
  exact ⟨rfl, blk_new _ _, (Fr.refl _ _).alloc _⟩

/-- The recovery may be played: the header is empty, or names two different homes. -/
def HOk (n : Nat → Bl) : Prop := n 0 = zB ∨ ∃ a b, a < 5 ∧ b < 5 ∧ a ≠ b ∧ n 0 = hdr a b
theorem Jr.hok {n : Nat → Bl} {B : Nat → Int} (h : Jr n B) : HOk n := by
  rcases h with h | ⟨a, b, h⟩
  · exact Or.inl h.h0
  · exact Or.inr ⟨a, b, h.ha, h.hb, h.ne, h.h0⟩

theorem pair_open_any (N : Nat) (w : World) (d : Nat) (R : List Nat) (n bs : Nat → Bl) (h : Dr N w d R n bs []) (h0 : HOk n) :
    Calls Try.prog 19 #[.pointer (some ⟨d, 0, none⟩)] w fun e w' => ∃ p R', e = .returned (.pointer (some ⟨p, 0, none⟩)) ∧ Pp w' p d ∧ p ∉ R' ∧ w.heap.size ≤ p ∧ To N w w' d R R' (app n (rcv n)) bs (rcv n) := by
  rcases h0 with h0 | ⟨a, b, ha, hb, hne, h0⟩
  · rw [rcv_zero h0]; exact pair_open_zero N w d R n bs [] h h0
  · rw [rcv_full h0]; exact pair_open_full N w d R n bs a b h h0 ha hb hne

set_option maxHeartbeats 1600000 in
theorem tower_open_any (N : Nat) (w : World) (d : Nat) (R : List Nat) (n bs : Nat → Bl) (h : Dr N w d R n bs []) (h0 : HOk n) :
    Calls Try.prog 9 #[.pointer (some ⟨d, 0, none⟩)] w fun e w' => ∃ k p R', e = .returned (.pointer (some ⟨k, 0, none⟩)) ∧ Tw w' k p d R' ∧ w.heap.size ≤ k ∧ w.heap.size ≤ p ∧ To N w w' d R R' (app n (rcv n)) bs (rcv n) := by
  have HD : Hid (Dr N w d R n bs []) := h
  have H0 : Hid (HOk n) := h0
  clear h h0
  go_enter Try.func9, Try.ntmps9
  go_wp2_with fail
  go_at_call 19
  refine (pair_open_any N _ d R n bs HD.out H0.out).mono ?_
  rintro e w1 ⟨p, R', rfl, hp, hpR, hps, hto⟩
  have HP : Hid (Pp w1 p d) := hp
  have HT : Hid (To N w w1 d R R' (app n (rcv n)) bs (rcv n)) := hto
  clear hp hto
  go_wp2_with fail
  go_at_call 18
  refine (bank_open_any _ p).mono ?_
  rintro e w2 ⟨rfl, hb, hf⟩
  have HB : Hid (Bk w2 w1.heap.size p) := hb
  clear hb
  go_wp2
  go_ret
  have hsz := HT.out.fr.size
  refine ⟨w1.heap.size, p, R', rfl, ⟨HB.out, hf.keep HP.out (by simp), ?_, hpR⟩, hsz, hps, HT.out.dr.keep0 hf, HT.out.sub, HT.out.fr.trans hf.widen⟩
  intro hk
  have := (HT.out.dr.low _ hk).2
  omega
end Go.Proofs.Qxb6500339a
