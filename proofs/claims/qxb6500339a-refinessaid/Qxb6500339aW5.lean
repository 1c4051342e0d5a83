import Derived.Test.Qxb6500339aW4
namespace Go.Proofs.Qxb6500339a
open Go.RowKit
set_option linter.unusedVariables false
set_option linter.unusedSimpArgs false

/-- The disk stands so in w' (its own blocks: R'), having come from w, where they were R. -/
structure To (N : Nat) (w w' : World) (d : Nat) (R R' : List Nat) (n bs : Nat → Bl) (l : List (Nat × Bl)) : Prop where
  dr : Dr N w' d R' n bs l
  sub : ∀ k, k ∈ R' → k ∈ R ∨ w.heap.size ≤ k
  fr : Fr R w w'
theorem At.to {N : Nat} {w w' : World} {d : Nat} {R : List Nat} {n bs : Nat → Bl} {l : List (Nat × Bl)} (h : At N w w' d R n bs l) : ∃ R', To N w w' d R R' n bs l := by
  obtain ⟨R', h1, h2, h3⟩ := h; exact ⟨R', h1, h2, h3⟩
theorem To.at {N : Nat} {w w' : World} {d : Nat} {R R' : List Nat} {n bs : Nat → Bl} {l : List (Nat × Bl)} (h : To N w w' d R R' n bs l) : At N w w' d R n bs l := ⟨R', h.dr, h.sub, h.fr⟩
theorem To.out {N : Nat} {w w' : World} {d : Nat} {R R' : List Nat} {n bs : Nat → Bl} {l : List (Nat × Bl)} (h : To N w w' d R R' n bs l) {q : Nat} (hq : q < w.heap.size) (hn : q ∉ R) : q ∉ R' := fun hk => by
  rcases h.sub q hk with hk | hk
  · exact hn hk
  · omega

set_option maxHeartbeats 3200000 in
set_option maxRecDepth 100000 in
theorem pair_open_zero (N : Nat) (w : World) (d : Nat) (R : List Nat) (n bs : Nat → Bl) (l : List (Nat × Bl)) (h : Dr N w d R n bs l) (h0 : n 0 = zB) :
    Calls Try.prog 19 #[.pointer (some ⟨d, 0, none⟩)] w fun e w' => ∃ p R', e = .returned (.pointer (some ⟨p, 0, none⟩)) ∧ Pp w' p d ∧ p ∉ R' ∧ w.heap.size ≤ p ∧ To N w w' d R R' n bs l := by
  have HT : Hid (At N w w d R n bs l) := At.start h
  have H0 : Hid (n 0 = zB) := h0
  have HD : Hid (Dr N w d R n bs l) := h
  clear h h0
  go_enter Try.func19, Try.ntmps19
  go_wp2_with fail
  go_at_call 27
  refine (read_at N w _ d R n bs l HT.out 0 (by omega) _ rfl).mono ?_
  rintro e w1 ⟨rfl, hf1⟩
  rw [H0.out]
  unfold bV zB
  dsimp only
  go_wp2
  go_ret
  have hf : Fr [] w ((w1.alloc (.cells #[.int .u8 0, .int .u8 0, .int .u8 0, .int .u8 0] 41)).alloc (.cells #[.pointer (some ⟨d, 0, none⟩)] 66)) := (hf1.alloc _).alloc _
  refine ⟨w1.heap.size + 1, R, rfl, ?_, ?_, ?_, HD.out.keep0 hf, fun k hk => Or.inl hk, hf.widen⟩
  · have := blk_new (w1.alloc (.cells #[.int .u8 0, .int .u8 0, .int .u8 0, .int .u8 0] 41)) (.cells #[.pointer (some ⟨d, 0, none⟩)] 66)
    rw [show (w1.alloc (.cells #[.int .u8 0, .int .u8 0, .int .u8 0, .int .u8 0] 41)).heap.size = w1.heap.size + 1 from by simp] at this
    exact this
  · intro hk; have := (HD.out.low _ hk).2; have := hf1.size; omega
  · have := hf1.size; omega

set_option maxHeartbeats 3200000 in
set_option maxRecDepth 100000 in
theorem get_any (N : Nat) (w : World) (p d : Nat) (R : List Nat) (n bs : Nat → Bl) (l : List (Nat × Bl)) (h : Dr N w d R n bs l) (hp : Pp w p d) (a : Nat) (ha : a < 5) (ai : Int) (hai : ai = a) :
    Calls Try.prog 41 #[.pointer (some ⟨p, 0, none⟩), .int .i64 ai] w fun e w' => e = .returned (.tuple #[bV (n (3 + a)), .int .i64 0]) ∧ Fr [] w w' := by
  subst hai
  have HP : Hid (Pp w p d) := hp
  have HD : Hid (Dr N w d R n bs l) := h
  have hpl := blk_lt hp
  have hai : (a : Int) < 5 := by omega
  clear hp h
  go_enter Try.func41, Try.ntmps41
  go_wp2_with fail
  have Z0 : Hid (Bx (w.alloc (.cells (bC zB) 41)) w.heap.size zB) := blk_new _ _
  have P0 : Hid (Pp (w.alloc (.cells (bC zB) 41)) p d) := blk_alloc HP.out _
  have F0 : Hid (Fr [] w (w.alloc (.cells (bC zB) 41))) := (Fr.refl _ _).alloc _
  have D0 : Hid (Dr N (w.alloc (.cells (bC zB) 41)) d R n bs l) := HD.out.keep0 F0.out
  unfold bC zB at Z0 P0 F0 D0
  dsimp only at Z0 P0 F0 D0
  generalize w.alloc (.cells #[.int .u8 0, .int .u8 0, .int .u8 0, .int .u8 0] 41) = W0 at Z0 P0 F0 D0 ⊢
  have pc := P0.out.c
  have e1 : ¬ (p = w.heap.size) := by omega
  have e2 : ¬ (w.heap.size = p) := by omega
  go_region_held3 (fun w' => w'.cell? ⟨p, 0, none⟩ = some (.pointer (some ⟨d, 0, none⟩))) (go_keep)
    (first
      | (go_at_call 29; refine (home_any _ a ha).mono ?_; rintro e wh ⟨rfl, rfl⟩)
      | (go_at_call 27; refine (read_at N W0 _ d R n bs l (At.start D0.out).drew (3 + a) (by omega) _ rfl).mono ?_; rintro e w1 ⟨rfl, hf1⟩; have P1 : Hid (Pp w1 p d) := hf1.keep P0.out (by simp); have pc := P1.out.c; have Z1 : Hid (Bx w1 w.heap.size ⟨0, 0, 0, 0⟩) := hf1.keep Z0.out (by simp); have z0 := Z1.out.a; have z1 := Z1.out.b; have z2 := Z1.out.c; have z3 := Z1.out.d; have y0 := blk_frozen Z1.out 0; have y1 := blk_frozen Z1.out 1; have y2 := blk_frozen Z1.out 2; have y3 := blk_frozen Z1.out 3; unfold bV))
  all_goals go_wp2
  all_goals
    refine bodyPost_ret (v := .tuple #[bV (n (3 + a)), .int .i64 0]) (by simp [results, Try.results41, go_sem, bV, z0, z1, z2, z3]) rfl ⟨rfl, ?_⟩
    exact ((((F0.out.drew.trans hf1).setCell (Or.inr (Nat.le_refl _)) _).setCell (Or.inr (Nat.le_refl _)) _).setCell (Or.inr (Nat.le_refl _)) _).setCell (Or.inr (Nat.le_refl _)) _

/-- The bank's block. -/
def Bk (w : World) (k p : Nat) : Prop := w.heap[k]? = some (.cells #[.pointer (some ⟨p, 0, none⟩)] 59)
theorem Bk.c {w : World} {k p : Nat} (h : Bk w k p) : w.cell? ⟨k, 0, none⟩ = some (.pointer (some ⟨p, 0, none⟩)) := blk_cell h 0

/-- The tower over the disk d: bank k over pair p over d. -/
structure Tw (w : World) (k p d : Nat) (R : List Nat) : Prop where
  bk : Bk w k p
  pp : Pp w p d
  kR : k ∉ R
  pR : p ∉ R
theorem Tw.keep {w w' : World} {k p d : Nat} {R S : List Nat} (h : Tw w k p d R) (hf : Fr S w w') (hk : k ∉ S) (hp : p ∉ S) : Tw w' k p d R := ⟨hf.keep h.bk hk, hf.keep h.pp hp, h.kR, h.pR⟩
theorem Tw.keep0 {w w' : World} {k p d : Nat} {R : List Nat} (h : Tw w k p d R) (hf : Fr [] w w') : Tw w' k p d R := h.keep hf (by simp) (by simp)

set_option maxHeartbeats 1600000 in
set_option maxRecDepth 100000 in
theorem at_any (N : Nat) (w : World) (k p d : Nat) (R : List Nat) (n bs : Nat → Bl) (l : List (Nat × Bl)) (h : Dr N w d R n bs l) (ht : Tw w k p d R) (a : Nat) (ha : a < 5) (ai : Int) (hai : ai = a) (v : Int) (hv : n (3 + a) = enc v) (h0 : 0 ≤ v) (h1 : v ≤ 4000) :
    Calls Try.prog 38 #[.pointer (some ⟨k, 0, none⟩), .int .i64 ai] w fun e w' => e = .returned (.int .i64 v) ∧ Fr [] w w' := by
  subst hai
  have HT : Hid (Tw w k p d R) := ht
  have HD : Hid (Dr N w d R n bs l) := h
  have HV : Hid (n (3 + a) = enc v) := hv
  have kc := ht.bk.c
  clear ht h hv
  go_enter Try.func38, Try.ntmps38
  go_wp2_with fail
  go_at_call 41
  refine (get_any N _ p d R n bs l HD.out HT.out.pp a ha _ rfl).mono ?_
  rintro e w1 ⟨rfl, hf1⟩
  rw [HV.out]
  unfold bV enc
  dsimp only
  go_wp2_with fail
  go_at_call 42
  refine (decode_any _ v h0 h1).mono ?_
  rintro e w2 ⟨rfl, hf2⟩
  go_wp2
  go_ret
  exact ⟨rfl, (hf1.alloc _).trans hf2⟩

set_option maxHeartbeats 1600000 in
theorem balance_any (N : Nat) (w : World) (k p d : Nat) (R : List Nat) (n bs : Nat → Bl) (l : List (Nat × Bl)) (B : Nat → Int) (h : Dr N w d R n bs l) (ht : Tw w k p d R) (hg : Good n B) (hB : OkB B) (a : Nat) (ha : a < 4) :
    Calls Try.prog 30 #[.pointer (some ⟨k, 0, none⟩), .int .i64 a] w fun e w' => e = .returned (.tuple #[.int .i64 (B a), .int .i64 0]) ∧ Fr [] w w' := by
  have HT : Hid (Tw w k p d R) := ht
  have HD : Hid (Dr N w d R n bs l) := h
  have hb := hB.hv (i := a) (by omega)
  have hm := hg.hm a (by omega)
  rw [show hv B a = B a from by unfold hv; rw [if_neg (by omega)]] at hb hm
  have HM : Hid (n (3 + a) = enc (B a)) := hm
  have hai : (a : Int) < 4 := by omega
  clear ht h hg hB hm
  go_enter Try.func30, Try.ntmps30
  go_wp2_with fail
  go_at_call 38
  refine (at_any N _ k p d R n bs l HD.out HT.out a (by omega) _ rfl (B a) HM.out hb.1 hb.2).mono ?_
  rintro e w1 ⟨rfl, hf1⟩
  go_wp2
  go_ret2
  exact ⟨rfl, hf1⟩

set_option maxHeartbeats 1600000 in
theorem balance_out (w : World) (k : Nat) (a : Int) (ha : ¬ (0 ≤ a ∧ a < 4)) :
    Calls Try.prog 30 #[.pointer (some ⟨k, 0, none⟩), .int .i64 a] w fun e w' => e = .returned (.tuple #[.int .i64 0, .int .i64 1]) ∧ Fr [] w w' := by
  by_cases h : a < 0
  · go_enter Try.func30, Try.ntmps30
    go_wp2
    go_ret2
    exact ⟨rfl, Fr.refl _ _⟩
  · have h2 : 4 ≤ a := by omega
    go_enter Try.func30, Try.ntmps30
    go_wp2
    go_ret2
    exact ⟨rfl, Fr.refl _ _⟩

set_option maxHeartbeats 1600000 in
theorem total_any (N : Nat) (w : World) (k p d : Nat) (R : List Nat) (n bs : Nat → Bl) (l : List (Nat × Bl)) (B : Nat → Int) (h : Dr N w d R n bs l) (ht : Tw w k p d R) (hg : Good n B) (hB : OkB B) :
    Calls Try.prog 32 #[.pointer (some ⟨k, 0, none⟩)] w fun e w' => e = .returned (.int .i64 (sumB B)) ∧ Fr [] w w' := by
  have HT : Hid (Tw w k p d R) := ht
  have HD : Hid (Dr N w d R n bs l) := h
  have hb := hB.hv (i := 4) (by omega)
  have hm := hg.hm 4 (by omega)
  rw [show hv B 4 = sumB B from rfl] at hb hm
  have HM : Hid (n (3 + 4) = enc (sumB B)) := hm
  clear ht h hg hB hm
  go_enter Try.func32, Try.ntmps32
  go_wp2_with fail
  go_at_call 38
  refine (at_any N _ k p d R n bs l HD.out HT.out 4 (by omega) _ rfl (sumB B) HM.out hb.1 hb.2).mono ?_
  rintro e w1 ⟨rfl, hf1⟩
  go_wp2
  go_ret
  exact ⟨rfl, hf1⟩
end Go.Proofs.Qxb6500339a
