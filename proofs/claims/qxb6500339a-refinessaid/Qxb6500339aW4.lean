import Derived.Test.Qxb6500339aW3
namespace Go.Proofs.Qxb6500339a
open Go.RowKit
set_option linter.unusedVariables false
set_option linter.unusedSimpArgs false

theorem Dr.keep {N : Nat} {w w' : World} {d : Nat} {R S : List Nat} {n bs : Nat → Bl} {l : List (Nat × Bl)} (h : Dr N w d R n bs l) (hf : Fr S w w') (hn : ∀ k, k ∈ R → k ∉ S) : Dr N w' d R n bs l := by
  obtain ⟨av, vv, h1, h2, h3, h4, h5⟩ := h.ex
  exact ⟨⟨av, vv, h1.keep hf (hn d h.din), owns_keep h2 hf (fun k hk => hn k (h4 k hk)), owns_keep h3 hf (fun k hk => hn k (h5 k hk)), h4, h5⟩, h.din, fun k hk => ⟨(h.low k hk).1, by have := (h.low k hk).2; have := hf.size; omega⟩⟩
theorem Dr.keep0 {N : Nat} {w w' : World} {d : Nat} {R : List Nat} {n bs : Nat → Bl} {l : List (Nat × Bl)} (h : Dr N w d R n bs l) (hf : Fr [] w w') : Dr N w' d R n bs l := h.keep hf (by simp)
theorem Dr.mono {N M : Nat} {w : World} {d : Nat} {R : List Nat} {n bs : Nat → Bl} {l : List (Nat × Bl)} (h : Dr N w d R n bs l) (hm : M ≤ N) : Dr M w d R n bs l := by
  obtain ⟨av, vv, h1, h2, h3, h4, h5⟩ := h.ex
  exact ⟨⟨av, vv, h1, h2.mono hm, h3.mono hm, h4, h5⟩, h.din, fun k hk => ⟨Nat.le_trans hm (h.low k hk).1, (h.low k hk).2⟩⟩

/-- From the world w0, where its own blocks were R0, the disk has come to this in w. -/
def At (N : Nat) (w0 w : World) (d : Nat) (R0 : List Nat) (n bs : Nat → Bl) (l : List (Nat × Bl)) : Prop :=
  ∃ R, Dr N w d R n bs l ∧ (∀ k, k ∈ R → k ∈ R0 ∨ w0.heap.size ≤ k) ∧ Fr R0 w0 w
section
variable {N : Nat} {w0 w w' : World} {d : Nat} {R0 : List Nat} {n bs : Nat → Bl} {l : List (Nat × Bl)}
theorem At.start (h : Dr N w d R0 n bs l) : At N w w d R0 n bs l := ⟨R0, h, fun k hk => Or.inl hk, Fr.refl _ _⟩
theorem At.fr0 (h : At N w0 w d R0 n bs l) (hf : Fr [] w w') : At N w0 w' d R0 n bs l := by
  obtain ⟨R, h1, h2, h3⟩ := h
  exact ⟨R, h1.keep0 hf, h2, h3.trans hf.widen⟩
theorem At.drew (h : At N w0 w d R0 n bs l) : At N w0 w.drew d R0 n bs l := h.fr0 (Fr.refl _ _).drew
theorem At.alloc (h : At N w0 w d R0 n bs l) (o : Obj) : At N w0 (w.alloc o) d R0 n bs l := h.fr0 ((Fr.refl _ _).alloc o)
theorem At.join {w1 : World} {R : List Nat} {n' : Nat → Bl} {l' : List (Nat × Bl)} (h2 : ∀ k, k ∈ R → k ∈ R0 ∨ w0.heap.size ≤ k) (h3 : Fr R0 w0 w) (h : At N w w1 d R n' bs l') : At N w0 w1 d R0 n' bs l' := by
  obtain ⟨R', k1, k2, k3⟩ := h
  refine ⟨R', k1, fun k hk => ?_, h3.narrow k3 h2⟩
  rcases k2 k hk with hk | hk
  · exact h2 k hk
  · right; have := h3.size; omega
theorem At.rebase {w1 : World} (h : At N w1 w d R0 n bs l) (hf : Fr [] w0 w1) : At N w0 w d R0 n bs l := by
  obtain ⟨R, h1, h2, h3⟩ := h
  refine ⟨R, h1, fun k hk => ?_, hf.widen.trans h3⟩
  rcases h2 k hk with hk | hk
  · exact Or.inl hk
  · right; have := hf.size; omega
theorem At.other {q : Nat} {o : Obj} (h : At N w0 w d R0 n bs l) (hq : w0.heap[q]? = some o) (hn : q ∉ R0) : w.heap[q]? = some o := by
  obtain ⟨R, h1, h2, h3⟩ := h
  exact h3.keep hq hn
theorem At.size (h : At N w0 w d R0 n bs l) : w0.heap.size ≤ w.heap.size := by
  obtain ⟨R, h1, h2, h3⟩ := h
  exact h3.size
end

/-- One write more. -/
theorem write_at (N : Nat) (w0 w : World) (d : Nat) (R0 : List Nat) (n bs : Nat → Bl) (l : List (Nat × Bl)) (h : At N w0 w d R0 n bs l) (hl : l.length ≤ 100) (b : Nat) (hb : b < 8) (x : Bl) (bi : Int) (hbi : bi = b) :
    Calls Try.prog 28 #[.pointer (some ⟨d, 0, none⟩), .int .i64 bi, bV x] w fun e w' => e = .returned (.int .i64 0) ∧ At N w0 w' d R0 (upd n b x) bs (l ++ [(b, x)]) := by
  subst hbi
  obtain ⟨R, h1, h2, h3⟩ := h
  refine (write_any N w d R n bs l h1 hl b hb x).mono ?_
  rintro e w' ⟨rfl, R', k1, k2, k3⟩
  exact ⟨rfl, At.join h2 h3 ⟨R', k1, k2, k3⟩⟩
theorem read_at (N : Nat) (w0 w : World) (d : Nat) (R0 : List Nat) (n bs : Nat → Bl) (l : List (Nat × Bl)) (h : At N w0 w d R0 n bs l) (b : Nat) (hb : b < 8) (bi : Int) (hbi : bi = b) :
    Calls Try.prog 27 #[.pointer (some ⟨d, 0, none⟩), .int .i64 bi] w fun e w' => e = .returned (.tuple #[bV (n b), .int .i64 0]) ∧ Fr [] w w' := by
  subst hbi
  obtain ⟨R, h1, h2, h3⟩ := h
  obtain ⟨av, vv, hD, _⟩ := h1.ex
  exact read_any w d n bs av vv hD b hb

/-- The pair's block. -/
def Pp (w : World) (p d : Nat) : Prop := w.heap[p]? = some (.cells #[.pointer (some ⟨d, 0, none⟩)] 66)
theorem Pp.c {w : World} {p d : Nat} (h : Pp w p d) : w.cell? ⟨p, 0, none⟩ = some (.pointer (some ⟨d, 0, none⟩)) := blk_cell h 0

set_option maxHeartbeats 6400000 in
set_option maxRecDepth 100000 in
theorem put_any (N : Nat) (w : World) (p d : Nat) (R : List Nat) (n bs : Nat → Bl) (h : Dr N w d R n bs []) (hp : Pp w p d) (hpR : p ∉ R) (a b : Nat) (ha : a < 5) (hb : b < 5) (hne : a ≠ b) (x y : Bl) :
    Calls Try.prog 39 #[.pointer (some ⟨p, 0, none⟩), .int .i64 a, bV x, .int .i64 b, bV y] w fun e w' => e = .returned (.int .i64 0) ∧ At N w w' d R (app n (putW a x b y)) bs (putW a x b y) := by
  have HP : Hid (Pp w p d) := hp
  have hpl := blk_lt hp
  have hRl := h.low
  have HR : Hid (∀ k, k ∈ R → N ≤ k ∧ k < w.heap.size) := hRl
  have HD : Hid (Dr N w d R n bs []) := h
  have HPR : Hid (p ∉ R) := hpR
  have hai : (a : Int) < 5 := by omega
  have hbi : (b : Int) < 5 := by omega
  have hne2 : ((a : Int) == (b : Int)) = false := beq_eq_false_iff_ne.2 (by omega)
  clear hp hRl h hpR
  unfold bV
  go_enter Try.func39, Try.ntmps39
  go_wp2_with fail
  have X0 : Hid (Bx ((w.alloc (.cells (bC x) 41)).alloc (.cells (bC y) 41)) w.heap.size x) := blk_alloc (blk_new _ _) _
  have Y0 : Hid (Bx ((w.alloc (.cells (bC x) 41)).alloc (.cells (bC y) 41)) (w.heap.size + 1) y) := by
    have := blk_new (w.alloc (.cells (bC x) 41)) (.cells (bC y) 41)
    rw [show (w.alloc (.cells (bC x) 41)).heap.size = w.heap.size + 1 from by simp] at this; exact this
  have P0 : Hid (Pp ((w.alloc (.cells (bC x) 41)).alloc (.cells (bC y) 41)) p d) := blk_alloc (blk_alloc HP.out _) _
  have F0 : Hid (Fr [] w ((w.alloc (.cells (bC x) 41)).alloc (.cells (bC y) 41))) := ((Fr.refl _ _).alloc _).alloc _
  have T0 : Hid (At N ((w.alloc (.cells (bC x) 41)).alloc (.cells (bC y) 41)) ((w.alloc (.cells (bC x) 41)).alloc (.cells (bC y) 41)) d R n bs []) := At.start (HD.out.keep0 F0.out)
  unfold bC at X0 Y0 P0 F0 T0
  generalize (w.alloc (.cells #[.int .u8 x.a, .int .u8 x.b, .int .u8 x.c, .int .u8 x.d] 41)).alloc (.cells #[.int .u8 y.a, .int .u8 y.b, .int .u8 y.c, .int .u8 y.d] 41) = w0 at X0 Y0 P0 F0 T0 ⊢
  have NX : Hid (w.heap.size ∉ R) := fun hk => by have := (HR.out _ hk).2; omega
  have NY : Hid (w.heap.size + 1 ∉ R) := fun hk => by have := (HR.out _ hk).2; omega
  have pc := P0.out.c
  have x0 := X0.out.a
  have x1 := X0.out.b
  have x2 := X0.out.c
  have x3 := X0.out.d
  go_region_held3 (fun w' => w'.cell? ⟨p, 0, none⟩ = some (.pointer (some ⟨d, 0, none⟩)) ∧ w'.cell? ⟨w.heap.size, 0, none⟩ = some (.int .u8 x.a) ∧ w'.cell? ⟨w.heap.size, 1, none⟩ = some (.int .u8 x.b) ∧ w'.cell? ⟨w.heap.size, 2, none⟩ = some (.int .u8 x.c) ∧ w'.cell? ⟨w.heap.size, 3, none⟩ = some (.int .u8 x.d)) (go_keep)
    ((go_at_call 28; refine (write_at N w0 _ d R _ bs _ (T0.out.drew) (by simp) 1 (by omega) x _ (by simp)).mono ?_; rintro e w1 ⟨rfl, t1⟩; have T1 : Hid (At N w0 w1 d R (upd n 1 x) bs ([] ++ [(1, x)])) := t1; clear t1; have P1 : Hid (Pp w1 p d) := T1.out.other P0.out HPR.out; have X1 : Hid (Bx w1 w.heap.size x) := T1.out.other X0.out NX.out; have Y1 : Hid (Bx w1 (w.heap.size + 1) y) := T1.out.other Y0.out NY.out; have pc := P1.out.c; have x0 := X1.out.a; have x1 := X1.out.b; have x2 := X1.out.c; have x3 := X1.out.d))
  go_wp2_with fail
  have pc := P1.out.c
  have y0 := Y1.out.a
  have y1 := Y1.out.b
  have y2 := Y1.out.c
  have y3 := Y1.out.d
  go_region_held3 (fun w' => w'.cell? ⟨p, 0, none⟩ = some (.pointer (some ⟨d, 0, none⟩)) ∧ w'.cell? ⟨w.heap.size + 1, 0, none⟩ = some (.int .u8 y.a) ∧ w'.cell? ⟨w.heap.size + 1, 1, none⟩ = some (.int .u8 y.b) ∧ w'.cell? ⟨w.heap.size + 1, 2, none⟩ = some (.int .u8 y.c) ∧ w'.cell? ⟨w.heap.size + 1, 3, none⟩ = some (.int .u8 y.d)) (go_keep)
    ((go_at_call 28; refine (write_at N w0 _ d R _ bs _ (T1.out.drew) (by simp) 2 (by omega) y _ (by simp)).mono ?_; rintro e w2 ⟨rfl, t2⟩; have T2 : Hid (At N w0 w2 d R (upd (upd n 1 x) 2 y) bs (([] ++ [(1, x)]) ++ [(2, y)])) := t2; clear t2; have P2 : Hid (Pp w2 p d) := T2.out.other P0.out HPR.out; have X2 : Hid (Bx w2 w.heap.size x) := T2.out.other X0.out NX.out; have Y2 : Hid (Bx w2 (w.heap.size + 1) y) := T2.out.other Y0.out NY.out; have pc := P2.out.c; have y0 := Y2.out.a; have y1 := Y2.out.b; have y2 := Y2.out.c; have y3 := Y2.out.d))
  go_wp2_with fail
  have pc := P2.out.c
  go_region_held3 (fun w' => w'.cell? ⟨p, 0, none⟩ = some (.pointer (some ⟨d, 0, none⟩))) (go_keep)
    (first
      | (go_at_call 43; refine (header_any _ a b ha hb).mono ?_; rintro e wh ⟨rfl, hfh⟩; have Th : Hid (At N w0 wh d R (upd (upd n 1 x) 2 y) bs (([] ++ [(1, x)]) ++ [(2, y)])) := T2.out.drew.fr0 hfh; have Ph : Hid (Pp wh p d) := Th.out.other P0.out HPR.out; have pc := Ph.out.c)
      | (go_at_call 28; refine (write_at N w0 _ d R _ bs _ (Th.out) (by simp) 0 (by omega) (hdr a b) _ (by simp)).mono ?_; rintro e w3 ⟨rfl, t3⟩; have T3 : Hid (At N w0 w3 d R (upd (upd (upd n 1 x) 2 y) 0 (hdr a b)) bs ((([] ++ [(1, x)]) ++ [(2, y)]) ++ [(0, (hdr a b))])) := t3; clear t3; have P3 : Hid (Pp w3 p d) := T3.out.other P0.out HPR.out; have X3 : Hid (Bx w3 w.heap.size x) := T3.out.other X0.out NX.out; have Y3 : Hid (Bx w3 (w.heap.size + 1) y) := T3.out.other Y0.out NY.out; have pc := P3.out.c))
  go_wp2_with fail
  have pc := P3.out.c
  have x0 := X3.out.a
  have x1 := X3.out.b
  have x2 := X3.out.c
  have x3 := X3.out.d
  go_region_held3 (fun w' => w'.cell? ⟨p, 0, none⟩ = some (.pointer (some ⟨d, 0, none⟩)) ∧ w'.cell? ⟨w.heap.size, 0, none⟩ = some (.int .u8 x.a) ∧ w'.cell? ⟨w.heap.size, 1, none⟩ = some (.int .u8 x.b) ∧ w'.cell? ⟨w.heap.size, 2, none⟩ = some (.int .u8 x.c) ∧ w'.cell? ⟨w.heap.size, 3, none⟩ = some (.int .u8 x.d)) (go_keep)
    (first
      | (go_at_call 29; refine (home_any _ a ha).mono ?_; rintro e wh ⟨rfl, rfl⟩)
      | (go_at_call 28; refine (write_at N w0 _ d R _ bs _ (T3.out.drew) (by simp) (3 + a) (by omega) x _ (by simp)).mono ?_; rintro e w4 ⟨rfl, t4⟩; have T4 : Hid (At N w0 w4 d R (upd (upd (upd (upd n 1 x) 2 y) 0 (hdr a b)) (3 + a) x) bs (((([] ++ [(1, x)]) ++ [(2, y)]) ++ [(0, (hdr a b))]) ++ [((3 + a), x)])) := t4; clear t4; have P4 : Hid (Pp w4 p d) := T4.out.other P0.out HPR.out; have X4 : Hid (Bx w4 w.heap.size x) := T4.out.other X0.out NX.out; have Y4 : Hid (Bx w4 (w.heap.size + 1) y) := T4.out.other Y0.out NY.out; have pc := P4.out.c; have x0 := X4.out.a; have x1 := X4.out.b; have x2 := X4.out.c; have x3 := X4.out.d))
  go_wp2_with fail
  have pc := P4.out.c
  have y0 := Y4.out.a
  have y1 := Y4.out.b
  have y2 := Y4.out.c
  have y3 := Y4.out.d
  go_region_held3 (fun w' => w'.cell? ⟨p, 0, none⟩ = some (.pointer (some ⟨d, 0, none⟩)) ∧ w'.cell? ⟨w.heap.size + 1, 0, none⟩ = some (.int .u8 y.a) ∧ w'.cell? ⟨w.heap.size + 1, 1, none⟩ = some (.int .u8 y.b) ∧ w'.cell? ⟨w.heap.size + 1, 2, none⟩ = some (.int .u8 y.c) ∧ w'.cell? ⟨w.heap.size + 1, 3, none⟩ = some (.int .u8 y.d)) (go_keep)
    (first
      | (go_at_call 29; refine (home_any _ b hb).mono ?_; rintro e wh ⟨rfl, rfl⟩)
      | (go_at_call 28; refine (write_at N w0 _ d R _ bs _ (T4.out.drew) (by simp) (3 + b) (by omega) y _ (by simp)).mono ?_; rintro e w5 ⟨rfl, t5⟩; have T5 : Hid (At N w0 w5 d R (upd (upd (upd (upd (upd n 1 x) 2 y) 0 (hdr a b)) (3 + a) x) (3 + b) y) bs ((((([] ++ [(1, x)]) ++ [(2, y)]) ++ [(0, (hdr a b))]) ++ [((3 + a), x)]) ++ [((3 + b), y)])) := t5; clear t5; have P5 : Hid (Pp w5 p d) := T5.out.other P0.out HPR.out; have X5 : Hid (Bx w5 w.heap.size x) := T5.out.other X0.out NX.out; have Y5 : Hid (Bx w5 (w.heap.size + 1) y) := T5.out.other Y0.out NY.out; have pc := P5.out.c; have y0 := Y5.out.a; have y1 := Y5.out.b; have y2 := Y5.out.c; have y3 := Y5.out.d))
  go_wp2_with fail
  have pc := P5.out.c
  go_wp2_with fail
  go_at_call 28
  refine (write_at N w0 _ d R _ bs _ T5.out (by simp) 0 (by omega) zB _ (by simp)).mono ?_
  rintro e w6 ⟨rfl, t6⟩
  have T6 : Hid (At N w0 w6 d R (upd (upd (upd (upd (upd (upd n 1 x) 2 y) 0 (hdr a b)) (3 + a) x) (3 + b) y) 0 zB) bs (((((([] ++ [(1, x)]) ++ [(2, y)]) ++ [(0, (hdr a b))]) ++ [((3 + a), x)]) ++ [((3 + b), y)]) ++ [(0, zB)])) := t6
  clear t6
  go_wp2
  go_ret
  exact ⟨rfl, T6.out.rebase F0.out⟩
end Go.Proofs.Qxb6500339a
