import Derived.Test.Qxb6500339aW2
import Derived.Deep.RegionLaw
namespace Go.Proofs.Qxb6500339a
open Go.RowKit
set_option linter.unusedVariables false
set_option linter.unusedSimpArgs false

/-! ### The record -/
def ats (l : List (Nat × Bl)) : List Value := l.map fun p => .int .i64 p.1
def vals (l : List (Nat × Bl)) : List Value := l.flatMap fun p => [.int .u8 p.2.a, .int .u8 p.2.b, .int .u8 p.2.c, .int .u8 p.2.d]
theorem ats_snoc (l : List (Nat × Bl)) (b : Nat) (x : Bl) : ats (l ++ [(b, x)]) = ats l ++ [.int .i64 b] := by simp [ats]
theorem vals_snoc (l : List (Nat × Bl)) (b : Nat) (x : Bl) : vals (l ++ [(b, x)]) = vals l ++ [.int .u8 x.a, .int .u8 x.b, .int .u8 x.c, .int .u8 x.d] := by simp [vals]

theorem Fr.ofGrown {w w' : World} {row : Option Nat} (h : w.grownBy w' row) : Fr row.toList w w' :=
  ⟨h.os, h.tape, h.output, h.size, fun k hk hn => h.block k hk (fun e => hn (by rw [← e]; simp))⟩
theorem owns_keep {w w' : World} {S : List Nat} {N : Nat} {e : TypeId} {s : Nat} {v : Value} {n : Nat} {xs : List Value} (h : w.ownsRow N e s v n xs) (hf : Fr S w w') (hn : ∀ k, v.ownBlock = some k → k ∉ S) : w'.ownsRow N e s v n xs := by
  obtain ⟨h1, h2⟩ := h
  refine ⟨h1, ?_⟩
  rcases h2 with h2 | ⟨g, cap, cur, rfl, hb, hg, rest⟩
  · exact Or.inl h2
  · exact Or.inr ⟨g, cap, cur, rfl, hb, hf.keep hg (hn g rfl), rest⟩
theorem owns_block {w : World} {N : Nat} {e : TypeId} {s : Nat} {v : Value} {n : Nat} {xs : List Value} (h : w.ownsRow N e s v n xs) {k : Nat} (hk : v.ownBlock = some k) : ∃ cur, w.heap[k]? = some (.cells cur e) := by
  rcases h.2 with ⟨rfl, _⟩ | ⟨g, cap, cur, rfl, hb, hg, rest⟩
  · simp [Value.ownBlock] at hk
  · simp [Value.ownBlock] at hk; subst hk; exact ⟨cur, hg⟩

/-- The disk with its record; R: the blocks that are its own. -/
structure Dr (N : Nat) (w : World) (d : Nat) (R : List Nat) (n bs : Nat → Bl) (l : List (Nat × Bl)) : Prop where
  ex : ∃ av vv, Dk w d n bs av vv ∧ w.ownsRow N 3 1 av l.length (ats l) ∧ w.ownsRow N 41 4 vv l.length (vals l) ∧ (∀ k, av.ownBlock = some k → k ∈ R) ∧ (∀ k, vv.ownBlock = some k → k ∈ R)
  din : d ∈ R
  low : ∀ k, k ∈ R → N ≤ k ∧ k < w.heap.size

/-- A block's content in a block of its own. -/
def Bx (w : World) (q : Nat) (x : Bl) : Prop := w.heap[q]? = some (.cells (bC x) 41)
section
variable {w w' : World} {q : Nat} {x : Bl}
theorem Bx.a (h : Bx w q x) : w.cell? ⟨q, 0, none⟩ = some (.int .u8 x.a) := blk_cell h 0
theorem Bx.b (h : Bx w q x) : w.cell? ⟨q, 1, none⟩ = some (.int .u8 x.b) := blk_cell h 1
theorem Bx.c (h : Bx w q x) : w.cell? ⟨q, 2, none⟩ = some (.int .u8 x.c) := blk_cell h 2
theorem Bx.d (h : Bx w q x) : w.cell? ⟨q, 3, none⟩ = some (.int .u8 x.d) := blk_cell h 3
theorem Bx.keep {S : List Nat} (h : Bx w q x) (hf : Fr S w w') (hn : q ∉ S) : Bx w' q x := Fr.keep hf h hn
theorem Bx.far (h : Bx w q x) {p : Addr} {v : Value} (hp : q ≠ p.block) : Bx (w.setCell p v) q x := blk_set_far h p v hp
theorem Bx.alloc (h : Bx w q x) (o : Obj) : Bx (w.alloc o) q x := blk_alloc h o
theorem Bx.drew (h : Bx w q x) : Bx w.drew q x := h
end

theorem info3 : (Try.prog.info? 3).map (fun i => (i.zero, i.size, i.bytes)) = some (some (.int .i64 0), 1, 8) := by kernel_rfl
theorem info41 : (Try.prog.info? 41).map (fun i => (i.zero, i.size, i.bytes)) = some (some (bV zB), 4, 4) := by kernel_rfl

set_option maxHeartbeats 3200000 in
set_option maxRecDepth 100000 in
theorem write_any (N : Nat) (w : World) (d : Nat) (R : List Nat) (n bs : Nat → Bl) (l : List (Nat × Bl)) (h : Dr N w d R n bs l) (hl : l.length ≤ 100) (b : Nat) (hb : b < 8) (x : Bl) :
    Calls Try.prog 28 #[.pointer (some ⟨d, 0, none⟩), .int .i64 b, bV x] w fun e w' => e = .returned (.int .i64 0) ∧ ∃ R', Dr N w' d R' (upd n b x) bs (l ++ [(b, x)]) ∧ (∀ k, k ∈ R' → k ∈ R ∨ w.heap.size ≤ k) ∧ Fr R w w' := by
  obtain ⟨av, vv, hD, hA, hV, hra, hrv⟩ := h.ex
  have HD : Hid (Dk w d n bs av vv) := hD
  have HA : Hid (w.ownsRow N 3 1 av l.length (ats l)) := hA
  have HV : Hid (w.ownsRow N 41 4 vv l.length (vals l)) := hV
  have HRA : Hid (∀ k, av.ownBlock = some k → k ∈ R) := hra
  have HRV : Hid (∀ k, vv.ownBlock = some k → k ∈ R) := hrv
  have HIN : Hid (d ∈ R) := h.din
  have HLO : Hid (∀ k, k ∈ R → N ≤ k ∧ k < w.heap.size) := h.low
  have hdl := blk_lt hD
  have hbi : (b : Int) < 8 := by omega
  obtain ⟨i3, hi3, hz3⟩ := info_parts info3
  obtain ⟨i41, hi41, hz41⟩ := info_parts info41
  clear h hD hA hV hra hrv
  unfold bV
  go_enter Try.func28, Try.ntmps28
  go_wp2_with fail
  have D0 : Hid (Dk (w.alloc (.cells (bC x) 41)) d n bs av vv) := HD.out.alloc _
  have X0 : Hid (Bx (w.alloc (.cells (bC x) 41)) w.heap.size x) := blk_new _ _
  have F0 : Hid (Fr [] w (w.alloc (.cells (bC x) 41))) := (Fr.refl _ _).alloc _
  have hs0 : (w.alloc (.cells (bC x) 41)).heap.size = w.heap.size + 1 := by simp
  unfold bC at D0 X0 F0 hs0
  generalize w.alloc (.cells #[.int .u8 x.a, .int .u8 x.b, .int .u8 x.c, .int .u8 x.d] 41) = W0 at D0 X0 F0 hs0 ⊢
  have x0 := X0.out.a
  have x1 := X0.out.b
  have x2 := X0.out.c
  have x3 := X0.out.d
  have ca := D0.out.na hb
  have cb := D0.out.nb hb
  have cc := D0.out.nc hb
  have cd := D0.out.nd hb
  have fa := D0.out.fr (b * 4)
  have fb := D0.out.fr (b * 4 + 1)
  have fc := D0.out.fr (b * 4 + 2)
  have fd := D0.out.fr (b * 4 + 3)
  go_region
  have D1 : Hid (Dk ((((W0.setCell ⟨d, b * 4, none⟩ (.int .u8 x.a)).setCell ⟨d, b * 4 + 1, none⟩ (.int .u8 x.b)).setCell ⟨d, b * 4 + 2, none⟩ (.int .u8 x.c)).setCell ⟨d, b * 4 + 3, none⟩ (.int .u8 x.d)).drew d (upd n b x) bs av vv) := D0.out.setN hb x
  have X1 : Hid (Bx ((((W0.setCell ⟨d, b * 4, none⟩ (.int .u8 x.a)).setCell ⟨d, b * 4 + 1, none⟩ (.int .u8 x.b)).setCell ⟨d, b * 4 + 2, none⟩ (.int .u8 x.c)).setCell ⟨d, b * 4 + 3, none⟩ (.int .u8 x.d)).drew w.heap.size x) :=
    (((X0.out.far (by dsimp only; omega)).far (by dsimp only; omega)).far (by dsimp only; omega)).far (by dsimp only; omega)
  have F1 : Hid (Fr [d] w ((((W0.setCell ⟨d, b * 4, none⟩ (.int .u8 x.a)).setCell ⟨d, b * 4 + 1, none⟩ (.int .u8 x.b)).setCell ⟨d, b * 4 + 2, none⟩ (.int .u8 x.c)).setCell ⟨d, b * 4 + 3, none⟩ (.int .u8 x.d)).drew) :=
    ((((F0.out.widen.setCell (Or.inl (by simp)) _).setCell (Or.inl (by simp)) _).setCell (Or.inl (by simp)) _).setCell (Or.inl (by simp)) _).drew
  have hs1 : ((((W0.setCell ⟨d, b * 4, none⟩ (.int .u8 x.a)).setCell ⟨d, b * 4 + 1, none⟩ (.int .u8 x.b)).setCell ⟨d, b * 4 + 2, none⟩ (.int .u8 x.c)).setCell ⟨d, b * 4 + 3, none⟩ (.int .u8 x.d)).drew.heap.size = w.heap.size + 1 := by simp [hs0]
  generalize ((((W0.setCell ⟨d, b * 4, none⟩ (.int .u8 x.a)).setCell ⟨d, b * 4 + 1, none⟩ (.int .u8 x.b)).setCell ⟨d, b * 4 + 2, none⟩ (.int .u8 x.c)).setCell ⟨d, b * 4 + 3, none⟩ (.int .u8 x.d)).drew = W1 at D1 X1 F1 hs1 ⊢
  have HS1 : Hid (W1.heap.size = w.heap.size + 1) := hs1
  have hs2 : w.heap.size < W1.heap.size := by omega
  clear hs1
  clear D0 X0 F0 hs0 x0 x1 x2 x3 ca cb cc cd fa fb fc fd
  have hdne : ∀ k, av.ownBlock = some k → k ≠ d := fun k hk e => by
    obtain ⟨cur, hc⟩ := owns_block HA.out hk
    rw [e, HD.out] at hc; simp at hc
  have HDA : Hid (∀ k, av.ownBlock = some k → k ≠ d) := hdne
  have hdnv : ∀ k, vv.ownBlock = some k → k ≠ d := fun k hk e => by
    obtain ⟨cur, hc⟩ := owns_block HV.out hk
    rw [e, HD.out] at hc; simp at hc
  have HDV : Hid (∀ k, vv.ownBlock = some k → k ≠ d) := hdnv
  have havv : ∀ k, av.ownBlock = some k → vv.ownBlock ≠ some k := fun k hk e => by
    obtain ⟨cur, hc⟩ := owns_block HA.out hk
    obtain ⟨cur', hc'⟩ := owns_block HV.out e
    rw [hc] at hc'; simp at hc'
  have HAV : Hid (∀ k, av.ownBlock = some k → vv.ownBlock ≠ some k) := havv
  clear hdne hdnv havv
  have A1 : Hid (W1.ownsRow N 3 1 av l.length (ats l)) := owns_keep HA.out F1.out (fun k hk => by simpa using HDA.out k hk)
  have V1 : Hid (W1.ownsRow N 41 4 vv l.length (vals l)) := owns_keep HV.out F1.out (fun k hk => by simpa using HDV.out k hk)
  have hN1 : N ≤ W1.heap.size := by have := HLO.out d HIN.out; omega
  have c64 := D1.out.at
  have hd1 : d < W1.heap.size := by omega
  go_wp2_with (at_builtin; refine wpList_append_lies _ rfl _ _ _ rfl N 3 i3 (.int .i64 0) 1 8 Try.underlying43 hi3 hz3.1 hz3.2.1 hz3.2.2 rfl (by omega) av l.length (ats l) rfl (owns_keep A1.out ((Fr.refl [] _).alloc _) (by simp)) ⟨W1.heap.size, 0, none⟩ 1 1 [.int .i64 b] rfl rfl (World.news_of_block (heap_alloc_new _ _)) (by simp [Value.oneCell']) (by omega) (by unfold maxLen; omega) (by omega) (by simp; omega) (W1.heap.size + 1) (by simp) ?_)
  intro g cap w2 hown hgrow hat hlt
  have FG : Fr av.ownBlock.toList (W1.alloc (.cells #[.int .i64 b] 3)) w2 := Fr.ofGrown hgrow
  have hmem : ∀ k, k ∈ av.ownBlock.toList ↔ av.ownBlock = some k := fun k => by simp
  have D2 : Hid (Dk w2 d (upd n b x) bs av vv) := (D1.out.alloc _).keep FG (fun hk => HDA.out d ((hmem d).1 hk) rfl)
  have X2 : Hid (Bx w2 w.heap.size x) := (X1.out.alloc _).keep FG (fun hk => by have := HLO.out _ (HRA.out _ ((hmem _).1 hk)); omega)
  have V2 : Hid (w2.ownsRow N 41 4 vv l.length (vals l)) := owns_keep (owns_keep V1.out ((Fr.refl [] _).alloc _) (by simp)) FG (fun k hk hm => HAV.out k ((hmem k).1 hm) hk)
  have F2 : Hid (Fr R w w2) := ((F1.out.mono (fun k hk => by simp at hk; rw [hk]; exact HIN.out)).alloc _).trans (FG.mono (fun k hk => HRA.out k ((hmem k).1 hk)))
  have A2 : Hid (w2.ownsRow N 3 1 (.slice (some ⟨g, 0, none⟩) (l ++ [(b, x)]).length cap) (l ++ [(b, x)]).length (ats (l ++ [(b, x)]))) := by
    show World.ownsRow _ _ _ _ _ _ _
    rw [ats_snoc, List.length_append]; exact hown
  have hgd : g ≠ d := by
    rcases hat with hk | hk
    · exact HDA.out g hk
    · omega
  have HGR : Hid (g ∈ R ∨ w.heap.size ≤ g) := by
    rcases hat with hk | hk
    · exact Or.inl (HRA.out g hk)
    · right; omega
  have hd2 : d < w2.heap.size := blk_lt D2.out
  have hx2 : w.heap.size < w2.heap.size := blk_lt X2.out
  clear hown hgrow hat FG hmem D1 X1 F1 V1 A1 c64 hd1 hN1
  rw [show l.length + 1 = (l ++ [(b, x)]).length from by simp]
  generalize hL : (l ++ [(b, x)]).length = L at A2
  have HL : Hid ((l ++ [(b, x)]).length = L) := hL
  have HL2 : Hid (L = l.length + 1) := by show _ = _; rw [← hL]; simp
  clear hL
  have c64 := D2.out.at
  have f64 := D2.out.fr 64
  go_wp2_with fail
  have D3 : Hid (Dk (w2.setCell ⟨d, 64, none⟩ (.slice (some ⟨g, 0, none⟩) L cap)) d (upd n b x) bs (.slice (some ⟨g, 0, none⟩) L cap) vv) := D2.out.setAt _
  have X3 : Hid (Bx (w2.setCell ⟨d, 64, none⟩ (.slice (some ⟨g, 0, none⟩) L cap)) w.heap.size x) := X2.out.far (by dsimp only; omega)
  have FS : Fr [d] w2 (w2.setCell ⟨d, 64, none⟩ (.slice (some ⟨g, 0, none⟩) L cap)) := (Fr.refl _ _).setCell (Or.inl (by simp)) _
  have A3 : Hid ((w2.setCell ⟨d, 64, none⟩ (.slice (some ⟨g, 0, none⟩) L cap)).ownsRow N 3 1 (.slice (some ⟨g, 0, none⟩) L cap) L (ats (l ++ [(b, x)]))) := owns_keep A2.out FS (fun k hk => by simp [Value.ownBlock] at hk; subst hk; simpa using hgd)
  have V3 : Hid ((w2.setCell ⟨d, 64, none⟩ (.slice (some ⟨g, 0, none⟩) L cap)).ownsRow N 41 4 vv l.length (vals l)) := owns_keep V2.out FS (fun k hk => by simpa using HDV.out k hk)
  have F3 : Hid (Fr R w (w2.setCell ⟨d, 64, none⟩ (.slice (some ⟨g, 0, none⟩) L cap))) := F2.out.setCell (Or.inl HIN.out) _
  have hs3 : (w2.setCell ⟨d, 64, none⟩ (.slice (some ⟨g, 0, none⟩) L cap)).heap.size = w2.heap.size := by simp
  generalize w2.setCell ⟨d, 64, none⟩ (.slice (some ⟨g, 0, none⟩) L cap) = W3 at D3 X3 FS A3 V3 F3 hs3 ⊢
  have hg3 : g < W3.heap.size := by omega
  have hd3 : d < W3.heap.size := by omega
  have hx3 : w.heap.size < W3.heap.size := by omega
  have hN3 : N ≤ W3.heap.size := by have := HLO.out d HIN.out; omega
  clear hs3 FS D2 X2 V2 F2 A2 c64 f64 hd2 hx2 hlt
  have c65 := D3.out.vl
  have f65 := D3.out.fr 65
  have x0 := X3.out.a
  have x1 := X3.out.b
  have x2 := X3.out.c
  have x3 := X3.out.d
  have e1 : ¬ (w.heap.size = d) := by omega
  have e2 : ¬ (d = w.heap.size) := by omega
  have e3 : ¬ (w.heap.size = W3.heap.size) := by omega
  have e4 : ¬ (d = W3.heap.size) := by omega
  go_region_law (refine step_append_lies _ (by rfl) _ _ _ (by rfl) N 41 i41 (bV zB) 4 4 Try.underlying44 hi41 hz41.1 hz41.2.1 hz41.2.2 (by rfl) (by omega) vv l.length (vals l) (by rfl) (owns_keep V3.out (((Fr.refl [] _).alloc _).drew) (by simp)) ⟨W3.heap.size, 0, none⟩ 1 1 [.int .u8 x.a, .int .u8 x.b, .int .u8 x.c, .int .u8 x.d] (by rfl) (by rfl) (World.news_of_block (heap_alloc_new _ _)) (by simp [Value.oneCell']) (by omega) (by unfold maxLen; omega) (by omega) (by simp; omega) (W3.heap.size + 1) (by simp) ?_; intro g2 cap2 w4 hown2 hgrow2 hat2 hlt2; have FG : Fr vv.ownBlock.toList (W3.alloc (.cells #[.int .u8 x.a, .int .u8 x.b, .int .u8 x.c, .int .u8 x.d] 41)) w4 := Fr.ofGrown ⟨hgrow2.os, hgrow2.tape, hgrow2.output, hgrow2.size, hgrow2.block⟩; have D4 : Hid (Dk w4 d (upd n b x) bs (.slice (some ⟨g, 0, none⟩) L cap) vv) := (D3.out.alloc _).keep FG (fun hk => HDV.out d (by simpa using hk) rfl); have c65 := D4.out.vl; have f65 := D4.out.fr 65)
  all_goals
    have hvg : vv.ownBlock ≠ some g := fun e => by
      obtain ⟨cur, hc⟩ := owns_block A3.out (k := g) rfl
      obtain ⟨cur', hc'⟩ := owns_block V3.out e
      rw [hc] at hc'; simp at hc'
    have A4 : Hid (w4.ownsRow N 3 1 (.slice (some ⟨g, 0, none⟩) L cap) L (ats (l ++ [(b, x)]))) := owns_keep (owns_keep A3.out ((Fr.refl [] _).alloc _) (by simp)) FG (fun k hk hm => by
      simp [Value.ownBlock] at hk; subst hk; exact hvg (by simpa using hm))
    have F4 : Hid (Fr R w w4) := (F3.out.alloc _).trans (FG.mono (fun k hk => HRV.out k (by simpa using hk)))
    have hg2d : g2 ≠ d := by
      rcases hat2 with hk | hk
      · exact HDV.out g2 hk
      · omega
    have HG2 : Hid (g2 ∈ R ∨ w.heap.size ≤ g2) := by
      rcases hat2 with hk | hk
      · exact Or.inl (HRV.out g2 hk)
      · right; omega
    have V4 : Hid (w4.ownsRow N 41 4 (.slice (some ⟨g2, 0, none⟩) L cap2) L (vals (l ++ [(b, x)]))) := by
      show World.ownsRow _ _ _ _ _ _ _
      rw [vals_snoc, HL2.out]; exact hown2
    have hlen : l.length + 1 = L := HL2.out.symm
    rw [hlen]
    have D4' : Hid (Dk w4 d (upd n b x) bs (.slice (some ⟨g, 0, none⟩) L cap) vv) := D4
    clear hgrow2 hown2 hat2 FG D4 c65 f65 hlen
    go_wp2
    go_ret
    have FS : ∀ u, Fr [d] w4 (w4.setCell ⟨d, 65, none⟩ u) := fun u => (Fr.refl _ _).setCell (Or.inl (by simp)) _
    have hR : Fr R w (w4.setCell ⟨d, 65, none⟩ (.slice (some ⟨g2, 0, none⟩) L cap2)) := F4.out.setCell (Or.inl HIN.out) _
    refine ⟨rfl, R ++ [g, g2], ⟨⟨_, _, D4'.out.setVl _, ?_, ?_, ?_, ?_⟩, by simp [HIN.out], ?_⟩, ?_, hR⟩
    · rw [HL.out]; exact owns_keep A4.out (FS _) (fun k hk => by simp [Value.ownBlock] at hk; subst hk; simpa using hgd)
    · rw [HL.out]; exact owns_keep V4.out (FS _) (fun k hk => by simp [Value.ownBlock] at hk; subst hk; simpa using hg2d)
    · intro k hk; simp [Value.ownBlock] at hk; simp [hk]
    · intro k hk; simp [Value.ownBlock] at hk; simp [hk]
    · intro k hk
      have hsz := hR.size
      simp only [List.mem_append, List.mem_cons, List.not_mem_nil, or_false] at hk
      rcases hk with hk | hk | hk
      · have := HLO.out k hk; exact ⟨this.1, by omega⟩
      · subst hk
        have := A4.out.lt k rfl
        exact ⟨this.1, by simp; omega⟩
      · subst hk
        have := V4.out.lt k rfl
        exact ⟨this.1, by simp; omega⟩
    · intro k hk
      simp only [List.mem_append, List.mem_cons, List.not_mem_nil, or_false] at hk
      rcases hk with hk | hk | hk
      · exact Or.inl hk
      · subst hk; exact HGR.out
      · subst hk; exact HG2.out
end Go.Proofs.Qxb6500339a
