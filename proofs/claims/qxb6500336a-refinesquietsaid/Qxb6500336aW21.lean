import Derived.Test.Qxb6500336aW20
import Derived.Laws.CopyOwn
import Derived.Laws.EntriesVeiled
namespace Go.Proofs.Qxb6500336a
open Go.RowKit
set_option linter.unusedVariables false
set_option linter.unusedSimpArgs false

theorem at_cp {P : Program} {ops : Array Oper} {rest : List Oper} {a : Act} {w : World} {Q : Exit → Act → World → Prop} {dst : Option Tmp} {ty : TypeId} {pos : String} {aft : Array Edge} {xs : Array Operand} {ts : Array TypeId}
    (h : wpList P ops Q (⟨dst, .call ⟨.builtin .copy, xs, ts⟩, ty, pos, aft, none⟩ :: rest) a w) : wpList P ops Q (⟨dst, .call ⟨.builtin .copy, xs, ts⟩, ty, pos, aft, none⟩ :: rest) a w := h

theorem res51 {w : World} {R : Nat} {n : Int} {tmps : Array Value} (h0 : tmps[4]?.getD undef = .pointer (some ⟨R, 0, none⟩)) (hc : w.cell? ⟨R, 0, none⟩ = some (.int .i64 n)) : (results Try.f51 tmps).run Try.prog w = .ok (.int .i64 n) w := by
  simp [results, Try.results51, go_sem, h0, hc]

theorem eqf_nil (W : World) : (binOp .eql 95 .nilFunc .nilFunc).run Try.prog W = .ok (.bool true) W := by kernel_rfl
theorem eqf_fn (f : Nat) (W : World) : (binOp .eql 95 (.func (.func f) #[] #[]) .nilFunc).run Try.prog W = .ok (.bool false) W := by kernel_rfl

set_option maxHeartbeats 1600000 in
set_option maxRecDepth 100000 in
theorem extra_nil {w : World} {S : Nat} {sl : Value} {rs : List Code} (h : St w S sl rs) (k : Int) (hk : k = 1 ∨ k = 5 ∨ k = 6 ∨ k = 7 ∨ k = 8 ∨ k = 9) :
    Calls Try.prog 51 #[.pointer (some ⟨S, 0, none⟩), .int .i64 k] w (Out w S sl (9, rs)) := by
  have H : Hid (St w S sl rs) := h
  clear h
  have q1 := eqf_nil
  rcases hk with rfl | rfl | rfl | rfl | rfl | rfl
  all_goals
    go_enter_defers Try.func51, Try.ntmps51
    go_wp2
    refine ⟨.int .i64 9, res51 (R := w.heap.size) (by simp) ?_, Out.same H.out ?_ 9⟩
    · simp
    · exact ((Fr.refl _ _).alloc _).alloc _

theorem Stv.setB {w : World} {S : Nat} {sl : Value} {us : List Value} {bz : Bool} (h : Stv w S sl us bz) (b : Bool) : Stv (w.setCell ⟨S, 1, none⟩ (.bool b)) S sl us b := by
  have FS : Fr [S] w (w.setCell ⟨S, 1, none⟩ (.bool b)) := Fr.setCell (Fr.refl _ _) (Or.inl (by simp)) _
  refine ⟨?_, owns_keep h.row FS (fun k hk => by have := h.far hk; simpa using this)⟩
  have := blk_set h.obj 1 (.bool b); simpa using this

/-- The stack laid back. -/
theorem back_end {w w1 : World} {S R : Nat} {sl sl' : Value} {us us' : List Value} {rs : List Code} {g : Nat} {y x : Int} (h1 : Stv w1 S sl' us' true) (hrs : Shs w1 rs us) (hR : w1.heap[R]? = some (.cells #[.int .i64 y] 26)) (hk : w1.heap[g]? = some (.cells us.reverse.toArray 65)) (hlen : us.length ≤ 5)
    (hm : Mv w w1 S sl sl') (hg : w.heap.size ≤ g) (hRw : w.heap.size ≤ R) :
    Out w S sl (x, rs) (.returned (.int .i64 x)) (((w1.setCell ⟨S, 1, none⟩ (.bool false)).setCell ⟨S, 0, none⟩ (.slice (some ⟨g, 0, none⟩) us.length us.length)).setCell ⟨R, 0, none⟩ (.int .i64 x)) := by
  have e1 := blk_set (blk_set h1.obj 1 (.bool false)) 0 (.slice (some ⟨g, 0, none⟩) us.length us.length)
  simp at e1
  have hRS : R ≠ S := fun e => by subst e; rw [h1.obj] at hR; simp at hR
  have hgS : g ≠ S := fun e => by subst e; rw [h1.obj] at hk; simp at hk
  have hgR : g ≠ R := fun e => by subst e; rw [hR] at hk; simp at hk
  have FS : Fr [S, R] w1 (((w1.setCell ⟨S, 1, none⟩ (.bool false)).setCell ⟨S, 0, none⟩ (.slice (some ⟨g, 0, none⟩) us.length us.length)).setCell ⟨R, 0, none⟩ (.int .i64 x)) :=
    (((Fr.refl _ _).setCell (Or.inl (by simp)) _).setCell (Or.inl (by simp)) _).setCell (Or.inl (by simp)) _
  have hkc : Kc w1 (((w1.setCell ⟨S, 1, none⟩ (.bool false)).setCell ⟨S, 0, none⟩ (.slice (some ⟨g, 0, none⟩) us.length us.length)).setCell ⟨R, 0, none⟩ (.int .i64 x)) := FS.kc (by
    intro b hb c t hc
    simp at hb
    rcases hb with rfl | rfl
    · rw [h1.obj] at hc; simp at hc; rw [← hc.2]; simp
    · rw [hR] at hc; simp at hc; rw [← hc.2]; simp)
  refine ⟨rfl, .slice (some ⟨g, 0, none⟩) us.length us.length, ⟨us, ⟨?_, ?_⟩, hrs.kept hkc⟩, ?_, ?_⟩
  · exact blk_set_far e1 _ _ (fun e => hRS e.symm)
  · refine ⟨by simp, Or.inr ⟨g, us.length, us.reverse.toArray, rfl, Nat.zero_le _, FS.keep hk (by simp [hgS, hgR]), Nat.le_refl _, by unfold maxLen; omega, by simp, ?_⟩⟩
    simp only [Nat.mul_one]
    exact List.take_of_length_le (by simp)
  · refine hm.fr.narrow FS ?_
    intro i hi
    simp at hi
    rcases hi with rfl | rfl
    · left; simp
    · exact Or.inr hRw
  · exact Or.inr ⟨g, rfl, hg⟩

theorem Fr.trans' {w a b : World} {N : Nat} (h : Fr [] w a) (k : Below N a b) (hN : w.heap.size ≤ N) : Fr [] w b :=
  ⟨k.os.trans h.os, k.tape.trans h.tape, k.output.trans h.output, Nat.le_trans h.size k.size, fun i hi hn => (k.block i (by omega)).trans (h.block i hi hn)⟩
theorem Stv.src {W : World} {S n cap : Nat} {p : Option Addr} {us : List Value} {bz : Bool} (h : Stv W S (.slice p n cap) us bz) : 0 < us.length → ∃ ad, p = some ad ∧ ∀ j v, us.reverse[j]? = some v → W.cell? (ad.add j) = some v := by
  intro h0
  rcases h.form with ⟨_, rfl⟩ | ⟨g, cap', cur, e, _⟩
  · simp at h0
  · simp at e
    obtain ⟨rfl, _⟩ := e
    exact ⟨_, rfl, h.row.cells rfl⟩
theorem splice_all {α : Type} (L cs : List α) (h : L.length = cs.length) : splice L 0 cs = cs := by
  unfold splice
  rw [List.take_zero, Nat.zero_add, ← h, List.drop_length]
  simp
theorem Mv.setS (W : World) (S : Nat) (sl : Value) (i : Nat) (v : Value) : Mv W (W.setCell ⟨S, i, none⟩ v) S sl sl := ⟨Fr.setCell (Fr.refl _ _) (Or.inl (by simp)) _, Or.inl rfl⟩

set_option maxHeartbeats 6400000 in
set_option maxRecDepth 100000 in
theorem extra_w {w : World} {S : Nat} {sl : Value} {rs : List Code} (h : St w S sl rs) (hw : Wf rs) (k : Int) (f : Nat) (X : List Code → Int × List Code) (hk : (k = 0 ∧ f = 70) ∨ (k = 2 ∧ f = 71) ∨ (k = 3 ∧ f = 72) ∨ (k = 4 ∧ f = 73))
    (hX : ∀ w sl, Sb w S sl rs true → Calls Try.prog f #[.pointer (some ⟨S, 0, none⟩)] w (XOut w S sl (X rs))) (hE : (X rs).1 ≠ 0 → (X rs).2 = rs) :
    Calls Try.prog 51 #[.pointer (some ⟨S, 0, none⟩), .int .i64 k] w (Out w S sl (X rs)) := by
  obtain ⟨i65, hi65, hz65⟩ := info_parts info65
  have hsz65 : (Try.prog.info? 65).map (·.size) = some 1 := by kernel_rfl
  obtain ⟨us, h1, h2⟩ := h
  have hlen : us.length ≤ 5 := by rw [h2.len]; exact hw.1
  have H1 : Hid (Stv w S sl us false) := h1
  have H2 : Hid (Shs w rs us) := h2
  have HX : Hid (∀ w sl, Sb w S sl rs true → Calls Try.prog f #[.pointer (some ⟨S, 0, none⟩)] w (XOut w S sl (X rs))) := hX
  have HE : Hid ((X rs).1 ≠ 0 → (X rs).2 = rs) := hE
  have hS := blk_lt h1.obj
  have c0 := blk_cell h1.obj 0
  have c1 := blk_cell h1.obj 1
  simp at c0 c1
  obtain ⟨p, cap, rfl⟩ := h1.len
  have q2 := eqf_fn
  have HONE : Hid (∀ v ∈ us.reverse, v.oneCell' = true) := h2.rev.one
  clear h1 h2 hX hE hw
  rcases hk with ⟨rfl, rfl⟩ | ⟨rfl, rfl⟩ | ⟨rfl, rfl⟩ | ⟨rfl, rfl⟩
  · go_enter_defers Try.func51, Try.ntmps51
    go_wp2_with (at_make; refine wpList_make_full _ rfl _ _ 53 rfl w.heap.size 65 i65 .nilIface 1 Try.underlying53 hi65 hz65.1 hz65.2.1 _ _ _ _ us.length rfl rfl rfl rfl (by rw [hz65.2.2]; omega) (by unfold maxLen; omega) (by simp; omega) ?_)
    intro wA hownA hgrowA
    have FA0 : Fr [] ((w.alloc (.cells #[.int .i64 0] 26)).alloc (.cells #[.func (.func 70) #[] #[], .nilFunc, .func (.func 71) #[] #[], .func (.func 72) #[] #[], .func (.func 73) #[] #[]] 96)) wA := Fr.ofGrown hgrowA
    have FA : Fr [] w wA := (((Fr.refl [] w).alloc _).alloc _).trans FA0
    have HRA : Hid (wA.heap[w.heap.size]? = some (.cells #[.int .i64 0] 26)) := FA0.keep (blk_alloc (blk_new w (.cells #[.int .i64 0] 26)) _) (by simp)
    have hszA : w.heap.size + 2 ≤ wA.heap.size := by have := FA0.size; simp at this; omega
    obtain ⟨cur, hcur, hcsz⟩ : ∃ cur, wA.heap[w.heap.size + 1 + 1]? = some (.cells cur 65) ∧ cur.size = us.length := by
      rcases hownA.2 with ⟨e, _⟩ | ⟨g', cap', cur, e, _, e1, _, _, e2, _⟩
      · simp at e
      · simp at e
        obtain ⟨rfl, rfl⟩ := e
        exact ⟨cur, e1, by omega⟩
    have HA1 : Hid (Stv wA S (.slice p us.length cap) us false) := H1.out.keep0 FA
    have HFA : Hid (Fr [] w wA) := FA
    have HCUR : Hid (wA.heap[w.heap.size + 1 + 1]? = some (.cells cur.toList.toArray 65)) := by show _ = _; simpa using hcur
    have c0A := blk_cell HA1.out.obj 0
    simp at c0A
    clear hownA hgrowA FA0 FA hcur
    go_wp2_with ((with_reducible refine at_cp ?_); refine wpList_copy_splice rfl _ _ 53 53 rfl 65 Try.underlying53 hsz65 _ _ _ _ _ _ rfl rfl (w.heap.size + 1 + 1) 0 cur.toList 65 HCUR.out us.reverse (by simp) (fun h0 => ⟨rfl, HA1.out.src (by simpa using h0)⟩) (by simp; omega) HONE.out (w.heap.size + 2) wA (Below.refl _ _) (by omega) ?_; intro wB HGB hBB; have FB : Fr [] w wB := HFA.out.trans' hBB (by omega); have HB1 : Hid (Stv wB S (.slice p us.length cap) us false) := H1.out.keep0 FB; have c1B := blk_cell HB1.out.obj 1; have f1B := blk_frozen HB1.out.obj 1; simp at c1B)
    have HKB : Hid (wB.heap[w.heap.size + 1 + 1]? = some (.cells us.reverse.toArray 65)) := by
      have h5 := HGB.out
      rw [splice_all _ _ (by simp; omega)] at h5
      exact h5
    have HRB : Hid (wB.heap[w.heap.size]? = some (.cells #[.int .i64 0] 26)) := (hBB.block w.heap.size (by omega)).trans HRA.out
    have HFB : Hid (Fr [] w wB) := FB
    clear hBB FB HGB HCUR
    have FC : Fr [S] wB (wB.setCell ⟨S, 1, none⟩ (.bool true)) := Fr.setCell (Fr.refl _ _) (Or.inl (by simp)) _
    have hRS : w.heap.size ≠ S := by omega
    have HRC : Hid ((wB.setCell ⟨S, 1, none⟩ (.bool true)).heap[w.heap.size]? = some (.cells #[.int .i64 0] 26)) := FC.keep HRB.out (by simpa using hRS)
    have HKC : Hid ((wB.setCell ⟨S, 1, none⟩ (.bool true)).heap[w.heap.size + 1 + 1]? = some (.cells us.reverse.toArray 65)) := FC.keep HKB.out (by simp; omega)
    have HC1 : Hid (Stv (wB.setCell ⟨S, 1, none⟩ (.bool true)) S (.slice p us.length cap) us true) := HB1.out.setB true
    have HMC : Hid (Mv w (wB.setCell ⟨S, 1, none⟩ (.bool true)) S (.slice p us.length cap) (.slice p us.length cap)) := Mv.frl HFB.out (Mv.setS wB S _ 1 _)
    have HC2 : Hid (Shs (wB.setCell ⟨S, 1, none⟩ (.bool true)) rs us) := H2.out.kept (H1.out.kc HMC.out)
    generalize hWC : wB.setCell ⟨S, 1, none⟩ (.bool true) = wC at *
    clear hWC FC
    refine (HX.out wC _ ⟨us, HC1.out, HC2.out⟩).mono ?_
    rintro e wD (⟨h0, rfl, sl', hsb, m⟩ | ⟨hne0, ⟨pv, rfl, hpv⟩, sl', us', hst, m⟩)
    · have hRD := HC1.out.keepc m HRC.out (by simp) (by simp)
      have c5 := blk_cell hRD 0
      simp at c5
      have H0 : Hid ((X rs).1 = 0) := h0
      have HRD : Hid _ := hRD
      clear h0 hRD
      go_wp2
      refine leaves_cons (f := 74) (args := #[.pointer (some ⟨S, 0, none⟩), .slice (some ⟨w.heap.size + 1 + 1, 0, none⟩) us.length us.length, .pointer (some ⟨w.heap.size, 0, none⟩)]) (by simp) (by simp [go_sem]) ?_
      obtain ⟨us5, hs5, hs6⟩ := hsb
      refine (rescue_idle hs5.obj).mono ?_
      rintro e u' w'' ⟨rfl, rfl, rfl⟩
      have m2 := HMC.out.trans (m.trans (Mv.setS wD S sl' 1 (.bool false)))
      refine ⟨_, res51 (R := w.heap.size) (n := 0) (by simp) ?_, ?_⟩
      · have := blk_cell (blk_set_far HRD.out ⟨S, 1, none⟩ (.bool false) hRS) 0
        simpa using this
      · refine ⟨by rw [H0.out], sl', ⟨us5, hs5.setB false, hs6.kept (hs5.kc (Mv.setS wD S sl' 1 (.bool false)))⟩, m2⟩
    · have hRD := HC1.out.keepc m HRC.out (by simp) (by simp)
      have hKD : wD.heap[w.heap.size + 1 + 1]? = some (.cells us.reverse.toArray 65) := m.fr.keep HKC.out (fun hm => by
        simp at hm
        rcases hm with e | e
        · omega
        · obtain ⟨c9, h9⟩ := owns_block H1.out.row e
          have := blk_lt h9
          omega)
      show bodyPostD _ _ _ _ _ _
      refine leaves_cons (f := 74) (args := #[.pointer (some ⟨S, 0, none⟩), .slice (some ⟨w.heap.size + 1 + 1, 0, none⟩) us.length us.length, .pointer (some ⟨w.heap.size, 0, none⟩)]) (by simp) (by simp [go_sem]) ?_
      refine (rescue_pan hst.obj hRD hpv).mono ?_
      rintro e u' w'' ⟨rfl, rfl, rfl⟩
      have hS2 : Shs wD rs us := HC2.out.kept (HC1.out.kc m)
      have hb := back_end (x := (X rs).1) hst hS2 hRD hKD hlen (HMC.out.trans m) (by omega) (Nat.le_refl _)
      refine ⟨_, res51 (R := w.heap.size) (n := (X rs).1) (by simp) ?_, ?_⟩
      · have h7 := blk_set (blk_set_far (blk_set_far hRD ⟨S, 1, none⟩ (.bool false) hRS) ⟨S, 0, none⟩ (.slice (some ⟨w.heap.size + 1 + 1, 0, none⟩) us.length us.length) hRS) 0 (.int .i64 (X rs).1)
        have := blk_cell h7 0
        simpa using this
      · have e9 : X rs = ((X rs).1, rs) := Prod.ext rfl (HE.out hne0)
        rw [← e9] at hb
        exact hb
  · go_enter_defers Try.func51, Try.ntmps51
    go_wp2_with (at_make; refine wpList_make_full _ rfl _ _ 53 rfl w.heap.size 65 i65 .nilIface 1 Try.underlying53 hi65 hz65.1 hz65.2.1 _ _ _ _ us.length rfl rfl rfl rfl (by rw [hz65.2.2]; omega) (by unfold maxLen; omega) (by simp; omega) ?_)
    intro wA hownA hgrowA
    have FA0 : Fr [] ((w.alloc (.cells #[.int .i64 0] 26)).alloc (.cells #[.func (.func 70) #[] #[], .nilFunc, .func (.func 71) #[] #[], .func (.func 72) #[] #[], .func (.func 73) #[] #[]] 96)) wA := Fr.ofGrown hgrowA
    have FA : Fr [] w wA := (((Fr.refl [] w).alloc _).alloc _).trans FA0
    have HRA : Hid (wA.heap[w.heap.size]? = some (.cells #[.int .i64 0] 26)) := FA0.keep (blk_alloc (blk_new w (.cells #[.int .i64 0] 26)) _) (by simp)
    have hszA : w.heap.size + 2 ≤ wA.heap.size := by have := FA0.size; simp at this; omega
    obtain ⟨cur, hcur, hcsz⟩ : ∃ cur, wA.heap[w.heap.size + 1 + 1]? = some (.cells cur 65) ∧ cur.size = us.length := by
      rcases hownA.2 with ⟨e, _⟩ | ⟨g', cap', cur, e, _, e1, _, _, e2, _⟩
      · simp at e
      · simp at e
        obtain ⟨rfl, rfl⟩ := e
        exact ⟨cur, e1, by omega⟩
    have HA1 : Hid (Stv wA S (.slice p us.length cap) us false) := H1.out.keep0 FA
    have HFA : Hid (Fr [] w wA) := FA
    have HCUR : Hid (wA.heap[w.heap.size + 1 + 1]? = some (.cells cur.toList.toArray 65)) := by show _ = _; simpa using hcur
    have c0A := blk_cell HA1.out.obj 0
    simp at c0A
    clear hownA hgrowA FA0 FA hcur
    go_wp2_with ((with_reducible refine at_cp ?_); refine wpList_copy_splice rfl _ _ 53 53 rfl 65 Try.underlying53 hsz65 _ _ _ _ _ _ rfl rfl (w.heap.size + 1 + 1) 0 cur.toList 65 HCUR.out us.reverse (by simp) (fun h0 => ⟨rfl, HA1.out.src (by simpa using h0)⟩) (by simp; omega) HONE.out (w.heap.size + 2) wA (Below.refl _ _) (by omega) ?_; intro wB HGB hBB; have FB : Fr [] w wB := HFA.out.trans' hBB (by omega); have HB1 : Hid (Stv wB S (.slice p us.length cap) us false) := H1.out.keep0 FB; have c1B := blk_cell HB1.out.obj 1; have f1B := blk_frozen HB1.out.obj 1; simp at c1B)
    have HKB : Hid (wB.heap[w.heap.size + 1 + 1]? = some (.cells us.reverse.toArray 65)) := by
      have h5 := HGB.out
      rw [splice_all _ _ (by simp; omega)] at h5
      exact h5
    have HRB : Hid (wB.heap[w.heap.size]? = some (.cells #[.int .i64 0] 26)) := (hBB.block w.heap.size (by omega)).trans HRA.out
    have HFB : Hid (Fr [] w wB) := FB
    clear hBB FB HGB HCUR
    have FC : Fr [S] wB (wB.setCell ⟨S, 1, none⟩ (.bool true)) := Fr.setCell (Fr.refl _ _) (Or.inl (by simp)) _
    have hRS : w.heap.size ≠ S := by omega
    have HRC : Hid ((wB.setCell ⟨S, 1, none⟩ (.bool true)).heap[w.heap.size]? = some (.cells #[.int .i64 0] 26)) := FC.keep HRB.out (by simpa using hRS)
    have HKC : Hid ((wB.setCell ⟨S, 1, none⟩ (.bool true)).heap[w.heap.size + 1 + 1]? = some (.cells us.reverse.toArray 65)) := FC.keep HKB.out (by simp; omega)
    have HC1 : Hid (Stv (wB.setCell ⟨S, 1, none⟩ (.bool true)) S (.slice p us.length cap) us true) := HB1.out.setB true
    have HMC : Hid (Mv w (wB.setCell ⟨S, 1, none⟩ (.bool true)) S (.slice p us.length cap) (.slice p us.length cap)) := Mv.frl HFB.out (Mv.setS wB S _ 1 _)
    have HC2 : Hid (Shs (wB.setCell ⟨S, 1, none⟩ (.bool true)) rs us) := H2.out.kept (H1.out.kc HMC.out)
    generalize hWC : wB.setCell ⟨S, 1, none⟩ (.bool true) = wC at *
    clear hWC FC
    refine (HX.out wC _ ⟨us, HC1.out, HC2.out⟩).mono ?_
    rintro e wD (⟨h0, rfl, sl', hsb, m⟩ | ⟨hne0, ⟨pv, rfl, hpv⟩, sl', us', hst, m⟩)
    · have hRD := HC1.out.keepc m HRC.out (by simp) (by simp)
      have c5 := blk_cell hRD 0
      simp at c5
      have H0 : Hid ((X rs).1 = 0) := h0
      have HRD : Hid _ := hRD
      clear h0 hRD
      go_wp2
      refine leaves_cons (f := 74) (args := #[.pointer (some ⟨S, 0, none⟩), .slice (some ⟨w.heap.size + 1 + 1, 0, none⟩) us.length us.length, .pointer (some ⟨w.heap.size, 0, none⟩)]) (by simp) (by simp [go_sem]) ?_
      obtain ⟨us5, hs5, hs6⟩ := hsb
      refine (rescue_idle hs5.obj).mono ?_
      rintro e u' w'' ⟨rfl, rfl, rfl⟩
      have m2 := HMC.out.trans (m.trans (Mv.setS wD S sl' 1 (.bool false)))
      refine ⟨_, res51 (R := w.heap.size) (n := 0) (by simp) ?_, ?_⟩
      · have := blk_cell (blk_set_far HRD.out ⟨S, 1, none⟩ (.bool false) hRS) 0
        simpa using this
      · refine ⟨by rw [H0.out], sl', ⟨us5, hs5.setB false, hs6.kept (hs5.kc (Mv.setS wD S sl' 1 (.bool false)))⟩, m2⟩
    · have hRD := HC1.out.keepc m HRC.out (by simp) (by simp)
      have hKD : wD.heap[w.heap.size + 1 + 1]? = some (.cells us.reverse.toArray 65) := m.fr.keep HKC.out (fun hm => by
        simp at hm
        rcases hm with e | e
        · omega
        · obtain ⟨c9, h9⟩ := owns_block H1.out.row e
          have := blk_lt h9
          omega)
      show bodyPostD _ _ _ _ _ _
      refine leaves_cons (f := 74) (args := #[.pointer (some ⟨S, 0, none⟩), .slice (some ⟨w.heap.size + 1 + 1, 0, none⟩) us.length us.length, .pointer (some ⟨w.heap.size, 0, none⟩)]) (by simp) (by simp [go_sem]) ?_
      refine (rescue_pan hst.obj hRD hpv).mono ?_
      rintro e u' w'' ⟨rfl, rfl, rfl⟩
      have hS2 : Shs wD rs us := HC2.out.kept (HC1.out.kc m)
      have hb := back_end (x := (X rs).1) hst hS2 hRD hKD hlen (HMC.out.trans m) (by omega) (Nat.le_refl _)
      refine ⟨_, res51 (R := w.heap.size) (n := (X rs).1) (by simp) ?_, ?_⟩
      · have h7 := blk_set (blk_set_far (blk_set_far hRD ⟨S, 1, none⟩ (.bool false) hRS) ⟨S, 0, none⟩ (.slice (some ⟨w.heap.size + 1 + 1, 0, none⟩) us.length us.length) hRS) 0 (.int .i64 (X rs).1)
        have := blk_cell h7 0
        simpa using this
      · have e9 : X rs = ((X rs).1, rs) := Prod.ext rfl (HE.out hne0)
        rw [← e9] at hb
        exact hb
  · go_enter_defers Try.func51, Try.ntmps51
    go_wp2_with (at_make; refine wpList_make_full _ rfl _ _ 53 rfl w.heap.size 65 i65 .nilIface 1 Try.underlying53 hi65 hz65.1 hz65.2.1 _ _ _ _ us.length rfl rfl rfl rfl (by rw [hz65.2.2]; omega) (by unfold maxLen; omega) (by simp; omega) ?_)
    intro wA hownA hgrowA
    have FA0 : Fr [] ((w.alloc (.cells #[.int .i64 0] 26)).alloc (.cells #[.func (.func 70) #[] #[], .nilFunc, .func (.func 71) #[] #[], .func (.func 72) #[] #[], .func (.func 73) #[] #[]] 96)) wA := Fr.ofGrown hgrowA
    have FA : Fr [] w wA := (((Fr.refl [] w).alloc _).alloc _).trans FA0
    have HRA : Hid (wA.heap[w.heap.size]? = some (.cells #[.int .i64 0] 26)) := FA0.keep (blk_alloc (blk_new w (.cells #[.int .i64 0] 26)) _) (by simp)
    have hszA : w.heap.size + 2 ≤ wA.heap.size := by have := FA0.size; simp at this; omega
    obtain ⟨cur, hcur, hcsz⟩ : ∃ cur, wA.heap[w.heap.size + 1 + 1]? = some (.cells cur 65) ∧ cur.size = us.length := by
      rcases hownA.2 with ⟨e, _⟩ | ⟨g', cap', cur, e, _, e1, _, _, e2, _⟩
      · simp at e
      · simp at e
        obtain ⟨rfl, rfl⟩ := e
        exact ⟨cur, e1, by omega⟩
    have HA1 : Hid (Stv wA S (.slice p us.length cap) us false) := H1.out.keep0 FA
    have HFA : Hid (Fr [] w wA) := FA
    have HCUR : Hid (wA.heap[w.heap.size + 1 + 1]? = some (.cells cur.toList.toArray 65)) := by show _ = _; simpa using hcur
    have c0A := blk_cell HA1.out.obj 0
    simp at c0A
    clear hownA hgrowA FA0 FA hcur
    go_wp2_with ((with_reducible refine at_cp ?_); refine wpList_copy_splice rfl _ _ 53 53 rfl 65 Try.underlying53 hsz65 _ _ _ _ _ _ rfl rfl (w.heap.size + 1 + 1) 0 cur.toList 65 HCUR.out us.reverse (by simp) (fun h0 => ⟨rfl, HA1.out.src (by simpa using h0)⟩) (by simp; omega) HONE.out (w.heap.size + 2) wA (Below.refl _ _) (by omega) ?_; intro wB HGB hBB; have FB : Fr [] w wB := HFA.out.trans' hBB (by omega); have HB1 : Hid (Stv wB S (.slice p us.length cap) us false) := H1.out.keep0 FB; have c1B := blk_cell HB1.out.obj 1; have f1B := blk_frozen HB1.out.obj 1; simp at c1B)
    have HKB : Hid (wB.heap[w.heap.size + 1 + 1]? = some (.cells us.reverse.toArray 65)) := by
      have h5 := HGB.out
      rw [splice_all _ _ (by simp; omega)] at h5
      exact h5
    have HRB : Hid (wB.heap[w.heap.size]? = some (.cells #[.int .i64 0] 26)) := (hBB.block w.heap.size (by omega)).trans HRA.out
    have HFB : Hid (Fr [] w wB) := FB
    clear hBB FB HGB HCUR
    have FC : Fr [S] wB (wB.setCell ⟨S, 1, none⟩ (.bool true)) := Fr.setCell (Fr.refl _ _) (Or.inl (by simp)) _
    have hRS : w.heap.size ≠ S := by omega
    have HRC : Hid ((wB.setCell ⟨S, 1, none⟩ (.bool true)).heap[w.heap.size]? = some (.cells #[.int .i64 0] 26)) := FC.keep HRB.out (by simpa using hRS)
    have HKC : Hid ((wB.setCell ⟨S, 1, none⟩ (.bool true)).heap[w.heap.size + 1 + 1]? = some (.cells us.reverse.toArray 65)) := FC.keep HKB.out (by simp; omega)
    have HC1 : Hid (Stv (wB.setCell ⟨S, 1, none⟩ (.bool true)) S (.slice p us.length cap) us true) := HB1.out.setB true
    have HMC : Hid (Mv w (wB.setCell ⟨S, 1, none⟩ (.bool true)) S (.slice p us.length cap) (.slice p us.length cap)) := Mv.frl HFB.out (Mv.setS wB S _ 1 _)
    have HC2 : Hid (Shs (wB.setCell ⟨S, 1, none⟩ (.bool true)) rs us) := H2.out.kept (H1.out.kc HMC.out)
    generalize hWC : wB.setCell ⟨S, 1, none⟩ (.bool true) = wC at *
    clear hWC FC
    refine (HX.out wC _ ⟨us, HC1.out, HC2.out⟩).mono ?_
    rintro e wD (⟨h0, rfl, sl', hsb, m⟩ | ⟨hne0, ⟨pv, rfl, hpv⟩, sl', us', hst, m⟩)
    · have hRD := HC1.out.keepc m HRC.out (by simp) (by simp)
      have c5 := blk_cell hRD 0
      simp at c5
      have H0 : Hid ((X rs).1 = 0) := h0
      have HRD : Hid _ := hRD
      clear h0 hRD
      go_wp2
      refine leaves_cons (f := 74) (args := #[.pointer (some ⟨S, 0, none⟩), .slice (some ⟨w.heap.size + 1 + 1, 0, none⟩) us.length us.length, .pointer (some ⟨w.heap.size, 0, none⟩)]) (by simp) (by simp [go_sem]) ?_
      obtain ⟨us5, hs5, hs6⟩ := hsb
      refine (rescue_idle hs5.obj).mono ?_
      rintro e u' w'' ⟨rfl, rfl, rfl⟩
      have m2 := HMC.out.trans (m.trans (Mv.setS wD S sl' 1 (.bool false)))
      refine ⟨_, res51 (R := w.heap.size) (n := 0) (by simp) ?_, ?_⟩
      · have := blk_cell (blk_set_far HRD.out ⟨S, 1, none⟩ (.bool false) hRS) 0
        simpa using this
      · refine ⟨by rw [H0.out], sl', ⟨us5, hs5.setB false, hs6.kept (hs5.kc (Mv.setS wD S sl' 1 (.bool false)))⟩, m2⟩
    · have hRD := HC1.out.keepc m HRC.out (by simp) (by simp)
      have hKD : wD.heap[w.heap.size + 1 + 1]? = some (.cells us.reverse.toArray 65) := m.fr.keep HKC.out (fun hm => by
        simp at hm
        rcases hm with e | e
        · omega
        · obtain ⟨c9, h9⟩ := owns_block H1.out.row e
          have := blk_lt h9
          omega)
      show bodyPostD _ _ _ _ _ _
      refine leaves_cons (f := 74) (args := #[.pointer (some ⟨S, 0, none⟩), .slice (some ⟨w.heap.size + 1 + 1, 0, none⟩) us.length us.length, .pointer (some ⟨w.heap.size, 0, none⟩)]) (by simp) (by simp [go_sem]) ?_
      refine (rescue_pan hst.obj hRD hpv).mono ?_
      rintro e u' w'' ⟨rfl, rfl, rfl⟩
      have hS2 : Shs wD rs us := HC2.out.kept (HC1.out.kc m)
      have hb := back_end (x := (X rs).1) hst hS2 hRD hKD hlen (HMC.out.trans m) (by omega) (Nat.le_refl _)
      refine ⟨_, res51 (R := w.heap.size) (n := (X rs).1) (by simp) ?_, ?_⟩
      · have h7 := blk_set (blk_set_far (blk_set_far hRD ⟨S, 1, none⟩ (.bool false) hRS) ⟨S, 0, none⟩ (.slice (some ⟨w.heap.size + 1 + 1, 0, none⟩) us.length us.length) hRS) 0 (.int .i64 (X rs).1)
        have := blk_cell h7 0
        simpa using this
      · have e9 : X rs = ((X rs).1, rs) := Prod.ext rfl (HE.out hne0)
        rw [← e9] at hb
        exact hb
  · go_enter_defers Try.func51, Try.ntmps51
    go_wp2_with (at_make; refine wpList_make_full _ rfl _ _ 53 rfl w.heap.size 65 i65 .nilIface 1 Try.underlying53 hi65 hz65.1 hz65.2.1 _ _ _ _ us.length rfl rfl rfl rfl (by rw [hz65.2.2]; omega) (by unfold maxLen; omega) (by simp; omega) ?_)
    intro wA hownA hgrowA
    have FA0 : Fr [] ((w.alloc (.cells #[.int .i64 0] 26)).alloc (.cells #[.func (.func 70) #[] #[], .nilFunc, .func (.func 71) #[] #[], .func (.func 72) #[] #[], .func (.func 73) #[] #[]] 96)) wA := Fr.ofGrown hgrowA
    have FA : Fr [] w wA := (((Fr.refl [] w).alloc _).alloc _).trans FA0
    have HRA : Hid (wA.heap[w.heap.size]? = some (.cells #[.int .i64 0] 26)) := FA0.keep (blk_alloc (blk_new w (.cells #[.int .i64 0] 26)) _) (by simp)
    have hszA : w.heap.size + 2 ≤ wA.heap.size := by have := FA0.size; simp at this; omega
    obtain ⟨cur, hcur, hcsz⟩ : ∃ cur, wA.heap[w.heap.size + 1 + 1]? = some (.cells cur 65) ∧ cur.size = us.length := by
      rcases hownA.2 with ⟨e, _⟩ | ⟨g', cap', cur, e, _, e1, _, _, e2, _⟩
      · simp at e
      · simp at e
        obtain ⟨rfl, rfl⟩ := e
        exact ⟨cur, e1, by omega⟩
    have HA1 : Hid (Stv wA S (.slice p us.length cap) us false) := H1.out.keep0 FA
    have HFA : Hid (Fr [] w wA) := FA
    have HCUR : Hid (wA.heap[w.heap.size + 1 + 1]? = some (.cells cur.toList.toArray 65)) := by show _ = _; simpa using hcur
    have c0A := blk_cell HA1.out.obj 0
    simp at c0A
    clear hownA hgrowA FA0 FA hcur
    go_wp2_with ((with_reducible refine at_cp ?_); refine wpList_copy_splice rfl _ _ 53 53 rfl 65 Try.underlying53 hsz65 _ _ _ _ _ _ rfl rfl (w.heap.size + 1 + 1) 0 cur.toList 65 HCUR.out us.reverse (by simp) (fun h0 => ⟨rfl, HA1.out.src (by simpa using h0)⟩) (by simp; omega) HONE.out (w.heap.size + 2) wA (Below.refl _ _) (by omega) ?_; intro wB HGB hBB; have FB : Fr [] w wB := HFA.out.trans' hBB (by omega); have HB1 : Hid (Stv wB S (.slice p us.length cap) us false) := H1.out.keep0 FB; have c1B := blk_cell HB1.out.obj 1; have f1B := blk_frozen HB1.out.obj 1; simp at c1B)
    have HKB : Hid (wB.heap[w.heap.size + 1 + 1]? = some (.cells us.reverse.toArray 65)) := by
      have h5 := HGB.out
      rw [splice_all _ _ (by simp; omega)] at h5
      exact h5
    have HRB : Hid (wB.heap[w.heap.size]? = some (.cells #[.int .i64 0] 26)) := (hBB.block w.heap.size (by omega)).trans HRA.out
    have HFB : Hid (Fr [] w wB) := FB
    clear hBB FB HGB HCUR
    have FC : Fr [S] wB (wB.setCell ⟨S, 1, none⟩ (.bool true)) := Fr.setCell (Fr.refl _ _) (Or.inl (by simp)) _
    have hRS : w.heap.size ≠ S := by omega
    have HRC : Hid ((wB.setCell ⟨S, 1, none⟩ (.bool true)).heap[w.heap.size]? = some (.cells #[.int .i64 0] 26)) := FC.keep HRB.out (by simpa using hRS)
    have HKC : Hid ((wB.setCell ⟨S, 1, none⟩ (.bool true)).heap[w.heap.size + 1 + 1]? = some (.cells us.reverse.toArray 65)) := FC.keep HKB.out (by simp; omega)
    have HC1 : Hid (Stv (wB.setCell ⟨S, 1, none⟩ (.bool true)) S (.slice p us.length cap) us true) := HB1.out.setB true
    have HMC : Hid (Mv w (wB.setCell ⟨S, 1, none⟩ (.bool true)) S (.slice p us.length cap) (.slice p us.length cap)) := Mv.frl HFB.out (Mv.setS wB S _ 1 _)
    have HC2 : Hid (Shs (wB.setCell ⟨S, 1, none⟩ (.bool true)) rs us) := H2.out.kept (H1.out.kc HMC.out)
    generalize hWC : wB.setCell ⟨S, 1, none⟩ (.bool true) = wC at *
    clear hWC FC
    refine (HX.out wC _ ⟨us, HC1.out, HC2.out⟩).mono ?_
    rintro e wD (⟨h0, rfl, sl', hsb, m⟩ | ⟨hne0, ⟨pv, rfl, hpv⟩, sl', us', hst, m⟩)
    · have hRD := HC1.out.keepc m HRC.out (by simp) (by simp)
      have c5 := blk_cell hRD 0
      simp at c5
      have H0 : Hid ((X rs).1 = 0) := h0
      have HRD : Hid _ := hRD
      clear h0 hRD
      go_wp2
      refine leaves_cons (f := 74) (args := #[.pointer (some ⟨S, 0, none⟩), .slice (some ⟨w.heap.size + 1 + 1, 0, none⟩) us.length us.length, .pointer (some ⟨w.heap.size, 0, none⟩)]) (by simp) (by simp [go_sem]) ?_
      obtain ⟨us5, hs5, hs6⟩ := hsb
      refine (rescue_idle hs5.obj).mono ?_
      rintro e u' w'' ⟨rfl, rfl, rfl⟩
      have m2 := HMC.out.trans (m.trans (Mv.setS wD S sl' 1 (.bool false)))
      refine ⟨_, res51 (R := w.heap.size) (n := 0) (by simp) ?_, ?_⟩
      · have := blk_cell (blk_set_far HRD.out ⟨S, 1, none⟩ (.bool false) hRS) 0
        simpa using this
      · refine ⟨by rw [H0.out], sl', ⟨us5, hs5.setB false, hs6.kept (hs5.kc (Mv.setS wD S sl' 1 (.bool false)))⟩, m2⟩
    · have hRD := HC1.out.keepc m HRC.out (by simp) (by simp)
      have hKD : wD.heap[w.heap.size + 1 + 1]? = some (.cells us.reverse.toArray 65) := m.fr.keep HKC.out (fun hm => by
        simp at hm
        rcases hm with e | e
        · omega
        · obtain ⟨c9, h9⟩ := owns_block H1.out.row e
          have := blk_lt h9
          omega)
      show bodyPostD _ _ _ _ _ _
      refine leaves_cons (f := 74) (args := #[.pointer (some ⟨S, 0, none⟩), .slice (some ⟨w.heap.size + 1 + 1, 0, none⟩) us.length us.length, .pointer (some ⟨w.heap.size, 0, none⟩)]) (by simp) (by simp [go_sem]) ?_
      refine (rescue_pan hst.obj hRD hpv).mono ?_
      rintro e u' w'' ⟨rfl, rfl, rfl⟩
      have hS2 : Shs wD rs us := HC2.out.kept (HC1.out.kc m)
      have hb := back_end (x := (X rs).1) hst hS2 hRD hKD hlen (HMC.out.trans m) (by omega) (Nat.le_refl _)
      refine ⟨_, res51 (R := w.heap.size) (n := (X rs).1) (by simp) ?_, ?_⟩
      · have h7 := blk_set (blk_set_far (blk_set_far hRD ⟨S, 1, none⟩ (.bool false) hRS) ⟨S, 0, none⟩ (.slice (some ⟨w.heap.size + 1 + 1, 0, none⟩) us.length us.length) hRS) 0 (.int .i64 (X rs).1)
        have := blk_cell h7 0
        simpa using this
      · have e9 : X rs = ((X rs).1, rs) := Prod.ext rfl (HE.out hne0)
        rw [← e9] at hb
        exact hb

theorem dblX_err (rs : List Code) : (dblX rs).1 ≠ 0 → (dblX rs).2 = rs := by
  cases rs with
  | nil => intro _; rfl
  | cons a r =>
    intro h
    by_cases h0 : (plusT a a).1 = 0
    · simp only [dblX, h0, ↓reduceIte] at h; exact absurd rfl h
    · simp only [dblX, h0, ↓reduceIte]
theorem sprX_err (rs : List Code) : (sprX rs).1 ≠ 0 → (sprX rs).2 = rs := by
  cases rs with
  | nil => intro _; rfl
  | cons a r =>
    intro h
    by_cases h0 : isC a = true
    · by_cases h1 : r.length + (kids a).length ≤ 5
      · simp only [sprX, h0, h1, ↓reduceIte] at h; exact absurd rfl h
      · simp only [sprX, h0, h1, ↓reduceIte]
    · simp only [sprX, h0, ↓reduceIte, Bool.false_eq_true]
theorem echX_err (rs : List Code) : (echX rs).1 ≠ 0 → (echX rs).2 = rs := by
  intro h
  by_cases h0 : rs.length ≤ 2
  · simp only [echX, h0, ↓reduceIte] at h; exact absurd rfl h
  · simp only [echX, h0, ↓reduceIte]
theorem quoX_err (rs : List Code) : (quoX rs).1 ≠ 0 → (quoX rs).2 = rs := by
  unfold quoX
  split
  · split
    · split
      · intro _; rfl
      · intro h; simp at h
    · intro _; rfl
  · intro _; rfl

theorem extra_any {w : World} {S : Nat} {sl : Value} {rs : List Code} (h : St w S sl rs) (hw : Wf rs) (k : Int) (h0 : 0 ≤ k) (h9 : k ≤ 9) :
    Calls Try.prog 51 #[.pointer (some ⟨S, 0, none⟩), .int .i64 k] w (Out w S sl (extW k rs)) := by
  have hk : k = 0 ∨ k = 2 ∨ k = 3 ∨ k = 4 ∨ (k = 1 ∨ k = 5 ∨ k = 6 ∨ k = 7 ∨ k = 8 ∨ k = 9) := by omega
  rcases hk with rfl | rfl | rfl | rfl | hk
  · exact extra_w h hw 0 70 dblX (Or.inl ⟨rfl, rfl⟩) (fun w sl hs => double_any hs hw) (dblX_err rs)
  · exact extra_w h hw 2 71 sprX (Or.inr (Or.inl ⟨rfl, rfl⟩)) (fun w sl hs => spread_any hs hw) (sprX_err rs)
  · exact extra_w h hw 3 72 echX (Or.inr (Or.inr (Or.inl ⟨rfl, rfl⟩))) (fun w sl hs => echo_any hs hw) (echX_err rs)
  · exact extra_w h hw 4 73 quoX (Or.inr (Or.inr (Or.inr ⟨rfl, rfl⟩))) (fun w sl hs => quot_any hs hw) (quoX_err rs)
  · have e : extW k rs = (9, rs) := by
      unfold extW
      rw [if_neg (by omega), if_neg (by omega), if_neg (by omega), if_neg (by omega)]
    rw [e]
    exact extra_nil h k hk
end Go.Proofs.Qxb6500336a
