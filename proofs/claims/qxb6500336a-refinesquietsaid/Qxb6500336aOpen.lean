import Derived.Test.Qxb6500336aSc
import Derived.ProofKit
import Derived.OpenShut
import Derived.Deep.Slices
namespace Go.Proofs.Qxb6500336a
open Go.ChangeShapes Go.WideShapes Go.ChangeAt Go.RowKit Go.Deep
set_option linter.unusedVariables false

theorem own : ownKnob Try.prog.godebug = none := by kernel_rfl
theorem laidOut : laidOutB Try.prog = true := by kernel_rfl
theorem cells51 : Try.prog.cellsOf 51 = 6 := by kernel_rfl
theorem cells3 : Try.prog.cellsOf 3 = 1 := by kernel_rfl
theorem cells9 : Try.prog.cellsOf 9 = 1 := by kernel_rfl

section
variable {H : Type} {enc : TypeId × Value → H} {W : World}

set_option maxRecDepth 100000 in
/-- One step of the script, out of its reading. -/
theorem op_of_trod {n : Nat} {cs : List Value} {x : DataW H × List MemPlace} (h : DataW.trod enc Try.prog W 0 (fun _ => true) true n 51 cs = some x) :
    ∃ o : OpT, cs = [.int .i64 o.k, .int .i64 o.a, .int .i64 o.b, .int .i64 o.c, .string o.s, .string o.u] ∧ o.s.size ≤ maxLen := by
  obtain ⟨xs, m, rfl, rfl, hl, hx, hf⟩ := DataW.trod_struct Try.underlying51 h
  rw [cells51] at hl
  match cs, hl with
  | [c0, c1, c2, c3, c4, c5], _ =>
    have hxs : xs.length = 6 := hx
    have f0 : DataW.trod enc Try.prog W 0 (fun _ => true) true m 3 (([c0, c1, c2, c3, c4, c5].drop 0).take (Try.prog.cellsOf 3)) = xs[0]? := hf 0 _ rfl
    rw [cells3, List.getElem?_eq_getElem (by omega)] at f0
    have f1 : DataW.trod enc Try.prog W 0 (fun _ => true) true m 3 (([c0, c1, c2, c3, c4, c5].drop 1).take (Try.prog.cellsOf 3)) = xs[1]? := hf 1 _ rfl
    rw [cells3, List.getElem?_eq_getElem (by omega)] at f1
    have f2 : DataW.trod enc Try.prog W 0 (fun _ => true) true m 3 (([c0, c1, c2, c3, c4, c5].drop 2).take (Try.prog.cellsOf 3)) = xs[2]? := hf 2 _ rfl
    rw [cells3, List.getElem?_eq_getElem (by omega)] at f2
    have f3 : DataW.trod enc Try.prog W 0 (fun _ => true) true m 3 (([c0, c1, c2, c3, c4, c5].drop 3).take (Try.prog.cellsOf 3)) = xs[3]? := hf 3 _ rfl
    rw [cells3, List.getElem?_eq_getElem (by omega)] at f3
    have f4 : DataW.trod enc Try.prog W 0 (fun _ => true) true m 9 (([c0, c1, c2, c3, c4, c5].drop 4).take (Try.prog.cellsOf 9)) = xs[4]? := hf 4 _ rfl
    rw [cells9, List.getElem?_eq_getElem (by omega)] at f4
    have f5 : DataW.trod enc Try.prog W 0 (fun _ => true) true m 9 (([c0, c1, c2, c3, c4, c5].drop 5).take (Try.prog.cellsOf 9)) = xs[5]? := hf 5 _ rfl
    rw [cells9, List.getElem?_eq_getElem (by omega)] at f5
    obtain ⟨k, h0, _, _⟩ := DataW.trod_int Try.underlying3 f0
    obtain ⟨a, h1, _, _⟩ := DataW.trod_int Try.underlying3 f1
    obtain ⟨b, h2, _, _⟩ := DataW.trod_int Try.underlying3 f2
    obtain ⟨c, h3, _, _⟩ := DataW.trod_int Try.underlying3 f3
    obtain ⟨s, h4, _, hs⟩ := DataW.trod_string Try.underlying9 f4
    obtain ⟨u, h5, _, _⟩ := DataW.trod_string Try.underlying9 f5
    simp at h0 h1 h2 h3 h4 h5
    subst h0 h1 h2 h3 h4 h5
    exact ⟨⟨k, a, b, c, s, u⟩, rfl, hs⟩

theorem scr_of_trod {v : Value} {d : DataW H} {p : List MemPlace} {a0 : Option Addr} {len cap : Nat} (hv : v = .slice a0 len cap) (h : DataW.Trod enc Try.prog W 0 (fun _ => true) true 22 v d p) (hlt : ∀ x ∈ p, x.block < W.heap.size) : ScrV W v := by
  subst hv
  obtain ⟨fuel, hf⟩ := h
  rcases open_slice Try.underlying22 hf with ⟨hcs, _⟩ | ⟨a, len', cap', m, n, D, Pl, hcs, _, hl, hm, hmm, hx, hel⟩
  · left
    simp [Value.cells] at hcs
    obtain ⟨rfl, rfl, rfl⟩ := hcs
    exact ⟨_, _, rfl⟩
  · simp [Value.cells] at hcs
    obtain ⟨rfl, rfl, rfl⟩ := hcs
    simp only [if_true] at hmm
    subst hmm
    rw [cells51] at hx hel
    by_cases hl0 : len = 0
    · left; subst hl0; exact ⟨_, _, rfl⟩
    · right
      have : Inhabited OpT := ⟨⟨0, 0, 0, 0, ⟨#[]⟩, ⟨#[]⟩⟩⟩
      obtain ⟨ops, hops⟩ := choose_lt (α := OpT) (n := m) (p := fun i o => W.cells? 0 (a.add (i * 6)) 6 = some [.int .i64 o.k, .int .i64 o.a, .int .i64 o.b, .int .i64 o.c, .string o.s, .string o.u] ∧ o.s.size ≤ maxLen) (fun i hi => by
        obtain ⟨cs', h1, h2⟩ := hel i hi
        obtain ⟨o, rfl, ho⟩ := op_of_trod h2
        exact ⟨o, h1, ho⟩)
      obtain ⟨b, off, spot⟩ := a
      have hspot : spot = none := by
        obtain ⟨h1, _⟩ := hops 0 (by omega)
        have := (World.cells?_some h1).2.2 0 (by omega)
        simpa [Addr.add] using World.cell?_spot this
      subst hspot
      have hb : b < W.heap.size := by
        obtain ⟨h1, _⟩ := hops 0 (by omega)
        have := (World.cells?_some h1).2.2 0 (by omega)
        exact World.block_lt_of_cell? W _ this
      refine ⟨b, off, len, m, ops, rfl, by omega, hb, fun i hi => ?_⟩
      obtain ⟨h1, h2⟩ := hops i (by omega)
      have hc := (World.cells?_some h1).2.2
      have ea : ∀ j, ((⟨b, off, none⟩ : Addr).add (i * 6)).add j = ⟨b, off + i * 6 + j, none⟩ := fun j => by rw [add_plain, add_plain]
      refine ⟨h2, ?_, ?_, ?_, ?_, ?_, ?_⟩
      · have := hc 0 (by omega); rw [ea] at this; simpa using this
      · have := hc 1 (by omega); rw [ea] at this; simpa using this
      · have := hc 2 (by omega); rw [ea] at this; simpa using this
      · have := hc 3 (by omega); rw [ea] at this; simpa using this
      · have := hc 4 (by omega); rw [ea] at this; simpa using this
      · have := hc 5 (by omega); rw [ea] at this; simpa using this
end

end Go.Proofs.Qxb6500336a
