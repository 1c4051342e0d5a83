import Derived.Test.Qxb6500336aFr
namespace Go.Proofs.Qxb6500336a
open Go.RowKit
set_option linter.unusedVariables false

structure OpT where
  k : Int
  a : Int
  b : Int
  c : Int
  s : ByteArray
  u : ByteArray

def OpT.val (o : OpT) : Value := .agg #[.int .i64 o.k, .int .i64 o.a, .int .i64 o.b, .int .i64 o.c, .string o.s, .string o.u]

/-- The script: len steps from cell 'off' of block 'bs' on, six cells a step. -/
def Scr (w : World) (bs off len : Nat) (ops : Nat → OpT) : Prop := ∀ i, i < len → (ops i).s.size ≤ maxLen ∧
  w.cell? ⟨bs, off + i * 6, none⟩ = some (.int .i64 (ops i).k) ∧ w.cell? ⟨bs, off + i * 6 + 1, none⟩ = some (.int .i64 (ops i).a) ∧ w.cell? ⟨bs, off + i * 6 + 2, none⟩ = some (.int .i64 (ops i).b) ∧
  w.cell? ⟨bs, off + i * 6 + 3, none⟩ = some (.int .i64 (ops i).c) ∧ w.cell? ⟨bs, off + i * 6 + 4, none⟩ = some (.string (ops i).s) ∧ w.cell? ⟨bs, off + i * 6 + 5, none⟩ = some (.string (ops i).u)


theorem Scr.cells {w w' : World} {bs off len : Nat} {ops : Nat → OpT} (h : Scr w bs off len ops) (hb : bs < w.heap.size) (hf : Fr [] w w') {k : Nat} (hk : k < len) :
    w'.cell? ⟨bs, off + k * 6, none⟩ = some (.int .i64 (ops k).k) ∧ w'.cell? ⟨bs, off + k * 6 + 1, none⟩ = some (.int .i64 (ops k).a) ∧ w'.cell? ⟨bs, off + k * 6 + 2, none⟩ = some (.int .i64 (ops k).b) ∧
    w'.cell? ⟨bs, off + k * 6 + 3, none⟩ = some (.int .i64 (ops k).c) ∧ w'.cell? ⟨bs, off + k * 6 + 4, none⟩ = some (.string (ops k).s) ∧ w'.cell? ⟨bs, off + k * 6 + 5, none⟩ = some (.string (ops k).u) := by
  obtain ⟨_, d0, d1, d2, d3, d4, d5⟩ := h k hk
  exact ⟨(hf.below.cell (p := ⟨bs, off + k * 6, none⟩) hb).trans d0, (hf.below.cell (p := ⟨bs, off + k * 6 + 1, none⟩) hb).trans d1, (hf.below.cell (p := ⟨bs, off + k * 6 + 2, none⟩) hb).trans d2,
    (hf.below.cell (p := ⟨bs, off + k * 6 + 3, none⟩) hb).trans d3, (hf.below.cell (p := ⟨bs, off + k * 6 + 4, none⟩) hb).trans d4, (hf.below.cell (p := ⟨bs, off + k * 6 + 5, none⟩) hb).trans d5⟩

/-- A script as the law is handed it. -/
def ScrV (w : World) (v : Value) : Prop := (∃ a0 cap, v = .slice a0 0 cap) ∨ ∃ (bs off len cap : Nat) (ops : Nat → OpT), v = .slice (some ⟨bs, off, none⟩) len cap ∧ len ≤ maxLen ∧ bs < w.heap.size ∧ Scr w bs off len ops

end Go.Proofs.Qxb6500336a
