import Derived.Test.Qxb6500336aW19
import Derived.Defers
import Derived.Recover
namespace Go.Proofs.Qxb6500336a
open Go.RowKit
set_option linter.unusedVariables false
set_option linter.unusedSimpArgs false

theorem wpS_seq_k {P : Program} {x y : Code} {Q : Exit → Act → List Frame → World → Prop} {a : Act} {cs : List Frame} {w : World} (h : ∀ K : Act → List Frame → World → Prop, (∀ a cs w, y.wpS P Q a cs w → K a cs w) → x.wpS P (Exit.thenS K Q) a cs w) : (Code.seq x y).wpS P Q a cs w := wpS_seq (h _ fun _ _ _ h => h)

set_option maxHeartbeats 1600000 in
set_option maxRecDepth 100000 in
theorem rescue_idle {w : World} {S : Nat} {sl kp : Value} {R : Nat} {bz : Bool} (h : w.heap[S]? = some (.cells #[sl, .bool bz] 55)) :
    CallsD Try.prog 74 #[.pointer (some ⟨S, 0, none⟩), kp, .pointer (some ⟨R, 0, none⟩)] .returning w fun e u' w' => e = .returned (.tuple #[]) ∧ u' = .returning ∧ w' = w.setCell ⟨S, 1, none⟩ (.bool false) := by
  have c1 := blk_cell h 1
  have f1 := blk_frozen h 1
  simp at c1
  clear h
  refine callsD_of_wpS Try.func74 rfl fun c₀ cs hu => ?_
  simp only [Try.ntmps74, List.size_toArray, List.length_cons, List.length_nil, Nat.reduceAdd, Nat.reduceSub, Array.replicate_succ, Array.replicate_zero, List.push_toArray, List.append_toArray, List.nil_append, List.cons_append]
  refine wpS_seq_k fun K hK => ?_
  refine wpS_of_wp ?_
  go_wp2
  refine hK _ _ _ ?_
  clear hK K
  refine wpS_seq_k fun K hK => ?_
  apply wpS_region
  simp [wpOpsS, go_sem, recoverD, hu, Exit.thenS]
  refine hK _ _ _ ?_
  clear hK K
  refine wpS_of_wp ?_
  go_wp2
  exact ⟨rfl, .returning, by cases c₀; simp at hu; subst hu; rfl, _, results_none rfl _ _ _, rfl, rfl, rfl⟩

set_option maxHeartbeats 3200000 in
set_option maxRecDepth 100000 in
theorem rescue_pan {w : World} {S : Nat} {sl : Value} {R : Nat} {bz : Bool} {p : Option Addr} {n cap : Nat} {pv : Value} {x y : Int} (h : w.heap[S]? = some (.cells #[sl, .bool bz] 55)) (hR : w.heap[R]? = some (.cells #[.int .i64 y] 26)) (hp : PV pv x) :
    CallsD Try.prog 74 #[.pointer (some ⟨S, 0, none⟩), .slice p n cap, .pointer (some ⟨R, 0, none⟩)] (.panicking (pe pv)) w fun e u' w' => e = .returned (.tuple #[]) ∧ u' = .panicking [{ v := pv, recovered := true }] ∧ w' = ((w.setCell ⟨S, 1, none⟩ (.bool false)).setCell ⟨S, 0, none⟩ (.slice p n cap)).setCell ⟨R, 0, none⟩ (.int .i64 x) := by
  have c1 := blk_cell h 1
  have f1 := blk_frozen h 1
  have c0 := blk_cell h 0
  have f0 := blk_frozen h 0
  have cR := blk_cell hR 0
  have fR := blk_frozen hR 0
  have hne : ¬ R = S := fun e => by subst e; rw [h] at hR; simp at hR
  have hne' : ¬ S = R := fun e => hne e.symm
  simp at c1 c0 cR
  clear h hR
  have n1 := rs26_26
  have n2 := rs15_26
  have n3 := rs15_115
  have n4 := rs10_26
  have n5 := rs10_115
  refine callsD_of_wpS Try.func74 rfl fun c₀ cs hu => ?_
  simp only [Try.ntmps74, List.size_toArray, List.length_cons, List.length_nil, Nat.reduceAdd, Nat.reduceSub, Array.replicate_succ, Array.replicate_zero, List.push_toArray, List.append_toArray, List.nil_append, List.cons_append]
  refine wpS_seq_k fun K hK => ?_
  refine wpS_of_wp ?_
  go_wp2
  refine hK _ _ _ ?_
  clear hK K
  refine wpS_seq_k fun K hK => ?_
  apply wpS_region
  simp [wpOpsS, go_sem, recoverD, hu, Exit.thenS, pe]
  refine hK _ _ _ ?_
  clear hK K
  refine wpS_of_wp ?_
  rcases hp with rfl | ⟨rfl, ⟨q, rfl⟩ | ⟨q, rfl⟩⟩
  all_goals
    go_wp2
    exact ⟨rfl, _, rfl, _, results_none rfl _ _ _, rfl, rfl, rfl⟩
end Go.Proofs.Qxb6500336a
