import Derived.Test.Qxb6500336aFr
import Derived.Stop.Asserts
namespace Go.Proofs.Qxb6500336a
open Go.RowKit
/-! Closed facts of the program: methods, assertions. -/
theorem cmShow84 (v : Value) (w : World) : (callMethod (.iface 84 v) "Show" #[]).run Try.prog w = .ok (.enter 126 #[v]) w := by kernel_rfl
theorem cmShow99 (v : Value) (w : World) : (callMethod (.iface 99 v) "Show" #[]).run Try.prog w = .ok (.enter 134 #[v]) w := by kernel_rfl
theorem cmShow75 (v : Value) (w : World) : (callMethod (.iface 75 v) "Show" #[]).run Try.prog w = .ok (.enter 122 #[v]) w := by kernel_rfl
theorem cmShow92 (v : Value) (w : World) : (callMethod (.iface 92 v) "Show" #[]).run Try.prog w = .ok (.enter 130 #[v]) w := by kernel_rfl
theorem cmNeg84 (v : Value) (w : World) : (callMethod (.iface 84 v) "Neg" #[]).run Try.prog w = .ok (.enter 125 #[v]) w := by kernel_rfl
theorem cmNeg92 (v : Value) (w : World) : (callMethod (.iface 92 v) "Neg" #[]).run Try.prog w = .ok (.enter 129 #[v]) w := by kernel_rfl
theorem cmLen99 (v : Value) (w : World) : (callMethod (.iface 99 v) "Len" #[]).run Try.prog w = .ok (.enter 133 #[v]) w := by kernel_rfl
theorem cmLen75 (v : Value) (w : World) : (callMethod (.iface 75 v) "Len" #[]).run Try.prog w = .ok (.enter 121 #[v]) w := by kernel_rfl
theorem cmLen92 (v : Value) (w : World) : (callMethod (.iface 92 v) "Len" #[]).run Try.prog w = .ok (.enter 128 #[v]) w := by kernel_rfl
theorem cmAll75 (v : Value) (w : World) : (callMethod (.iface 75 v) "All" #[]).run Try.prog w = .ok (.enter 120 #[v]) w := by kernel_rfl
theorem cmAll92 (v : Value) (w : World) : (callMethod (.iface 92 v) "All" #[]).run Try.prog w = .ok (.enter 127 #[v]) w := by kernel_rfl
theorem cmAdd84 (v b : Value) (w : World) : (callMethod (.iface 84 v) "Add" #[b]).run Try.prog w = .ok (.enter 124 #[v, b]) w := by kernel_rfl
theorem cmAdd99 (v b : Value) (w : World) : (callMethod (.iface 99 v) "Add" #[b]).run Try.prog w = .ok (.enter 132 #[v, b]) w := by kernel_rfl
theorem cmAdd75 (v b : Value) (w : World) : (callMethod (.iface 75 v) "Add" #[b]).run Try.prog w = .ok (.enter 119 #[v, b]) w := by kernel_rfl
theorem asNil_107 (w : World) : (Instr.typeAssert .nilIface 65 107 true).run Try.prog w = .ok (.tuple #[.nilIface, .bool false]) w := by kernel_rfl
theorem as84_107 (v : Value) (w : World) : (Instr.typeAssert (.iface 84 v) 65 107 true).run Try.prog w = .ok (.tuple #[.iface 84 v, .bool true]) w := run_typeAssert_hasB Try.underlying107 (by kernel_rfl) v 65 w
theorem as99_107 (v : Value) (w : World) : (Instr.typeAssert (.iface 99 v) 65 107 true).run Try.prog w = .ok (.tuple #[.iface 99 v, .bool true]) w := run_typeAssert_hasB Try.underlying107 (by kernel_rfl) v 65 w
theorem as75_107 (v : Value) (w : World) : (Instr.typeAssert (.iface 75 v) 65 107 true).run Try.prog w = .ok (.tuple #[.iface 75 v, .bool true]) w := run_typeAssert_hasB Try.underlying107 (by kernel_rfl) v 65 w
theorem as92_107 (v : Value) (w : World) : (Instr.typeAssert (.iface 92 v) 65 107 true).run Try.prog w = .ok (.tuple #[.nilIface, .bool false]) w := run_typeAssert_lacksB Try.underlying107 (by kernel_rfl) (by kernel_rfl) v 65 w
theorem asNil_89 (w : World) : (Instr.typeAssert .nilIface 65 89 true).run Try.prog w = .ok (.tuple #[.nilIface, .bool false]) w := by kernel_rfl
theorem as84_89 (v : Value) (w : World) : (Instr.typeAssert (.iface 84 v) 65 89 true).run Try.prog w = .ok (.tuple #[.iface 84 v, .bool true]) w := run_typeAssert_hasB Try.underlying89 (by kernel_rfl) v 65 w
theorem as99_89 (v : Value) (w : World) : (Instr.typeAssert (.iface 99 v) 65 89 true).run Try.prog w = .ok (.tuple #[.nilIface, .bool false]) w := run_typeAssert_lacksB Try.underlying89 (by kernel_rfl) (by kernel_rfl) v 65 w
theorem as75_89 (v : Value) (w : World) : (Instr.typeAssert (.iface 75 v) 65 89 true).run Try.prog w = .ok (.tuple #[.nilIface, .bool false]) w := run_typeAssert_lacksB Try.underlying89 (by kernel_rfl) (by kernel_rfl) v 65 w
theorem as92_89 (v : Value) (w : World) : (Instr.typeAssert (.iface 92 v) 65 89 true).run Try.prog w = .ok (.tuple #[.iface 92 v, .bool true]) w := run_typeAssert_hasB Try.underlying89 (by kernel_rfl) v 65 w
theorem asNil_86 (w : World) : (Instr.typeAssert .nilIface 65 86 true).run Try.prog w = .ok (.tuple #[.nilIface, .bool false]) w := by kernel_rfl
theorem as84_86 (v : Value) (w : World) : (Instr.typeAssert (.iface 84 v) 65 86 true).run Try.prog w = .ok (.tuple #[.nilIface, .bool false]) w := run_typeAssert_lacksB Try.underlying86 (by kernel_rfl) (by kernel_rfl) v 65 w
theorem as99_86 (v : Value) (w : World) : (Instr.typeAssert (.iface 99 v) 65 86 true).run Try.prog w = .ok (.tuple #[.iface 99 v, .bool true]) w := run_typeAssert_hasB Try.underlying86 (by kernel_rfl) v 65 w
theorem as75_86 (v : Value) (w : World) : (Instr.typeAssert (.iface 75 v) 65 86 true).run Try.prog w = .ok (.tuple #[.iface 75 v, .bool true]) w := run_typeAssert_hasB Try.underlying86 (by kernel_rfl) v 65 w
theorem as92_86 (v : Value) (w : World) : (Instr.typeAssert (.iface 92 v) 65 86 true).run Try.prog w = .ok (.tuple #[.iface 92 v, .bool true]) w := run_typeAssert_hasB Try.underlying86 (by kernel_rfl) v 65 w
theorem asNil_80 (w : World) : (Instr.typeAssert .nilIface 65 80 true).run Try.prog w = .ok (.tuple #[.nilIface, .bool false]) w := by kernel_rfl
theorem as84_80 (v : Value) (w : World) : (Instr.typeAssert (.iface 84 v) 65 80 true).run Try.prog w = .ok (.tuple #[.nilIface, .bool false]) w := run_typeAssert_lacksB Try.underlying80 (by kernel_rfl) (by kernel_rfl) v 65 w
theorem as99_80 (v : Value) (w : World) : (Instr.typeAssert (.iface 99 v) 65 80 true).run Try.prog w = .ok (.tuple #[.nilIface, .bool false]) w := run_typeAssert_lacksB Try.underlying80 (by kernel_rfl) (by kernel_rfl) v 65 w
theorem as75_80 (v : Value) (w : World) : (Instr.typeAssert (.iface 75 v) 65 80 true).run Try.prog w = .ok (.tuple #[.iface 75 v, .bool true]) w := run_typeAssert_hasB Try.underlying80 (by kernel_rfl) v 65 w
theorem as92_80 (v : Value) (w : World) : (Instr.typeAssert (.iface 92 v) 65 80 true).run Try.prog w = .ok (.tuple #[.iface 92 v, .bool true]) w := run_typeAssert_hasB Try.underlying80 (by kernel_rfl) v 65 w
theorem asNil_84 (w : World) : (Instr.typeAssert .nilIface 65 84 true).run Try.prog w = .ok (.tuple #[.int .i64 0, .bool false]) w := by kernel_rfl
theorem as84_84 (v : Value) (w : World) : (Instr.typeAssert (.iface 84 v) 65 84 true).run Try.prog w = .ok (.tuple #[v, .bool true]) w := by kernel_rfl
theorem as99_84 (v : Value) (w : World) : (Instr.typeAssert (.iface 99 v) 65 84 true).run Try.prog w = .ok (.tuple #[.int .i64 0, .bool false]) w := by kernel_rfl
theorem as75_84 (v : Value) (w : World) : (Instr.typeAssert (.iface 75 v) 65 84 true).run Try.prog w = .ok (.tuple #[.int .i64 0, .bool false]) w := by kernel_rfl
theorem as92_84 (v : Value) (w : World) : (Instr.typeAssert (.iface 92 v) 65 84 true).run Try.prog w = .ok (.tuple #[.int .i64 0, .bool false]) w := by kernel_rfl
theorem asNil_99 (w : World) : (Instr.typeAssert .nilIface 65 99 true).run Try.prog w = .ok (.tuple #[.string ⟨#[]⟩, .bool false]) w := by kernel_rfl
theorem as84_99 (v : Value) (w : World) : (Instr.typeAssert (.iface 84 v) 65 99 true).run Try.prog w = .ok (.tuple #[.string ⟨#[]⟩, .bool false]) w := by kernel_rfl
theorem as99_99 (v : Value) (w : World) : (Instr.typeAssert (.iface 99 v) 65 99 true).run Try.prog w = .ok (.tuple #[v, .bool true]) w := by kernel_rfl
theorem as75_99 (v : Value) (w : World) : (Instr.typeAssert (.iface 75 v) 65 99 true).run Try.prog w = .ok (.tuple #[.string ⟨#[]⟩, .bool false]) w := by kernel_rfl
theorem as92_99 (v : Value) (w : World) : (Instr.typeAssert (.iface 92 v) 65 99 true).run Try.prog w = .ok (.tuple #[.string ⟨#[]⟩, .bool false]) w := by kernel_rfl
theorem asNil_75 (w : World) : (Instr.typeAssert .nilIface 65 75 true).run Try.prog w = .ok (.tuple #[.pointer none, .bool false]) w := by kernel_rfl
theorem as84_75 (v : Value) (w : World) : (Instr.typeAssert (.iface 84 v) 65 75 true).run Try.prog w = .ok (.tuple #[.pointer none, .bool false]) w := by kernel_rfl
theorem as99_75 (v : Value) (w : World) : (Instr.typeAssert (.iface 99 v) 65 75 true).run Try.prog w = .ok (.tuple #[.pointer none, .bool false]) w := by kernel_rfl
theorem as75_75 (v : Value) (w : World) : (Instr.typeAssert (.iface 75 v) 65 75 true).run Try.prog w = .ok (.tuple #[v, .bool true]) w := by kernel_rfl
theorem as92_75 (v : Value) (w : World) : (Instr.typeAssert (.iface 92 v) 65 75 true).run Try.prog w = .ok (.tuple #[.pointer none, .bool false]) w := by kernel_rfl
theorem asNil_92 (w : World) : (Instr.typeAssert .nilIface 65 92 true).run Try.prog w = .ok (.tuple #[.pointer none, .bool false]) w := by kernel_rfl
theorem as84_92 (v : Value) (w : World) : (Instr.typeAssert (.iface 84 v) 65 92 true).run Try.prog w = .ok (.tuple #[.pointer none, .bool false]) w := by kernel_rfl
theorem as99_92 (v : Value) (w : World) : (Instr.typeAssert (.iface 99 v) 65 92 true).run Try.prog w = .ok (.tuple #[.pointer none, .bool false]) w := by kernel_rfl
theorem as75_92 (v : Value) (w : World) : (Instr.typeAssert (.iface 75 v) 65 92 true).run Try.prog w = .ok (.tuple #[.pointer none, .bool false]) w := by kernel_rfl
theorem as92_92 (v : Value) (w : World) : (Instr.typeAssert (.iface 92 v) 65 92 true).run Try.prog w = .ok (.tuple #[v, .bool true]) w := by kernel_rfl

theorem run_bare_has {P : Program} {w : World} {t xT asserted : TypeId} {v : Value} {want : Array (String × TypeId)} (hu : P.underlying asserted = some (.interface want)) (h : (P.info? t).map (fun i => (lacking want i.methods).isEmpty) = some true) :
    (Instr.typeAssert (.iface t v) xT asserted false).run P w = .ok (.iface t v) w := by
  obtain ⟨i, hi, hl⟩ := Option.map_eq_some_iff.1 h
  simp [Instr.typeAssert, run_underlying hu, typeInfo, hi, missingMethod_none (List.isEmpty_iff.1 hl)]
theorem bare_lacks {P : Program} {w : World} {t xT asserted : TypeId} {v : Value} {want : Array (String × TypeId)} (hu : P.underlying asserted = some (.interface want)) (h : (P.info? t).map (fun i => (lacking want i.methods).isEmpty) = some false) :
    ∃ m, (Instr.typeAssert (.iface t v) xT asserted false).run P w = (runtimePanic (.typeAssertion none (some t) asserted m)).run P w := by
  obtain ⟨i, hi, hl⟩ := Option.map_eq_some_iff.1 h
  obtain ⟨m, hm⟩ := missingMethod_some (want := want) (got := i.methods) (fun e => by rw [e] at hl; cases hl)
  exact ⟨m, by simp [Instr.typeAssert, run_underlying hu, typeInfo, hi, hm]⟩
theorem rp (s d : Option TypeId) (a : TypeId) (m : String) (w : World) : ∃ o, (runtimePanic (α := Value) (.typeAssertion s d a m)).run Try.prog w = .halt (.panic (.iface 15 (.pointer (some ⟨w.heap.size, 0, none⟩)))) (w.alloc o) := by
  rcases s with _ | s <;> rcases d with _ | d
  · exact ⟨.cells #[.pointer none, .pointer none, typeHandle Try.prog a, strVal m] 127, by kernel_rfl⟩
  · exact ⟨.cells #[.pointer none, typeHandle Try.prog d, typeHandle Try.prog a, strVal m] 127, by kernel_rfl⟩
  · exact ⟨.cells #[typeHandle Try.prog s, .pointer none, typeHandle Try.prog a, strVal m] 127, by kernel_rfl⟩
  · exact ⟨.cells #[typeHandle Try.prog s, typeHandle Try.prog d, typeHandle Try.prog a, strVal m] 127, by kernel_rfl⟩
theorem bareNil_107 (w : World) : ∃ o, (Instr.typeAssert .nilIface 65 107 false).run Try.prog w = .halt (.panic (.iface 15 (.pointer (some ⟨w.heap.size, 0, none⟩)))) (w.alloc o) := by
  obtain ⟨o, h⟩ := rp none none 107 "" w
  exact ⟨o, Eq.trans (by kernel_rfl) h⟩
theorem bareNil_80 (w : World) : ∃ o, (Instr.typeAssert .nilIface 65 80 false).run Try.prog w = .halt (.panic (.iface 15 (.pointer (some ⟨w.heap.size, 0, none⟩)))) (w.alloc o) := by
  obtain ⟨o, h⟩ := rp none none 80 "" w
  exact ⟨o, Eq.trans (by kernel_rfl) h⟩
theorem bareNil_84 (w : World) : ∃ o, (Instr.typeAssert .nilIface 65 84 false).run Try.prog w = .halt (.panic (.iface 15 (.pointer (some ⟨w.heap.size, 0, none⟩)))) (w.alloc o) := by
  obtain ⟨o, h⟩ := rp (some 65) none 84 "" w
  exact ⟨o, Eq.trans (by kernel_rfl) h⟩
theorem bare99_84 (v : Value) (w : World) : ∃ o, (Instr.typeAssert (.iface 99 v) 65 84 false).run Try.prog w = .halt (.panic (.iface 15 (.pointer (some ⟨w.heap.size, 0, none⟩)))) (w.alloc o) := by
  obtain ⟨o, h⟩ := rp (some 65) (some 99) 84 "" w
  exact ⟨o, Eq.trans (by kernel_rfl) h⟩
theorem bare75_84 (v : Value) (w : World) : ∃ o, (Instr.typeAssert (.iface 75 v) 65 84 false).run Try.prog w = .halt (.panic (.iface 15 (.pointer (some ⟨w.heap.size, 0, none⟩)))) (w.alloc o) := by
  obtain ⟨o, h⟩ := rp (some 65) (some 75) 84 "" w
  exact ⟨o, Eq.trans (by kernel_rfl) h⟩
theorem bare92_84 (v : Value) (w : World) : ∃ o, (Instr.typeAssert (.iface 92 v) 65 84 false).run Try.prog w = .halt (.panic (.iface 15 (.pointer (some ⟨w.heap.size, 0, none⟩)))) (w.alloc o) := by
  obtain ⟨o, h⟩ := rp (some 65) (some 92) 84 "" w
  exact ⟨o, Eq.trans (by kernel_rfl) h⟩
theorem bare92_107 (v : Value) (w : World) : ∃ o, (Instr.typeAssert (.iface 92 v) 65 107 false).run Try.prog w = .halt (.panic (.iface 15 (.pointer (some ⟨w.heap.size, 0, none⟩)))) (w.alloc o) := by
  obtain ⟨m, hm⟩ := bare_lacks (P := Try.prog) (w := w) (t := 92) (xT := 65) (v := v) Try.underlying107 (by kernel_rfl)
  obtain ⟨o, h⟩ := rp none (some 92) 107 m w
  exact ⟨o, hm.trans h⟩
theorem bare84_80 (v : Value) (w : World) : ∃ o, (Instr.typeAssert (.iface 84 v) 65 80 false).run Try.prog w = .halt (.panic (.iface 15 (.pointer (some ⟨w.heap.size, 0, none⟩)))) (w.alloc o) := by
  obtain ⟨m, hm⟩ := bare_lacks (P := Try.prog) (w := w) (t := 84) (xT := 65) (v := v) Try.underlying80 (by kernel_rfl)
  obtain ⟨o, h⟩ := rp none (some 84) 80 m w
  exact ⟨o, hm.trans h⟩
theorem bare99_80 (v : Value) (w : World) : ∃ o, (Instr.typeAssert (.iface 99 v) 65 80 false).run Try.prog w = .halt (.panic (.iface 15 (.pointer (some ⟨w.heap.size, 0, none⟩)))) (w.alloc o) := by
  obtain ⟨m, hm⟩ := bare_lacks (P := Try.prog) (w := w) (t := 99) (xT := 65) (v := v) Try.underlying80 (by kernel_rfl)
  obtain ⟨o, h⟩ := rp none (some 99) 80 m w
  exact ⟨o, hm.trans h⟩
theorem bs84_84 (v : Value) (w : World) : (Instr.typeAssert (.iface 84 v) 65 84 false).run Try.prog w = .ok v w := by kernel_rfl
theorem bs84_107 (v : Value) (w : World) : (Instr.typeAssert (.iface 84 v) 65 107 false).run Try.prog w = .ok (.iface 84 v) w := run_bare_has Try.underlying107 (by kernel_rfl)
theorem bs99_107 (v : Value) (w : World) : (Instr.typeAssert (.iface 99 v) 65 107 false).run Try.prog w = .ok (.iface 99 v) w := run_bare_has Try.underlying107 (by kernel_rfl)
theorem bs75_107 (v : Value) (w : World) : (Instr.typeAssert (.iface 75 v) 65 107 false).run Try.prog w = .ok (.iface 75 v) w := run_bare_has Try.underlying107 (by kernel_rfl)
theorem bs75_80 (v : Value) (w : World) : (Instr.typeAssert (.iface 75 v) 65 80 false).run Try.prog w = .ok (.iface 75 v) w := run_bare_has Try.underlying80 (by kernel_rfl)
theorem bs92_80 (v : Value) (w : World) : (Instr.typeAssert (.iface 92 v) 65 80 false).run Try.prog w = .ok (.iface 92 v) w := run_bare_has Try.underlying80 (by kernel_rfl)
theorem bs75_86 (v : Value) (w : World) : (Instr.typeAssert (.iface 75 v) 65 86 false).run Try.prog w = .ok (.iface 75 v) w := run_bare_has Try.underlying86 (by kernel_rfl)
theorem bs92_86 (v : Value) (w : World) : (Instr.typeAssert (.iface 92 v) 65 86 false).run Try.prog w = .ok (.iface 92 v) w := run_bare_has Try.underlying86 (by kernel_rfl)
theorem rs15_26 (v : Value) (w : World) : (Instr.typeAssert (.iface 15 v) 20 26 true).run Try.prog w = .ok (.tuple #[.int .i64 0, .bool false]) w := by kernel_rfl
theorem rs10_26 (v : Value) (w : World) : (Instr.typeAssert (.iface 10 v) 20 26 true).run Try.prog w = .ok (.tuple #[.int .i64 0, .bool false]) w := by kernel_rfl
theorem rs26_26 (v : Value) (w : World) : (Instr.typeAssert (.iface 26 v) 20 26 true).run Try.prog w = .ok (.tuple #[v, .bool true]) w := by kernel_rfl
theorem rs15_115 (v : Value) (w : World) : (Instr.typeAssert (.iface 15 v) 20 115 true).run Try.prog w = .ok (.tuple #[.iface 15 v, .bool true]) w := run_typeAssert_hasB Try.underlying115 (by kernel_rfl) v 20 w
theorem rs10_115 (v : Value) (w : World) : (Instr.typeAssert (.iface 10 v) 20 115 true).run Try.prog w = .ok (.tuple #[.iface 10 v, .bool true]) w := run_typeAssert_hasB Try.underlying115 (by kernel_rfl) v 20 w
end Go.Proofs.Qxb6500336a
