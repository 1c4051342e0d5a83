import Derived.Test.Qxb6500336aW13
namespace Go.Proofs.Qxb6500336a
open Go.RowKit
set_option linter.unusedVariables false
set_option linter.unusedSimpArgs false

theorem exec_invoke {P : Program} {o : Oper} {a : Act} {w : World} (x : Operand) (name : String) {xs : Array Operand} {ts : Array TypeId} (ho : o.op = .call { callee := .invoke x name, args := xs, argTypes := ts })
    (v : Value) (hv : a.eval x = v) (f : FuncId) (args us : Array Value) (hus : xs.map a.eval = us) (hm : (callMethod v name us).run P w = .ok (.enter f args) w) :
    (execOp a.eval o).run P w = .ok (.enter f args) w := by
  subst hv hus
  have e0 : (#[a.eval x] ++ Array.map a.eval xs)[0]? = some (a.eval x) := by simp [Array.getElem?_append]
  have e1 : (Array.map a.eval xs).extract 0 xs.size = Array.map a.eval xs := by
    have := Array.extract_size (xs := Array.map a.eval xs)
    rwa [Array.size_map] at this
  simp [execOp, ho, resolve, invoke]
  rw [e0]
  simp only []
  rw [e1]
  exact hm

theorem wpListIn_invoke0 {F : Fence} {n : Nat} {P : Program} {ops : Array Oper} {rest : List Oper} {o : Oper} {a : Act} {w : World} {Q : Exit → Act → World → Prop} (hF : ∀ f, F.fn f) (hd : F.depth = none) (hgd : o.guard = none)
    (x : Operand) (name : String) {ts : Array TypeId} (ho : o.op = .call { callee := .invoke x name, args := #[], argTypes := ts })
    (v : Value) (hv : a.eval x = v) (f : FuncId) (args : Array Value) (hm : (callMethod v name #[]).run P w = .ok (.enter f args) w)
    (R : Ending → World → Prop) (hc : CallsIn F (n - 1) P f args w R)
    (h : ∀ e w', R e w' → ∃ u, e = .returned u ∧ wpListIn F n P ops Q rest (a.put o.dst u) w') : wpListIn F n P ops Q (o :: rest) a w := by
  refine wpListIn_plain hgd fun K hK => ?_
  unfold Oper.wpIn
  refine ⟨fun f _ => hF f, ?_⟩
  rw [Oper.semAt_plain F _ _ (by rw [ho]; intro c hc'; cases hc')]
  rw [exec_invoke x name ho v hv f args #[] (by simp) hm, Oper.uponIn_enter]
  refine ⟨fun h => (by rw [hd] at h; cases h), hc.mono fun e w' hr => ?_⟩
  obtain ⟨u, rfl, hu⟩ := h e w' hr
  exact hK _ _ hu
theorem at_invIn {F : Fence} {n : Nat} {P : Program} {ops : Array Oper} {rest : List Oper} {a : Act} {w : World} {Q : Exit → Act → World → Prop} {dst : Option Tmp} {ty : TypeId} {pos : String} {aft : Array Edge} {x : Operand} {name : String} {xs : Array Operand} {ts : Array TypeId}
    (h : wpListIn F n P ops Q (⟨dst, .call ⟨.invoke x name, xs, ts⟩, ty, pos, aft, none⟩ :: rest) a w) : wpListIn F n P ops Q (⟨dst, .call ⟨.invoke x name, xs, ts⟩, ty, pos, aft, none⟩ :: rest) a w := h

/-- All about a value that can be walked. -/
structure Itr (w : World) (c : Code) (cv : Value) (af gf lf : Nat) (r : Value) (bt : TypeId) (vs : List Value) (Cc : World → Prop) : Prop where
  hbt : bt = 75 ∨ bt = 92
  cmAll : ∀ W, (callMethod cv "All" #[]).run Try.prog W = .ok (.enter af #[r]) W
  all : ∀ W, Calls Try.prog af #[r] W fun e w' => e = .returned (.func (.func gf) #[] #[.pointer (some ⟨W.heap.size, 0, none⟩)]) ∧ w' = W.alloc (.cells #[r] bt)
  it : ∀ Bx, ItOk gf #[.pointer (some ⟨Bx, 0, none⟩)] vs (fun W => W.heap[Bx]? = some (.cells #[r] bt) ∧ Cc W)
  cc : Cc w
  keep : ∀ W W', Kc W W' → Cc W → Cc W'
  shs : Shs w (kids c) vs
  ent : ∀ args W, (callFunc gf args).run Try.prog W = .ok (.enter gf args) W
  as80 : ∀ W, (Instr.typeAssert cv 65 80 true).run Try.prog W = .ok (.tuple #[cv, .bool true]) W
  bs80 : ∀ W, (Instr.typeAssert cv 65 80 false).run Try.prog W = .ok cv W
  bs86 : ∀ W, (Instr.typeAssert cv 65 86 false).run Try.prog W = .ok cv W
  cmLen : ∀ W, (callMethod cv "Len" #[]).run Try.prog W = .ok (.enter lf #[r]) W
  len : ∀ W, Sh W c cv → (kids c).length ≤ 1000 → Calls Try.prog lf #[r] W fun e w' => e = .returned (.int .i64 (kids c).length) ∧ Fr [] W w'

theorem iter_of {w : World} {c : Code} {cv : Value} (h : Sh w c cv) (hc : isC c = true) : ∃ af gf lf r bt vs Cc, Itr w c cv af gf lf r bt vs Cc := by
  rcases h.kinds with ⟨n, e1, e2, e3, e4, rfl, hn⟩ | ⟨s, e1, e2, e3, e4, rfl, e5⟩ | ⟨k, e1, e2, e3, e4, rfl⟩ | ⟨o, a, b, B, av, bv, rfl, rfl, hB, ha, hb⟩
  · simp [isC, e3, e4] at hc
  · simp [isC, e3, e4] at hc
  · obtain ⟨bs, vs, rfl, hlc, hks⟩ := h.cells
    exact ⟨120, 123, 121, ptrO bs.head?, 75, vs, fun W => LC W bs vs, ⟨Or.inl rfl, cmAll75 _, fun W => all_list W _, fun Bx => it_list Bx bs vs, hlc, fun W W' hk hl => hl.kept hk, hks, enters_of Try.func123 (by kernel_rfl) rfl, as75_80 _, bs75_80 _, bs75_86 _, cmLen75 _, fun W hs hn => len_list hs hn⟩⟩
  · obtain ⟨T1, u1, rfl⟩ := ha.ex
    obtain ⟨T2, u2, rfl⟩ := hb.ex
    exact ⟨127, 131, 128, .pointer (some ⟨B, 0, none⟩), 92, [.iface T1 u1, .iface T2 u2], fun W => W.heap[B]? = some (.cells #[.iface T1 u1, .iface T2 u2] 94),
      ⟨Or.inr rfl, cmAll92 _, fun W => all_pair W _, fun Bx => it_pair Bx B T1 T2 u1 u2, hB, fun W W' hk hl => hk _ _ _ (Or.inr rfl) hl, ⟨ha, hb, trivial⟩, enters_of Try.func131 (by kernel_rfl) rfl, as92_80 _, bs92_80 _, bs92_86 _, cmLen92 _, fun W _ _ => len_pair W _⟩⟩

theorem noiter_of {w : World} {c : Code} {cv : Value} (h : Sh w c cv) (hc : isC c = false) : (∀ W, (Instr.typeAssert cv 65 80 true).run Try.prog W = .ok (.tuple #[.nilIface, .bool false]) W) ∧ (∀ W, ∃ o, (Instr.typeAssert cv 65 80 false).run Try.prog W = .halt (.panic (.iface 15 (.pointer (some ⟨W.heap.size, 0, none⟩)))) (W.alloc o)) := by
  rcases h.kinds with ⟨n, e1, e2, e3, e4, rfl, hn⟩ | ⟨s, e1, e2, e3, e4, rfl, e5⟩ | ⟨k, e1, e2, e3, e4, rfl⟩ | ⟨o, a, b, B, av, bv, rfl, rfl, hB, ha, hb⟩
  · exact ⟨as84_80 _, bare84_80 _⟩
  · exact ⟨as99_80 _, bare99_80 _⟩
  · simp [isC, e3] at hc
  · simp [isC, isP] at hc

/-- A value among others is an interface value. -/
theorem Shs.iface {w : World} {ts : List Code} {vs : List Value} (h : Shs w ts vs) {j : Nat} {v : Value} (hv : vs[j]? = some v) : ∃ T u, v = .iface T u := by
  obtain ⟨t, _, h2⟩ := h.get hv
  exact h2.ex
end Go.Proofs.Qxb6500336a
