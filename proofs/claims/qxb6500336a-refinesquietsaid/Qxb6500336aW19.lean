import Derived.Test.Qxb6500336aW18
namespace Go.Proofs.Qxb6500336a
open Go.RowKit
set_option linter.unusedVariables false
set_option linter.unusedSimpArgs false
attribute [local go_sem] Oper.semAt_some

/-- A code's walk in an activation OF THE FUNCTION f (which is there: so a panic can leave a round of its own). -/
def wpAt (f : FuncId) (c : Code) (Q : Exit → Act → World → Prop) (a : Act) (w : World) : Prop :=
  ∀ (b : Frame) (k : List Item) (cs : List Frame), b.roundOf = none → b.fn = f →
    ∃ e a' w', Q e a' w' ∧ ArrivesIn (Machine.fenced Try.prog Fence.wide) Try.prog (lone (b.atR a (.code c :: k)) cs w) b k cs e a' w'

theorem wpAt_of {f : FuncId} {n : Nat} {c : Code} {Q : Exit → Act → World → Prop} {a : Act} {w : World} (h : c.wpIn Fence.wide n Try.prog Q a w) : wpAt f c Q a w :=
  fun b k cs hro _ => h b k cs hro trivial (room_wide _)

theorem wpAt_seq {f : FuncId} {x y : Code} {Q : Exit → Act → World → Prop} {a : Act} {w : World} (h : wpAt f x (Exit.then (wpAt f y Q) Q) a w) : wpAt f (.seq x y) Q a w := by
  intro b k cs hro hb
  have h0 := fenced_wide Try.prog (lone (b.atR a (.code (.seq x y) :: k)) cs w)
  obtain ⟨e, a₁, w₁, hq, harr⟩ := h b (.code y :: k) cs hro hb
  cases e with
  | normal =>
    obtain ⟨e₂, a₂, w₂, hq₂, harr₂⟩ := hq b k cs hro hb
    exact ⟨e₂, a₂, w₂, hq₂, .of_steps (.head h0 stepR_seq harr) harr₂⟩
  | exit id => exact ⟨_, a₁, w₁, hq, .of_steps (.one h0 stepR_seq) (.pass (x := .code y) rfl (fun _ _ => .inl (by simp)) harr)⟩
  | goto l => exact ⟨_, a₁, w₁, hq, .of_steps (.one h0 stepR_seq) (.pass (x := .code y) rfl (fun _ _ => .inl (by simp)) harr)⟩
  | ret => exact ⟨_, a₁, w₁, hq, .of_steps (.one h0 stepR_seq) (.pass (x := .code y) rfl (fun _ _ => .inl (by simp)) harr)⟩
  | panic ch => exact ⟨_, a₁, w₁, hq, .of_steps (.one h0 stepR_seq) (.pass (x := .code y) rfl (fun _ _ => .inl (by simp)) harr)⟩
  | outgrown => exact ⟨_, a₁, w₁, hq, .of_steps (.one h0 stepR_seq) (.pass (x := .code y) rfl (fun _ _ => .inl (by simp)) harr)⟩

theorem wpAt_block {f : FuncId} {id : Nat} {c : Code} {Q : Exit → Act → World → Prop} {a : Act} {w : World} (h : wpAt f c (Exit.inBlock id Q) a w) : wpAt f (.block id c) Q a w := by
  intro b k cs hro hb
  have h0 := fenced_wide Try.prog (lone (b.atR a (.code (.block id c) :: k)) cs w)
  obtain ⟨e, a₁, w₁, hq, harr⟩ := h b (.inBlock id :: k) cs hro hb
  cases e with
  | normal => exact ⟨.normal, a₁, w₁, hq, .head h0 stepR_block (StepsIn.trans harr (.one (fenced_wide _ _) stepR_inBlock))⟩
  | exit id' =>
    by_cases hid : id' = id
    · simp only [Exit.inBlock, hid, if_true] at hq
      exact ⟨.normal, a₁, w₁, hq, .head h0 stepR_block (harr.1 k (by simp [exitTo, hid]))⟩
    · simp only [Exit.inBlock, hid, if_false] at hq
      have this : (id == id') = false := by simp; exact fun h => hid h.symm
      have hx : exitTo id' (.inBlock id :: k) = exitTo id' k := by simp [exitTo, this]
      exact ⟨.exit id', a₁, w₁, hq, fun k' hk => .head h0 stepR_block (harr.1 k' (by rw [hx]; exact hk)),
        fun hr' hk => let ⟨k₁, h1, h2⟩ := harr.2 hr' (by rw [hx]; exact hk); ⟨k₁, h1, .head h0 stepR_block h2⟩⟩
  | goto l =>
    have hx : gotoIn l (.inBlock id :: k) = gotoIn l k := by simp [gotoIn]
    exact ⟨_, a₁, w₁, hq, fun k' hk => .head h0 stepR_block (harr.1 k' (by rw [hx]; exact hk)),
      fun hr' hk => let ⟨k₁, h1, h2⟩ := harr.2 hr' (by rw [hx]; exact hk); ⟨k₁, h1, .head h0 stepR_block h2⟩⟩
  | ret => exact ⟨_, a₁, w₁, hq, .of_steps (.one h0 stepR_block) harr⟩
  | panic ch => exact ⟨_, a₁, w₁, hq, .of_steps (.one h0 stepR_block) harr⟩
  | outgrown => exact ⟨_, a₁, w₁, hq, .of_steps (.one h0 stepR_block) harr⟩

theorem wpAt_range {f : FuncId} {n : Nat} {g : Operand} {ps : Array Tmp} {assign body : Code} {Q : Exit → Act → World → Prop} {a : Act} {w : World}
    (h : ∃ (l : Nat) (mark : List Deferred) (w₁ : World) (d : Deferred) (w₁' : World) (f' : FuncId) (args : Array Value) (w₂ : World),
      (Instr.enterLoop f a.tmps ps assign body none).run Try.prog w = .ok (l, mark) w₁ ∧
      (resolve a.eval (rangeCall g l) 0).run Try.prog w₁ = .ok d w₁' ∧
      (∀ f'', Target.leads Try.prog w₁' d.target d.args = some f'' → Fence.wide.fn f'') ∧
      (invoke d.target d.args).run Try.prog w₁' = .ok (.enter f' args) w₂ ∧
      (Fence.wide.depth.isSome = true → 1 ≤ n) ∧
      CallsIn Fence.wide (n - 1) Try.prog f' args w₂ (rangePost Fence.wide n Try.prog l Q { a with defers := mark ++ a.defers })) :
    wpAt f (.rangeFunc g ps assign body) Q a w := by
  intro b k cs hro hb
  obtain ⟨l, mark, w₁, d, w₁', f', args, w₂, he, hres, hlead, hinv, hn, hF, hcall⟩ := h
  rw [← hro, ← hb] at he
  have h0 := fenced_wide Try.prog (lone (b.atR a (.code (.rangeFunc g ps assign body) :: k)) cs w)
  have henter := stepR_rangeFunc (P := Try.prog) (b := b) (a := a) (k := k) (cs := cs) (w := w) he hres hinv
  obtain ⟨e, w₃, fr, hR, hsteps, hfn, hleave⟩ := hcall (b.atR { a with defers := mark ++ a.defers } (.inRangeFunc l :: k) :: cs) (room_wide _)
  cases e with
  | outgrown =>
    obtain ⟨a₀, w₀, hq⟩ := hR
    exact ⟨.outgrown, a₀, w₀, hq, .inr (Outgrown.of_steps (.one henter) hsteps)⟩
  | returned v =>
    have hl := fenced_wide Try.prog (lone fr (b.atR { a with defers := mark ++ a.defers } (.inRangeFunc l :: k) :: cs) w₃)
    obtain ⟨jump, w₄, hend, hj⟩ := hR
    have sback : StepsIn (Machine.fenced Try.prog Fence.wide) Try.prog (lone (b.atR a (.code (.rangeFunc g ps assign body) :: k)) cs w) (lone (b.atR { a with defers := mark ++ a.defers } ((jump.map Item.code).toList ++ k)) cs w₄) := by
      refine .head h0 henter (StepsIn.trans hsteps (.head hl ?_ (.one (fenced_wide _ _) (stepR_endRangeFunc hend))))
      rw [← finish_atR_inRangeFunc l v]; exact step_leave_returned hleave
    cases jump with
    | none => exact ⟨.normal, _, w₄, hj, sback⟩
    | some c =>
      obtain ⟨e', a'', w₅, hq, harr⟩ := hj b k cs hro trivial (room_wide _)
      exact ⟨e', a'', w₅, hq, .of_steps sback harr⟩
  | panicked chain =>
    have hl := fenced_wide Try.prog (lone fr (b.atR { a with defers := mark ++ a.defers } (.inRangeFunc l :: k) :: cs) w₃)
    refine ⟨.panic chain, _, w₃, hR, .inRangeFunc l :: k, .head h0 henter (StepsIn.trans hsteps (.one hl ?_))⟩
    rw [← Frame.raise_atR]; exact step_leave_panicked hleave

theorem calls_of_wpAt {f : FuncId} {fn : Func} {c : Code} {args : Array Value} {w : World} {R : Ending → World → Prop}
    (hf : Try.prog.funcs[f]? = some fn) (hb : fn.body = some c)
    (h : wpAt f c (bodyPostM Fence.wide 3 Try.prog fn R) { tmps := args ++ Array.replicate (fn.ntmps - args.size) undef, defers := [] } w) : Calls Try.prog f args w R := by
  refine (callsIn_wide (n := 3)).1 ⟨trivial, fun cs hr => ?_⟩
  let b : Frame := { (default : Frame) with fn := f, kind := .normal, roundOf := none }
  have henter : Frame.enter Try.prog f args .normal =
      b.atR { tmps := args ++ Array.replicate (fn.ntmps - args.size) undef, defers := [] } [.code c] := by
    simp [Frame.enter, Frame.atR, hf, hb, b]
  obtain ⟨e, a', w', hq, harr⟩ := h b [] cs rfl rfl
  rw [← henter] at harr
  cases e with
  | normal =>
    obtain ⟨e', w'', fr', hR, hs, hfn, hl⟩ := leaves_stepsInM a'.defers .returning w' { b.atR a' [] with mode := .returning } cs rfl rfl rfl hf rfl trivial hr hq
    exact ⟨e', w'', fr', hR, ComesIn.of_steps (StepsIn.trans harr (.one (fenced_wide _ _) (stepR_end rfl))) hs, hfn, hl⟩
  | ret =>
    obtain ⟨todo, hs₀⟩ := harr.1 rfl
    obtain ⟨e', w'', fr', hR, hs, hfn, hl⟩ := leaves_stepsInM a'.defers .returning w' { b.atR a' todo with mode := .returning } cs rfl rfl rfl hf rfl trivial hr hq
    exact ⟨e', w'', fr', hR, ComesIn.of_steps hs₀ hs, hfn, hl⟩
  | panic chain =>
    obtain ⟨todo, hs₀⟩ := harr
    obtain ⟨e', w'', fr', hR, hs, hfn, hl⟩ := leaves_stepsInM a'.defers (.panicking chain) w' { b.atR a' todo with mode := .panicking chain } cs rfl rfl rfl hf rfl trivial hr hq
    exact ⟨e', w'', fr', hR, ComesIn.of_steps hs₀ hs, hfn, hl⟩
  | exit id => exact hq.elim
  | goto l => exact hq.elim
  | outgrown => exact ⟨.outgrown, w', b, hq, harr.resolve_left (by simp [b]), rfl, trivial⟩

theorem Stv.put {W : World} {S : Nat} {sl : Value} {us : List Value} {bz : Bool} (h : Stv W S sl us bz) {D : Nat} {o : Obj} (hD : W.heap[D]? = some o) (ho : o.isCells = false) (o' : Obj) : Stv (W.putObj D o') S sl us bz :=
  ⟨blk_put hD ho h.obj, ownsRow_putObj h.row o' hD ho⟩
theorem Sb.put {W : World} {S : Nat} {sl : Value} {rs : List Code} {bz : Bool} (h : Sb W S sl rs bz) {D : Nat} {o : Obj} (hD : W.heap[D]? = some o) (ho : o.isCells = false) (o' : Obj) : Sb (W.putObj D o') S sl rs bz := by
  obtain ⟨us, h1, h2⟩ := h
  exact ⟨us, h1.put hD ho o', h2.kept (kc_put hD ho)⟩
theorem Stv.keeps {w w' : World} {S : Nat} {sl sl' : Value} {us : List Value} {bz : Bool} (h : Stv w S sl us bz) (m : Mv w w' S sl sl') : KeepsOthers w w' :=
  ⟨m.fr.size, fun D o hD ho => h.keepo m hD ho⟩
theorem Stv.keepc {w w' : World} {S : Nat} {sl sl' : Value} {us : List Value} {bz : Bool} (h : Stv w S sl us bz) (m : Mv w w' S sl sl') {b : Nat} {c : Array Value} {t : TypeId} (hb : w.heap[b]? = some (.cells c t)) (h1 : t ≠ 55) (h2 : t ≠ 65) : w'.heap[b]? = some (.cells c t) :=
  m.fr.keep hb (fun hm => by
    simp at hm
    rcases hm with rfl | hm
    · rw [h.obj] at hb; simp at hb; exact h1 hb.2.symm
    · obtain ⟨cur, hc⟩ := owns_block h.row hm
      rw [hc] at hb; simp at hb; exact h2 hb.2.symm)

/-- spread, between two rounds. -/
structure SI (w : World) (S : Nat) (sl : Value) (B N : Nat) (rv : Value) (bt : TypeId) (Cc : World → Prop) (ks r : List Code) (k : Nat) (W : World) : Prop where
  st : ∃ sl', Sb W S sl' ((ks.take k).reverse ++ r) true ∧ Mv w W S sl sl'
  pb : W.heap[B]? = some (.cells #[.pointer (some ⟨S, 0, none⟩)] 35)
  bx : W.heap[N]? = some (.cells #[rv] bt)
  cc : Cc W
  ln : r.length + k ≤ 5
def SP (w : World) (S : Nat) (sl : Value) (ks r : List Code) (ch : List PanicEntry) (W : World) : Prop :=
  ch = pe (.iface 26 (.int .i64 3)) ∧ 5 < r.length + ks.length ∧ ∃ sl' us', Stv W S sl' us' true ∧ Mv w W S sl sl'
theorem SI.put {w : World} {S : Nat} {sl : Value} {B N : Nat} {rv : Value} {bt : TypeId} {Cc : World → Prop} {ks r : List Code} {k : Nat} {W : World} (hc : ∀ W W', Kc W W' → Cc W → Cc W') (h : SI w S sl B N rv bt Cc ks r k W) {l : Nat} {o : Obj} (hl : W.heap[l]? = some o) (ho : o.isCells = false) (hw : w.heap.size ≤ l) (o' : Obj) : SI w S sl B N rv bt Cc ks r k (W.putObj l o') := by
  obtain ⟨sl', h1, h2⟩ := h.st
  exact ⟨⟨sl', h1.put hl ho o', h2.put hw o'⟩, blk_put hl ho h.pb, blk_put hl ho h.bx, hc _ _ (kc_put hl ho) h.cc, h.ln⟩
theorem SI.keep0 {w : World} {S : Nat} {sl : Value} {B N : Nat} {rv : Value} {bt : TypeId} {Cc : World → Prop} {ks r : List Code} {k : Nat} {W W' : World} (hc : ∀ W W', Kc W W' → Cc W → Cc W') (h : SI w S sl B N rv bt Cc ks r k W) (hf : Fr [] W W') : SI w S sl B N rv bt Cc ks r k W' := by
  obtain ⟨sl', ⟨us, h1, h3⟩, h2⟩ := h.st
  exact ⟨⟨sl', ⟨us, h1.keep0 hf, h3.kept hf.kc0⟩, h2.frr hf⟩, hf.keep h.pb (by simp), hf.keep h.bx (by simp), hc _ _ hf.kc0 h.cc, h.ln⟩

set_option maxHeartbeats 3200000 in
set_option maxRecDepth 100000 in
theorem spread_ok {w : World} {S : Nat} {sl : Value} {c : Code} {r : List Code} (h : Sb w S sl (c :: r) true) (hw : Wf (c :: r)) (hc : isC c = true) :
    Calls Try.prog 71 #[.pointer (some ⟨S, 0, none⟩)] w (XOut w S sl (sprX (c :: r))) := by
  obtain ⟨us, h1, h2⟩ := h
  have hlen := h2.len
  have hl5 := hw.1
  have H1 : Hid (Stv w S sl us true) := h1
  obtain ⟨cv, us2, rfl, hcv, h5⟩ := h2.cons
  obtain ⟨T, u, hiv⟩ := hcv.ex
  subst hiv
  have HL : Hid (us2.length ≤ 4) := by show _ ≤ _; simp at hlen hl5; omega
  have HRL : Hid (r.length ≤ 4) := by show _ ≤ _; simp at hl5; omega
  have H2 : Hid (Shs w r us2) := h5
  obtain ⟨af, gf, lf, rv, bt, vs, Cc, I⟩ := iter_of hcv hc
  have n80 := I.as80
  have m80 := I.bs80
  have HI : Hid (Itr w c (.iface T u) af gf lf rv bt vs Cc) := I
  have HSP : Hid (sprX (c :: r) = if r.length + (kids c).length ≤ 5 then (0, (kids c).reverse ++ r) else (3, c :: r)) := by show _ = _; simp only [sprX, hc, ↓reduceIte]
  clear hlen hl5 h2 h1 h5 I hcv hw
  refine calls_of_wpAt Try.func71 rfl ?_
  simp only [Try.ntmps71, List.size_toArray, List.length_cons, List.length_nil, Nat.reduceAdd, Nat.reduceSub, Array.replicate_succ, Array.replicate_zero, List.push_toArray, List.append_toArray, List.nil_append, List.cons_append]
  refine wpAt_seq (wpAt_of (n := 3) ?_)
  gi_wp2
  refine wpAt_seq (wpAt_of (n := 3) ?_)
  gi_wp2_with (refine ⟨trivial, ?_⟩; gi_at_call 80; refine (callsIn_wide.2 (take_cons (H1.out.keep0 ((Fr.refl [] w).alloc _)) HL.out)).mono ?_; rintro e w1 ⟨rfl, sl1, h1, m1⟩)
  have HB1 : Hid (w1.heap[w.heap.size]? = some (.cells #[.pointer (some ⟨S, 0, none⟩)] 35)) := (H1.out.keep0 ((Fr.refl [] w).alloc _)).keepc m1 (blk_new w (.cells #[.pointer (some ⟨S, 0, none⟩)] 35)) (by simp) (by simp)
  have HM1 : Hid (Mv w w1 S sl sl1) := Mv.frl ((Fr.refl [] w).alloc _) m1
  have HS1 : Hid (Stv w1 S sl1 us2 true) := h1
  have hsz1 := blk_lt HB1.out
  clear h1 m1
  refine wpAt_seq (wpAt_of (n := 3) ?_)
  gi_wp2
  refine wpAt_seq (wpAt_of (n := 3) ?_)
  gi_wp2
  refine wpAt_seq (wpAt_of (n := 3) ?_)
  gi_wp2_with ((with_reducible refine at_invIn ?_); refine wpListIn_invoke0 (fun _ => trivial) rfl rfl _ _ rfl (.iface T u) rfl _ _ (HI.out.cmAll _) _ (callsIn_wide.2 (HI.out.all _)) ?_; rintro e w4 ⟨rfl, rfl⟩; refine ⟨_, rfl, ?_⟩)
  have hI0 : SI w S sl w.heap.size w1.heap.size rv bt Cc (kids c) r 0 (w1.alloc (.cells #[rv] bt)) := by
    refine ⟨⟨sl1, ⟨us2, HS1.out.keep0 ((Fr.refl [] _).alloc _), ?_⟩, HM1.out.frr ((Fr.refl [] _).alloc _)⟩, blk_alloc HB1.out _, blk_new _ _, ?_, by have := HRL.out; omega⟩
    · exact (H2.out.kept (H1.out.kc HM1.out)).kept ((Fr.refl [] w1).alloc _).kc0
    · exact HI.out.keep _ _ ((H1.out.kc HM1.out).trans ((Fr.refl [] w1).alloc _).kc0) HI.out.cc
  have HI0 : Hid _ := hI0
  have hsz : (w1.alloc (.cells #[rv] bt)).heap.size = w1.heap.size + 1 := by simp
  have HSZ : Hid (w.heap.size < w1.heap.size) := hsz1
  clear hI0 hsz1
  refine wpAt_block (wpAt_range (n := 3) ?_)
  refine range_core 71 (gf := gf) (lb := #[.pointer (some ⟨w1.heap.size, 0, none⟩)]) rfl HI.out.ent (HI.out.it w1.heap.size)
    (SI w S sl w.heap.size w1.heap.size rv bt Cc (kids c) r) (fun _ _ => False) (SP w S sl (kids c) r) (fun _ _ _ => ⟨_, Try.func71⟩) (fun k W h => ⟨h.bx, h.cc⟩)
    (fun k W r o h hl => h.put HI.out.keep hl rfl (by rw [hsz]; have := HSZ.out; omega) o) (fun _ _ _ _ h => h.elim) (fun r => (HI0.out.keep0 HI.out.keep (((Fr.refl [] _).alloc _).alloc _)))
    (fun x' => { tmps := (#[Value.pointer (some { block := S, off := 0 }), Value.pointer (some { block := w.heap.size, off := 0 }), Value.iface T u, Value.iface T u, Value.iface T u, Value.bool true, x', Value.pointer (some { block := S, off := 0 }), Value.iface T u, Value.iface T u, Value.iface T u, Value.tuple #[Value.iface T u, Value.bool true], Value.iface T u, Value.tuple #[Value.iface T u, Value.bool true], Value.iface T u, Value.bool true, Value.bool true, Value.bool false, undef, Value.iface T u, .func (.func gf) #[] #[.pointer (some ⟨w1.heap.size, 0, none⟩)], x', undef, undef, undef]), defers := [] })
    ?assign ?body ?done ?stop ?pan
  case assign =>
    intro l x' W K hK
    gi_wp2
    exact hK
  case body =>
    intro l k x' W hI hx'
    obtain ⟨sl', ⟨us', hs1, hs2⟩, hm⟩ := hI.st
    have c1 := blk_cell hI.pb 0
    simp at c1
    have HS : Hid (Stv W S sl' us' true) := hs1
    have HSS : Hid (Shs W (((kids c).take k).reverse ++ r) us') := hs2
    have HM : Hid (Mv w W S sl sl') := hm
    have HSI : Hid (SI w S sl w.heap.size w1.heap.size rv bt Cc (kids c) r k W) := hI
    obtain ⟨t, ht, hsh⟩ := HI.out.shs.get hx'
    have HSH : Hid (Sh W t x') := Sh.kept (H1.out.kc hm) _ _ hsh
    have HT : Hid ((kids c)[k]? = some t) := ht
    have hkl := (List.getElem?_eq_some_iff.1 ht).1
    have HKL : Hid (k < (kids c).length) := hkl
    have hll : (((kids c).take k).reverse ++ r).length = k + r.length := by simp; omega
    have HLL : Hid ((((kids c).take k).reverse ++ r).length = k + r.length) := hll
    have hul := hs2.len
    rw [hll] at hul
    have HUL : Hid (us'.length = k + r.length) := hul
    have hk5 := hI.ln
    clear hI hx' hs1 hs2 hm ht hsh hkl hll hul
    by_cases hf : k + r.length < 5
    · gi_wp2_with (refine ⟨trivial, ?_⟩; gi_at_call 81; refine (CallsIn.inRound l (callsIn_wide.2 (give_ok HS.out HSS.out (by rw [HLL.out]; exact hf) HSH.out))).mono ?_; rintro e W1 ⟨rfl, sl5, h5, m5⟩)
      refine ⟨HS.out.keeps m5, ⟨sl5, ?_, HM.out.trans m5⟩, HS.out.keepc m5 HSI.out.pb (by simp) (by simp), HS.out.keepc m5 HSI.out.bx (by rcases HI.out.hbt with e | e <;> rw [e] <;> simp) (by rcases HI.out.hbt with e | e <;> rw [e] <;> simp), HI.out.keep _ _ (HS.out.kc m5) HSI.out.cc, by omega⟩
      have e1 : ((kids c).take (k + 1)).reverse ++ r = t :: (((kids c).take k).reverse ++ r) := by
        rw [List.take_add_one, HT.out]; simp
      rw [e1]; exact h5
    · gi_wp2_with (refine ⟨trivial, ?_⟩; gi_at_call 81; refine (CallsIn.inRound l (callsIn_wide.2 (give_full HS.out (by have := HUL.out; omega) (by have := HUL.out; omega)))).mono ?_; rintro e W1 ⟨rfl, rfl⟩)
      exact ⟨rfl, KeepsOthers.refl _, rfl, by have := HKL.out; omega, _, _, HS.out, HM.out⟩
  case stop => exact fun _ _ h => h.elim
  case done =>
    intro W hI hD
    obtain ⟨sl', hs, hm⟩ := hI.st
    have hvl : vs.length = (kids c).length := HI.out.shs.len
    refine ⟨by simp, .inl ⟨_, _, rfl, run_takeDeferred hD, ?_⟩⟩
    refine ⟨_, results_none rfl _ _ _, ?_⟩
    have hle := hI.ln
    rw [hvl] at hle hs
    rw [List.take_length] at hs
    rw [HSP.out, if_pos hle]
    exact Or.inl ⟨rfl, rfl, sl', hs.put hD rfl _, hm.put (by rw [hsz]; have := HSZ.out; omega) _⟩
  case pan =>
    rintro ch W ⟨rfl, hgt, sl', us', hs, hm⟩ hD
    refine ⟨by simp, .inl ⟨_, _, rfl, run_takeDeferred hD, ?_⟩⟩
    show XOut _ _ _ _ _ _
    rw [HSP.out, if_neg (by omega)]
    exact XOut.no (by simp) (Or.inl rfl) (hs.put hD rfl _) (hm.put (by rw [hsz]; have := HSZ.out; omega) _)

set_option maxHeartbeats 1600000 in
set_option maxRecDepth 100000 in
theorem spread_any {w : World} {S : Nat} {sl : Value} {rs : List Code} (h : Sb w S sl rs true) (hw : Wf rs) :
    Calls Try.prog 71 #[.pointer (some ⟨S, 0, none⟩)] w (XOut w S sl (sprX rs)) := by
  have H : Hid (Sb w S sl rs true) := h
  obtain ⟨us, h1, h2⟩ := h
  have hlen := h2.len
  have hl5 := hw.1
  have H1 : Hid (Stv w S sl us true) := h1
  clear h1
  cases rs with
  | nil =>
    cases h2.nil
    clear h2
    go_enter Try.func71, Try.ntmps71
    go_wp2_with (go_at_call 80; refine (take_nil (H1.out.keep0 ((Fr.refl [] w).alloc _))).mono ?_; rintro e w1 ⟨rfl, hf1⟩; obtain ⟨o, ho⟩ := bareNil_80 w1)
    exact ⟨rfl, XOut.no (by simp) (PV.ta _) (H1.out.keep0 ((((Fr.refl [] w).alloc _).trans hf1).alloc _)) (Mv.ofFr ((((Fr.refl [] w).alloc _).trans hf1).alloc _))⟩
  | cons c r =>
    obtain ⟨cv, us1, rfl, hc, h4⟩ := h2.cons
    cases hi : isC c with
    | true => exact spread_ok H.out hw hi
    | false =>
      obtain ⟨T, u, rfl⟩ := hc.ex
      have n1 := (noiter_of hc hi).2
      have HN1 : Hid _ := n1
      have HL : Hid (us1.length ≤ 4) := by show _ ≤ _; simp at hlen hl5; omega
      simp only [sprX, hi, Bool.false_eq_true, ↓reduceIte]
      clear h2 h4 hc hw n1
      go_enter Try.func71, Try.ntmps71
      go_wp2_with (go_at_call 80; refine (take_cons (H1.out.keep0 ((Fr.refl [] w).alloc _)) HL.out).mono ?_; rintro e w1 ⟨rfl, sl1, h1, m1⟩; obtain ⟨o, ho⟩ := HN1.out w1)
      exact ⟨rfl, XOut.no (by simp) (PV.ta _) (h1.keep0 ((Fr.refl [] _).alloc _)) ((Mv.frl ((Fr.refl [] w).alloc _) m1).frr ((Fr.refl [] _).alloc _))⟩
end Go.Proofs.Qxb6500336a
