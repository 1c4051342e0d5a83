import Derived.Test.Qxb6500336aW1
import Derived.LaidEqlPtr
namespace Go.Proofs.Qxb6500336a
open Go.RowKit
set_option linter.unusedVariables false

theorem wpList_invoke {P : Program} {ops : Array Oper} {rest : List Oper} {o : Oper} {a : Act} {w : World} {Q : Exit → Act → World → Prop} (hgd : o.guard = none)
    (x : Operand) (name : String) {xs : Array Operand} {ts : Array TypeId} (ho : o.op = .call { callee := .invoke x name, args := xs, argTypes := ts })
    (v : Value) (hv : a.eval x = v) (f : FuncId) (args us : Array Value) (hus : xs.map a.eval = us) (hm : (callMethod v name us).run P w = .ok (.enter f args) w)
    (R : Ending → World → Prop) (hc : Calls P f args w R)
    (h : ∀ e w', R e w' → ∃ u, e = .returned u ∧ wpList P ops Q rest (a.put o.dst u) w') : wpList P ops Q (o :: rest) a w := by
  refine wpList_plain hgd fun K hK => ?_
  have hx : (execOp a.eval o).run P w = .ok (.enter f args) w := by
    subst hv hus
    have e0 : (#[a.eval x] ++ Array.map a.eval xs)[0]? = some (a.eval x) := by simp [Array.getElem?_append]
    have e1 : (Array.map a.eval xs).extract 0 xs.size = Array.map a.eval xs := by
      have := Array.extract_size (xs := Array.map a.eval xs)
      rwa [Array.size_map] at this
    simp [execOp, ho, resolve, invoke]
    rw [e0]
    simp only []
    rw [e1]
    exact hm
  unfold Oper.wp
  rw [hx, Oper.upon_enter]
  refine hc.mono fun e w' hr => ?_
  obtain ⟨u, rfl, hu⟩ := h e w' hr
  exact hK _ _ hu

theorem wpList_invoke0 {P : Program} {ops : Array Oper} {rest : List Oper} {o : Oper} {a : Act} {w : World} {Q : Exit → Act → World → Prop} (hgd : o.guard = none)
    (x : Operand) (name : String) {ts : Array TypeId} (ho : o.op = .call { callee := .invoke x name, args := #[], argTypes := ts })
    (v : Value) (hv : a.eval x = v) (f : FuncId) (args : Array Value) (hm : (callMethod v name #[]).run P w = .ok (.enter f args) w)
    (R : Ending → World → Prop) (hc : Calls P f args w R)
    (h : ∀ e w', R e w' → ∃ u, e = .returned u ∧ wpList P ops Q rest (a.put o.dst u) w') : wpList P ops Q (o :: rest) a w :=
  wpList_invoke hgd x name ho v hv f args #[] (by simp) hm R hc h
theorem wpList_invoke1 {P : Program} {ops : Array Oper} {rest : List Oper} {o : Oper} {a : Act} {w : World} {Q : Exit → Act → World → Prop} (hgd : o.guard = none)
    (x y : Operand) (name : String) {ts : Array TypeId} (ho : o.op = .call { callee := .invoke x name, args := #[y], argTypes := ts })
    (v u : Value) (hv : a.eval x = v) (hu : a.eval y = u) (f : FuncId) (args : Array Value) (hm : (callMethod v name #[u]).run P w = .ok (.enter f args) w)
    (R : Ending → World → Prop) (hc : Calls P f args w R)
    (h : ∀ e w', R e w' → ∃ u, e = .returned u ∧ wpList P ops Q rest (a.put o.dst u) w') : wpList P ops Q (o :: rest) a w :=
  wpList_invoke hgd x name ho v hv f args #[u] (by simp [hu]) hm R hc h

/-- A guard: the next operation calls through an interface. -/
theorem at_inv {P : Program} {ops : Array Oper} {rest : List Oper} {a : Act} {w : World} {Q : Exit → Act → World → Prop} {dst : Option Tmp} {ty : TypeId} {pos : String} {aft : Array Edge} {x : Operand} {name : String} {xs : Array Operand} {ts : Array TypeId}
    (h : wpList P ops Q (⟨dst, .call ⟨.invoke x name, xs, ts⟩, ty, pos, aft, none⟩ :: rest) a w) : wpList P ops Q (⟨dst, .call ⟨.invoke x name, xs, ts⟩, ty, pos, aft, none⟩ :: rest) a w := h

def ShowP (t : Code) : Prop := ∀ (v : Value) (w : World), Sh w t v → (tx false t).size ≤ 1000 →
  Calls Try.prog (shF t) #[recvOf v] w fun e w' => e = .returned (.string (tx false t)) ∧ Fr [] w w'

theorem show_int (n : Int) (p : Array Tmp) (a b : Code) : ShowP (.rangeFunc (.const (.int .i64 n)) p a b) := by
  intro v w h _
  obtain ⟨rfl, hn⟩ := h
  show Calls Try.prog 126 #[.int .i64 n] w _
  go_enter Try.func126, Try.ntmps126
  go_wp2_with (go_at_call 34; refine (itoa_any _ _ hn).mono ?_; rintro e w1 ⟨rfl, hf1⟩)
  go_ret
  exact ⟨rfl, hf1⟩

theorem show_str (s : ByteArray) (p : Array Tmp) (a b : Code) : ShowP (.rangeFunc (.const (.string s)) p a b) := by
  intro v w h hz
  cases h
  show Calls Try.prog 134 #[.string s] w _
  have hz' : (itoa s.size ++ ⟨#[58]⟩ ++ s).size ≤ 1000 := hz
  simp only [ByteArray.size_append] at hz'
  have h1 : ¬ 9223372036854775807 < (itoa s.size).size + 1 := by omega
  have h2 : ¬ 9223372036854775807 < (itoa s.size).size + 1 + s.size := by omega
  go_enter Try.func134, Try.ntmps134
  go_wp2_with (go_at_call 34; refine (itoa_any _ _ (by unfold w64; omega)).mono ?_; rintro e w1 ⟨rfl, hf1⟩)
  go_ret
  exact ⟨rfl, hf1⟩

theorem Sh.lst {w : World} {r : Code} {k : Option Nat} (h : Sh w r (.iface 75 (ptrO k))) : (r = .skip ∧ k = none) ∨
    ∃ (hd tl : Code) (B : Nat) (hv : Value) (k' : Option Nat), r = .seq hd tl ∧ k = some B ∧ w.heap[B]? = some (.cells #[hv, ptrO k'] 78) ∧ Sh w hd hv ∧ Sh w tl (.iface 75 (ptrO k')) ∧ (∀ b, k' = some b → b < B) := by
  cases r with
  | skip =>
    left
    cases k with
    | none => exact ⟨rfl, rfl⟩
    | some b => have h' : Value.iface 75 (ptrO (some b)) = .iface 75 (.pointer none) := h; simp [ptrO] at h'
  | seq a b =>
    right
    obtain ⟨B, hv, k', h1, h2, h3, h4, h5⟩ := h
    refine ⟨a, b, B, hv, k', rfl, ?_, h2, h3, h4, h5⟩
    cases k with
    | none => simp [ptrO] at h1
    | some c => simp [ptrO] at h1; rw [h1]
  | cond c a b => obtain ⟨B, av, bv, h1, _⟩ := h; simp at h1
  | rangeFunc o p a b =>
    have h' : leafS o _ := h
    unfold leafS at h'
    split at h'
    · simp at h'
    · simp at h'
    · exact h'.elim
  | _ => exact h.elim

set_option maxHeartbeats 1600000 in
set_option maxRecDepth 100000 in
theorem show_pair (c : Operand) (a b : Code) (ha : ShowP a) (hb : ShowP b) : ShowP (.cond c a b) := by
  intro v w h hz
  obtain ⟨B, av, bv, rfl, hB, h3, h4⟩ := h
  have hz' : ((((⟨#[60]⟩ : ByteArray) ++ tx false a) ++ ⟨#[32]⟩) ++ tx false b ++ ⟨#[62]⟩).size ≤ 1000 := hz
  simp only [ByteArray.size_append] at hz'
  have s1 : ByteArray.size ⟨#[60]⟩ = 1 := rfl
  have s2 : ByteArray.size ⟨#[62]⟩ = 1 := rfl
  have s3 : ByteArray.size ⟨#[32]⟩ = 1 := rfl
  rw [s1, s2, s3] at hz'
  have hza : (tx false a).size ≤ 1000 := by omega
  have hzb : (tx false b).size ≤ 1000 := by omega
  show Calls Try.prog 130 #[.pointer (some ⟨B, 0, none⟩)] w fun e w' => e = .returned (.string (((((⟨#[60]⟩ : ByteArray) ++ tx false a) ++ ⟨#[32]⟩) ++ tx false b) ++ ⟨#[62]⟩)) ∧ Fr [] w w'
  have m1 := h3.show
  have m2 := h4.show
  have c0 := blk_cell hB 0
  have c1 := blk_cell hB 1
  simp at c0 c1
  have g1 : ¬ 9223372036854775807 < 1 + (tx false a).size := by omega
  have g2 : ¬ 9223372036854775807 < 1 + (tx false a).size + 1 := by omega
  have g3 : ¬ 9223372036854775807 < 1 + (tx false a).size + 1 + (tx false b).size := by omega
  have g4 : ¬ 9223372036854775807 < 1 + (tx false a).size + 1 + (tx false b).size + 1 := by omega
  have HB : Hid (w.heap[B]? = some (.cells #[av, bv] 94)) := hB
  have H4 : Hid (Sh w b bv) := h4
  have H3 : Hid (Sh w a av) := h3
  clear hz hz' hB h3 h4
  go_enter Try.func130, Try.ntmps130
  go_wp2_with ((with_reducible refine at_inv ?_); first | (refine wpList_invoke0 rfl _ _ rfl av rfl _ _ (m1 _) _ (ha av w H3.out hza) ?_; rintro e w1 ⟨rfl, hf1⟩; refine ⟨_, rfl, ?_⟩; have c2 := blk_cell (hf1.keep HB.out (by simp)) 1; simp at c2) | (refine wpList_invoke0 rfl _ _ rfl bv rfl _ _ (m2 _) _ (hb bv w1 (Sh.kept hf1.kc0 _ _ H4.out) hzb) ?_; rintro e w2 ⟨rfl, hf2⟩; refine ⟨_, rfl, ?_⟩))
  go_ret
  exact ⟨rfl, hf1.trans hf2⟩

def hdsP : Code → Prop
  | .seq h t => ShowP h ∧ hdsP t
  | _ => True

set_option maxHeartbeats 1600000 in
theorem show_nil : ShowP .skip := by
  intro v w h _
  cases h
  show Calls Try.prog 122 #[.pointer none] w fun e w' => e = .returned (.string ⟨#[91, 93]⟩) ∧ Fr [] w w'
  go_enter Try.func122, Try.ntmps122
  go_wp2
  refine wp_loop_once ?_
  go_wp2
  go_ret
  exact ⟨rfl, Fr.refl _ _⟩

theorem info78 : ∃ j, Try.prog.info? 78 = some j ∧ j.size ≠ 0 := by
  have h : (Try.prog.info? 78).map (·.size) = some 2 := by kernel_rfl
  obtain ⟨j, hj, hs⟩ := Option.map_eq_some_iff.1 h
  exact ⟨j, hj, by omega⟩
theorem eq_same (B : Nat) (w : World) : (binOp .eql 75 (.pointer (some ⟨B, 0, none⟩)) (.pointer (some ⟨B, 0, none⟩))).run Try.prog w = .ok (.bool true) w := by
  obtain ⟨j, hj, hs⟩ := info78
  exact run_eql_ptr_same w _ Try.underlying75 hj
theorem eq_other {B C : Nat} {w : World} {cb cc : Array Value} (hne : B ≠ C) (hb : w.heap[B]? = some (.cells cb 78)) (hc : w.heap[C]? = some (.cells cc 78)) : (binOp .eql 75 (.pointer (some ⟨B, 0, none⟩)) (.pointer (some ⟨C, 0, none⟩))).run Try.prog w = .ok (.bool false) w := by
  obtain ⟨j, hj, hs⟩ := info78
  exact run_eql_ptr_other w Try.underlying75 hj hs (fun e => by cases e; exact hne rfl) hb hc

def ptrM : Value → Nat
  | .pointer (some a) => a.block + 1
  | _ => 0

set_option maxHeartbeats 1600000 in
set_option maxRecDepth 100000 in
theorem show_list (hd tl : Code) (hh : hdsP (.seq hd tl)) : ShowP (.seq hd tl) := by
  intro v w h hz
  obtain ⟨B, hv, k, rfl, hB, h3, h4, h5⟩ := h
  have hSh : Sh w (.seq hd tl) (.iface 75 (ptrO (some B))) := ⟨B, hv, k, rfl, hB, h3, h4, h5⟩
  show Calls Try.prog 122 #[.pointer (some ⟨B, 0, none⟩)] w fun e w' => e = .returned (.string (tx false (.seq hd tl))) ∧ Fr [] w w'
  have HH : Hid (hdsP (.seq hd tl)) := hh
  have HS : Hid (Sh w (.seq hd tl) (.iface 75 (ptrO (some B)))) := hSh
  have HZ : Hid ((tx false (.seq hd tl)).size ≤ 1000) := hz
  have HB0 : Hid (w.heap[B]? = some (.cells #[hv, ptrO k] 78)) := hB
  clear hh hSh hz hB h3 h4 h5
  generalize hwh : Code.seq hd tl = whole at HH HS HZ ⊢
  have HW : Hid (Code.seq hd tl = whole) := hwh
  clear hwh
  go_enter Try.func122, Try.ntmps122
  go_wp2
  go_loopw [3, 4] (fun t c wr => ∃ (r : Code) (k : Option Nat) (acc : ByteArray), t = .string acc ∧ c = ptrO k ∧ Hid (Sh wr r (.iface 75 (ptrO k))) ∧ Hid (hdsP r) ∧ Fr [] w wr ∧ Hid ((r = whole ∧ k = some B ∧ acc = ⟨#[91]⟩) ∨ ((∀ b, k = some b → b < B) ∧ (acc ++ tx true r) ++ ⟨#[93]⟩ = tx false whole))) (fun _ c _ => ptrM c)
  case atStart => exact ⟨whole, some B, ⟨#[91]⟩, rfl, rfl, HS, HH, Fr.refl _ _, Or.inl ⟨rfl, rfl, rfl⟩⟩
  case round =>
    obtain ⟨r, k, acc, rfl, rfl, HR, HP, hf, HC⟩ := hrel
    rcases HR.out.lst with ⟨rfl, rfl⟩ | ⟨hd', tl', B', hv', k', rfl, rfl, hB', hs1, hs2, hlt⟩
    · have hc : acc ++ ⟨#[93]⟩ = tx false whole := by
        rcases HC.out with ⟨h1, h2, _⟩ | ⟨_, h2⟩
        · cases h2
        · rw [← h2]; show _ = (acc ++ ByteArray.empty) ++ _; rw [ByteArray.append_empty]
      have hsz : ¬ 9223372036854775807 < acc.size + 1 := by
        have h1 := congrArg ByteArray.size hc
        rw [ByteArray.size_append] at h1
        have h2 : (tx false whole).size ≤ 1000 := HZ.out
        have h3 : ByteArray.size ⟨#[93]⟩ = 1 := rfl
        omega
      have HC2 : Hid (acc ++ ⟨#[93]⟩ = tx false whole) := hc
      clear hc
      show Code.wp _ _ _ _ _
      unfold ptrO
      go_wp2
      go_ret
      refine ⟨?_, hf⟩
      rw [← HC2.out]; rfl
    · obtain ⟨hp1, hp2⟩ : ShowP hd' ∧ hdsP tl' := HP.out
      have HP1 : Hid (ShowP hd') := hp1
      have HP2 : Hid (hdsP tl') := hp2
      have HB1 : Hid (wr.heap[B']? = some (.cells #[hv', ptrO k'] 78)) := hB'
      have HT : Hid (Sh wr tl' (.iface 75 (ptrO k'))) := hs2
      have HD : Hid (Sh wr hd' hv') := hs1
      have HL : Hid (∀ b, k' = some b → b < B') := hlt
      have m1 := hs1.show
      have c0 := blk_cell hB' 0
      simp at c0
      clear hp1 hp2 hB' hs1 hs2 hlt
      have hms : ptrM (ptrO k') < B' + 1 := by
        cases k' with
        | none => show 0 < _; omega
        | some b => show b + 1 < _; have := HL.out b rfl; omega
      have HM : Hid (ptrM (ptrO k') < B' + 1) := hms
      clear hms
      rcases HC.out with ⟨h1, h2, h3⟩ | ⟨h1, h2⟩
      · cases h2
        subst h3
        have hz0 : (tx false (.seq hd' tl')).size ≤ 1000 := by rw [h1]; exact HZ.out
        have hz1 : ((((⟨#[91]⟩ : ByteArray) ++ tx false hd') ++ tx true tl') ++ ⟨#[93]⟩).size ≤ 1000 := hz0
        simp only [ByteArray.size_append] at hz1
        have s1 : ByteArray.size ⟨#[91]⟩ = 1 := rfl
        have hz2 : (tx false hd').size ≤ 1000 := by omega
        have g1 : ¬ 9223372036854775807 < 1 + (tx false hd').size := by omega
        have HQ : Hid ((((⟨#[91]⟩ : ByteArray) ++ tx false hd') ++ tx true tl') ++ ⟨#[93]⟩ = tx false whole) := by show _ = _; rw [← h1]; rfl
        clear hz0 hz1 s1 h1
        unfold ptrO
        simp only [Option.map]
        go_wp2_with ((with_reducible refine at_inv ?_); refine wpList_invoke0 rfl _ _ rfl hv' rfl _ _ (m1 _) _ (HP1.out hv' wr HD.out hz2) ?_; rintro e w1 ⟨rfl, hf1⟩; refine ⟨_, rfl, ?_⟩; have c2 := blk_cell (hf1.keep HB1.out (by simp)) 1; simp at c2; have q := eq_same B w1)
        go_roundw
        case rel => exact ⟨tl', k', _, rfl, rfl, Sh.kept hf1.kc0 _ _ HT.out, HP2, hf.trans hf1, Or.inr ⟨HL.out, HQ.out⟩⟩
        case measure => exact HM.out
      · have hlt : B' < B := h1 B' rfl
        have hne : ¬ B' = B := by omega
        have HLT : Hid (B' < B) := hlt
        have hz1 := congrArg ByteArray.size h2
        rw [show tx true (.seq hd' tl') = ((⟨#[32]⟩ : ByteArray) ++ tx false hd') ++ tx true tl' from rfl] at hz1 h2
        simp only [ByteArray.size_append] at hz1
        have hz3 : (tx false whole).size ≤ 1000 := HZ.out
        have s1 : ByteArray.size ⟨#[32]⟩ = 1 := rfl
        have hz2 : (tx false hd').size ≤ 1000 := by omega
        have g1 : ¬ 9223372036854775807 < acc.size + 1 := by omega
        have g2 : ¬ 9223372036854775807 < acc.size + 1 + (tx false hd').size := by omega
        have HQ : Hid ((((acc ++ ⟨#[32]⟩) ++ tx false hd') ++ tx true tl') ++ ⟨#[93]⟩ = tx false whole) := by
          show _ = _
          rw [← h2]; simp only [ByteArray.append_assoc]
        clear hz1 hz3 s1 h1 h2 hlt
        unfold ptrO
        simp only [Option.map]
        go_wp2_with ((with_reducible refine at_inv ?_); refine wpList_invoke0 rfl _ _ rfl hv' rfl _ _ (m1 _) _ (HP1.out hv' wr HD.out hz2) ?_; rintro e w1 ⟨rfl, hf1⟩; refine ⟨_, rfl, ?_⟩; have c2 := blk_cell (hf1.keep HB1.out (by simp)) 1; simp at c2; have q := eq_other hne (hf1.keep HB1.out (by simp)) ((hf.trans hf1).keep HB0.out (by simp)))
        go_roundw
        case rel => exact ⟨tl', k', _, rfl, rfl, Sh.kept hf1.kc0 _ _ HT.out, HP2, hf.trans hf1, Or.inr ⟨fun b hb => by have := HL.out b hb; have := HLT.out; omega, HQ.out⟩⟩
        case measure => exact HM.out

theorem show_all (t : Code) : ShowP t ∧ hdsP t := by
  induction t with
  | skip => exact ⟨show_nil, trivial⟩
  | seq a b iha ihb => exact ⟨show_list a b ⟨iha.1, ihb.2⟩, iha.1, ihb.2⟩
  | cond c a b iha ihb => exact ⟨show_pair c a b iha.1 ihb.1, trivial⟩
  | rangeFunc o p a b _ _ =>
    refine ⟨?_, trivial⟩
    intro v w h hz
    have h' : leafS o v := h
    unfold leafS at h'
    split at h'
    · exact show_int _ p a b _ w h hz
    · exact show_str _ p a b _ w h hz
    · exact h'.elim
  | _ => exact ⟨fun v w h => h.elim, trivial⟩
end Go.Proofs.Qxb6500336a
