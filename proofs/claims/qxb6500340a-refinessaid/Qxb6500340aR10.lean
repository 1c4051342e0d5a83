import Derived.Test.Qxb6500340aR9
import Derived.Test.Qxb6500340aSc
namespace Go.Proofs.Qxb6500340a
open Go.RowKit
set_option linter.unusedVariables false
set_option linter.unusedSimpArgs false

theorem eq_vecR (d : Nat) (W : World) (x y u v : Int) :
    (Op.equalIn (d + 2) 27 (.agg #[.int .i64 x, .int .i64 y]) (.agg #[.int .i64 u, .int .i64 v])).run Try.prog W = .ok (x == u && y == v) W := by
  obtain ⟨i, hi⟩ := info_at (t := 3) (by kernel_rfl)
  have hc : Try.prog.cellsOf 3 = 1 := by kernel_rfl
  rw [run_equalIn_array W (d + 1) _ _ Try.underlying27 hi, hc]
  simp only [List.range, List.range.loop, Op.eqItems, Sem.run_bind]
  simp [go_sem]
  by_cases h1 : x = u <;> by_cases h2 : y = v <;> simp [h1, h2]

theorem eq_ansRd (d : Nat) (W : World) (e a b : Int) (s : ByteArray) :
    (Op.equalIn (d + 3) 57 (.agg #[.int .i64 e, .int .i64 a, .int .i64 b, .string s]) (.agg #[.int .i64 e, .int .i64 a, .int .i64 b, .string s])).run Try.prog W = .ok true W := by
  have hv := fun W => eq_vecR d W a b a b
  simp only [BEq.rfl, Bool.and_self] at hv
  rw [Op.equalIn]
  simp only [Sem.run_bind, run_underlying Try.underlying57, Result.andThen_ok]
  have hst : Try.prog.stoodInHeld 57 = false := by kernel_rfl
  simp [go_sem, hst, hv]
theorem eq_ansR (W : World) (e a b : Int) (s : ByteArray) :
    (Op.equalIn 10000 57 (.agg #[.int .i64 e, .int .i64 a, .int .i64 b, .string s]) (.agg #[.int .i64 e, .int .i64 a, .int .i64 b, .string s])).run Try.prog W = .ok true W := eq_ansRd 9997 W e a b s


theorem init_invR : Inv initS := by
  refine ⟨by decide, by decide, by decide, by decide, fun p hp => by simp [initS, zeroV], fun p hp _ => by simp [initS, zeroV], ?_⟩
  exact comp_all (fun p hp => rfl)

def aE (s : St) (o : OpT) : Int := if o.k = 1 then gateE s o.a false ⟨o.b, o.c⟩ else if o.k = 2 then reqE s o.a ⟨o.b, o.c⟩ else if o.k = 3 then relE s o.a ⟨o.b, o.c⟩ else if o.k = 4 then gateE s o.a true zeroV else 0
def aA (s : St) (o : OpT) : Int := if o.k = 6 then s.av.a else 0
def aB (s : St) (o : OpT) : Int := if o.k = 6 then s.av.b else 0
def aS (s : St) (o : OpT) : ByteArray := if o.k = 2 then reqT s o.a ⟨o.b, o.c⟩ else if o.k = 5 then ordT (run s 4).ord else if o.k = 7 then shw s 4 else ⟨#[]⟩
def nxt (s : St) (o : OpT) : St := if o.k = 1 then declR s o.a ⟨o.b, o.c⟩ else if o.k = 2 then reqR s o.a ⟨o.b, o.c⟩ else if o.k = 3 then relR s o.a ⟨o.b, o.c⟩ else if o.k = 4 then finR s o.a else s
def ansV (s : St) (o : OpT) : Value := .agg #[.int .i64 (aE s o), .int .i64 (aA s o), .int .i64 (aB s o), .string (aS s o)]
theorem Inv.nxt {s : St} (h : Inv s) (o : OpT) : Inv (nxt s o) := by
  unfold Go.Proofs.Qxb6500340a.nxt
  split
  · exact h.declR _ _
  · split
    · exact h.reqR _ _
    · split
      · exact h.relR _ _
      · split
        · exact h.finR _
        · exact h

theorem do_any (w : World) (x : Nat) (s : St) (o : OpT) (hr : BkI w x s) (hi : Inv s) :
    Calls Try.prog 26 #[.pointer (some ⟨x, 0, none⟩), o.val] w fun e w' => e = .returned (ansV s o) ∧ BkI w' x (nxt s o) ∧ Fr [x] w w' := by
  obtain ⟨k, a, b, c, t, u⟩ := o
  unfold OpT.val ansV
  by_cases h1 : k = 1
  · subst h1; exact do_declare w x s a b c t u hr hi
  by_cases h2 : k = 2
  · subst h2; exact do_request w x s a b c t u hr hi
  by_cases h3 : k = 3
  · subst h3; exact do_release w x s a b c t u hr hi
  by_cases h4 : k = 4
  · subst h4; exact do_finish w x s a b c t u hr hi
  by_cases h5 : k = 5
  · subst h5; exact do_order w x s a b c t u hr hi
  by_cases h6 : k = 6
  · subst h6; exact do_avail w x s a b c t u hr hi
  by_cases h7 : k = 7
  · subst h7; exact do_show w x s a b c t u hr hi
  by_cases h8 : k = 8
  · subst h8; exact do_check w x s a b c t u hr hi
  have := do_none w x s k a b c t u hr (beq_eq_false_iff_ne.2 h1) (beq_eq_false_iff_ne.2 h2) (beq_eq_false_iff_ne.2 h3) (beq_eq_false_iff_ne.2 h4) (beq_eq_false_iff_ne.2 h5) (beq_eq_false_iff_ne.2 h6) (beq_eq_false_iff_ne.2 h7) (beq_eq_false_iff_ne.2 h8)
  simpa [aE, aA, aB, aS, nxt, h1, h2, h3, h4, h5, h6, h7, h8] using this

set_option maxHeartbeats 3200000 in
set_option maxRecDepth 100000 in
theorem dom_none (w : World) (x : Nat) (g : Gs) (k a b c : Int) (t u : ByteArray) (hr : Mh w x g) (h1 : (k == 1) = false) (h2 : (k == 2) = false) (h3 : (k == 3) = false) (h4 : (k == 4) = false) (h5 : (k == 5) = false) (h6 : (k == 6) = false) (h7 : (k == 7) = false) (h8 : (k == 8) = false) :
    Calls Try.prog 33 #[.pointer (some ⟨x, 0, none⟩), .agg #[.int .i64 k, .int .i64 a, .int .i64 b, .int .i64 c, .string t, .string u]] w fun e w' => e = .returned (.agg #[.int .i64 0, .int .i64 0, .int .i64 0, .string ⟨#[]⟩]) ∧ Mh w' x g ∧ Fr [x] w w' := by
  have hxl := blk_lt hr
  have HR : Hid (Mh w x g) := hr
  clear hr
  go_enter Try.func33, Try.ntmps33
  go_wp2
  obtain ⟨-, hA, hV, hB, hF⟩ := four_blocks w (.cells #[.int .i64 k, .int .i64 a, .int .i64 b, .int .i64 c, .string t, .string u] 41) ans0 (.cells #[.int .i64 b, .int .i64 c] 27) ans0
  refine bodyPost_ret (v := .agg #[.int .i64 0, .int .i64 0, .int .i64 0, .string ⟨#[]⟩]) (by simp [results, Try.results33, go_sem]) rfl ⟨rfl, ?_, ?_⟩
  · exact HR.out.keep hF (by simp)
  · exact hF.widen

theorem dom_any (w : World) (x : Nat) (s : St) (o : OpT) (hr : Mh w x (gof s)) (hi : Inv s) :
    Calls Try.prog 33 #[.pointer (some ⟨x, 0, none⟩), o.val] w fun e w' => e = .returned (ansV s o) ∧ Mh w' x (gof (nxt s o)) ∧ Fr [x] w w' := by
  obtain ⟨k, a, b, c, t, u⟩ := o
  unfold OpT.val ansV
  by_cases h1 : k = 1
  · subst h1; exact dom_declare w x s a b c t u hr hi
  by_cases h2 : k = 2
  · subst h2; exact dom_request w x s a b c t u hr hi
  by_cases h3 : k = 3
  · subst h3; exact dom_release w x s a b c t u hr hi
  by_cases h4 : k = 4
  · subst h4; exact dom_finish w x s a b c t u hr hi
  by_cases h5 : k = 5
  · subst h5; exact dom_order w x s a b c t u hr hi
  by_cases h6 : k = 6
  · subst h6; exact dom_avail w x s a b c t u hr hi
  by_cases h7 : k = 7
  · subst h7; exact dom_show w x s a b c t u hr hi
  by_cases h8 : k = 8
  · subst h8; exact dom_check w x s a b c t u hr hi
  have := dom_none w x (gof s) k a b c t u hr (beq_eq_false_iff_ne.2 h1) (beq_eq_false_iff_ne.2 h2) (beq_eq_false_iff_ne.2 h3) (beq_eq_false_iff_ne.2 h4) (beq_eq_false_iff_ne.2 h5) (beq_eq_false_iff_ne.2 h6) (beq_eq_false_iff_ne.2 h7) (beq_eq_false_iff_ne.2 h8)
  simpa [aE, aA, aB, aS, nxt, h1, h2, h3, h4, h5, h6, h7, h8] using this

set_option maxHeartbeats 1600000 in
theorem seen_quiet (w : World) (x m : Nat) : Calls Try.prog 32 #[.pointer (some ⟨x, 0, none⟩), .pointer (some ⟨m, 0, none⟩), .bool true] w fun e w' => e = .returned (.bool true) ∧ Fr [] w w' := by
  go_enter Try.func32, Try.ntmps32
  go_wp2
  go_ret
  exact ⟨rfl, Fr.refl _ _⟩
set_option maxHeartbeats 1600000 in
theorem seen_loud (w : World) (x m : Nat) (s : St) (hr : BkI w x s) (hm : Mh w m (gof s)) (hi : Inv s) :
    Calls Try.prog 32 #[.pointer (some ⟨x, 0, none⟩), .pointer (some ⟨m, 0, none⟩), .bool false] w fun e w' => e = .returned (.bool true) ∧ Fr [] w w' := by
  have HR : Hid (BkI w x s) := hr
  have HM : Hid (Mh w m (gof s)) := hm
  have HI : Hid (Inv s) := hi
  clear hr hm hi
  go_enter Try.func32, Try.ntmps32
  go_wp2_with fail
  go_at_call 24
  refine (show_any _ x s _ HR.out HI.out).mono ?_
  rintro e w1 ⟨rfl, hf1⟩
  go_wp2_with fail
  go_at_call 40
  refine (mshow_any _ m s (hf1.keep HM.out (by simp)) HI.out).mono ?_
  rintro e w2 ⟨rfl, hf2⟩
  go_wp2_with fail
  go_at_call 39
  refine (check_any _ x s (hf2.keep (hf1.keep HR.out (by simp)) (by simp)) HI.out).mono ?_
  rintro e w3 ⟨rfl, hf3⟩
  generalize shw s 4 = T
  go_wp2
  go_ret
  exact ⟨by simp, (hf1.trans hf2).trans hf3⟩
end Go.Proofs.Qxb6500340a
