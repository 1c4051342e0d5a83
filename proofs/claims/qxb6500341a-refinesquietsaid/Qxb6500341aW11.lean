import Derived.Test.Qxb6500341aW10
namespace Go.Proofs.Qxb6500341a
open Go.RowKit
set_option linter.unusedVariables false

structure OpT where
  k : Int
  a : Int
  b : Int
  c : Int
  s : ByteArray
  u : ByteArray

def OpT.val (o : OpT) : Value := .agg #[.int .i64 o.k, .int .i64 o.a, .int .i64 o.b, .int .i64 o.c, .string o.s, .string o.u]

/-! ### What one step does, by the contract's words -/
def aE (t : ByteArray) (o : OpT) : Int := if o.k = 1 then loadE o.s else if o.k = 2 then sealE t o.a else if o.k = 3 then testE t o.a else 0
def aN (t : ByteArray) (o : OpT) : Int := if o.k = 1 then loadN o.s else if o.k = 2 then sealN t o.a else if o.k = 3 then testO t o.a else if o.k = 5 then 1 else 0
def aM (t : ByteArray) (o : OpT) : Int := if o.k = 3 then testR t o.a else 0
def aS (t : ByteArray) (o : OpT) : ByteArray := if o.k = 4 then t else ⟨#[]⟩
def nxt (t : ByteArray) (o : OpT) : ByteArray := if o.k = 1 then loadT t o.s else if o.k = 2 then sealT t o.a else t
def ans (t : ByteArray) (o : OpT) : Value := .agg #[.int .i64 (aE t o), .int .i64 (aN t o), .int .i64 (aM t o), .string (aS t o)]

/-- The script: len steps from cell 'off' of block 'bs' on, six cells a step. -/
def Scr (w : World) (bs off len : Nat) (ops : Nat → OpT) : Prop := ∀ i, i < len → (ops i).s.size ≤ maxLen ∧
  w.cell? ⟨bs, off + i * 6, none⟩ = some (.int .i64 (ops i).k) ∧ w.cell? ⟨bs, off + i * 6 + 1, none⟩ = some (.int .i64 (ops i).a) ∧ w.cell? ⟨bs, off + i * 6 + 2, none⟩ = some (.int .i64 (ops i).b) ∧
  w.cell? ⟨bs, off + i * 6 + 3, none⟩ = some (.int .i64 (ops i).c) ∧ w.cell? ⟨bs, off + i * 6 + 4, none⟩ = some (.string (ops i).s) ∧ w.cell? ⟨bs, off + i * 6 + 5, none⟩ = some (.string (ops i).u)


theorem Scr.cells {w w' : World} {bs off len : Nat} {ops : Nat → OpT} (h : Scr w bs off len ops) (hb : bs < w.heap.size) (hf : Fr [] w w') {k : Nat} (hk : k < len) :
    w'.cell? ⟨bs, off + k * 6, none⟩ = some (.int .i64 (ops k).k) ∧ w'.cell? ⟨bs, off + k * 6 + 1, none⟩ = some (.int .i64 (ops k).a) ∧ w'.cell? ⟨bs, off + k * 6 + 2, none⟩ = some (.int .i64 (ops k).b) ∧
    w'.cell? ⟨bs, off + k * 6 + 3, none⟩ = some (.int .i64 (ops k).c) ∧ w'.cell? ⟨bs, off + k * 6 + 4, none⟩ = some (.string (ops k).s) ∧ w'.cell? ⟨bs, off + k * 6 + 5, none⟩ = some (.string (ops k).u) := by
  obtain ⟨_, d0, d1, d2, d3, d4, d5⟩ := h k hk
  exact ⟨(hf.below.cell (p := ⟨bs, off + k * 6, none⟩) hb).trans d0, (hf.below.cell (p := ⟨bs, off + k * 6 + 1, none⟩) hb).trans d1, (hf.below.cell (p := ⟨bs, off + k * 6 + 2, none⟩) hb).trans d2,
    (hf.below.cell (p := ⟨bs, off + k * 6 + 3, none⟩) hb).trans d3, (hf.below.cell (p := ⟨bs, off + k * 6 + 4, none⟩) hb).trans d4, (hf.below.cell (p := ⟨bs, off + k * 6 + 5, none⟩) hb).trans d5⟩

theorem Law.next {t : ByteArray} (h : Law t) (o : OpT) : Law (nxt t o) := by
  unfold nxt
  split
  · exact h.load _
  · split
    · exact h.seal _
    · exact h

theorem do_any (w : World) (x : Nat) (t : ByteArray) (o : OpT) (hs : o.s.size ≤ maxLen) (hr : Real w x t) :
    Calls Try.prog 18 #[.pointer (some ⟨x, 0, none⟩), o.val] w fun e w' => e = .returned (ans t o) ∧ Real w' x (nxt t o) ∧ Fr [x] w w' := by
  obtain ⟨k, a, b, c, s, u⟩ := o
  unfold OpT.val ans
  by_cases h1 : k = 1
  · subst h1; exact do_load w x t a b c s u hs hr
  by_cases h2 : k = 2
  · subst h2; exact do_seal w x t a b c s u hs hr
  by_cases h3 : k = 3
  · subst h3; exact do_test w x t a b c s u hs hr
  by_cases h4 : k = 4
  · subst h4; exact do_show w x t a b c s u hs hr
  by_cases h5 : k = 5
  · subst h5; exact do_check w x t a b c s u hs hr
  have := do_none w x t k a b c s u hs hr (beq_eq_false_iff_ne.2 h1) (beq_eq_false_iff_ne.2 h2) (beq_eq_false_iff_ne.2 h3) (beq_eq_false_iff_ne.2 h4) (beq_eq_false_iff_ne.2 h5)
  simpa [aE, aN, aM, aS, nxt, h1, h2, h3, h4, h5] using this

theorem dom_any (w : World) (x : Nat) (t : ByteArray) (o : OpT) (hs : o.s.size ≤ maxLen) (hr : Slm w x t) (hL : Law t) :
    Calls Try.prog 19 #[.pointer (some ⟨x, 0, none⟩), o.val] w fun e w' => e = .returned (ans t o) ∧ Slm w' x (nxt t o) ∧ Fr [x] w w' := by
  obtain ⟨k, a, b, c, s, u⟩ := o
  unfold OpT.val ans
  by_cases h1 : k = 1
  · subst h1; exact dom_load w x t a b c s u hs hr hL
  by_cases h2 : k = 2
  · subst h2; exact dom_seal w x t a b c s u hs hr hL
  by_cases h3 : k = 3
  · subst h3; exact dom_test w x t a b c s u hs hr hL
  by_cases h4 : k = 4
  · subst h4; exact dom_show w x t a b c s u hs hr hL
  by_cases h5 : k = 5
  · subst h5; exact dom_check w x t a b c s u hs hr hL
  have := dom_none w x t k a b c s u hs hr hL (beq_eq_false_iff_ne.2 h1) (beq_eq_false_iff_ne.2 h2) (beq_eq_false_iff_ne.2 h3) (beq_eq_false_iff_ne.2 h4) (beq_eq_false_iff_ne.2 h5)
  simpa [aE, aN, aM, aS, nxt, h1, h2, h3, h4, h5] using this

set_option maxHeartbeats 800000 in
theorem seen_any (w : World) (x m : Nat) (t : ByteArray) (hr : Real w x t) (hm : Slm w m t) :
    Calls Try.prog 17 #[.pointer (some ⟨x, 0, none⟩), .pointer (some ⟨m, 0, none⟩)] w fun e w' => e = .returned (.bool true) ∧ Fr [] w w' := by
  have HR : Hid (Real w x t) := hr
  have HM : Hid (Slm w m t) := hm
  obtain ⟨l, m1, m2, hsl, hin⟩ := hr
  have HS : Hid (Slp w x t l (-1) m1 m2) := hsl
  clear hsl hin hm
  go_enter Try.func17, Try.ntmps17
  go_wp2_with (first
    | (go_at_call 25; refine (show_any _ x t l (-1) m1 m2 HS.out).mono ?_; rintro e w' ⟨rfl, rfl⟩)
    | (go_at_call 26; refine (showm_any _ m t HM.out).mono ?_; rintro e w' ⟨rfl, rfl⟩)
    | (go_at_call 27; refine (check_any _ x t HR.out).mono ?_; rintro e w1 ⟨rfl, hf⟩))
  go_ret
  exact ⟨rfl, hf⟩

set_option maxHeartbeats 1600000 in
theorem walk_quiet (w : World) (bs off len cap : Nat) (ops : Nat → OpT) (hlen : len ≤ maxLen) (hb : bs < w.heap.size) (hsc : Scr w bs off len ops) :
    Calls Try.prog 12 #[.slice (some ⟨bs, off, none⟩) len cap, .bool true] w fun e w' => (∃ n, e = .returned (.tuple #[.int .i64 (-1), .int .i64 n])) ∧ Fr [] w w' := by
  have hl63 : len ≤ 9223372036854775807 := by unfold maxLen at hlen; omega
  have HS : Hid (Scr w bs off len ops) := hsc
  clear hsc hlen
  go_enter Try.func12, Try.ntmps12
  go_wp2_with (first
    | (go_at_call 13; refine (new_any _).mono ?_; rintro e w1 ⟨rfl, hf1, hx1⟩)
    | (go_at_call 16; refine (newm_any _).mono ?_; rintro e w2 ⟨rfl, hf2, hm2⟩))
  have hX : w.heap.size < w1.heap.size := blk_lt hx1
  have hM : w1.heap.size < w2.heap.size := blk_lt hm2
  have hr0 : Real w2 w.heap.size ⟨#[]⟩ := ⟨0, -1, -1, hf2.keep hx1 (by simp), ⟨by decide, by intro c hc; simp at hc, rfl, Or.inl rfl, Or.inl rfl⟩⟩
  have hf0 : Fr [] w w2 := hf1.trans hf2
  clear hf1 hf2 hx1
  have hrs := hr0
  have hms := hm2
  have hf0s := hf0
  clear hr0 hm2 hf0
  go_loopw [8] (fun i wr => ∃ (k : Nat) (t : ByteArray), i = .int .i64 k ∧ k ≤ len ∧ Real wr w.heap.size t ∧ Slm wr w1.heap.size t ∧ Fr [] w wr) (fun i _ => len - (intOf i).toNat)
  case atStart => exact ⟨0, _, rfl, by omega, hrs, hms, hf0s⟩
  case round =>
    clear hrs hms hf0s
    obtain ⟨k, t, rfl, hk, hr, hm, hfr⟩ := hrel
    have hL := hr.law
    by_cases hlt : k < len
    · by_cases hq : (k : Int) < 4398046511104
      · have hsz := (HS.out k hlt).1
        obtain ⟨e0, e1, e2, e3, e4, e5⟩ := HS.out.cells hb hfr hlt
        go_wp2_with fail
        refine (do_any wr _ t (ops k) hsz hr).mono ?_
        rintro e w3 ⟨rfl, hr3, hf3⟩
        have hm3 : Slm w3 w1.heap.size t := hm.keep hf3 (by simp; omega)
        have hfr3 : Fr [] w w3 := hfr.narrow hf3 (by simp)
        have hs3 : w1.heap.size < w3.heap.size := blk_lt hm3
        have hb3 : bs < w3.heap.size := by omega
        clear e0 e1 e2 e3 e4 e5 hr hm hf3 hfr
        obtain ⟨e0, e1, e2, e3, e4, e5⟩ := HS.out.cells hb hfr3 hlt
        unfold ans
        go_wp2_with fail
        generalize hW : w3.alloc _ = W
        have hxa : W.heap[w3.heap.size]? = some (.cells #[.int .i64 (aE t (ops k)), .int .i64 (aN t (ops k)), .int .i64 (aM t (ops k)), .string (aS t (ops k))] 42) := by rw [← hW]; exact blk_new _ _
        have hrW : Real W w.heap.size (nxt t (ops k)) := by rw [← hW]; exact hr3.keep ((Fr.refl [] _).alloc _) (by simp)
        have hmW : Slm W w1.heap.size t := by rw [← hW]; exact blk_alloc hm3 _
        have hfW : Fr [] w W := by rw [← hW]; exact hfr3.alloc _
        clear hW e0 e1 e2 e3 e4 e5 hr3 hm3 hfr3
        refine (dom_any W _ t (ops k) hsz hmW hL).mono ?_
        rintro e w5 ⟨rfl, hm5, hf5⟩
        have hxa5 := hf5.keep hxa (by simp; omega)
        have hr5 := hrW.keep hf5 (by simp; omega)
        have hfr5 : Fr [] w w5 := hfW.narrow hf5 (by simp; omega)
        have a0 := blk_cell hxa5 0
        have a1 := blk_cell hxa5 1
        have a2 := blk_cell hxa5 2
        have a3 := blk_cell hxa5 3
        have hs5 : w3.heap.size < w5.heap.size := blk_lt hxa5
        clear hxa hxa5 hrW hmW hfW hf5
        unfold ans
        go_wp2
        go_roundw
        case rel => exact ⟨k + 1, _, by go_num, by omega, hr5.keep ((Fr.refl [] _).alloc _) (by simp), blk_alloc hm5 _, hfr5.alloc _⟩
        case measure => simp [intOf]; omega
      · go_wp2
        go_ret2
        exact ⟨⟨_, rfl⟩, hfr⟩
    · go_wp2
      go_ret2
      exact ⟨⟨_, rfl⟩, hfr⟩

set_option maxHeartbeats 1600000 in
theorem walk_loud (w : World) (bs off len cap : Nat) (ops : Nat → OpT) (hlen : len ≤ maxLen) (hb : bs < w.heap.size) (hsc : Scr w bs off len ops) :
    Calls Try.prog 12 #[.slice (some ⟨bs, off, none⟩) len cap, .bool false] w fun e w' => (∃ n, e = .returned (.tuple #[.int .i64 (-1), .int .i64 n])) ∧ Fr [] w w' := by
  have hl63 : len ≤ 9223372036854775807 := by unfold maxLen at hlen; omega
  have HS : Hid (Scr w bs off len ops) := hsc
  clear hsc hlen
  go_enter Try.func12, Try.ntmps12
  go_wp2_with (first
    | (go_at_call 13; refine (new_any _).mono ?_; rintro e w1 ⟨rfl, hf1, hx1⟩)
    | (go_at_call 16; refine (newm_any _).mono ?_; rintro e w2 ⟨rfl, hf2, hm2⟩))
  have hX : w.heap.size < w1.heap.size := blk_lt hx1
  have hM : w1.heap.size < w2.heap.size := blk_lt hm2
  have hr0 : Real w2 w.heap.size ⟨#[]⟩ := ⟨0, -1, -1, hf2.keep hx1 (by simp), ⟨by decide, by intro c hc; simp at hc, rfl, Or.inl rfl, Or.inl rfl⟩⟩
  have hf0 : Fr [] w w2 := hf1.trans hf2
  clear hf1 hf2 hx1
  refine (seen_any w2 w.heap.size w1.heap.size _ hr0 hm2).mono ?_
  rintro e ws ⟨rfl, hfs⟩
  have hrs := hr0.keep hfs (by simp)
  have hms := hm2.keep hfs (by simp)
  have hf0s := hf0.trans hfs
  clear hr0 hm2 hf0 hfs
  go_wp2
  go_loopw [8] (fun i wr => ∃ (k : Nat) (t : ByteArray), i = .int .i64 k ∧ k ≤ len ∧ Real wr w.heap.size t ∧ Slm wr w1.heap.size t ∧ Fr [] w wr) (fun i _ => len - (intOf i).toNat)
  case atStart => exact ⟨0, _, rfl, by omega, hrs, hms, hf0s⟩
  case round =>
    clear hrs hms hf0s
    obtain ⟨k, t, rfl, hk, hr, hm, hfr⟩ := hrel
    have hL := hr.law
    by_cases hlt : k < len
    · by_cases hq : (k : Int) < 4398046511104
      · have hsz := (HS.out k hlt).1
        obtain ⟨e0, e1, e2, e3, e4, e5⟩ := HS.out.cells hb hfr hlt
        go_wp2_with fail
        refine (do_any wr _ t (ops k) hsz hr).mono ?_
        rintro e w3 ⟨rfl, hr3, hf3⟩
        have hm3 : Slm w3 w1.heap.size t := hm.keep hf3 (by simp; omega)
        have hfr3 : Fr [] w w3 := hfr.narrow hf3 (by simp)
        have hs3 : w1.heap.size < w3.heap.size := blk_lt hm3
        have hb3 : bs < w3.heap.size := by omega
        clear e0 e1 e2 e3 e4 e5 hr hm hf3 hfr
        obtain ⟨e0, e1, e2, e3, e4, e5⟩ := HS.out.cells hb hfr3 hlt
        unfold ans
        go_wp2_with fail
        generalize hW : w3.alloc _ = W
        have hxa : W.heap[w3.heap.size]? = some (.cells #[.int .i64 (aE t (ops k)), .int .i64 (aN t (ops k)), .int .i64 (aM t (ops k)), .string (aS t (ops k))] 42) := by rw [← hW]; exact blk_new _ _
        have hrW : Real W w.heap.size (nxt t (ops k)) := by rw [← hW]; exact hr3.keep ((Fr.refl [] _).alloc _) (by simp)
        have hmW : Slm W w1.heap.size t := by rw [← hW]; exact blk_alloc hm3 _
        have hfW : Fr [] w W := by rw [← hW]; exact hfr3.alloc _
        clear hW e0 e1 e2 e3 e4 e5 hr3 hm3 hfr3
        refine (dom_any W _ t (ops k) hsz hmW hL).mono ?_
        rintro e w5 ⟨rfl, hm5, hf5⟩
        have hxa5 := hf5.keep hxa (by simp; omega)
        have hr5 := hrW.keep hf5 (by simp; omega)
        have hfr5 : Fr [] w w5 := hfW.narrow hf5 (by simp; omega)
        have a0 := blk_cell hxa5 0
        have a1 := blk_cell hxa5 1
        have a2 := blk_cell hxa5 2
        have a3 := blk_cell hxa5 3
        have hs5 : w3.heap.size < w5.heap.size := blk_lt hxa5
        clear hxa hxa5 hrW hmW hfW hf5
        unfold ans
        go_wp2_with fail
        refine (seen_any _ w.heap.size w1.heap.size _ (hr5.keep ((Fr.refl [] _).alloc _) (by simp)) (blk_alloc hm5 _)).mono ?_
        rintro e w6 ⟨rfl, hf6⟩
        have hf7 : Fr [] w5 w6 := ((Fr.refl [] _).alloc _).trans hf6
        have hr7 := hr5.keep hf7 (by simp)
        have hm7 := hm5.keep hf7 (by simp)
        have hfr7 := hfr5.trans hf7
        clear hr5 hm5 hfr5 hf6 hf7 a0 a1 a2 a3
        go_wp2
        go_roundw
        case rel => exact ⟨k + 1, _, by go_num, by omega, hr7, hm7, hfr7⟩
        case measure => simp [intOf]; omega
      · go_wp2
        go_ret2
        exact ⟨⟨_, rfl⟩, hfr⟩
    · go_wp2
      go_ret2
      exact ⟨⟨_, rfl⟩, hfr⟩

set_option maxHeartbeats 1600000 in
theorem walk_nil_quiet (a0 : Option Addr) (cap : Nat) (w : World) :
    Calls Try.prog 12 #[.slice a0 0 cap, .bool true] w fun e w' => (∃ n, e = .returned (.tuple #[.int .i64 (-1), .int .i64 n])) ∧ Fr [] w w' := by
  go_enter Try.func12, Try.ntmps12
  go_wp2_with (first
    | (go_at_call 13; refine (new_any _).mono ?_; rintro e w1 ⟨rfl, hf1, hx1⟩)
    | (go_at_call 16; refine (newm_any _).mono ?_; rintro e w2 ⟨rfl, hf2, hm2⟩))
  have hr0 : Real w2 w.heap.size ⟨#[]⟩ := ⟨0, -1, -1, hf2.keep hx1 (by simp), ⟨by decide, by intro c hc; simp at hc, rfl, Or.inl rfl, Or.inl rfl⟩⟩
  have hf0 : Fr [] w w2 := hf1.trans hf2
  clear hf1 hf2 hx1
  have hf0s := hf0
  clear hr0 hm2 hf0
  go_loopw [8] (fun i wr => i = .int .i64 0 ∧ Fr [] w wr) (fun _ _ => 0)
  case atStart => exact ⟨rfl, hf0s⟩
  case round =>
    obtain ⟨rfl, hfr⟩ := hrel
    go_wp2
    go_ret2
    exact ⟨⟨_, rfl⟩, hfr⟩

set_option maxHeartbeats 1600000 in
theorem walk_nil_loud (a0 : Option Addr) (cap : Nat) (w : World) :
    Calls Try.prog 12 #[.slice a0 0 cap, .bool false] w fun e w' => (∃ n, e = .returned (.tuple #[.int .i64 (-1), .int .i64 n])) ∧ Fr [] w w' := by
  go_enter Try.func12, Try.ntmps12
  go_wp2_with (first
    | (go_at_call 13; refine (new_any _).mono ?_; rintro e w1 ⟨rfl, hf1, hx1⟩)
    | (go_at_call 16; refine (newm_any _).mono ?_; rintro e w2 ⟨rfl, hf2, hm2⟩))
  have hr0 : Real w2 w.heap.size ⟨#[]⟩ := ⟨0, -1, -1, hf2.keep hx1 (by simp), ⟨by decide, by intro c hc; simp at hc, rfl, Or.inl rfl, Or.inl rfl⟩⟩
  have hf0 : Fr [] w w2 := hf1.trans hf2
  clear hf1 hf2 hx1
  refine (seen_any w2 w.heap.size w1.heap.size _ hr0 hm2).mono ?_
  rintro e ws ⟨rfl, hfs⟩
  have hf0s := hf0.trans hfs
  clear hr0 hm2 hf0 hfs
  go_wp2
  go_loopw [8] (fun i wr => i = .int .i64 0 ∧ Fr [] w wr) (fun _ _ => 0)
  case atStart => exact ⟨rfl, hf0s⟩
  case round =>
    obtain ⟨rfl, hfr⟩ := hrel
    go_wp2
    go_ret2
    exact ⟨⟨_, rfl⟩, hfr⟩

/-- A script as the law is handed it. -/
def ScrV (w : World) (v : Value) : Prop := (∃ a0 cap, v = .slice a0 0 cap) ∨ ∃ (bs off len cap : Nat) (ops : Nat → OpT), v = .slice (some ⟨bs, off, none⟩) len cap ∧ len ≤ maxLen ∧ bs < w.heap.size ∧ Scr w bs off len ops

theorem walkq (w : World) (v : Value) (h : ScrV w v) : Calls Try.prog 12 #[v, .bool true] w fun e w' => (∃ n, e = .returned (.tuple #[.int .i64 (-1), .int .i64 n])) ∧ Fr [] w w' := by
  rcases h with ⟨a0, cap, rfl⟩ | ⟨bs, off, len, cap, ops, rfl, h1, h2, h3⟩
  · exact walk_nil_quiet a0 cap w
  · exact walk_quiet w bs off len cap ops h1 h2 h3

theorem walkl (w : World) (v : Value) (h : ScrV w v) : Calls Try.prog 12 #[v, .bool false] w fun e w' => (∃ n, e = .returned (.tuple #[.int .i64 (-1), .int .i64 n])) ∧ Fr [] w w' := by
  rcases h with ⟨a0, cap, rfl⟩ | ⟨bs, off, len, cap, ops, rfl, h1, h2, h3⟩
  · exact walk_nil_loud a0 cap w
  · exact walk_loud w bs off len cap ops h1 h2 h3

set_option maxHeartbeats 400000 in
theorem refines_upto (w : World) (v : Value) (h : ScrV w v) : Calls Try.prog 9 #[v] w fun e w' => e = .returned (.int .i64 (-1)) ∧ Fr [] w w' := by
  have H : Hid (ScrV w v) := h
  clear h
  go_enter Try.func9, Try.ntmps9
  go_wp2_with (go_at_call 12; refine (walkl _ _ H.out).mono ?_; rintro e w1 ⟨⟨n, rfl⟩, hf⟩)
  go_ret
  exact ⟨rfl, hf⟩

set_option maxHeartbeats 400000 in
theorem refinesq_upto (w : World) (v : Value) (h : ScrV w v) : Calls Try.prog 10 #[v] w fun e w' => e = .returned (.int .i64 (-1)) ∧ Fr [] w w' := by
  have H : Hid (ScrV w v) := h
  clear h
  go_enter Try.func10, Try.ntmps10
  go_wp2_with (go_at_call 12; refine (walkq _ _ H.out).mono ?_; rintro e w1 ⟨⟨n, rfl⟩, hf⟩)
  go_ret
  exact ⟨rfl, hf⟩

set_option maxHeartbeats 400000 in
theorem refines_walk (w : World) (v : Value) (h : ScrV w v) : Calls Try.prog 5 #[v] w fun e w' => e = .returned (.bool true) ∧ Fr [] w w' := by
  have H : Hid (ScrV w v) := h
  clear h
  go_enter Try.func5, Try.ntmps5
  go_wp2_with (go_at_call 9; refine (refines_upto _ _ H.out).mono ?_; rintro e w1 ⟨rfl, hf⟩)
  go_ret
  exact ⟨rfl, hf⟩

set_option maxHeartbeats 400000 in
theorem refinesq_walk (w : World) (v : Value) (h : ScrV w v) : Calls Try.prog 6 #[v] w fun e w' => e = .returned (.bool true) ∧ Fr [] w w' := by
  have H : Hid (ScrV w v) := h
  clear h
  go_enter Try.func6, Try.ntmps6
  go_wp2_with (go_at_call 10; refine (refinesq_upto _ _ H.out).mono ?_; rintro e w1 ⟨rfl, hf⟩)
  go_ret
  exact ⟨rfl, hf⟩

end Go.Proofs.Qxb6500341a
