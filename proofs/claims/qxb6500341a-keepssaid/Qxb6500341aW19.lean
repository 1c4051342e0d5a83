import Derived.Test.Qxb6500341aW18
namespace Go.Proofs.Qxb6500341a
open Go.RowKit
set_option linter.unusedVariables false

theorem gi0 : GI ⟨#[]⟩ 0 := ⟨Or.inl rfl⟩

set_option maxRecDepth 100000 in
set_option maxHeartbeats 1600000 in
theorem keeps_quiet (w : World) (bs off len cap : Nat) (ops : Nat → OpT) (hlen : len ≤ maxLen) (hb : bs < w.heap.size) (hsc : Scr w bs off len ops) :
    Calls Try.prog 11 #[.slice (some ⟨bs, off, none⟩) len cap, .bool true] w fun e w' => e = .returned (.int .i64 (-1)) ∧ Fr [] w w' := by
  have hl63 : len ≤ 9223372036854775807 := by unfold maxLen at hlen; omega
  have HS : Hid (Scr w bs off len ops) := hsc
  clear hsc hlen
  go_enter Try.func11, Try.ntmps11
  go_wp2_with (go_at_call 13; refine (new_any _).mono ?_; rintro e w1 ⟨rfl, hf1, hx1⟩)
  have hX : w.heap.size < w1.heap.size := blk_lt hx1
  generalize hW2 : w1.alloc _ = w2
  have hg2 : Gho w2 w1.heap.size ⟨#[]⟩ ⟨#[]⟩ 0 := by rw [← hW2]; exact blk_new _ _
  have hr0 : Real w2 w.heap.size ⟨#[]⟩ := ⟨0, -1, -1, by rw [← hW2]; exact blk_alloc hx1 _, ⟨by decide, by intro c hc; simp at hc, rfl, Or.inl rfl, Or.inl rfl⟩⟩
  have hf0 : Fr [] w w2 := by rw [← hW2]; exact hf1.alloc _
  have hgi0 : GhoI w2 w1.heap.size ⟨#[]⟩ := ⟨_, _, hg2, gi0⟩
  clear hW2 hf1 hx1 hg2
  have hrs := hr0
  have hgs := hgi0
  have hf0s := hf0
  clear hr0 hgi0 hf0
  go_loopw [7] (fun i wr => ∃ (k : Nat) (t : ByteArray), i = .int .i64 k ∧ k ≤ len ∧ Real wr w.heap.size t ∧ GhoI wr w1.heap.size t ∧ Fr [] w wr) (fun i _ => len - (intOf i).toNat)
  case atStart => exact ⟨0, _, rfl, by omega, hrs, hgs, hf0s⟩
  case round =>
    clear hrs hgs hf0s
    obtain ⟨k, t, rfl, hk, hr, hg, hfr⟩ := hrel
    by_cases hlt : k < len
    · by_cases hq : (k : Int) < 4398046511104
      · have hsz := (HS.out k hlt).1
        obtain ⟨e0, e1, e2, e3, e4, e5⟩ := HS.out.cells hb hfr hlt
        go_wp2_with fail
        refine (kept_any wr _ _ t (ops k) hsz hr hg (by omega)).mono ?_
        rintro e w3 ⟨rfl, hr3, hg3, hf3⟩
        have hfr3 : Fr [] w w3 := hfr.narrow hf3 (by simp; omega)
        clear e0 e1 e2 e3 e4 e5 hr hg hf3 hfr
        go_wp2
        go_roundw
        case rel => exact ⟨k + 1, _, by go_num, by omega, hr3, hg3, hfr3⟩
        case measure => simp [intOf]; omega
      · go_wp2
        go_ret
        exact ⟨rfl, hfr⟩
    · go_wp2
      go_ret
      exact ⟨rfl, hfr⟩

set_option maxRecDepth 100000 in
set_option maxHeartbeats 1600000 in
theorem keeps_loud (w : World) (bs off len cap : Nat) (ops : Nat → OpT) (hlen : len ≤ maxLen) (hb : bs < w.heap.size) (hsc : Scr w bs off len ops) :
    Calls Try.prog 11 #[.slice (some ⟨bs, off, none⟩) len cap, .bool false] w fun e w' => e = .returned (.int .i64 (-1)) ∧ Fr [] w w' := by
  have hl63 : len ≤ 9223372036854775807 := by unfold maxLen at hlen; omega
  have HS : Hid (Scr w bs off len ops) := hsc
  clear hsc hlen
  go_enter Try.func11, Try.ntmps11
  go_wp2_with (go_at_call 13; refine (new_any _).mono ?_; rintro e w1 ⟨rfl, hf1, hx1⟩)
  have hX : w.heap.size < w1.heap.size := blk_lt hx1
  generalize hW2 : w1.alloc _ = w2
  have hg2 : Gho w2 w1.heap.size ⟨#[]⟩ ⟨#[]⟩ 0 := by rw [← hW2]; exact blk_new _ _
  have hr0 : Real w2 w.heap.size ⟨#[]⟩ := ⟨0, -1, -1, by rw [← hW2]; exact blk_alloc hx1 _, ⟨by decide, by intro c hc; simp at hc, rfl, Or.inl rfl, Or.inl rfl⟩⟩
  have hf0 : Fr [] w w2 := by rw [← hW2]; exact hf1.alloc _
  have hgi0 : GhoI w2 w1.heap.size ⟨#[]⟩ := ⟨_, _, hg2, gi0⟩
  clear hW2 hf1 hx1 hg2
  refine (looks_any w2 w.heap.size w1.heap.size _ hr0 hgi0 (by omega)).mono ?_
  rintro e ws ⟨rfl, hrs, hgs, hfs⟩
  have hf0s : Fr [] w ws := hf0.narrow hfs (by simp; omega)
  clear hr0 hgi0 hf0 hfs
  go_wp2
  go_loopw [7] (fun i wr => ∃ (k : Nat) (t : ByteArray), i = .int .i64 k ∧ k ≤ len ∧ Real wr w.heap.size t ∧ GhoI wr w1.heap.size t ∧ Fr [] w wr) (fun i _ => len - (intOf i).toNat)
  case atStart => exact ⟨0, _, rfl, by omega, hrs, hgs, hf0s⟩
  case round =>
    clear hrs hgs hf0s
    obtain ⟨k, t, rfl, hk, hr, hg, hfr⟩ := hrel
    by_cases hlt : k < len
    · by_cases hq : (k : Int) < 4398046511104
      · have hsz := (HS.out k hlt).1
        obtain ⟨e0, e1, e2, e3, e4, e5⟩ := HS.out.cells hb hfr hlt
        go_wp2_with fail
        refine (kept_any wr _ _ t (ops k) hsz hr hg (by omega)).mono ?_
        rintro e w3 ⟨rfl, hr3, hg3, hf3⟩
        have hfr3 : Fr [] w w3 := hfr.narrow hf3 (by simp; omega)
        clear e0 e1 e2 e3 e4 e5 hr hg hf3 hfr
        go_wp2_with fail
        refine (looks_any w3 w.heap.size w1.heap.size _ hr3 hg3 (by omega)).mono ?_
        rintro e w4 ⟨rfl, hr4, hg4, hf4⟩
        have hfr4 : Fr [] w w4 := hfr3.narrow hf4 (by simp; omega)
        clear hr3 hg3 hf4 hfr3
        go_wp2
        go_roundw
        case rel => exact ⟨k + 1, _, by go_num, by omega, hr4, hg4, hfr4⟩
        case measure => simp [intOf]; omega
      · go_wp2
        go_ret
        exact ⟨rfl, hfr⟩
    · go_wp2
      go_ret
      exact ⟨rfl, hfr⟩

set_option maxRecDepth 100000 in
set_option maxHeartbeats 1600000 in
theorem keeps_nil_quiet (a0 : Option Addr) (cap : Nat) (w : World) :
    Calls Try.prog 11 #[.slice a0 0 cap, .bool true] w fun e w' => e = .returned (.int .i64 (-1)) ∧ Fr [] w w' := by
  go_enter Try.func11, Try.ntmps11
  go_wp2_with (go_at_call 13; refine (new_any _).mono ?_; rintro e w1 ⟨rfl, hf1, hx1⟩)
  have hX : w.heap.size < w1.heap.size := blk_lt hx1
  generalize hW2 : w1.alloc _ = w2
  have hg2 : Gho w2 w1.heap.size ⟨#[]⟩ ⟨#[]⟩ 0 := by rw [← hW2]; exact blk_new _ _
  have hr0 : Real w2 w.heap.size ⟨#[]⟩ := ⟨0, -1, -1, by rw [← hW2]; exact blk_alloc hx1 _, ⟨by decide, by intro c hc; simp at hc, rfl, Or.inl rfl, Or.inl rfl⟩⟩
  have hf0 : Fr [] w w2 := by rw [← hW2]; exact hf1.alloc _
  have hgi0 : GhoI w2 w1.heap.size ⟨#[]⟩ := ⟨_, _, hg2, gi0⟩
  clear hW2 hf1 hx1 hg2
  have hrs := hr0
  have hgs := hgi0
  have hf0s := hf0
  clear hr0 hgi0 hf0
  go_loopw [7] (fun i wr => i = .int .i64 0 ∧ Fr [] w wr) (fun _ _ => 0)
  case atStart => exact ⟨rfl, hf0s⟩
  case round =>
    obtain ⟨rfl, hfr⟩ := hrel
    go_wp2
    go_ret
    exact ⟨rfl, hfr⟩

set_option maxRecDepth 100000 in
set_option maxHeartbeats 1600000 in
theorem keeps_nil_loud (a0 : Option Addr) (cap : Nat) (w : World) :
    Calls Try.prog 11 #[.slice a0 0 cap, .bool false] w fun e w' => e = .returned (.int .i64 (-1)) ∧ Fr [] w w' := by
  go_enter Try.func11, Try.ntmps11
  go_wp2_with (go_at_call 13; refine (new_any _).mono ?_; rintro e w1 ⟨rfl, hf1, hx1⟩)
  have hX : w.heap.size < w1.heap.size := blk_lt hx1
  generalize hW2 : w1.alloc _ = w2
  have hg2 : Gho w2 w1.heap.size ⟨#[]⟩ ⟨#[]⟩ 0 := by rw [← hW2]; exact blk_new _ _
  have hr0 : Real w2 w.heap.size ⟨#[]⟩ := ⟨0, -1, -1, by rw [← hW2]; exact blk_alloc hx1 _, ⟨by decide, by intro c hc; simp at hc, rfl, Or.inl rfl, Or.inl rfl⟩⟩
  have hf0 : Fr [] w w2 := by rw [← hW2]; exact hf1.alloc _
  have hgi0 : GhoI w2 w1.heap.size ⟨#[]⟩ := ⟨_, _, hg2, gi0⟩
  clear hW2 hf1 hx1 hg2
  refine (looks_any w2 w.heap.size w1.heap.size _ hr0 hgi0 (by omega)).mono ?_
  rintro e ws ⟨rfl, hrs, hgs, hfs⟩
  have hf0s : Fr [] w ws := hf0.narrow hfs (by simp; omega)
  clear hr0 hgi0 hf0 hfs
  go_wp2
  go_loopw [7] (fun i wr => i = .int .i64 0 ∧ Fr [] w wr) (fun _ _ => 0)
  case atStart => exact ⟨rfl, hf0s⟩
  case round =>
    obtain ⟨rfl, hfr⟩ := hrel
    go_wp2
    go_ret
    exact ⟨rfl, hfr⟩

theorem keepsl (w : World) (v : Value) (h : ScrV w v) : Calls Try.prog 11 #[v, .bool false] w fun e w' => e = .returned (.int .i64 (-1)) ∧ Fr [] w w' := by
  rcases h with ⟨a0, cap, rfl⟩ | ⟨bs, off, len, cap, ops, rfl, h1, h2, h3⟩
  · exact keeps_nil_loud a0 cap w
  · exact keeps_loud w bs off len cap ops h1 h2 h3

set_option maxHeartbeats 400000 in
theorem keeps_upto (w : World) (v : Value) (h : ScrV w v) : Calls Try.prog 7 #[v] w fun e w' => e = .returned (.int .i64 (-1)) ∧ Fr [] w w' := by
  have H : Hid (ScrV w v) := h
  clear h
  go_enter Try.func7, Try.ntmps7
  go_wp2_with (go_at_call 11; refine (keepsl _ _ H.out).mono ?_; rintro e w1 ⟨rfl, hf⟩)
  go_ret
  exact ⟨rfl, hf⟩

set_option maxHeartbeats 400000 in
theorem keeps_walk (w : World) (v : Value) (h : ScrV w v) : Calls Try.prog 3 #[v] w fun e w' => e = .returned (.bool true) ∧ Fr [] w w' := by
  have H : Hid (ScrV w v) := h
  clear h
  go_enter Try.func3, Try.ntmps3
  go_wp2_with (go_at_call 7; refine (keeps_upto _ _ H.out).mono ?_; rintro e w1 ⟨rfl, hf⟩)
  go_ret
  exact ⟨rfl, hf⟩

theorem keepsq (w : World) (v : Value) (h : ScrV w v) : Calls Try.prog 11 #[v, .bool true] w fun e w' => e = .returned (.int .i64 (-1)) ∧ Fr [] w w' := by
  rcases h with ⟨a0, cap, rfl⟩ | ⟨bs, off, len, cap, ops, rfl, h1, h2, h3⟩
  · exact keeps_nil_quiet a0 cap w
  · exact keeps_quiet w bs off len cap ops h1 h2 h3

set_option maxHeartbeats 400000 in
theorem keepsq_upto (w : World) (v : Value) (h : ScrV w v) : Calls Try.prog 8 #[v] w fun e w' => e = .returned (.int .i64 (-1)) ∧ Fr [] w w' := by
  have H : Hid (ScrV w v) := h
  clear h
  go_enter Try.func8, Try.ntmps8
  go_wp2_with (go_at_call 11; refine (keepsq _ _ H.out).mono ?_; rintro e w1 ⟨rfl, hf⟩)
  go_ret
  exact ⟨rfl, hf⟩

set_option maxHeartbeats 400000 in
theorem keepsq_walk (w : World) (v : Value) (h : ScrV w v) : Calls Try.prog 4 #[v] w fun e w' => e = .returned (.bool true) ∧ Fr [] w w' := by
  have H : Hid (ScrV w v) := h
  clear h
  go_enter Try.func4, Try.ntmps4
  go_wp2_with (go_at_call 8; refine (keepsq_upto _ _ H.out).mono ?_; rintro e w1 ⟨rfl, hf⟩)
  go_ret
  exact ⟨rfl, hf⟩

end Go.Proofs.Qxb6500341a
