import Derived.Test.Qxb6500336aW5
namespace Go.Proofs.Qxb6500336a
open Go.RowKit
set_option linter.unusedVariables false

theorem neg_int (w : World) (n : Int) : Calls Try.prog 125 #[.int .i64 n] w fun e w' => e = .returned (.iface 84 (.int .i64 (wrap64 (0 - n)))) ∧ Fr [] w w' := by
  go_enter Try.func125, Try.ntmps125
  go_wp2
  go_ret
  refine ⟨?_, Fr.refl _ _⟩
  first | rfl | simp

set_option maxHeartbeats 800000 in
theorem neg_pair {w : World} {B : Nat} {T1 T2 : TypeId} {u1 u2 : Value} (hB : w.heap[B]? = some (.cells #[.iface T1 u1, .iface T2 u2] 94)) :
    Calls Try.prog 129 #[.pointer (some ⟨B, 0, none⟩)] w fun e w' => e = .returned (.iface 92 (.pointer (some ⟨w.heap.size, 0, none⟩))) ∧ w'.heap[w.heap.size]? = some (.cells #[.iface T2 u2, .iface T1 u1] 94) ∧ Fr [] w w' := by
  have hlt := blk_lt hB
  have c0 := blk_cell hB 0
  have c1 := blk_cell hB 1
  simp at c0 c1
  have hne : ¬ B = w.heap.size := by omega
  have hne' : ¬ w.heap.size = B := by omega
  clear hB
  go_enter Try.func129, Try.ntmps129
  go_wp2
  go_ret
  exact ⟨rfl, blk_new _ _, (Fr.refl _ _).alloc _⟩

theorem len_str (w : World) (s : ByteArray) (hz : s.size ≤ 1000) : Calls Try.prog 133 #[.string s] w fun e w' => e = .returned (.int .i64 s.size) ∧ Fr [] w w' := by
  go_enter Try.func133, Try.ntmps133
  go_wp2
  go_ret
  exact ⟨rfl, Fr.refl _ _⟩
theorem len_pair (w : World) (v : Value) : Calls Try.prog 128 #[v] w fun e w' => e = .returned (.int .i64 2) ∧ Fr [] w w' := by
  go_enter Try.func128, Try.ntmps128
  go_wp2
  go_ret
  exact ⟨rfl, Fr.refl _ _⟩

set_option maxHeartbeats 800000 in
theorem len_list {w : World} {t : Code} {k : Option Nat} (h : Sh w t (.iface 75 (ptrO k))) (hz : (kids t).length ≤ 1000) :
    Calls Try.prog 121 #[ptrO k] w fun e w' => e = .returned (.int .i64 (kids t).length) ∧ Fr [] w w' := by
  have H : Hid (Sh w t (.iface 75 (ptrO k))) := h
  clear h
  generalize hn : (kids t).length = n at *
  have HN : Hid ((kids t).length = n) := hn
  clear hn
  go_enter Try.func121, Try.ntmps121
  go_wp2
  go_loopw [3, 4] (fun i c wr => ∃ (r : Code) (k : Option Nat) (j : Nat), i = .int .i64 j ∧ c = ptrO k ∧ Hid (Sh wr r (.iface 75 (ptrO k))) ∧ Hid (j + (kids r).length = n) ∧ j ≤ 1000 ∧ Fr [] w wr) (fun _ c _ => ptrM c)
  case atStart => exact ⟨t, k, 0, rfl, rfl, H, by have := HN.out; show 0 + _ = _; omega, by omega, Fr.refl _ _⟩
  case round =>
    obtain ⟨r, k, j, rfl, rfl, HR, HJ, hj, hf⟩ := hrel
    rcases HR.out.lst with ⟨rfl, rfl⟩ | ⟨hd', tl', B', hv', k', rfl, rfl, hB', hs1, hs2, hlt⟩
    · unfold ptrO
      go_wp2
      go_ret
      refine ⟨?_, hf⟩
      have := HJ.out
      simp [kids] at this
      rw [this]; rfl
    · have c1 := blk_cell hB' 1
      simp at c1
      have hj2 : j + 1 ≤ 1000 := by have := HJ.out; simp [kids] at this; omega
      have HT : Hid (Sh wr tl' (.iface 75 (ptrO k'))) := hs2
      have HL : Hid (∀ b, k' = some b → b < B') := hlt
      clear hB' hs1 hs2 hlt
      unfold ptrO
      simp only [Option.map]
      go_wp2
      go_roundw
      case rel => exact ⟨tl', k', j + 1, by go_num, rfl, HT, by have := HJ.out; simp [kids] at this; show _ = _; omega, hj2, hf⟩
      case measure =>
        cases k' with
        | none => show 0 < _; simp [ptrM]
        | some b => have := HL.out b rfl; show b + 1 < B' + 1; omega

def topI : List Code → Int × Int
  | a :: r => (match isI a with | some n => (n, 0) | none => (0, 2))
  | [] => (0, 4)

set_option maxHeartbeats 1600000 in
theorem topint_any {w : World} {S : Nat} {sl : Value} {rs : List Code} (h : St w S sl rs) (hw : Wf rs) :
    Calls Try.prog 78 #[.pointer (some ⟨S, 0, none⟩)] w fun e w' => e = .returned (.tuple #[.int .i64 (topI rs).1, .int .i64 (topI rs).2]) ∧ Fr [] w w' := by
  obtain ⟨us, h1, h2⟩ := h
  have hlen := h2.len
  have hl5 := hw.1
  obtain ⟨p, cap, rfl⟩ := h1.len
  have H1 : Hid (Stv w S (.slice p us.length cap) us false) := h1
  have HL : Hid (us.length ≤ 5) := by show _ ≤ _; omega
  clear h1 hw
  have n1 := asNil_84
  have n2 := as84_84
  have n3 := as99_84
  have n4 := as75_84
  have n5 := as92_84
  cases rs with
  | nil =>
    cases h2.nil
    clear h2
    go_enter Try.func78, Try.ntmps78
    go_wp2_with (go_at_call 62; refine (peek_any H1.out (by simp) 0 (by omega)).mono ?_; rintro e w1 ⟨rfl, hf1⟩; simp only [List.getElem?_nil, Option.getD]; have c0 := blk_cell (H1.out.keep0 hf1).obj 0; simp at c0)
    go_ret2
    exact ⟨rfl, hf1⟩
  | cons t ts =>
    obtain ⟨u, us', rfl, h3, h4⟩ := h2.cons
    clear h2 h4
    rcases h3.kinds with ⟨n, e1, e2, e3, e4, rfl, hn⟩ | ⟨s, e1, e2, e3, e4, rfl, e5⟩ | ⟨k, e1, e2, e3, e4, rfl⟩ | ⟨c, a, b, B, av, bv, rfl, rfl, _⟩
    · simp only [topI, e1]
      go_enter Try.func78, Try.ntmps78
      go_wp2_with (go_at_call 62; refine (peek_any H1.out HL.out 0 (by omega)).mono ?_; rintro e w1 ⟨rfl, hf1⟩; simp only [List.getElem?_cons_zero, Option.getD]; have c0 := blk_cell (H1.out.keep0 hf1).obj 0; simp at c0)
      go_ret2
      exact ⟨rfl, hf1⟩
    · simp only [topI, e1]
      go_enter Try.func78, Try.ntmps78
      go_wp2_with (go_at_call 62; refine (peek_any H1.out HL.out 0 (by omega)).mono ?_; rintro e w1 ⟨rfl, hf1⟩; simp only [List.getElem?_cons_zero, Option.getD]; have c0 := blk_cell (H1.out.keep0 hf1).obj 0; simp at c0)
      go_ret2
      exact ⟨rfl, hf1⟩
    · simp only [topI, e1]
      generalize ptrO k = pk at *
      go_enter Try.func78, Try.ntmps78
      go_wp2_with (go_at_call 62; refine (peek_any H1.out HL.out 0 (by omega)).mono ?_; rintro e w1 ⟨rfl, hf1⟩; simp only [List.getElem?_cons_zero, Option.getD]; have c0 := blk_cell (H1.out.keep0 hf1).obj 0; simp at c0)
      go_ret2
      exact ⟨rfl, hf1⟩
    · simp only [topI, isI]
      go_enter Try.func78, Try.ntmps78
      go_wp2_with (go_at_call 62; refine (peek_any H1.out HL.out 0 (by omega)).mono ?_; rintro e w1 ⟨rfl, hf1⟩; simp only [List.getElem?_cons_zero, Option.getD]; have c0 := blk_cell (H1.out.keep0 hf1).obj 0; simp at c0)
      go_ret2
      exact ⟨rfl, hf1⟩
end Go.Proofs.Qxb6500336a
