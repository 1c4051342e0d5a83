import Derived.Test.Qxb6500340aR10
namespace Go.Proofs.Qxb6500340a
open Go.RowKit
set_option linter.unusedVariables false
set_option linter.unusedSimpArgs false

set_option maxRecDepth 100000 in
set_option maxHeartbeats 6400000 in
theorem walk_loud_nil (a0 : Option Addr) (cap : Nat) (w : World) :
    Calls Try.prog 16 #[.slice a0 0 cap, .bool false] w fun e w' => (∃ n, e = .returned (.tuple #[.int .i64 (-1), .int .i64 n])) ∧ Fr [] w w' := by
  go_enter Try.func16, Try.ntmps16
  go_wp2_with fail
  go_at_call 13
  refine (new_any _).mono ?_
  rintro e w1 ⟨x, hx, rfl, hb1, hf1⟩
  have X1 : Hid (BkI w1 x initS) := hb1
  have hxl := blk_lt hb1
  clear hb1
  go_wp2_with fail
  go_at_call 31
  refine (mnew_any _).mono ?_
  rintro e w2 ⟨rfl, hm2, hf2⟩
  have M2 : Hid (Mh w2 w1.heap.size (gof initS)) := hm2
  have X2 : Hid (BkI w2 x initS) := hf2.keep X1.out (by simp)
  have F2 : Hid (Fr [] w w2) := hf1.trans hf2
  have hml : w.heap.size ≤ w1.heap.size := hf1.size
  clear hm2 hf1 hf2 X1
  generalize w1.heap.size = m at M2 hxl hml ⊢
  go_wp2_with fail
  go_at_call 32
  refine (seen_loud _ _ _ initS X2.out M2.out init_invR).mono ?_
  rintro e w3 ⟨rfl, hf3⟩
  have M3 : Hid (Mh w3 m (gof initS)) := hf3.keep M2.out (by simp)
  have X3 : Hid (BkI w3 x initS) := hf3.keep X2.out (by simp)
  have F3 : Hid (Fr [] w w3) := F2.out.trans hf3
  clear hf3 M2 X2 F2
  go_wp2_with fail
  go_loopw [9] (fun i wr => i = .int .i64 0 ∧ Fr [] w wr) (fun _ _ => 0)
  case atStart => exact ⟨rfl, F3.out⟩
  case round =>
    obtain ⟨rfl, hfr⟩ := hrel
    go_wp2
    go_ret2
    exact ⟨⟨_, rfl⟩, hfr⟩

set_option maxRecDepth 100000 in
set_option maxHeartbeats 12800000 in
theorem walk_loud_short (w : World) (sb off len cap : Nat) (ops : Nat → OpT) (hlen : len ≤ maxLen) (hb : sb < w.heap.size) (hsc : Scr w sb off len ops) (hq : ¬ ((4398046511104 : Int) < len)) :
    Calls Try.prog 16 #[.slice (some ⟨sb, off, none⟩) len cap, .bool false] w fun e w' => (∃ n, e = .returned (.tuple #[.int .i64 (-1), .int .i64 n])) ∧ Fr [] w w' := by
  have hl63 : len ≤ 9223372036854775807 := by unfold maxLen at hlen; omega
  have HS : Hid (Scr w sb off len ops) := hsc
  clear hsc hlen
  go_enter Try.func16, Try.ntmps16
  go_wp2_with fail
  go_at_call 13
  refine (new_any _).mono ?_
  rintro e w1 ⟨x, hx, rfl, hb1, hf1⟩
  have X1 : Hid (BkI w1 x initS) := hb1
  have hxl := blk_lt hb1
  clear hb1
  go_wp2_with fail
  go_at_call 31
  refine (mnew_any _).mono ?_
  rintro e w2 ⟨rfl, hm2, hf2⟩
  have M2 : Hid (Mh w2 w1.heap.size (gof initS)) := hm2
  have X2 : Hid (BkI w2 x initS) := hf2.keep X1.out (by simp)
  have F2 : Hid (Fr [] w w2) := hf1.trans hf2
  have hml : w.heap.size ≤ w1.heap.size := hf1.size
  clear hm2 hf1 hf2 X1
  generalize w1.heap.size = m at M2 hxl hml ⊢
  go_wp2_with fail
  go_at_call 32
  refine (seen_loud _ _ _ initS X2.out M2.out init_invR).mono ?_
  rintro e w3 ⟨rfl, hf3⟩
  have M3 : Hid (Mh w3 m (gof initS)) := hf3.keep M2.out (by simp)
  have X3 : Hid (BkI w3 x initS) := hf3.keep X2.out (by simp)
  have F3 : Hid (Fr [] w w3) := F2.out.trans hf3
  clear hf3 M2 X2 F2
  go_wp2_with fail
  go_loopw [9] (fun i wr => ∃ (k : Nat) (s : St), i = .int .i64 k ∧ k ≤ len ∧ Hid (Inv s) ∧ Hid (BkI wr x s) ∧ Hid (Mh wr m (gof s)) ∧ Fr [] w wr) (fun i _ => len - (intOf i).toNat)
  case atStart => exact ⟨0, initS, rfl, by omega, init_invR, X3, M3, F3.out⟩
  case round =>
    clear X3 M3 F3
    obtain ⟨k, s, rfl, hk, HI, X, M, hfr⟩ := hrel
    by_cases hlt : (k : Int) < (len : Int)
    · have hlt2 : k < len := by omega
      obtain ⟨e0, e1, e2, e3, e4, e5⟩ := HS.out.cells hb hfr hlt2
      have O4 : Hid ((wr.alloc (.cells #[.int .i64 (ops k).k, .int .i64 (ops k).a, .int .i64 (ops k).b, .int .i64 (ops k).c, .string (ops k).s, .string (ops k).u] 41)).heap[wr.heap.size]? = some (.cells #[.int .i64 (ops k).k, .int .i64 (ops k).a, .int .i64 (ops k).b, .int .i64 (ops k).c, .string (ops k).s, .string (ops k).u] 41)) := blk_new _ _
      have X4 : Hid (BkI (wr.alloc (.cells #[.int .i64 (ops k).k, .int .i64 (ops k).a, .int .i64 (ops k).b, .int .i64 (ops k).c, .string (ops k).s, .string (ops k).u] 41)) x s) := blk_alloc X.out _
      have M4 : Hid (Mh (wr.alloc (.cells #[.int .i64 (ops k).k, .int .i64 (ops k).a, .int .i64 (ops k).b, .int .i64 (ops k).c, .string (ops k).s, .string (ops k).u] 41)) m (gof s)) := blk_alloc M.out _
      have F4 : Hid (Fr [] w (wr.alloc (.cells #[.int .i64 (ops k).k, .int .i64 (ops k).a, .int .i64 (ops k).b, .int .i64 (ops k).c, .string (ops k).s, .string (ops k).u] 41))) := hfr.alloc _
      have hxr : x < wr.heap.size := blk_lt X.out
      have hmr : m < wr.heap.size := blk_lt M.out
      go_wp2_with fail
      generalize wr.alloc (.cells #[.int .i64 (ops k).k, .int .i64 (ops k).a, .int .i64 (ops k).b, .int .i64 (ops k).c, .string (ops k).s, .string (ops k).u] 41) = W4 at O4 X4 M4 F4 ⊢
      clear e0 e1 e2 e3 e4 e5 X M hfr
      go_at_call 26
      refine (do_any W4 x s (ops k) X4.out HI.out).mono ?_
      rintro e w5 ⟨rfl, hr5, hf5⟩
      have X5 : Hid (BkI w5 x (nxt s (ops k))) := hr5
      have O5 : Hid (w5.heap[wr.heap.size]? = some (.cells #[.int .i64 (ops k).k, .int .i64 (ops k).a, .int .i64 (ops k).b, .int .i64 (ops k).c, .string (ops k).s, .string (ops k).u] 41)) := hf5.keep O4.out (by simp; omega)
      have M5 : Hid (Mh w5 m (gof s)) := hf5.keep M4.out (by simp; omega)
      have F5 : Hid (Fr [] w w5) := F4.out.narrow hf5 (fun i hi => by simp at hi; right; omega)
      clear hr5 hf5 X4 O4 M4 F4
      have hs5 := blk_lt O5.out
      have o0 := blk_cell O5.out 0
      have o1 := blk_cell O5.out 1
      have o2 := blk_cell O5.out 2
      have o3 := blk_cell O5.out 3
      have o4 := blk_cell O5.out 4
      have o5 := blk_cell O5.out 5
      unfold ansV
      go_wp2_with fail
      have A6 : Hid ((w5.alloc (.cells #[.int .i64 (aE s (ops k)), .int .i64 (aA s (ops k)), .int .i64 (aB s (ops k)), .string (aS s (ops k))] 57)).heap[w5.heap.size]? = some (.cells #[.int .i64 (aE s (ops k)), .int .i64 (aA s (ops k)), .int .i64 (aB s (ops k)), .string (aS s (ops k))] 57)) := blk_new _ _
      have X6 : Hid (BkI (w5.alloc (.cells #[.int .i64 (aE s (ops k)), .int .i64 (aA s (ops k)), .int .i64 (aB s (ops k)), .string (aS s (ops k))] 57)) x (nxt s (ops k))) := blk_alloc X5.out _
      have M6 : Hid (Mh (w5.alloc (.cells #[.int .i64 (aE s (ops k)), .int .i64 (aA s (ops k)), .int .i64 (aB s (ops k)), .string (aS s (ops k))] 57)) m (gof s)) := blk_alloc M5.out _
      have F6 : Hid (Fr [] w (w5.alloc (.cells #[.int .i64 (aE s (ops k)), .int .i64 (aA s (ops k)), .int .i64 (aB s (ops k)), .string (aS s (ops k))] 57))) := F5.out.alloc _
      generalize w5.alloc (.cells #[.int .i64 (aE s (ops k)), .int .i64 (aA s (ops k)), .int .i64 (aB s (ops k)), .string (aS s (ops k))] 57) = W6 at A6 X6 M6 F6 ⊢
      generalize hq5 : w5.heap.size = q5 at A6 ⊢
      have hq5' : wr.heap.size < q5 := by omega
      clear hq5 X5 O5 M5 F5 o0 o1 o2 o3 o4 o5
      go_at_call 33
      refine (dom_any W6 m s (ops k) M6.out HI.out).mono ?_
      rintro e w7 ⟨rfl, hr7, hf7⟩
      have M7 : Hid (Mh w7 m (gof (nxt s (ops k)))) := hr7
      have X7 : Hid (BkI w7 x (nxt s (ops k))) := hf7.keep X6.out (by simp; omega)
      have A7 : Hid (w7.heap[q5]? = some (.cells #[.int .i64 (aE s (ops k)), .int .i64 (aA s (ops k)), .int .i64 (aB s (ops k)), .string (aS s (ops k))] 57)) := hf7.keep A6.out (by simp; omega)
      have F7 : Hid (Fr [] w w7) := F6.out.narrow hf7 (fun i hi => by simp at hi; right; omega)
      clear hr7 hf7 M6 X6 A6 F6
      have I8 : Hid (Inv (nxt s (ops k))) := HI.out.nxt (ops k)
      unfold ansV
      have he := fun W => eq_ansR W (aE s (ops k)) (aA s (ops k)) (aB s (ops k)) (aS s (ops k))
      have a0 := blk_cell A7.out 0
      have a1 := blk_cell A7.out 1
      have a2 := blk_cell A7.out 2
      have a3 := blk_cell A7.out 3
      have hq7 := blk_lt A7.out
      go_wp2_with fail
      have X8 : Hid (BkI (w7.alloc (.cells #[.int .i64 (aE s (ops k)), .int .i64 (aA s (ops k)), .int .i64 (aB s (ops k)), .string (aS s (ops k))] 57)) x (nxt s (ops k))) := blk_alloc X7.out _
      have M8 : Hid (Mh (w7.alloc (.cells #[.int .i64 (aE s (ops k)), .int .i64 (aA s (ops k)), .int .i64 (aB s (ops k)), .string (aS s (ops k))] 57)) m (gof (nxt s (ops k)))) := blk_alloc M7.out _
      have F8 : Hid (Fr [] w (w7.alloc (.cells #[.int .i64 (aE s (ops k)), .int .i64 (aA s (ops k)), .int .i64 (aB s (ops k)), .string (aS s (ops k))] 57))) := F7.out.alloc _
      go_at_call 32
      refine (seen_loud _ _ _ (nxt s (ops k)) X8.out M8.out I8.out).mono ?_
      rintro e w9 ⟨rfl, hf9⟩
      go_wp2
      go_roundw
      case rel => exact ⟨k + 1, nxt s (ops k), by go_num, by omega, I8, hf9.keep X8.out (by simp), hf9.keep M8.out (by simp), F8.out.trans hf9⟩
      case measure => simp [intOf]; omega
    · go_wp2
      go_ret2
      exact ⟨⟨_, rfl⟩, hfr⟩

set_option maxRecDepth 100000 in
set_option maxHeartbeats 12800000 in
theorem walk_loud_long (w : World) (sb off len cap : Nat) (ops : Nat → OpT) (hlen : len ≤ maxLen) (hb : sb < w.heap.size) (hsc : Scr w sb off len ops) (hq : (4398046511104 : Int) < len) :
    Calls Try.prog 16 #[.slice (some ⟨sb, off, none⟩) len cap, .bool false] w fun e w' => (∃ n, e = .returned (.tuple #[.int .i64 (-1), .int .i64 n])) ∧ Fr [] w w' := by
  have hl63 : len ≤ 9223372036854775807 := by unfold maxLen at hlen; omega
  have HS : Hid (Scr w sb off len ops) := hsc
  clear hsc hlen
  go_enter Try.func16, Try.ntmps16
  go_wp2_with fail
  go_at_call 13
  refine (new_any _).mono ?_
  rintro e w1 ⟨x, hx, rfl, hb1, hf1⟩
  have X1 : Hid (BkI w1 x initS) := hb1
  have hxl := blk_lt hb1
  clear hb1
  go_wp2_with fail
  go_at_call 31
  refine (mnew_any _).mono ?_
  rintro e w2 ⟨rfl, hm2, hf2⟩
  have M2 : Hid (Mh w2 w1.heap.size (gof initS)) := hm2
  have X2 : Hid (BkI w2 x initS) := hf2.keep X1.out (by simp)
  have F2 : Hid (Fr [] w w2) := hf1.trans hf2
  have hml : w.heap.size ≤ w1.heap.size := hf1.size
  clear hm2 hf1 hf2 X1
  generalize w1.heap.size = m at M2 hxl hml ⊢
  go_wp2_with fail
  go_at_call 32
  refine (seen_loud _ _ _ initS X2.out M2.out init_invR).mono ?_
  rintro e w3 ⟨rfl, hf3⟩
  have M3 : Hid (Mh w3 m (gof initS)) := hf3.keep M2.out (by simp)
  have X3 : Hid (BkI w3 x initS) := hf3.keep X2.out (by simp)
  have F3 : Hid (Fr [] w w3) := F2.out.trans hf3
  clear hf3 M2 X2 F2
  go_wp2_with fail
  go_loopw [9] (fun i wr => ∃ (k : Nat) (s : St), i = .int .i64 k ∧ k ≤ 4398046511104 ∧ Hid (Inv s) ∧ Hid (BkI wr x s) ∧ Hid (Mh wr m (gof s)) ∧ Fr [] w wr) (fun i _ => 4398046511104 - (intOf i).toNat)
  case atStart => exact ⟨0, initS, rfl, by omega, init_invR, X3, M3, F3.out⟩
  case round =>
    clear X3 M3 F3
    obtain ⟨k, s, rfl, hk, HI, X, M, hfr⟩ := hrel
    by_cases hlt : (k : Int) < 4398046511104
    · have hlt2 : k < len := by omega
      obtain ⟨e0, e1, e2, e3, e4, e5⟩ := HS.out.cells hb hfr hlt2
      have O4 : Hid ((wr.alloc (.cells #[.int .i64 (ops k).k, .int .i64 (ops k).a, .int .i64 (ops k).b, .int .i64 (ops k).c, .string (ops k).s, .string (ops k).u] 41)).heap[wr.heap.size]? = some (.cells #[.int .i64 (ops k).k, .int .i64 (ops k).a, .int .i64 (ops k).b, .int .i64 (ops k).c, .string (ops k).s, .string (ops k).u] 41)) := blk_new _ _
      have X4 : Hid (BkI (wr.alloc (.cells #[.int .i64 (ops k).k, .int .i64 (ops k).a, .int .i64 (ops k).b, .int .i64 (ops k).c, .string (ops k).s, .string (ops k).u] 41)) x s) := blk_alloc X.out _
      have M4 : Hid (Mh (wr.alloc (.cells #[.int .i64 (ops k).k, .int .i64 (ops k).a, .int .i64 (ops k).b, .int .i64 (ops k).c, .string (ops k).s, .string (ops k).u] 41)) m (gof s)) := blk_alloc M.out _
      have F4 : Hid (Fr [] w (wr.alloc (.cells #[.int .i64 (ops k).k, .int .i64 (ops k).a, .int .i64 (ops k).b, .int .i64 (ops k).c, .string (ops k).s, .string (ops k).u] 41))) := hfr.alloc _
      have hxr : x < wr.heap.size := blk_lt X.out
      have hmr : m < wr.heap.size := blk_lt M.out
      go_wp2_with fail
      generalize wr.alloc (.cells #[.int .i64 (ops k).k, .int .i64 (ops k).a, .int .i64 (ops k).b, .int .i64 (ops k).c, .string (ops k).s, .string (ops k).u] 41) = W4 at O4 X4 M4 F4 ⊢
      clear e0 e1 e2 e3 e4 e5 X M hfr
      go_at_call 26
      refine (do_any W4 x s (ops k) X4.out HI.out).mono ?_
      rintro e w5 ⟨rfl, hr5, hf5⟩
      have X5 : Hid (BkI w5 x (nxt s (ops k))) := hr5
      have O5 : Hid (w5.heap[wr.heap.size]? = some (.cells #[.int .i64 (ops k).k, .int .i64 (ops k).a, .int .i64 (ops k).b, .int .i64 (ops k).c, .string (ops k).s, .string (ops k).u] 41)) := hf5.keep O4.out (by simp; omega)
      have M5 : Hid (Mh w5 m (gof s)) := hf5.keep M4.out (by simp; omega)
      have F5 : Hid (Fr [] w w5) := F4.out.narrow hf5 (fun i hi => by simp at hi; right; omega)
      clear hr5 hf5 X4 O4 M4 F4
      have hs5 := blk_lt O5.out
      have o0 := blk_cell O5.out 0
      have o1 := blk_cell O5.out 1
      have o2 := blk_cell O5.out 2
      have o3 := blk_cell O5.out 3
      have o4 := blk_cell O5.out 4
      have o5 := blk_cell O5.out 5
      unfold ansV
      go_wp2_with fail
      have A6 : Hid ((w5.alloc (.cells #[.int .i64 (aE s (ops k)), .int .i64 (aA s (ops k)), .int .i64 (aB s (ops k)), .string (aS s (ops k))] 57)).heap[w5.heap.size]? = some (.cells #[.int .i64 (aE s (ops k)), .int .i64 (aA s (ops k)), .int .i64 (aB s (ops k)), .string (aS s (ops k))] 57)) := blk_new _ _
      have X6 : Hid (BkI (w5.alloc (.cells #[.int .i64 (aE s (ops k)), .int .i64 (aA s (ops k)), .int .i64 (aB s (ops k)), .string (aS s (ops k))] 57)) x (nxt s (ops k))) := blk_alloc X5.out _
      have M6 : Hid (Mh (w5.alloc (.cells #[.int .i64 (aE s (ops k)), .int .i64 (aA s (ops k)), .int .i64 (aB s (ops k)), .string (aS s (ops k))] 57)) m (gof s)) := blk_alloc M5.out _
      have F6 : Hid (Fr [] w (w5.alloc (.cells #[.int .i64 (aE s (ops k)), .int .i64 (aA s (ops k)), .int .i64 (aB s (ops k)), .string (aS s (ops k))] 57))) := F5.out.alloc _
      generalize w5.alloc (.cells #[.int .i64 (aE s (ops k)), .int .i64 (aA s (ops k)), .int .i64 (aB s (ops k)), .string (aS s (ops k))] 57) = W6 at A6 X6 M6 F6 ⊢
      generalize hq5 : w5.heap.size = q5 at A6 ⊢
      have hq5' : wr.heap.size < q5 := by omega
      clear hq5 X5 O5 M5 F5 o0 o1 o2 o3 o4 o5
      go_at_call 33
      refine (dom_any W6 m s (ops k) M6.out HI.out).mono ?_
      rintro e w7 ⟨rfl, hr7, hf7⟩
      have M7 : Hid (Mh w7 m (gof (nxt s (ops k)))) := hr7
      have X7 : Hid (BkI w7 x (nxt s (ops k))) := hf7.keep X6.out (by simp; omega)
      have A7 : Hid (w7.heap[q5]? = some (.cells #[.int .i64 (aE s (ops k)), .int .i64 (aA s (ops k)), .int .i64 (aB s (ops k)), .string (aS s (ops k))] 57)) := hf7.keep A6.out (by simp; omega)
      have F7 : Hid (Fr [] w w7) := F6.out.narrow hf7 (fun i hi => by simp at hi; right; omega)
      clear hr7 hf7 M6 X6 A6 F6
      have I8 : Hid (Inv (nxt s (ops k))) := HI.out.nxt (ops k)
      unfold ansV
      have he := fun W => eq_ansR W (aE s (ops k)) (aA s (ops k)) (aB s (ops k)) (aS s (ops k))
      have a0 := blk_cell A7.out 0
      have a1 := blk_cell A7.out 1
      have a2 := blk_cell A7.out 2
      have a3 := blk_cell A7.out 3
      have hq7 := blk_lt A7.out
      go_wp2_with fail
      have X8 : Hid (BkI (w7.alloc (.cells #[.int .i64 (aE s (ops k)), .int .i64 (aA s (ops k)), .int .i64 (aB s (ops k)), .string (aS s (ops k))] 57)) x (nxt s (ops k))) := blk_alloc X7.out _
      have M8 : Hid (Mh (w7.alloc (.cells #[.int .i64 (aE s (ops k)), .int .i64 (aA s (ops k)), .int .i64 (aB s (ops k)), .string (aS s (ops k))] 57)) m (gof (nxt s (ops k)))) := blk_alloc M7.out _
      have F8 : Hid (Fr [] w (w7.alloc (.cells #[.int .i64 (aE s (ops k)), .int .i64 (aA s (ops k)), .int .i64 (aB s (ops k)), .string (aS s (ops k))] 57))) := F7.out.alloc _
      go_at_call 32
      refine (seen_loud _ _ _ (nxt s (ops k)) X8.out M8.out I8.out).mono ?_
      rintro e w9 ⟨rfl, hf9⟩
      go_wp2
      go_roundw
      case rel => exact ⟨k + 1, nxt s (ops k), by go_num, by omega, I8, hf9.keep X8.out (by simp), hf9.keep M8.out (by simp), F8.out.trans hf9⟩
      case measure => simp [intOf]; omega
    · go_wp2
      go_ret2
      exact ⟨⟨_, rfl⟩, hfr⟩

theorem walk_loud (w : World) (v : Value) (h : ScrV w v) : Calls Try.prog 16 #[v, .bool false] w fun e w' => (∃ n, e = .returned (.tuple #[.int .i64 (-1), .int .i64 n])) ∧ Fr [] w w' := by
  rcases h with ⟨a0, cap, rfl⟩ | ⟨bs, off, len, cap, ops, rfl, h1, h2, h3⟩
  · exact walk_loud_nil a0 cap w
  · by_cases hq : (4398046511104 : Int) < len
    · exact walk_loud_long w bs off len cap ops h1 h2 h3 hq
    · exact walk_loud_short w bs off len cap ops h1 h2 h3 hq

end Go.Proofs.Qxb6500340a
