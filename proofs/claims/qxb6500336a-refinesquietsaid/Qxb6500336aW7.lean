import Derived.Test.Qxb6500336aW6
namespace Go.Proofs.Qxb6500336a
open Go.RowKit
set_option linter.unusedVariables false
set_option linter.unusedSimpArgs false
set_option maxHeartbeats 1600000 in
set_option maxRecDepth 100000 in
theorem neg_any {w : World} {S : Nat} {sl : Value} {rs : List Code} (h : St w S sl rs) (hw : Wf rs) :
    Calls Try.prog 46 #[.pointer (some ⟨S, 0, none⟩)] w (Out w S sl (negW rs)) := by
  obtain ⟨us, h1, h2⟩ := h
  have hlen := h2.len
  have hl5 := hw.1
  obtain ⟨p, cap, rfl⟩ := h1.len
  have H : Hid (St w S (.slice p us.length cap) rs) := ⟨us, h1, h2⟩
  have H1 : Hid (Stv w S (.slice p us.length cap) us false) := h1
  have H2 : Hid (Shs w rs us) := h2
  have HL : Hid (us.length ≤ 5) := by show _ ≤ _; omega
  have HR : Hid (rs.length ≤ 5) := hl5
  have HW : Hid (Wf rs) := hw
  clear h1 hw
  have n0 := asNil_89
  have n1 := as84_89
  have n2 := as99_89
  have n3 := as75_89
  have n4 := as92_89
  cases rs with
  | nil =>
    cases h2.nil
    clear h2
    go_enter Try.func46, Try.ntmps46
    go_wp2_with (first | (go_at_call 62; refine (peek_any H1.out HL.out 0 (by omega)).mono ?_; rintro e w1 ⟨rfl, hf1⟩; simp only [List.getElem?_nil, Option.getD]; have c0 := blk_cell (H1.out.keep0 hf1).obj 0; simp at c0) | (go_at_call 65; refine (lack_any (H1.out.keep0 hf1) HL.out 1 (by omega)).mono ?_; rintro e w2 ⟨rfl, hf2⟩; simp))
    go_ret
    exact Out.same H.out (hf1.trans hf2) 4
  | cons t ts =>
    obtain ⟨u, us', rfl, h3, h4⟩ := h2.cons
    have HS : Hid (Sh w t u) := h3
    clear h2 h4
    rcases h3.kinds with ⟨n, e1, e2, e3, e4, rfl, hn⟩ | ⟨s, e1, e2, e3, e4, rfl, e5⟩ | ⟨k, e1, e2, e3, e4, rfl⟩ | ⟨c, a, b, B, av, bv, rfl, rfl, hB, ha, hb⟩
    · clear h3
      simp only [negW, e1, e2, e4]
      go_enter Try.func46, Try.ntmps46
      go_wp2_with (first | (go_at_call 62; refine (peek_any H1.out HL.out 0 (by omega)).mono ?_; rintro e w1 ⟨rfl, hf1⟩; simp only [List.getElem?_cons_zero, Option.getD]; have c0 := blk_cell (H1.out.keep0 hf1).obj 0; simp at c0) | ((with_reducible refine at_inv ?_); refine wpList_invoke0 rfl _ _ rfl (.iface 84 (.int .i64 n)) rfl _ _ (cmNeg84 _ _) _ (neg_int w1 n) ?_; rintro e w2 ⟨rfl, hf2⟩; refine ⟨_, rfl, ?_⟩) | (go_at_call 64; refine (swap_st (H1.out.keep0 (hf1.trans hf2)) (H2.out.kept (hf1.trans hf2).kc0) HR.out 1 (by simp) (Sh.tI (w_out _))).mono ?_; rintro e w3 ⟨rfl, sl3, h3, m3⟩))
      go_ret
      exact ⟨rfl, sl3, h3, Mv.frl (hf1.trans hf2) m3⟩
    · clear h3
      simp only [negW, e1, e2, e4]
      go_enter Try.func46, Try.ntmps46
      go_wp2_with (first | (go_at_call 62; refine (peek_any H1.out HL.out 0 (by omega)).mono ?_; rintro e w1 ⟨rfl, hf1⟩; simp only [List.getElem?_cons_zero, Option.getD]; have c0 := blk_cell (H1.out.keep0 hf1).obj 0; simp at c0) | (go_at_call 65; refine (lack_any (H1.out.keep0 hf1) HL.out 1 (by omega)).mono ?_; rintro e w2 ⟨rfl, hf2⟩; simp))
      go_ret
      exact Out.same H.out (hf1.trans hf2) 5
    · clear h3
      simp only [negW, e1, e2, e4]
      go_enter Try.func46, Try.ntmps46
      go_wp2_with (first | (go_at_call 62; refine (peek_any H1.out HL.out 0 (by omega)).mono ?_; rintro e w1 ⟨rfl, hf1⟩; simp only [List.getElem?_cons_zero, Option.getD]; have c0 := blk_cell (H1.out.keep0 hf1).obj 0; simp at c0) | (go_at_call 65; refine (lack_any (H1.out.keep0 hf1) HL.out 1 (by omega)).mono ?_; rintro e w2 ⟨rfl, hf2⟩; simp))
      go_ret
      exact Out.same H.out (hf1.trans hf2) 5
    · clear h3
      simp only [negW, isI, isS, isP]
      obtain ⟨T1, u1, rfl⟩ := ha.ex
      obtain ⟨T2, u2, rfl⟩ := hb.ex
      have HB : Hid (w.heap[B]? = some (.cells #[.iface T1 u1, .iface T2 u2] 94)) := hB
      have HA : Hid (Sh w a (.iface T1 u1)) := ha
      have HC : Hid (Sh w b (.iface T2 u2)) := hb
      clear hB ha hb
      go_enter Try.func46, Try.ntmps46
      go_wp2_with (first | (go_at_call 62; refine (peek_any H1.out HL.out 0 (by omega)).mono ?_; rintro e w1 ⟨rfl, hf1⟩; simp only [List.getElem?_cons_zero, Option.getD]; have c0 := blk_cell (H1.out.keep0 hf1).obj 0; simp at c0) | ((with_reducible refine at_inv ?_); refine wpList_invoke0 rfl _ _ rfl (.iface 92 (.pointer (some ⟨B, 0, none⟩))) rfl _ _ (cmNeg92 _ _) _ (neg_pair (hf1.keep HB.out (by simp))) ?_; rintro e w2 ⟨rfl, hb2, hf2⟩; refine ⟨_, rfl, ?_⟩; have HB2 : Hid _ := hb2; clear hb2) | (go_at_call 64; refine (swap_st (H1.out.keep0 (hf1.trans hf2)) (H2.out.kept (hf1.trans hf2).kc0) HR.out 1 (by simp) (show Sh w2 (tP b a) _ from ⟨w1.heap.size, _, _, rfl, HB2.out, Sh.kept (hf1.trans hf2).kc0 _ _ HC.out, Sh.kept (hf1.trans hf2).kc0 _ _ HA.out⟩)).mono ?_; rintro e w3 ⟨rfl, sl3, h3, m3⟩))
      go_ret
      exact ⟨rfl, sl3, h3, Mv.frl (hf1.trans hf2) m3⟩
set_option maxHeartbeats 1600000 in
set_option maxRecDepth 100000 in
theorem len_any {w : World} {S : Nat} {sl : Value} {rs : List Code} (h : St w S sl rs) (hw : Wf rs) :
    Calls Try.prog 45 #[.pointer (some ⟨S, 0, none⟩)] w (Out w S sl (lenW rs)) := by
  obtain ⟨us, h1, h2⟩ := h
  have hlen := h2.len
  have hl5 := hw.1
  obtain ⟨p, cap, rfl⟩ := h1.len
  have H : Hid (St w S (.slice p us.length cap) rs) := ⟨us, h1, h2⟩
  have H1 : Hid (Stv w S (.slice p us.length cap) us false) := h1
  have H2 : Hid (Shs w rs us) := h2
  have HL : Hid (us.length ≤ 5) := by show _ ≤ _; omega
  have HR : Hid (rs.length ≤ 5) := hl5
  have HW : Hid (Wf rs) := hw
  clear h1 hw
  have n0 := asNil_86
  have n1 := as84_86
  have n2 := as99_86
  have n3 := as75_86
  have n4 := as92_86
  cases rs with
  | nil =>
    cases h2.nil
    clear h2
    go_enter Try.func45, Try.ntmps45
    go_wp2_with (first | (go_at_call 62; refine (peek_any H1.out HL.out 0 (by omega)).mono ?_; rintro e w1 ⟨rfl, hf1⟩; simp only [List.getElem?_nil, Option.getD]; have c0 := blk_cell (H1.out.keep0 hf1).obj 0; simp at c0) | (go_at_call 65; refine (lack_any (H1.out.keep0 hf1) HL.out 1 (by omega)).mono ?_; rintro e w2 ⟨rfl, hf2⟩; simp))
    go_ret
    exact Out.same H.out (hf1.trans hf2) 4
  | cons t ts =>
    obtain ⟨u, us', rfl, h3, h4⟩ := h2.cons
    have HS : Hid (Sh w t u) := h3
    clear h2 h4
    rcases h3.kinds with ⟨n, e1, e2, e3, e4, rfl, hn⟩ | ⟨s, e1, e2, e3, e4, rfl, e5⟩ | ⟨k, e1, e2, e3, e4, rfl⟩ | ⟨c, a, b, B, av, bv, rfl, rfl, hB, ha, hb⟩
    · clear h3
      simp only [lenW, e1, e2, e4]
      go_enter Try.func45, Try.ntmps45
      go_wp2_with (first | (go_at_call 62; refine (peek_any H1.out HL.out 0 (by omega)).mono ?_; rintro e w1 ⟨rfl, hf1⟩; simp only [List.getElem?_cons_zero, Option.getD]; have c0 := blk_cell (H1.out.keep0 hf1).obj 0; simp at c0) | (go_at_call 65; refine (lack_any (H1.out.keep0 hf1) HL.out 1 (by omega)).mono ?_; rintro e w2 ⟨rfl, hf2⟩; simp))
      go_ret
      exact Out.same H.out (hf1.trans hf2) 5
    · clear h3
      simp only [lenW, e1, e2, e4]
      have hz : s.size ≤ 30 := by
        have h5 := HW.out.2 t (by simp)
        rw [e5] at h5
        simp only [ByteArray.size_append] at h5
        omega
      have HZ : Hid (s.size ≤ 1000) := by show _ ≤ _; omega
      clear e5
      go_enter Try.func45, Try.ntmps45
      go_wp2_with (first | (go_at_call 62; refine (peek_any H1.out HL.out 0 (by omega)).mono ?_; rintro e w1 ⟨rfl, hf1⟩; simp only [List.getElem?_cons_zero, Option.getD]; have c0 := blk_cell (H1.out.keep0 hf1).obj 0; simp at c0) | ((with_reducible refine at_inv ?_); refine wpList_invoke0 rfl _ _ rfl (.iface 99 (.string s)) rfl _ _ (cmLen99 _ _) _ (len_str w1 s HZ.out) ?_; rintro e w2 ⟨rfl, hf2⟩; refine ⟨_, rfl, ?_⟩) | (go_at_call 64; refine (swap_st (H1.out.keep0 (hf1.trans hf2)) (H2.out.kept (hf1.trans hf2).kc0) HR.out 1 (by simp) (Sh.tI (by unfold w64; have := HZ.out; omega))).mono ?_; rintro e w3 ⟨rfl, sl3, h3, m3⟩))
      go_ret
      exact ⟨rfl, sl3, h3, Mv.frl (hf1.trans hf2) m3⟩
    · clear h3
      simp only [lenW, e1, e2, e4]
      have hz : (kids t).length ≤ 30 := Nat.le_trans (kids_len t false) (HW.out.2 t (by simp))
      have HZ : Hid ((kids t).length ≤ 1000) := by show _ ≤ _; omega
      generalize hK : (kids t).length = K at *
      have HKK : Hid ((kids t).length = K) := hK
      clear hK
      go_enter Try.func45, Try.ntmps45
      go_wp2_with (first | (go_at_call 62; refine (peek_any H1.out HL.out 0 (by omega)).mono ?_; rintro e w1 ⟨rfl, hf1⟩; simp only [List.getElem?_cons_zero, Option.getD]; have c0 := blk_cell (H1.out.keep0 hf1).obj 0; simp at c0) | ((with_reducible refine at_inv ?_); refine wpList_invoke0 rfl _ _ rfl (.iface 75 (ptrO k)) rfl _ _ (cmLen75 _ _) _ (len_list (Sh.kept hf1.kc0 _ _ HS.out) (by rw [HKK.out]; exact HZ.out)) ?_; rintro e w2 ⟨rfl, hf2⟩; refine ⟨_, rfl, ?_⟩; rw [HKK.out]) | (go_at_call 64; refine (swap_st (H1.out.keep0 (hf1.trans hf2)) (H2.out.kept (hf1.trans hf2).kc0) HR.out 1 (by simp) (Sh.tI (by unfold w64; have := HZ.out; omega))).mono ?_; rintro e w3 ⟨rfl, sl3, h3, m3⟩))
      go_ret
      exact ⟨rfl, sl3, h3, Mv.frl (hf1.trans hf2) m3⟩
    · clear h3
      simp only [lenW, isI, isS, isP]
      clear hB ha hb
      simp only [kids, List.length_cons, List.length_nil]
      go_enter Try.func45, Try.ntmps45
      go_wp2_with (first | (go_at_call 62; refine (peek_any H1.out HL.out 0 (by omega)).mono ?_; rintro e w1 ⟨rfl, hf1⟩; simp only [List.getElem?_cons_zero, Option.getD]; have c0 := blk_cell (H1.out.keep0 hf1).obj 0; simp at c0) | ((with_reducible refine at_inv ?_); refine wpList_invoke0 rfl _ _ rfl (.iface 92 (.pointer (some ⟨B, 0, none⟩))) rfl _ _ (cmLen92 _ _) _ (len_pair w1 _) ?_; rintro e w2 ⟨rfl, hf2⟩; refine ⟨_, rfl, ?_⟩) | (go_at_call 64; refine (swap_st (H1.out.keep0 (hf1.trans hf2)) (H2.out.kept (hf1.trans hf2).kc0) HR.out 1 (by simp) (Sh.tI (by unfold w64; omega))).mono ?_; rintro e w3 ⟨rfl, sl3, h3, m3⟩))
      go_ret
      exact ⟨rfl, sl3, h3, Mv.frl (hf1.trans hf2) m3⟩
end Go.Proofs.Qxb6500336a
