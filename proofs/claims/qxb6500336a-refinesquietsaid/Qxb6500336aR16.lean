import Derived.Test.Qxb6500336aR15
import Derived.Test.Qxb6500336aW27
namespace Go.Proofs.Qxb6500336a
open Go.RowKit
set_option linter.unusedVariables false
set_option linter.unusedSimpArgs false

/-- The cells of the value at place j from the bottom. -/
theorem Mt.up {w : World} {m : Nat} {sl : Value} {rs : List Code} {vs : List (List Value)} (h : Mt w m sl rs vs) {j : Nat} (hj : j < rs.length) :
    ∃ t g cap tag n s ks, rs.reverse[j]? = some t ∧ t ∈ rs ∧ sl = .slice (some ⟨g, 0, none⟩) rs.length cap ∧ Ms w (Oa m sl) false t [cells4 tag n s ks] ∧
      w.cell? ⟨g, j * 4, none⟩ = some (.int .i64 tag) ∧ w.cell? ⟨g, j * 4 + 1, none⟩ = some (.int .i64 n) ∧ w.cell? ⟨g, j * 4 + 2, none⟩ = some (.string s) ∧ w.cell? ⟨g, j * 4 + 3, none⟩ = some ks := by
  obtain ⟨t, ht⟩ : ∃ t, rs[rs.length - 1 - j]? = some t := ⟨_, List.getElem?_eq_getElem (by omega)⟩
  obtain ⟨g, cap, tag, n, s, ks, h1, _, h3, _, _, e0, e1, e2, e3⟩ := h.at ht
  rw [show rs.length - 1 - (rs.length - 1 - j) = j from by omega] at e0 e1 e2 e3
  exact ⟨t, g, cap, tag, n, s, ks, by rw [List.getElem?_reverse hj]; exact ht, List.mem_of_getElem? ht, h1, h3, e0, e1, e2, e3⟩

set_option maxHeartbeats 3200000 in
set_option maxRecDepth 100000 in
theorem mshowS_any {w : World} {m : Nat} {sl : Value} {rs : List Code} {vs : List (List Value)} (h : Mt w m sl rs vs) (hw : Wf rs) :
    Calls Try.prog 75 #[.pointer (some ⟨m, 0, none⟩)] w fun e w' => e = .returned (.string (showS rs)) ∧ Fr [] w w' := by
  have H : Hid (Mt w m sl rs vs) := h
  have HW : Hid (Wf rs) := hw
  have hl5 : rs.length ≤ 5 := hw.1
  have HSZ : Hid ((showS rs).size ≤ 300) := showS_size hw
  obtain ⟨p, cap, hsl⟩ := h.len
  have c0 := blk_cell h.obj 0
  simp at c0
  rw [hsl, h.ms.len] at c0
  have HSL : Hid (sl = .slice p rs.length cap) := by show _ = _; rw [hsl, h.ms.len]
  clear h hw hsl
  generalize hL : rs.length = L at *
  have HLL : Hid (rs.length = L) := hL
  clear hL
  go_enter Try.func75, Try.ntmps75
  go_wp2_with (go_at_call 34; refine (itoa_any _ _ (by unfold w64; omega)).mono ?_; rintro e w1 ⟨rfl, hf1⟩; have c1 := hf1.cell c0)
  go_loopw [3, 4, 5] (fun t i _ wr => ∃ (j : Nat) (acc : ByteArray), t = .string acc ∧ i = .int .i64 j ∧ j ≤ L ∧ Hid (Fr [] w wr) ∧ Hid (showS rs = catP (rs.reverse.drop j) acc)) (fun _ i _ _ => L - (intOf i).toNat)
  case atStart => exact ⟨0, _, rfl, rfl, by omega, hf1, by show _ = _; rw [List.drop_zero, ← HLL.out]; rfl⟩
  case round =>
    obtain ⟨j, acc, rfl, rfl, hj, HF, HC⟩ := hrel
    have c2 := HF.out.cell c0
    by_cases hlt : j < L
    · obtain ⟨t, g, cap', tag, n, s, ks, ht, hmem, e1, hms, d0, d1, d2, d3⟩ := H.out.up (j := j) (by have := HLL.out; omega)
      rw [HSL.out] at e1
      simp at e1
      obtain ⟨rfl, -⟩ := e1
      have k0 := HF.out.cell d0
      have k1 := HF.out.cell d1
      have k2 := HF.out.cell d2
      have k3 := HF.out.cell d3
      have HMS : Hid (Ms wr (Oa m sl) false t [cells4 tag n s ks]) := Ms.kept HF.out.widen (fun b hb => Or.inl hb) _ _ _ hms
      have hzt : (tx false t).size ≤ 30 := HW.out.2 t hmem
      have hd : rs.reverse.drop j = t :: rs.reverse.drop (j + 1) := by rw [List.drop_eq_getElem?_toList_append, ht]; rfl
      have HC2 : Hid (showS rs = catP (rs.reverse.drop (j + 1)) (acc ++ ((⟨#[32]⟩ : ByteArray) ++ tx false t))) := by
        show _ = _
        rw [HC.out, hd]; rfl
      have hz2 : (acc ++ ((⟨#[32]⟩ : ByteArray) ++ tx false t)).size ≤ 300 := by
        have h5 := catP_mono (rs.reverse.drop (j + 1)) (acc ++ ((⟨#[32]⟩ : ByteArray) ++ tx false t))
        rw [← HC2.out] at h5
        have := HSZ.out
        omega
      have h32 : ByteArray.size ⟨#[32]⟩ = 1 := rfl
      simp only [ByteArray.size_append, h32] at hz2
      have HZT : Hid ((tx false t).size ≤ 1000) := by show _ ≤ _; omega
      generalize hX : tx false t = X at *
      have HX : Hid (tx false t = X) := hX
      have q1 : ¬ 9223372036854775807 < 1 + X.size := by omega
      have q2 : ¬ 9223372036854775807 < acc.size + (1 + X.size) := by omega
      clear d0 d1 d2 d3 ht hmem hd hms hX h32
      go_wp2_with (go_at_call 83; refine ((text_all t).1 _ (Oa m sl) tag n s ks HMS.out (by rw [HX.out]; exact HZT.out)).mono ?_; rw [HX.out]; rintro e w2 ⟨rfl, hf2⟩)
      go_roundw
      case rel => exact ⟨j + 1, _, rfl, by go_num, by omega, HF.out.trans hf2, HC2⟩
      case measure => simp [intOf]; omega
    · have hjj : j = L := by omega
      have HC2 : Hid (showS rs = acc) := by
        show _ = _
        rw [HC.out, hjj, List.drop_eq_nil_of_le (by simp [HLL.out])]; rfl
      go_wp2
      go_ret
      exact ⟨by rw [HC2.out]; rfl, HF.out⟩

set_option maxHeartbeats 3200000 in
set_option maxRecDepth 100000 in
theorem mcheckS_any {w : World} {m : Nat} {sl : Value} {rs : List Code} {vs : List (List Value)} (h : Mt w m sl rs vs) (hw : Wf rs) :
    Calls Try.prog 76 #[.pointer (some ⟨m, 0, none⟩)] w fun e w' => e = .returned (.bool true) ∧ Fr [] w w' := by
  have H : Hid (Mt w m sl rs vs) := h
  have HW : Hid (Wf rs) := hw
  have hl5 : rs.length ≤ 5 := hw.1
  obtain ⟨p, cap, hsl⟩ := h.len
  have c0 := blk_cell h.obj 0
  simp at c0
  rw [hsl, h.ms.len] at c0
  have HSL : Hid (sl = .slice p rs.length cap) := by show _ = _; rw [hsl, h.ms.len]
  clear h hw hsl
  generalize hL : rs.length = L at *
  have HLL : Hid (rs.length = L) := hL
  clear hL
  go_enter Try.func76, Try.ntmps76
  go_wp2
  go_loopw [3, 4] (fun i _ wr => ∃ (j : Nat), i = .int .i64 j ∧ j ≤ L ∧ Hid (Fr [] w wr)) (fun i _ _ => L - (intOf i).toNat)
  case atStart => exact ⟨0, rfl, by omega, Fr.refl _ _⟩
  case round =>
    obtain ⟨j, rfl, hj, HF⟩ := hrel
    have c2 := HF.out.cell c0
    by_cases hlt : j < L
    · obtain ⟨t, g, cap', tag, n, s, ks, ht, hmem, e1, hms, d0, d1, d2, d3⟩ := H.out.up (j := j) (by have := HLL.out; omega)
      rw [HSL.out] at e1
      simp at e1
      obtain ⟨rfl, -⟩ := e1
      have k0 := HF.out.cell d0
      have k1 := HF.out.cell d1
      have k2 := HF.out.cell d2
      have k3 := HF.out.cell d3
      have HMS : Hid (Ms wr (Oa m sl) false t [cells4 tag n s ks]) := Ms.kept HF.out.widen (fun b hb => Or.inl hb) _ _ _ hms
      have hzt : (tx false t).size ≤ 30 := HW.out.2 t hmem
      generalize hX : tx false t = X at *
      have HX : Hid (tx false t = X) := hX
      have HZT : Hid (X.size ≤ 30) := hzt
      clear d0 d1 d2 d3 ht hmem hms hX
      go_wp2_with (first | (go_at_call 84; refine ((msound_all t).1 _ (Oa m sl) tag n s ks HMS.out (by have := HZT.out; rw [HX.out]; omega)).mono ?_; rintro e w1 ⟨rfl, hf1⟩; have HF1 : Hid (Fr [] wr w1) := hf1; have m0 := hf1.cell k0; have m1 := hf1.cell k1; have m2 := hf1.cell k2; have m3 := hf1.cell k3; have m4 := hf1.cell c2; clear hf1) | (go_at_call 83; refine ((text_all t).1 _ (Oa m sl) tag n s ks (Ms.kept HF1.out.widen (fun b hb => Or.inl hb) _ _ _ HMS.out) (by have := HZT.out; rw [HX.out]; omega)).mono ?_; rw [HX.out]; rintro e w2 ⟨rfl, hf2⟩))
      go_roundw
      case rel => exact ⟨j + 1, by go_num, by omega, (HF.out.trans HF1.out).trans hf2⟩
      case measure => simp [intOf]; omega
    · go_wp2
      go_ret
      exact ⟨by simp; omega, HF.out⟩

theorem mnewS_any {w : World} : Calls Try.prog 58 #[] w fun e w' => e = .returned (.pointer (some ⟨w.heap.size, 0, none⟩)) ∧ w' = w.alloc (.cells #[.slice none 0 0] 105) := by
  go_enter Try.func58, Try.ntmps58
  go_wp2
  go_ret
  exact ⟨rfl, rfl⟩
theorem Mt.new {w : World} {m : Nat} (h : w.heap[m]? = some (.cells #[.slice none 0 0] 105)) : Mt w m (.slice none 0 0) [] [] := ⟨h, own_nil w, trivial⟩
end Go.Proofs.Qxb6500336a
