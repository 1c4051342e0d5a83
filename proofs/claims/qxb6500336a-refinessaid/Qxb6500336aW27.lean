import Derived.Test.Qxb6500336aP2
namespace Go.Proofs.Qxb6500336a
open Go.RowKit
set_option linter.unusedVariables false
set_option linter.unusedSimpArgs false

/-- The texts behind one another, each behind a blank; the bottom first: the list comes bottom first. -/
def catP : List Code → ByteArray → ByteArray
  | [], t => t
  | a :: r, t => catP r (t ++ ((⟨#[32]⟩ : ByteArray) ++ tx false a))
def showS (rs : List Code) : ByteArray := catP rs.reverse (itoa rs.length)
def showM (acc : Int) (rs : List Code) : ByteArray := (((⟨#[97, 99, 99, 61]⟩ : ByteArray) ++ itoa acc) ++ ⟨#[32, 124, 32]⟩) ++ showS rs

theorem catP_size : ∀ (l : List Code) (t : ByteArray), (∀ x ∈ l, (tx false x).size ≤ 30) → (catP l t).size ≤ t.size + 31 * l.length
  | [], t, _ => by simp [catP]
  | a :: r, t, h => by
    have h1 := catP_size r (t ++ ((⟨#[32]⟩ : ByteArray) ++ tx false a)) (fun x hx => h x (by simp [hx]))
    have h2 := h a (by simp)
    have h3 : ByteArray.size ⟨#[32]⟩ = 1 := rfl
    simp only [ByteArray.size_append] at h1
    simp only [catP, List.length_cons]
    omega
theorem catP_mono : ∀ (l : List Code) (t : ByteArray), t.size ≤ (catP l t).size
  | [], t => Nat.le_refl _
  | a :: r, t => by
    have h1 := catP_mono r (t ++ ((⟨#[32]⟩ : ByteArray) ++ tx false a))
    simp only [ByteArray.size_append] at h1
    simp only [catP]
    omega
theorem showS_size {rs : List Code} (h : Wf rs) : (showS rs).size ≤ 300 := by
  have h1 := catP_size rs.reverse (itoa rs.length) (fun x hx => h.2 x (by simpa using hx))
  have h2 := itoa_size rs.length
  have h3 := h.1
  simp at h1
  unfold showS
  omega

set_option maxHeartbeats 3200000 in
set_option maxRecDepth 100000 in
theorem sshow_any {w : World} {S : Nat} {sl : Value} {rs : List Code} (h : St w S sl rs) (hw : Wf rs) :
    Calls Try.prog 35 #[.pointer (some ⟨S, 0, none⟩)] w fun e w' => e = .returned (.string (showS rs)) ∧ Fr [] w w' := by
  obtain ⟨us, h1, h2⟩ := h
  have hlen := h2.len
  have hl5 := hw.1
  have c0 := blk_cell h1.obj 0
  simp at c0
  have H1 : Hid (Stv w S sl us false) := h1
  have HS : Hid (Shs w rs.reverse us.reverse) := h2.rev
  have HLN : Hid (us.length = rs.length) := hlen
  have HW : Hid (Wf rs) := hw
  have hcell : ∀ g, sl.ownBlock = some g → ∀ j v, us.reverse[j]? = some v → w.cell? ⟨g, j, none⟩ = some v := by
    intro g hg j v hv
    have := h1.row.cells hg j v hv
    rwa [show (⟨g, 0, none⟩ : Addr).add j = ⟨g, j, none⟩ from by unfold Addr.add; split <;> simp_all] at this
  have hpn : 0 < us.length → ∃ g, sl = .slice (some ⟨g, 0, none⟩) us.length ((fun v => match v with | .slice _ _ c => c | _ => 0) sl) := by
    intro h0
    rcases h1.form with ⟨e, rfl⟩ | ⟨g, cap', cur, e, _⟩
    · simp at h0
    · exact ⟨g, by rw [e]⟩
  obtain ⟨p, cap, rfl⟩ := h1.len
  have HCL : Hid _ := hcell
  have HPN : Hid (0 < us.length → ∃ g, p = some ⟨g, 0, none⟩) := by
    intro h0
    obtain ⟨g, e⟩ := hpn h0
    simp at e
    exact ⟨g, e⟩
  have HSZ : Hid ((showS rs).size ≤ 300) := showS_size hw
  clear h1 h2 hcell hpn hw
  have hu5 : us.length ≤ 5 := by omega
  clear hlen hl5
  go_enter Try.func35, Try.ntmps35
  go_wp2_with (go_at_call 34; refine (itoa_any _ _ (by unfold w64; omega)).mono ?_; rintro e w1 ⟨rfl, hf1⟩; have c1 := blk_cell (H1.out.keep0 hf1).obj 0; simp at c1)
  go_loopw [3, 18] (fun t i wr => ∃ (j : Nat) (acc : ByteArray), t = .string acc ∧ i = .int .i64 j ∧ j ≤ us.length ∧ Fr [] w wr ∧ Hid (showS rs = catP (rs.reverse.drop j) acc)) (fun _ i _ => us.length - (intOf i).toNat)
  case atStart => exact ⟨0, _, rfl, rfl, by omega, hf1, by show _ = _; rw [List.drop_zero, HLN.out]; rfl⟩
  case round =>
    obtain ⟨j, acc, rfl, rfl, hj, hf, HC⟩ := hrel
    by_cases hlt : j < us.length
    · obtain ⟨v, hv⟩ : ∃ v, us.reverse[j]? = some v := ⟨_, List.getElem?_eq_getElem (by simpa using hlt)⟩
      obtain ⟨t, ht, hsh⟩ := HS.out.get hv
      obtain ⟨g, rfl⟩ := HPN.out (by omega)
      obtain ⟨cur, hcur⟩ := owns_block H1.out.row (k := g) rfl
      have cj := HCL.out g rfl j v hv
      have c2 : wr.cell? ⟨g, j, none⟩ = some v := by
        rw [blk_cell (hf.keep hcur (by simp))]; rw [blk_cell hcur] at cj; exact cj
      have m1 := hsh.show
      have HSH : Hid (Sh wr t v) := Sh.kept hf.kc0 _ _ hsh
      have hd : rs.reverse.drop j = t :: rs.reverse.drop (j + 1) := by rw [List.drop_eq_getElem?_toList_append, ht]; rfl
      have HC2 : Hid (showS rs = catP (rs.reverse.drop (j + 1)) (acc ++ ((⟨#[32]⟩ : ByteArray) ++ tx false t))) := by
        show _ = _
        rw [HC.out, hd]; rfl
      have hz1 : acc.size + (1 + (tx false t).size) ≤ 300 := by
        have h5 := catP_mono (rs.reverse.drop (j + 1)) (acc ++ ((⟨#[32]⟩ : ByteArray) ++ tx false t))
        rw [← HC2.out] at h5
        have h6 := HSZ.out
        have h7 : ByteArray.size ⟨#[32]⟩ = 1 := rfl
        simp only [ByteArray.size_append] at h5
        omega
      have HZ : Hid ((tx false t).size ≤ 1000) := by show _ ≤ _; omega
      have g1 : ¬ 9223372036854775807 < 1 + (tx false t).size := by omega
      have g2 : ¬ 9223372036854775807 < acc.size + (1 + (tx false t).size) := by omega
      clear hv ht hsh hcur cj hd hz1
      go_wp2_with ((with_reducible refine at_inv ?_); refine wpList_invoke0 rfl _ _ rfl v rfl _ _ (m1 _) _ ((show_all t).1 v wr HSH.out HZ.out) ?_; rintro e w2 ⟨rfl, hf2⟩; refine ⟨_, rfl, ?_⟩)
      go_roundw
      case rel => exact ⟨j + 1, _, rfl, by go_num, by omega, hf.trans hf2, HC2⟩
      case measure => simp [intOf]; omega
    · have hjj : j = us.length := by omega
      have HC2 : Hid (showS rs = acc) := by
        show _ = _
        rw [HC.out, hjj, HLN.out, List.drop_eq_nil_of_le (by simp)]; rfl
      go_wp2
      go_ret
      rw [HC2.out]
      exact ⟨rfl, hf⟩

set_option maxHeartbeats 1600000 in
set_option maxRecDepth 100000 in
theorem mshow_any {w : World} {M S : Nat} {sl : Value} {acc : Int} {rs : List Code} (h : Mc w M S sl acc rs) (hw : Wf rs) :
    Calls Try.prog 28 #[.pointer (some ⟨M, 0, none⟩)] w fun e w' => e = .returned (.string (showM acc rs)) ∧ Fr [] w w' := by
  have H : Hid (Mc w M S sl acc rs) := h
  have HW : Hid (Wf rs) := hw
  have c0 := blk_cell h.obj 0
  have c1 := blk_cell h.obj 1
  simp [mch] at c0 c1
  have h1 := itoa_size acc
  have h2 := showS_size hw
  have g1 : ¬ 9223372036854775807 < 4 + (itoa acc).size := by omega
  have g2 : ¬ 9223372036854775807 < 4 + (itoa acc).size + 3 := by omega
  have g3 : ¬ 9223372036854775807 < 4 + (itoa acc).size + 3 + (showS rs).size := by omega
  clear h hw
  go_enter Try.func28, Try.ntmps28
  go_wp2_with (first | (go_at_call 34; refine (itoa_any _ _ H.out.a64).mono ?_; rintro e w1 ⟨rfl, hf1⟩; have hM1 := H.out.keep0 hf1; have c2 := blk_cell hM1.obj 0; simp [mch] at c2; have HM1 : Hid _ := hM1; clear hM1) | (go_at_call 35; refine (sshow_any HM1.out.st HW.out).mono ?_; rintro e w2 ⟨rfl, hf2⟩))
  go_ret
  exact ⟨rfl, hf1.trans hf2⟩

set_option maxHeartbeats 1600000 in
set_option maxRecDepth 100000 in
theorem cnew_any (w : World) (S : Nat) : Calls Try.prog 32 #[.pointer (some ⟨S, 0, none⟩)] w fun e w' => e = .returned (.pointer (some ⟨w.heap.size, 0, none⟩)) ∧ w' = w.alloc (.cells (mch S 0) 43) := by
  go_enter Try.func32, Try.ntmps32
  go_wp2
  go_ret
  exact ⟨rfl, rfl⟩

theorem tnew_any (w : World) : Calls Try.prog 26 #[] w fun e w' => e = .returned (.pointer (some ⟨w.heap.size + 1, 0, none⟩)) ∧ Mc w' (w.heap.size + 1) w.heap.size (.slice none 0 0) 0 [] ∧ Fr [] w w' := by
  go_enter Try.func26, Try.ntmps26
  go_wp2_with (first | (go_at_call 31; refine (vnew_any _).mono ?_; rintro e w1 ⟨rfl, rfl⟩) | (go_at_call 32; refine (cnew_any _ _).mono ?_; rintro e w2 ⟨rfl, rfl⟩))
  go_ret
  have hn := blk_new (w.alloc (.cells #[.slice none 0 0, .bool false] 55)) (.cells (mch w.heap.size 0) 43)
  simp only [World.size_alloc] at hn
  exact ⟨by simp, ⟨hn, (St.mk w).keep0 ((Fr.refl [] _).alloc _), by unfold w64; omega⟩, ((Fr.refl [] w).alloc _).alloc _⟩
end Go.Proofs.Qxb6500336a
