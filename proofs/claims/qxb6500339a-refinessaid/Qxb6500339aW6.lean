import Derived.Test.Qxb6500339aW5
namespace Go.Proofs.Qxb6500339a
open Go.RowKit
set_option linter.unusedVariables false
set_option linter.unusedSimpArgs false

/-! ### What Deposit and Transfer answer and leave -/
def depE (B : Nat → Int) (a v : Int) : Int := if 0 ≤ a ∧ a < 4 then (if v ≤ 0 then 3 else if 1000 - B a.toNat < v then 5 else 0) else 1
def depS (B : Nat → Int) (a v : Int) : Nat → Int := if depE B a v = 0 then upd B a.toNat (B a.toNat + v) else B
def trE (B : Nat → Int) (f t v : Int) : Int := if 0 ≤ f ∧ f < 4 then (if 0 ≤ t ∧ t < 4 then (if f = t then 2 else if v ≤ 0 then 3 else if B f.toNat < v then 4 else if 1000 - B t.toNat < v then 5 else 0) else 1) else 1
def trS (B : Nat → Int) (f t v : Int) : Nat → Int := if trE B f t v = 0 then upd (upd B f.toNat (B f.toNat - v)) t.toNat (B t.toNat + v) else B

theorem dep_ok {B : Nat → Int} {a v : Int} (h : depE B a v = 0) : ∃ q : Nat, a = q ∧ q < 4 ∧ 0 < v ∧ v ≤ 1000 - B q := by
  unfold depE at h
  by_cases h1 : 0 ≤ a ∧ a < 4
  · rw [if_pos h1] at h
    by_cases h2 : v ≤ 0
    · rw [if_pos h2] at h; omega
    · rw [if_neg h2] at h
      by_cases h3 : 1000 - B a.toNat < v
      · rw [if_pos h3] at h; omega
      · exact ⟨a.toNat, by omega, by omega, by omega, by omega⟩
  · rw [if_neg h1] at h; omega
theorem tr_ok {B : Nat → Int} {f t v : Int} (h : trE B f t v = 0) : ∃ p q : Nat, f = p ∧ t = q ∧ p < 4 ∧ q < 4 ∧ p ≠ q ∧ 0 < v ∧ v ≤ B p ∧ v ≤ 1000 - B q := by
  unfold trE at h
  by_cases h1 : 0 ≤ f ∧ f < 4
  · rw [if_pos h1] at h
    by_cases h2 : 0 ≤ t ∧ t < 4
    · rw [if_pos h2] at h
      by_cases h3 : f = t
      · rw [if_pos h3] at h; omega
      · rw [if_neg h3] at h
        by_cases h4 : v ≤ 0
        · rw [if_pos h4] at h; omega
        · rw [if_neg h4] at h
          by_cases h5 : B f.toNat < v
          · rw [if_pos h5] at h; omega
          · rw [if_neg h5] at h
            by_cases h6 : 1000 - B t.toNat < v
            · rw [if_pos h6] at h; omega
            · exact ⟨f.toNat, t.toNat, by omega, by omega, by omega, by omega, by omega, by omega, by omega, by omega⟩
    · rw [if_neg h2] at h; omega
  · rw [if_neg h1] at h; omega
theorem lt4 {p : Nat} (h : p < 4) : p = 0 ∨ p = 1 ∨ p = 2 ∨ p = 3 := by omega
theorem OkB.dep {B : Nat → Int} {q : Nat} {v : Int} (h : OkB B) (hq : q < 4) (h0 : 0 < v) (h1 : v ≤ 1000 - B q) : OkB (upd B q (B q + v)) := fun i hi => by
  have := h i hi; have := h q hq
  unfold upd; split <;> omega
theorem OkB.tr {B : Nat → Int} {p q : Nat} {v : Int} (h : OkB B) (hp : p < 4) (hq : q < 4) (hne : p ≠ q) (h0 : 0 < v) (h1 : v ≤ B p) (h2 : v ≤ 1000 - B q) : OkB (upd (upd B p (B p - v)) q (B q + v)) := fun i hi => by
  have := h i hi; have := h q hq; have := h p hp
  unfold upd; split
  · omega
  · split <;> omega
theorem hv_dep {B : Nat → Int} {q : Nat} {v : Int} (hq : q < 4) : hv (upd B q (B q + v)) q = B q + v ∧ hv (upd B q (B q + v)) 4 = sumB B + v ∧ ∀ i, i < 5 → i ≠ q → i ≠ 4 → hv (upd B q (B q + v)) i = hv B i := by
  refine ⟨?_, ?_, fun i hi h1 h2 => ?_⟩
  · unfold hv; rw [if_neg (by omega), upd_same]
  · unfold hv; rw [if_pos rfl]; unfold sumB
    rcases lt4 hq with rfl | rfl | rfl | rfl <;> simp [upd] <;> omega
  · unfold hv; rw [if_neg h2, if_neg h2, upd_other _ _ _ _ h1]
theorem hv_tr {B : Nat → Int} {p q : Nat} {v : Int} (hp : p < 4) (hq : q < 4) (hne : p ≠ q) : hv (upd (upd B p (B p - v)) q (B q + v)) p = B p - v ∧ hv (upd (upd B p (B p - v)) q (B q + v)) q = B q + v ∧ ∀ i, i < 5 → i ≠ p → i ≠ q → hv (upd (upd B p (B p - v)) q (B q + v)) i = hv B i := by
  refine ⟨?_, ?_, fun i hi h1 h2 => ?_⟩
  · unfold hv; rw [if_neg (by omega), upd_other _ _ _ _ hne, upd_same]
  · unfold hv; rw [if_neg (by omega), upd_same]
  · unfold hv
    by_cases h4 : i = 4
    · rw [if_pos h4, if_pos h4]; unfold sumB
      rcases lt4 hp with rfl | rfl | rfl | rfl <;> rcases lt4 hq with rfl | rfl | rfl | rfl <;> first | (exfalso; exact hne rfl) | (simp [upd]; omega)
    · rw [if_neg h4, if_neg h4, upd_other _ _ _ _ h2, upd_other _ _ _ _ h1]
theorem OkB.depS {B : Nat → Int} (h : OkB B) (a v : Int) : OkB (depS B a v) := by
  unfold Go.Proofs.Qxb6500339a.depS
  by_cases h0 : depE B a v = 0
  · rw [if_pos h0]; obtain ⟨q, rfl, hq, h1, h2⟩ := dep_ok h0; rw [Int.toNat_natCast]; exact h.dep hq h1 h2
  · rw [if_neg h0]; exact h
theorem OkB.trS {B : Nat → Int} (h : OkB B) (f t v : Int) : OkB (trS B f t v) := by
  unfold Go.Proofs.Qxb6500339a.trS
  by_cases h0 : trE B f t v = 0
  · rw [if_pos h0]; obtain ⟨p, q, rfl, rfl, hp, hq, hne, h1, h2, h3⟩ := tr_ok h0; rw [Int.toNat_natCast, Int.toNat_natCast]; exact h.tr hp hq hne h1 h2 h3
  · rw [if_neg h0]; exact h

/-! ### The model's block -/
def mC (B : Nat → Int) : Array Value := #[.int .i64 (B 0), .int .i64 (B 1), .int .i64 (B 2), .int .i64 (B 3)]
def Mm (w : World) (m : Nat) (B : Nat → Int) : Prop := w.heap[m]? = some (.cells (mC B) 52)
theorem Mm.c {w : World} {m : Nat} {B : Nat → Int} (h : Mm w m B) {p : Nat} (hp : p < 4) : w.cell? ⟨m, p, none⟩ = some (.int .i64 (B p)) := by
  rcases lt4 hp with rfl | rfl | rfl | rfl <;> exact blk_cell h _
theorem Mm.set {w : World} {m : Nat} {B : Nat → Int} (h : Mm w m B) {p : Nat} (hp : p < 4) (v : Int) : Mm (w.setCell ⟨m, p, none⟩ (.int .i64 v)) m (upd B p v) := by
  unfold Mm; rw [blk_set h]; rcases lt4 hp with rfl | rfl | rfl | rfl <;> rfl
theorem Mm.keep {w w' : World} {m : Nat} {B : Nat → Int} {S : List Nat} (h : Mm w m B) (hf : Fr S w w') (hn : m ∉ S) : Mm w' m B := Fr.keep hf h hn

set_option maxHeartbeats 800000 in
theorem mnew_any (w : World) : Calls Try.prog 10 #[] w fun e w' => e = .returned (.pointer (some ⟨w.heap.size, 0, none⟩)) ∧ Mm w' w.heap.size (fun _ => 0) ∧ Fr [] w w' := by
  go_enter Try.func10, Try.ntmps10
  go_wp2
  go_ret
  exact ⟨rfl, blk_new _ _, (Fr.refl _ _).alloc _⟩

set_option maxHeartbeats 800000 in
theorem clone_any (w : World) (m : Nat) (B : Nat → Int) (h : Mm w m B) : Calls Try.prog 11 #[.pointer (some ⟨m, 0, none⟩)] w fun e w' => e = .returned (.pointer (some ⟨w.heap.size, 0, none⟩)) ∧ Mm w' w.heap.size B ∧ Fr [] w w' := by
  have c0 := h.c (p := 0) (by omega)
  have c1 := h.c (p := 1) (by omega)
  have c2 := h.c (p := 2) (by omega)
  have c3 := h.c (p := 3) (by omega)
  have hl := blk_lt h
  clear h
  go_enter Try.func11, Try.ntmps11
  go_wp2
  go_ret
  exact ⟨rfl, blk_new _ _, (Fr.refl _ _).alloc _⟩

set_option maxHeartbeats 800000 in
theorem crashed_any (w : World) (m : Nat) (B : Nat → Int) (h : Mm w m B) : Calls Try.prog 17 #[.pointer (some ⟨m, 0, none⟩)] w fun e w' => e = .returned (.pointer (some ⟨w.heap.size, 0, none⟩)) ∧ Mm w' w.heap.size B ∧ Fr [] w w' := by
  have H : Hid (Mm w m B) := h
  clear h
  go_enter Try.func17, Try.ntmps17
  go_wp2_with fail
  go_at_call 11
  refine (clone_any _ m B H.out).mono ?_
  rintro e w1 ⟨rfl, hm, hf⟩
  have HM : Hid (Mm w1 w.heap.size B) := hm
  clear hm
  go_wp2
  go_ret
  exact ⟨rfl, HM.out, hf⟩

set_option maxHeartbeats 800000 in
theorem mbalance_any (w : World) (m : Nat) (B : Nat → Int) (h : Mm w m B) (a : Nat) (ha : a < 4) : Calls Try.prog 31 #[.pointer (some ⟨m, 0, none⟩), .int .i64 a] w fun e w' => e = .returned (.tuple #[.int .i64 (B a), .int .i64 0]) ∧ Fr [] w w' := by
  have c := h.c ha
  have hai : (a : Int) < 4 := by omega
  clear h
  go_enter Try.func31, Try.ntmps31
  go_wp2
  go_ret2
  exact ⟨rfl, Fr.refl _ _⟩
set_option maxHeartbeats 800000 in
theorem mbalance_out (w : World) (m : Nat) (a : Int) (ha : ¬ (0 ≤ a ∧ a < 4)) : Calls Try.prog 31 #[.pointer (some ⟨m, 0, none⟩), .int .i64 a] w fun e w' => e = .returned (.tuple #[.int .i64 0, .int .i64 1]) ∧ Fr [] w w' := by
  by_cases h : a < 0
  · go_enter Try.func31, Try.ntmps31
    go_wp2
    go_ret2
    exact ⟨rfl, Fr.refl _ _⟩
  · have h2 : 4 ≤ a := by omega
    go_enter Try.func31, Try.ntmps31
    go_wp2
    go_ret2
    exact ⟨rfl, Fr.refl _ _⟩
set_option maxHeartbeats 1600000 in
theorem mtotal_any (w : World) (m : Nat) (B : Nat → Int) (h : Mm w m B) (hB : OkB B) : Calls Try.prog 33 #[.pointer (some ⟨m, 0, none⟩)] w fun e w' => e = .returned (.int .i64 (sumB B)) ∧ Fr [] w w' := by
  have c0 := h.c (p := 0) (by omega)
  have c1 := h.c (p := 1) (by omega)
  have c2 := h.c (p := 2) (by omega)
  have c3 := h.c (p := 3) (by omega)
  have b0 := hB 0 (by omega)
  have b1 := hB 1 (by omega)
  have b2 := hB 2 (by omega)
  have b3 := hB 3 (by omega)
  clear h hB
  go_enter Try.func33, Try.ntmps33
  go_wp2
  go_rounds 5
  go_ret
  exact ⟨ret_int (by unfold sumB; omega), Fr.refl _ _⟩

set_option maxHeartbeats 3200000 in
theorem mdeposit_any (w : World) (m : Nat) (B : Nat → Int) (h : Mm w m B) (hB : OkB B) (a v : Int) : Calls Try.prog 35 #[.pointer (some ⟨m, 0, none⟩), .int .i64 a, .int .i64 v] w fun e w' => e = .returned (.int .i64 (depE B a v)) ∧ Mm w' m (depS B a v) ∧ Fr [m] w w' := by
  have HM : Hid (Mm w m B) := h
  by_cases h1 : 0 ≤ a ∧ a < 4
  · obtain ⟨q, rfl⟩ : ∃ q : Nat, a = q := ⟨a.toNat, by omega⟩
    have hq : q < 4 := by omega
    have hqi : (q : Int) < 4 := by omega
    have c := h.c hq
    have f := blk_frozen h q
    have b := hB q hq
    by_cases h2 : v ≤ 0
    · have HE : Hid (depE B q v = 3) := by show _ = _; unfold depE; rw [if_pos h1, if_pos h2]
      have HS : Hid (depS B q v = B) := by show _ = _; unfold depS; rw [HE.out]; rfl
      clear h hB
      go_enter Try.func35, Try.ntmps35
      go_wp2
      go_ret
      exact ⟨ret_int HE.out.symm, by rw [HS.out]; exact HM.out, Fr.refl _ _⟩
    · by_cases h3 : 1000 - B q < v
      · have HE : Hid (depE B q v = 5) := by show _ = _; unfold depE; rw [if_pos h1, if_neg h2, Int.toNat_natCast, if_pos h3]
        have HS : Hid (depS B q v = B) := by show _ = _; unfold depS; rw [HE.out]; rfl
        clear h hB
        go_enter Try.func35, Try.ntmps35
        go_wp2
        go_ret
        exact ⟨ret_int HE.out.symm, by rw [HS.out]; exact HM.out, Fr.refl _ _⟩
      · have HE : Hid (depE B q v = 0) := by show _ = _; unfold depE; rw [if_pos h1, if_neg h2, Int.toNat_natCast, if_neg h3]
        have HS : Hid (depS B q v = upd B q (B q + v)) := by show _ = _; unfold depS; rw [if_pos HE.out, Int.toNat_natCast]
        clear h hB
        go_enter Try.func35, Try.ntmps35
        go_wp2
        go_region
        go_wp2
        go_ret
        exact ⟨ret_int HE.out.symm, by rw [HS.out]; exact HM.out.set hq _, ((Fr.refl _ _).setCell (Or.inl (by simp)) _).drew⟩
  · have HE : Hid (depE B a v = 1) := by show _ = _; unfold depE; rw [if_neg h1]
    have HS : Hid (depS B a v = B) := by show _ = _; unfold depS; rw [HE.out]; rfl
    clear h hB
    by_cases h0 : a < 0
    · go_enter Try.func35, Try.ntmps35
      go_wp2
      go_ret
      exact ⟨ret_int HE.out.symm, by rw [HS.out]; exact HM.out, Fr.refl _ _⟩
    · have h4 : 4 ≤ a := by omega
      go_enter Try.func35, Try.ntmps35
      go_wp2
      go_ret
      exact ⟨ret_int HE.out.symm, by rw [HS.out]; exact HM.out, Fr.refl _ _⟩
end Go.Proofs.Qxb6500339a
