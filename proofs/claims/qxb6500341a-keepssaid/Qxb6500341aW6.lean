import Derived.Test.Qxb6500341aW5
import Derived.Test.Qxb6500341aPlainD
namespace Go.Proofs.Qxb6500341a
open Go.RowKit
set_option linter.unusedVariables false

/-- The real slip in block b bears the text t, and its invariant holds. -/
def Real (w : World) (b : Nat) (t : ByteArray) : Prop := ∃ l m1 m2, Slp w b t l (-1) m1 m2 ∧ Inv t l m1 m2

theorem Real.keep {S : List Nat} {w w' : World} {b : Nat} {t : ByteArray} (h : Real w b t) (hf : Fr S w w') (hn : b ∉ S) : Real w' b t := by
  obtain ⟨l, m1, m2, h1, h2⟩ := h
  exact ⟨l, m1, m2, hf.keep h1 hn, h2⟩

theorem Real.law {w : World} {b : Nat} {t : ByteArray} (h : Real w b t) : Law t := by
  obtain ⟨l, m1, m2, h1, h2⟩ := h
  exact ⟨h2.size, h2.law⟩

theorem load_long {t s : ByteArray} (h : 32 < s.size) : loadN s = 0 ∧ loadE s = 1 ∧ loadT t s = t := by simp [loadN, loadE, loadT, h]
theorem load_bad {t s : ByteArray} (h : ¬ 32 < s.size) (k : Nat) (hb : fbI 36 s.data.toList = k) : loadN s = k ∧ loadE s = 2 ∧ loadT t s = t := by
  simp [loadN, loadE, loadT, h, hb]
theorem load_ok {t s : ByteArray} (h : ¬ 32 < s.size) (hb : fbI 36 s.data.toList = -1) : loadN s = 0 ∧ loadE s = 0 ∧ loadT t s = s := by
  simp [loadN, loadE, loadT, h, hb]
theorem ret_two {a b c d : Int} (h1 : a = c) (h2 : b = d) : Ending.returned (.tuple #[.int .i64 a, .int .i64 b]) = .returned (.tuple #[.int .i64 c, .int .i64 d]) := by rw [h1, h2]

set_option maxHeartbeats 800000 in
theorem load_any (w : World) (b : Nat) (t s : ByteArray) (hs : s.size ≤ maxLen) (hr : Real w b t) :
    Calls Try.prog 28 #[.pointer (some ⟨b, 0, none⟩), .string s] w fun e w' => e = .returned (.tuple #[.int .i64 (loadN s), .int .i64 (loadE s)]) ∧ Real w' b (loadT t s) ∧ Fr [b] w w' := by
  unfold maxLen at hs
  by_cases h32 : 32 < s.size
  · have HL := load_long (t := t) h32
    have H1 : Hid (loadN s = 0 ∧ loadE s = 1 ∧ loadT t s = t) := HL
    clear HL
    go_enter Try.func28, Try.ntmps28
    go_wp2
    go_ret2
    exact ⟨ret_two H1.out.1.symm H1.out.2.1.symm, by rw [H1.out.2.2]; exact hr, Fr.refl _ _⟩
  · obtain ⟨l, m1, m2, hx, hinv⟩ := hr
    have hblt := blk_lt hx
    have HX : Hid (Slp w b t l (-1) m1 m2) := hx
    clear hx
    go_enter Try.func28, Try.ntmps28
    go_wp2
    go_loopw [6] (fun n w' => ∃ (pos : Nat) (acc : Int), w' = w.iter s pos ∧ n = .int .i64 acc ∧ pos ≤ s.size ∧ 0 ≤ acc ∧ acc ≤ pos ∧ Hid (acc = lets (s.data.toList.take pos)) ∧ Hid (allOk 36 (s.data.toList.take pos))) (fun _ w' => s.size - w'.iterPos w.heap.size)
    case atStart => exact ⟨0, 0, rfl, rfl, by omega, by omega, by omega, by show _ = _; simp [lets], fun c hc => by simp at hc⟩
    case round =>
      obtain ⟨pos, acc, rfl, rfl, hp0, ha0, ha1, HA, HO⟩ := hrel
      by_cases hp : pos < s.size
      · have HS : Hid (s.data.toList.take (pos + 1) = s.data.toList.take pos ++ [s[pos]]) := take_snoc s pos hp
        have hbd := byte_lt s[pos]
        by_cases hlo : s[pos].toNat < 128
        · have hnx : ∀ ty, (Instr.next (.pointer (some ⟨w.heap.size, 0, none⟩)) true ty).run Try.prog (w.iter s pos) = _ := fun ty => run_next_ascii w s pos ty hp hlo
          have HB : Hid (¬ ((48 ≤ s[pos].toNat ∧ s[pos].toNat ≤ 57) ∨ (65 ≤ s[pos].toNat ∧ s[pos].toNat ≤ 90)) → fbI 36 s.data.toList = pos) := fun h => fbI_at s.data.toList pos (by simpa using hp) HO.out (okB36_no h)
          go_wp2
          all_goals first
            | (go_roundw
               case rel => exact ⟨pos + 1, _, rfl, rfl, by omega, by omega, by omega, by show _ = _; rw [lets_snoc_dig s pos hp (by omega), HA.out], by show allOk _ _; rw [HS.out]; exact allOk_snoc HO.out (okB_digit (by omega) (by omega) (by omega))⟩
               case measure => simp; omega)
            | (go_roundw
               case rel => exact ⟨pos + 1, _, rfl, rfl, by omega, by omega, by omega, by show _ = _; rw [lets_snoc_let s pos hp (by omega) (by omega), HA.out], by show allOk _ _; rw [HS.out]; exact allOk_snoc HO.out (okB36_let (by omega) (by omega))⟩
               case measure => simp; omega)
            | (go_ret2
               have H1 := load_bad (t := t) h32 pos (HB.out (by omega))
               exact ⟨ret_two H1.1.symm H1.2.1.symm, by rw [H1.2.2]; exact ⟨l, m1, m2, blk_alloc HX.out _, hinv⟩, (Fr.refl _ _).alloc _⟩)
        · have hdh := decode_high s pos hp (by omega)
          have hno : ¬ ((48 ≤ s[pos].toNat ∧ s[pos].toNat ≤ 57) ∨ (65 ≤ s[pos].toNat ∧ s[pos].toNat ≤ 90)) := by omega
          have HB : Hid (fbI 36 s.data.toList = pos) := fbI_at s.data.toList pos (by simpa using hp) HO.out (okB36_no hno)
          clear hno
          have hnx : ∀ ty, (Instr.next (.pointer (some ⟨w.heap.size, 0, none⟩)) true ty).run Try.prog (w.iter s pos) = _ := fun ty => run_next_any w s pos ty hp
          go_wp2
          go_ret2
          have H1 := load_bad (t := t) h32 pos HB.out
          exact ⟨ret_two H1.1.symm H1.2.1.symm, by rw [H1.2.2]; exact ⟨l, m1, m2, blk_alloc HX.out _, hinv⟩, (Fr.refl _ _).alloc _⟩
      · have hnx : ∀ ty, (Instr.next (.pointer (some ⟨w.heap.size, 0, none⟩)) true ty).run Try.prog (w.iter s pos) = _ := fun ty => run_next_end w s pos ty hp
        have hxi : Slp (w.iter s pos) b t l (-1) m1 m2 := blk_alloc HX.out _
        have c0 := blk_cell hxi 0
        have c1 := blk_cell hxi 1
        have c2 := blk_cell hxi 2
        have c3 := blk_cell hxi 3
        have c4 := blk_cell hxi 4
        have f0 := blk_frozen hxi 0
        have f1 := blk_frozen hxi 1
        have f2 := blk_frozen hxi 2
        have f3 := blk_frozen hxi 3
        have f4 := blk_frozen hxi 4
        have HXI : Hid (Slp (w.iter s pos) b t l (-1) m1 m2) := hxi
        clear hxi
        go_wp2
        go_ret2
        have e : s.data.toList.take pos = s.data.toList := take_all s pos (by omega)
        have hok : allOk 36 s.data.toList := by have h := HO.out; rw [e] at h; exact h
        have hac : acc = lets s.data.toList := by have h := HA.out; rw [e] at h; exact h
        have H1 := load_ok (t := t) h32 (fbI_all hok)
        refine ⟨ret_two H1.1.symm H1.2.1.symm, ?_, ?_⟩
        · rw [H1.2.2]
          exact ⟨acc, -1, -1, blk_set (blk_set (blk_set (blk_set (blk_set HXI.out 0 _) 1 _) 2 _) 3 _) 4 _, ⟨by omega, hok, hac, Or.inl rfl, Or.inl rfl⟩⟩
        · exact ((((((Fr.refl _ _).alloc _).setCell (by simp) _).setCell (by simp) _).setCell (by simp) _).setCell (by simp) _).setCell (by simp) _

theorem Slm.keep {S : List Nat} {w w' : World} {b : Nat} {t : ByteArray} (h : Slm w b t) (hf : Fr S w w') (hn : b ∉ S) : Slm w' b t := Fr.keep hf h hn

set_option maxHeartbeats 800000 in
theorem loadm_any (w : World) (b : Nat) (t s : ByteArray) (hs : s.size ≤ maxLen) (hr : Slm w b t) :
    Calls Try.prog 31 #[.pointer (some ⟨b, 0, none⟩), .string s] w fun e w' => e = .returned (.tuple #[.int .i64 (loadN s), .int .i64 (loadE s)]) ∧ Slm w' b (loadT t s) ∧ Fr [b] w w' := by
  unfold maxLen at hs
  have hge := fbI_ge 36 s.data.toList
  by_cases h32 : 32 < s.size
  · have HL := load_long (t := t) h32
    have H1 : Hid (loadN s = 0 ∧ loadE s = 1 ∧ loadT t s = t) := HL
    clear HL
    go_enter Try.func31, Try.ntmps31
    go_wp2
    go_ret2
    exact ⟨ret_two H1.out.1.symm H1.out.2.1.symm, by rw [H1.out.2.2]; exact hr, Fr.refl _ _⟩
  · have c0 := blk_cell hr 0
    have f0 := blk_frozen hr 0
    have HX : Hid (Slm w b t) := hr
    clear hr
    go_enter Try.func31, Try.ntmps31
    go_wp2_with (go_at_call 40; refine (bad_any _ _ _ (by omega) (by omega) (by omega)).mono ?_; rintro e w' ⟨rfl, rfl⟩)
    · go_ret2
      have h0 : 0 ≤ fbI 36 s.data.toList := by assumption
      obtain ⟨k, hk⟩ := Int.eq_ofNat_of_zero_le h0
      have H1 := load_bad (t := t) h32 k hk
      exact ⟨ret_two (by rw [H1.1]; exact hk) H1.2.1.symm, by rw [H1.2.2]; exact HX.out, Fr.refl _ _⟩
    · go_ret2
      have h0 : fbI 36 s.data.toList < 0 := by assumption
      have H1 := load_ok (t := t) h32 (by omega)
      exact ⟨ret_two H1.1.symm H1.2.1.symm, by rw [H1.2.2]; exact blk_set HX.out 0 _, (Fr.refl _ _).setCell (by simp) _⟩
end Go.Proofs.Qxb6500341a
