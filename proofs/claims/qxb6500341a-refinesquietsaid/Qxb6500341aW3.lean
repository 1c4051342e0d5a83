import Derived.Test.Qxb6500341aW2
import Derived.Test.Qxb6500341aPlainB
namespace Go.Proofs.Qxb6500341a
open Go.RowKit
set_option linter.unusedVariables false

set_option maxHeartbeats 400000 in
theorem luhn_any (s : ByteArray) (sh : Nat) (w : World) (hs : s.size ≤ 1000) (hsh : sh ≤ 1) (hd : allOk 10 s.data.toList) :
    Calls Try.prog 38 #[.string s, .int .i64 sh] w fun e w' => e = .returned (.int .i64 (luhnR sh s.data.toList)) ∧ ∃ pos, w' = w.iter s pos := by
  have hdig : ∀ k (h : k < s.size), 48 ≤ s[k].toNat ∧ s[k].toNat ≤ 57 := fun k h => okB_dig (hd _ (by simp [ByteArray.getElem_eq_getElem_data]))
  go_enter Try.func38, Try.ntmps38
  go_wp2
  go_loopw [5] (fun n w' => ∃ (pos : Nat) (acc : Int), w' = w.iter s pos ∧ n = .int .i64 acc ∧ pos ≤ s.size ∧ 0 ≤ acc ∧ acc ≤ 9 ∧ Hid ((acc + lsum sh (s.data.toList.drop pos)) % 10 = lsum sh s.data.toList % 10)) (fun _ w' => s.size - w'.iterPos w.heap.size)
  case atStart => exact ⟨0, 0, rfl, rfl, by omega, by omega, by omega, by show (0 + lsum sh (s.data.toList.drop 0)) % 10 = _; simp⟩
  case round =>
    obtain ⟨pos, acc, rfl, rfl, hp0, ha0, ha9, HR⟩ := hrel
    by_cases hp : pos < s.size
    · have hdg := hdig pos hp
      have hnx : ∀ ty, (Instr.next (.pointer (some ⟨w.heap.size, 0, none⟩)) true ty).run Try.prog (w.iter s pos) = _ := fun ty => run_next_ascii w s pos ty hp (by omega)
      go_wp2
      all_goals
        have hv := val_dig hdg
        go_roundw
        case rel =>
          refine ⟨pos + 1, _, rfl, rfl, by omega, by omega, by omega, luhn_round s sh pos acc _ hp HR.out ?_⟩
          first
            | (rw [luhn_odd s sh pos _ hp ‹_›, hv]; split <;> omega)
            | (rw [luhn_even s sh pos _ hp ‹_›, hv])
        case measure => simp; omega
    · have hnx : ∀ ty, (Instr.next (.pointer (some ⟨w.heap.size, 0, none⟩)) true ty).run Try.prog (w.iter s pos) = _ := fun ty => run_next_end w s pos ty hp
      go_wp2
      go_ret
      refine ⟨ret_int ?_, _, rfl⟩
      have := HR.out
      rw [drop_end s pos (by omega)] at this
      simp only [lsum] at this
      unfold luhnR
      omega

set_option maxHeartbeats 400000 in
theorem luhnm_any (s : ByteArray) (w : World) (hs : s.size ≤ 1000) (hd : allOk 10 s.data.toList) :
    Calls Try.prog 43 #[.string s] w fun e w' => e = .returned (.int .i64 (luhnR 0 s.data.toList)) ∧ w' = w := by
  have hdig : ∀ k (h : k < s.size), 48 ≤ s[k].toNat ∧ s[k].toNat ≤ 57 := fun k h => okB_dig (hd _ (by simp [ByteArray.getElem_eq_getElem_data]))
  go_enter Try.func43, Try.ntmps43
  go_wp2
  go_loop [3, 4] (fun n i => ∃ (k : Nat) (acc : Int), k ≤ s.size ∧ i = .int .i64 k ∧ n = .int .i64 acc ∧ 0 ≤ acc ∧ acc ≤ 9 * k ∧ Hid (acc = lsum 0 (s.data.toList.drop (s.size - k)))) (fun _ i => s.size - (intOf i).toNat)
  case atStart => exact ⟨0, 0, by omega, rfl, rfl, by omega, by omega, by show (0 : Int) = _; rw [drop_end s _ (by omega)]; rfl⟩
  case round =>
    obtain ⟨k, acc, hk, rfl, rfl, ha0, ha9, HR⟩ := hrel
    by_cases hp : k < s.size
    · have hdg := hdig (s.size - 1 - k) (by omega)
      have hv := val_dig hdg
      have hr := lsum_right s k hp
      rw [hv] at hr
      have HN : Hid (lsum 0 (s.data.toList.drop (s.size - (k + 1))) = dbl (k % 2) ((s[s.size - 1 - k].toNat : Int) - 48) + lsum 0 (s.data.toList.drop (s.size - k))) := hr
      clear hr hv
      by_cases hpar : (k : Int) % 2 = 0
      · have hd0 : Hid (dbl (k % 2) ((s[s.size - 1 - k].toNat : Int) - 48) = (s[s.size - 1 - k].toNat : Int) - 48) := by
          show dbl _ _ = _; unfold dbl; rw [if_neg (by omega)]
        go_wp2
        go_round
        case rel => exact ⟨k + 1, _, by omega, by go_num, rfl, by omega, by omega, by show _ = _; rw [HN.out, hd0.out, ← HR.out]; omega⟩
        case measure => simp [intOf]; omega
      · have hpar1 : (k : Int) % 2 = 1 := by omega
        have hd0 : Hid (dbl (k % 2) ((s[s.size - 1 - k].toNat : Int) - 48) = if 9 < 2 * ((s[s.size - 1 - k].toNat : Int) - 48) then 2 * ((s[s.size - 1 - k].toNat : Int) - 48) - 9 else 2 * ((s[s.size - 1 - k].toNat : Int) - 48)) := by
          show dbl _ _ = _; unfold dbl; rw [if_pos (by omega)]
        clear hpar
        go_wp2
        go_round
        case rel => exact ⟨k + 1, _, by omega, by go_num, rfl, by omega, by omega, by show _ = _; rw [HN.out, hd0.out, ← HR.out]; split <;> omega⟩
        case measure => simp [intOf]; omega
    · go_wp2
      go_ret
      refine ⟨ret_int ?_, rfl⟩
      have := HR.out
      rw [show s.size - k = 0 from by omega] at this
      rw [this]; simp [luhnR]

set_option maxHeartbeats 400000 in
theorem owe_any (s : ByteArray) (way : Int) (w : World) (hs : s.size ≤ 1000) (hw : way = 1 ∧ allOk 10 s.data.toList ∨ way = 2 ∧ allOk 36 s.data.toList) :
    Calls Try.prog 23 #[.int .i64 way, .string s] w fun e w' => e = .returned (.int .i64 (restA way s.data.toList)) ∧ w' = w := by
  rcases hw with ⟨rfl, hd⟩ | ⟨rfl, hd⟩
  · have hdig : ∀ k (h : k < s.size), 48 ≤ s[k].toNat ∧ s[k].toNat ≤ 57 := fun k h => okB_dig (hd _ (mem_get s k h))
    go_enter Try.func23, Try.ntmps23
    go_wp2
    go_loop [5, 6] (fun n i => ∃ (pos : Nat) (acc : Int), pos ≤ s.size ∧ i = .int .i64 pos ∧ n = .int .i64 acc ∧ 0 ≤ acc ∧ acc ≤ 9 ∧ Hid ((acc + lsum 0 (s.data.toList.drop pos)) % 10 = lsum 0 s.data.toList % 10)) (fun _ i => s.size - (intOf i).toNat)
    case atStart => exact ⟨0, 0, by omega, rfl, rfl, by omega, by omega, by show (0 + lsum 0 (s.data.toList.drop 0)) % 10 = _; simp⟩
    case round =>
      obtain ⟨pos, acc, hk, rfl, rfl, ha0, ha9, HR⟩ := hrel
      by_cases hp : pos < s.size
      · have hb := byte_lt s[pos]
        have hdg := hdig pos hp
        have hv2 : 0 ≤ val (s[pos].toNat : Int) ∧ val (s[pos].toNat : Int) ≤ 9 := by rw [val_dig hdg]; omega
        obtain ⟨hv0, hv9⟩ := hv2
        go_wp2_with (go_at_call 35; refine (value_any _ _ (by omega) (by omega)).mono ?_; rintro e w' ⟨rfl, rfl⟩)
        all_goals
          go_round
          case rel =>
            refine ⟨pos + 1, _, by omega, by go_num, rfl, by omega, by omega, luhn_round s 0 pos acc _ hp HR.out ?_⟩
            first
              | (rw [luhn_odd0 s pos _ hp ‹_›]; split <;> omega)
              | (rw [luhn_even0 s pos _ hp ‹_›])
          case measure => simp [intOf]; omega
      · go_wp2
        go_ret
        refine ⟨ret_int ?_, rfl⟩
        have := HR.out
        rw [drop_end s pos (by omega)] at this
        simp only [lsum] at this
        rw [rest1]
        unfold luhnR
        omega
  · go_enter Try.func23, Try.ntmps23
    go_wp2
    go_loop [5, 6] (fun n i => ∃ (k : Nat) (r : Int), k ≤ s.size ∧ i = .int .i64 k ∧ n = .int .i64 r ∧ 0 ≤ r ∧ r < 97 ∧ Hid (f97 r (s.data.toList.drop k) = f97 0 s.data.toList)) (fun _ i => s.size - (intOf i).toNat)
    case atStart => exact ⟨0, 0, by omega, rfl, rfl, by omega, by omega, by show _ = _; simp⟩
    case round =>
      obtain ⟨k, r, hk, rfl, rfl, ha0, ha9, HR⟩ := hrel
      by_cases hp : k < s.size
      · have hb := byte_lt s[k]
        have hv := okB_pos (hd _ (mem_get s k hp))
        go_wp2_with (go_at_call 35; refine (value_any _ _ (by omega) (by omega)).mono ?_; rintro e w' ⟨rfl, rfl⟩)
        all_goals
          go_round
          case rel =>
            refine ⟨k + 1, _, by omega, by go_num, rfl, by omega, by omega, ?_⟩
            show f97 _ _ = _
            rw [← HR.out, f97_drop s r k hp]
            unfold st97
            first | rw [if_pos ‹_›] | rw [if_neg (by omega)]
          case measure => simp [intOf]; omega
      · go_wp2
        go_ret
        refine ⟨ret_int ?_, rfl⟩
        have := HR.out
        rw [drop_end s k (by omega)] at this
        rw [rest2, ← this]; rfl
end Go.Proofs.Qxb6500341a
