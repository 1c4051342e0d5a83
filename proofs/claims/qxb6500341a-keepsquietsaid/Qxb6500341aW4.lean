import Derived.Test.Qxb6500341aW3
import Derived.Test.Qxb6500341aPlainC
import Derived.Lib.ConvBytes
namespace Go.Proofs.Qxb6500341a
open Go.RowKit
set_option linter.unusedVariables false

theorem spl_snoc_let (s : ByteArray) (pos : Nat) (sp : ByteArray) (hp : pos < s.size) (h1 : 65 ≤ s[pos].toNat) (h2 : s[pos].toNat ≤ 90) (h : sp.data.toList = spl (s.data.toList.take pos)) :
    (sp ++ Utf8.encode (48 + ((s[pos].toNat : Int) - 65 + 10) / 10) ++ Utf8.encode (48 + ((s[pos].toNat : Int) - 65) % 10)).data.toList = spl (s.data.toList.take (pos + 1)) := by
  rw [take_snoc s pos hp, spl_app, ← h]
  simp only [ByteArray.data_append, Array.toList_append, List.append_assoc]
  rw [enc1_list _ (by omega) (by omega), enc1_list _ (by omega) (by omega)]
  simp only [spl, List.append_nil]
  unfold spl1
  rw [val_let ⟨h1, h2⟩, if_pos (by omega)]
  have e1 : 48 + ((s[pos].toNat : Int) - 65 + 10) / 10 = 48 + ((s[pos].toNat : Int) - 55) / 10 := by omega
  have e2 : 48 + ((s[pos].toNat : Int) - 65) % 10 = 48 + ((s[pos].toNat : Int) - 55) % 10 := by omega
  rw [e1, e2]; rfl

theorem spl_snoc_dig (s : ByteArray) (pos : Nat) (sp : ByteArray) (hp : pos < s.size) (h1 : 48 ≤ s[pos].toNat) (h2 : s[pos].toNat ≤ 57) (h : sp.data.toList = spl (s.data.toList.take pos)) :
    (sp ++ Utf8.encode (48 + ((s[pos].toNat : Int) - 48) % 10)).data.toList = spl (s.data.toList.take (pos + 1)) := by
  rw [take_snoc s pos hp, spl_app, ← h]
  simp only [ByteArray.data_append, Array.toList_append]
  rw [enc1_list _ (by omega) (by omega)]
  simp only [spl, List.append_nil]
  unfold spl1
  rw [val_dig ⟨h1, h2⟩, if_neg (by omega)]
  have e1 : 48 + ((s[pos].toNat : Int) - 48) % 10 = 48 + ((s[pos].toNat : Int) - 48) := by omega
  rw [e1]

def strLen : Value → Nat | .string q => q.size | _ => 0

theorem conv_bytes (w : World) (s : ByteArray) (n : Nat) (hn : s.size = n) : ∃ cap w', (convert 9 51 (.string s)).run Try.prog w = .ok (.slice (some ⟨w.heap.size, 0, none⟩) n cap) w' ∧ Fr [] w w' ∧
    ∀ j (h : j < s.size), w'.cell? ⟨w.heap.size, j, none⟩ = some (.int .u8 s[j].toNat) := by
  subst hn
  refine ⟨_, _, Lib.run_convert_string_bytes w 9 51 5 s Try.underlying9 Try.underlying51 Try.underlying5, ⟨?_, ?_, ?_, ?_, fun k hk _ => Lib.bytesWorld_at_old w 5 s k hk⟩, fun j h => ?_⟩
  · unfold Lib.bytesWorld World.freeze; split <;> rfl
  · unfold Lib.bytesWorld World.freeze; split <;> rfl
  · unfold Lib.bytesWorld World.freeze; split <;> rfl
  · rw [Lib.bytesWorld_size]; omega
  · rw [Lib.bytesWorld_cell w 5 s j h]
    simp [List.getD, h, ByteArray.getElem_eq_getElem_data]

theorem hor_snoc (s : ByteArray) (r : Int) (k : Nat) (h : k < s.size) : hor r (s.data.toList.take (k + 1)) = hor r (s.data.toList.take k) * 10 + ((s[k].toNat : Int) - 48) := by
  rw [take_snoc s k h, hor_app]; rfl

theorem digs_take {l : List UInt8} (h : digs l) (k : Nat) : digs (l.take k) := fun c hc => h c (List.mem_of_mem_take hc)

theorem cut_list (s : ByteArray) (n : Nat) (h : n ≤ s.size) : (s.extract 0 n).data.toList ++ (s.extract n s.size).data.toList = s.data.toList := by
  have e1 : (s.extract 0 n).data.toList = s.data.toList.take n := by simp [ByteArray.data_extract]
  have e2 : (s.extract n s.size).data.toList = s.data.toList.drop n := by
    simp [ByteArray.data_extract]
    exact List.take_of_length_le (by simp)
  rw [e1, e2, List.take_append_drop]

set_option maxHeartbeats 400000 in
theorem by97_any (s : ByteArray) (w : World) (hs : s.size ≤ 32) (hd : allOk 36 s.data.toList) :
    Calls Try.prog 39 #[.string s] w fun e w' => e = .returned (.int .i64 (f97 0 s.data.toList)) ∧ Fr [] w w' := by
  go_enter Try.func39, Try.ntmps39
  go_wp2
  go_loopw [3] (fun n w' => ∃ (pos : Nat) (sp : ByteArray), w' = w.iter s pos ∧ n = .string sp ∧ pos ≤ s.size ∧ sp.size ≤ 2 * pos ∧ Hid (sp.data.toList = spl (s.data.toList.take pos))) (fun _ w' => s.size - w'.iterPos w.heap.size)
  case atStart => exact ⟨0, _, rfl, rfl, by omega, by show (0:Nat) ≤ _; omega, by show _ = _; simp [spl]⟩
  case round =>
    obtain ⟨pos, sp, rfl, rfl, hp0, hsz, HS⟩ := hrel
    by_cases hp : pos < s.size
    · have hlaw := okB_law (hd _ (mem_get s pos hp))
      have hnx : ∀ ty, (Instr.next (.pointer (some ⟨w.heap.size, 0, none⟩)) true ty).run Try.prog (w.iter s pos) = _ := fun ty => run_next_ascii w s pos ty hp (by omega)
      by_cases hL : 65 ≤ s[pos].toNat
      · have h90 : s[pos].toNat ≤ 90 := by omega
        have hz1 : (Utf8.encode (48 + ((s[pos].toNat : Int) - 65 + 10) / 10)).size ≤ 1 := by rw [enc1_size _ (by omega) (by omega)]; omega
        have hz2 : (Utf8.encode (48 + ((s[pos].toNat : Int) - 65) % 10)).size ≤ 1 := by rw [enc1_size _ (by omega) (by omega)]; omega
        clear hlaw
        go_wp2
        go_roundw
        case rel => exact ⟨pos + 1, _, rfl, rfl, by omega, by simp only [ByteArray.size_append]; omega, spl_snoc_let s pos sp hp hL h90 HS.out⟩
        case measure => simp; omega
      · have h57 : s[pos].toNat ≤ 57 := by omega
        have h48 : 48 ≤ s[pos].toNat := by omega
        have hz2 : (Utf8.encode (48 + ((s[pos].toNat : Int) - 48) % 10)).size ≤ 1 := by rw [enc1_size _ (by omega) (by omega)]; omega
        clear hlaw
        go_wp2
        go_roundw
        case rel => exact ⟨pos + 1, _, rfl, rfl, by omega, by simp only [ByteArray.size_append]; omega, spl_snoc_dig s pos sp hp h48 h57 HS.out⟩
        case measure => simp; omega
    · have hnx : ∀ ty, (Instr.next (.pointer (some ⟨w.heap.size, 0, none⟩)) true ty).run Try.prog (w.iter s pos) = _ := fun ty => run_next_end w s pos ty hp
      have HT : Hid (sp.data.toList = spl s.data.toList) := by have h := HS.out; rw [take_all s pos (by omega)] at h; exact h
      have H0 : Hid (d97 0 sp.data.toList = f97 0 s.data.toList) := by show _ = _; rw [HT.out, f97_spl 0 _ hd (by omega)]
      have hdg : digs sp.data.toList := by rw [HT.out]; exact spl_digs _ hd
      have hf0 : Fr [] w (w.iter s pos) := (Fr.refl _ _).alloc _
      generalize hww : w.iter s pos = w1 at *
      clear hww HS HT
      go_wp2
      go_loopw [3, 7] (fun n c w' => ∃ (sq : ByteArray) (r : Int), n = .string sq ∧ c = .int .i64 r ∧ 0 ≤ r ∧ r < 97 ∧ sq.size ≤ 64 ∧ Hid (digs sq.data.toList) ∧ Hid (d97 r sq.data.toList = f97 0 s.data.toList) ∧ Fr [] w w') (fun n _ _ => strLen n)
      case atStart => exact ⟨sp, 0, rfl, rfl, by omega, by omega, by omega, hdg, H0, hf0⟩
      case round =>
        obtain ⟨sq, r, rfl, rfl, hr0, hr97, hsq, HD, HR, hfr⟩ := hrel
        by_cases h0 : sq.size = 0
        · have HF : Hid (r = f97 0 s.data.toList) := by
            have h := HR.out
            have e : sq.data.toList = [] := by apply List.eq_nil_of_length_eq_zero; simpa using h0
            rw [e] at h; exact h
          go_wp2
          go_ret
          exact ⟨ret_int HF.out, hfr⟩
        · by_cases h7 : sq.size < 7
          · obtain ⟨cap, w3, hcv, hf3, hc3⟩ := conv_bytes wr sq sq.size rfl
            have hpd : digs sq.data.toList := HD.out
            go_wp2
            have hfw : Fr [] w w3 := hfr.trans hf3
            have hdp : ∀ k (h : k < sq.size), 48 ≤ sq[k].toNat ∧ sq[k].toNat ≤ 57 := fun k h => hpd _ (mem_get sq k h)
            clear hcv
            go_loop [10, 61] (fun a i => ∃ (k : Nat) (x : Int), k ≤ sq.size ∧ i = .int .i64 k ∧ a = .int .i32 x ∧ Hid (x = hor r (sq.data.toList.take k))) (fun _ i => sq.size - (intOf i).toNat)
            case atStart => exact ⟨0, r, by omega, rfl, rfl, rfl⟩
            case round =>
              obtain ⟨k, x, hk, rfl, rfl, HX⟩ := hrel
              by_cases hk7 : k < sq.size
              · have hb := hor_small6 r (sq.data.toList.take k) hr0 hr97 (digs_take hpd k) (by simp; omega)
                rw [← HX.out] at hb
                obtain ⟨hx0, hx1⟩ := hb
                have hck := hc3 k (by omega)
                obtain ⟨hk1, hk2⟩ := hdp k (by omega)
                have HN : Hid (hor r (sq.data.toList.take (k + 1)) = x * 10 + ((sq[k].toNat : Int) - 48)) := by show _ = _; rw [hor_snoc sq r k (by omega), ← HX.out]
                clear hc3 hdp
                go_wp2
                go_round
                case rel => exact ⟨k + 1, _, by omega, by go_num, rfl, HN.out.symm⟩
                case measure => simp [intOf]; omega
              · have hb := hor_small r (sq.data.toList.take k) hr0 hr97 (digs_take hpd k) (by simp; omega)
                rw [← HX.out] at hb
                obtain ⟨hx0, hx1⟩ := hb
                have HE : Hid (d97 (x % 97) ByteArray.empty.data.toList = f97 0 s.data.toList) := by
                  have e : sq.data.toList.take k = sq.data.toList := take_all sq k (by omega)
                  have h := HR.out
                  rw [show d97 r sq.data.toList = x % 97 from by rw [HX.out, e, ← hor_d97]; congr 1; omega] at h
                  exact h
                clear hc3 hdp
                go_wp2
                go_roundw
                case rel => exact ⟨ByteArray.empty, _, rfl, rfl, by omega, by omega, by show 0 ≤ _; omega, fun c hc => by simp at hc, HE, hfw⟩
                case measure => show (0 : Nat) < sq.size; omega
          · obtain ⟨cap, w3, hcv, hf3, hc3⟩ := conv_bytes wr (sq.extract 0 7) 7 (by simp; omega)
            have HC : Hid ((sq.extract 0 7).data.toList ++ (sq.extract 7 sq.size).data.toList = sq.data.toList) := cut_list sq 7 (by omega)
            have hps : (sq.extract 0 7).size = 7 := by simp; omega
            have hqs : (sq.extract 7 sq.size).size = sq.size - 7 := by simp
            have hpd : digs (sq.extract 0 7).data.toList := fun c hc => HD.out c (by rw [← HC.out]; exact List.mem_append_left _ hc)
            have hqd : digs (sq.extract 7 sq.size).data.toList := fun c hc => HD.out c (by rw [← HC.out]; exact List.mem_append_right _ hc)
            go_wp2
            generalize sq.extract 0 7 = p at *
            generalize sq.extract 7 sq.size = q at *
            have hfw : Fr [] w w3 := hfr.trans hf3
            have hdp : ∀ k (h : k < p.size), 48 ≤ p[k].toNat ∧ p[k].toNat ≤ 57 := fun k h => hpd _ (mem_get p k h)
            clear hcv
            have HP : Hid (p.size = 7) := hps
            have hpz : 7 ≤ p.size := by omega
            have HQ : Hid (q.size = sq.size - 7) := hqs
            clear hps hqs
            go_loop [10, 61] (fun a i => ∃ (k : Nat) (x : Int), k ≤ 7 ∧ i = .int .i64 k ∧ a = .int .i32 x ∧ Hid (x = hor r (p.data.toList.take k))) (fun _ i => 7 - (intOf i).toNat)
            case atStart => exact ⟨0, r, by omega, rfl, rfl, rfl⟩
            case round =>
              obtain ⟨k, x, hk, rfl, rfl, HX⟩ := hrel
              by_cases hk7 : k < 7
              · have hb := hor_small6 r (p.data.toList.take k) hr0 hr97 (digs_take hpd k) (by simp; omega)
                rw [← HX.out] at hb
                obtain ⟨hx0, hx1⟩ := hb
                have hck := hc3 k (by omega)
                obtain ⟨hk1, hk2⟩ := hdp k (by omega)
                have HN : Hid (hor r (p.data.toList.take (k + 1)) = x * 10 + ((p[k].toNat : Int) - 48)) := by show _ = _; rw [hor_snoc p r k (by omega), ← HX.out]
                clear hc3 hdp
                go_wp2
                go_round
                case rel => exact ⟨k + 1, _, by omega, by go_num, rfl, HN.out.symm⟩
                case measure => simp [intOf]; omega
              · have hb := hor_small r (p.data.toList.take k) hr0 hr97 (digs_take hpd k) (by simp; omega)
                rw [← HX.out] at hb
                obtain ⟨hx0, hx1⟩ := hb
                have HE : Hid (d97 (x % 97) q.data.toList = f97 0 s.data.toList) := by
                  have e : p.data.toList.take k = p.data.toList := take_all p k (by rw [HP.out]; omega)
                  have h := HR.out
                  rw [← HC.out, d97_app] at h
                  rw [show d97 r p.data.toList = x % 97 from by rw [HX.out, e, ← hor_d97]; congr 1; omega] at h
                  exact h
                clear hc3 hdp
                go_wp2
                go_roundw
                case rel => exact ⟨q, _, rfl, rfl, by omega, by omega, by rw [HQ.out]; omega, hqd, HE, hfw⟩
                case measure => simp [strLen]; rw [HQ.out]; omega
end Go.Proofs.Qxb6500341a
