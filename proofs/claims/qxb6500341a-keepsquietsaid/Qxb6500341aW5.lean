import Derived.Test.Qxb6500341aW4
import Derived.Handy
namespace Go.Proofs.Qxb6500341a
open Go.RowKit
set_option linter.unusedVariables false

theorem info5 : (Try.prog.info? 5).map (fun i => (i.zero, i.size, i.bytes)) = some (some (.int .u8 0), 1, 1) := by kernel_rfl

def bts (l : List UInt8) : List Value := l.map fun c => Value.int .u8 c.toNat

theorem spl_one_dig {c : UInt8} (h : val c.toNat < 10) : spl [c] = [UInt8.ofNat (48 + val c.toNat).toNat] := by
  simp only [spl, spl1, List.append_nil]; rw [if_neg (by omega)]

theorem bts_len (l : List UInt8) : (bts l).length = l.length := by simp [bts]
theorem bts_app (a b : List UInt8) : bts (a ++ b) = bts a ++ bts b := by simp [bts]

theorem own_string {w : World} {base g n cap : Nat} {l : List UInt8} (h : w.ownsRow base 5 1 (.slice (some ⟨g, 0, none⟩) n cap) n (bts l)) (hn : n = l.length) :
    (convert 51 9 (.slice (some ⟨g, 0, none⟩) n cap)).run Try.prog w = .ok (.string ⟨l.toArray⟩) w := by
  subst hn
  refine run_convert_bytes_back w 51 9 5 ⟨g, 0, none⟩ cap l Try.underlying51 Try.underlying5 Try.underlying9 (fun j hj => ?_)
  rcases h.2 with ⟨h1, _⟩ | ⟨g', cap', cur, hv, hb, hg, hc1, hc2, hc3, hx⟩
  · simp at h1
  · simp at hv
    obtain ⟨rfl, rfl⟩ := hv
    have e := blk_cell hg j
    rw [show (⟨g, 0, none⟩ : Addr).add j = ⟨g, j, none⟩ from by unfold Addr.add; split <;> simp_all]
    rw [e]
    have h2 : (cur.toList.take (l.length * 1))[j]? = (bts l)[j]? := by rw [hx]
    rw [List.getElem?_take_of_lt (by omega)] at h2
    simp [bts, hj] at h2
    simpa using h2

set_option maxHeartbeats 400000 in
theorem spell_any (s : ByteArray) (w : World) (hs : s.size ≤ 32) (hd : allOk 36 s.data.toList) :
    Calls Try.prog 44 #[.string s] w fun e w' => e = .returned (.string ⟨(spl s.data.toList).toArray⟩) ∧ Fr [] w w' := by
  obtain ⟨i0, hi, hz0, hz1, hz2⟩ := info_parts info5
  go_enter Try.func44, Try.ntmps44
  go_wp2_with (at_make; refine wpList_make_own _ rfl _ _ 51 rfl w.heap.size 5 i0 (.int .u8 0) 1 Try.underlying51 hi hz0 hz1 _ _ _ 64 rfl rfl rfl ?b2 ?b3 (Nat.le_refl _) ?_)
  case b2 => rw [hz2]; omega
  case b3 => unfold maxLen; omega
  intro w0 hown0 hgrow0
  have hfr0 : Below w.heap.size w w0 := (Below.refl _ _).grown hgrow0 (Nat.le_refl _) (fun k h => by cases h)
  go_wp2
  go_loopw [3, 4] (fun v i wr => ∃ (k n : Nat), k ≤ s.size ∧ i = .int .i64 k ∧ Hid (n = (spl (s.data.toList.take k)).length) ∧ n ≤ 2 * k ∧ v = .slice (some ⟨w.heap.size, 0, none⟩) n 64 ∧
     wr.ownsRow w.heap.size 5 1 (.slice (some ⟨w.heap.size, 0, none⟩) n 64) n (bts (spl (s.data.toList.take k))) ∧ Below w.heap.size w wr) (fun _ i _ => s.size - (intOf i).toNat)
  case atStart => exact ⟨0, 0, by omega, rfl, rfl, by omega, rfl, by simpa [spl, bts] using hown0, hfr0⟩
  case round =>
    obtain ⟨k, n, hk, rfl, HN, hn, rfl, hown, hnx⟩ := hrel
    by_cases hp : k < s.size
    · have hb := byte_lt s[k]
      have hv := okB_pos (hd _ (mem_get s k hp))
      by_cases hL : 10 ≤ val s[k].toNat
      · go_wp2_with (first
          | (go_at_call 35; refine (value_any _ _ (by omega) (by omega)).mono ?_; rintro e wv ⟨rfl, rfl⟩)
          | (at_builtin; refine wpList_append_fits _ rfl (.tmp 20) (.tmp 25) 51 rfl w.heap.size 5 i0 1 Try.underlying51 hi hz1 w.heap.size n 64 _ rfl (hown.alloc _) _ 1 1 [.int .u8 (48 + val s[k].toNat / 10)] rfl rfl (by intro t u ht; match t, ht with | 0, ht => simp at ht; subst ht; simp [Addr.add]) (by intro u hu; simp at hu; subst hu; rfl) (by omega) ?_; intro w1 hown1 hgrow1)
          | (at_builtin; refine wpList_append_fits _ rfl (.tmp 27) (.tmp 32) 51 rfl w.heap.size 5 i0 1 Try.underlying51 hi hz1 w.heap.size (n + 1) 64 _ rfl (hown1.alloc _) _ 1 1 [.int .u8 (48 + val s[k].toNat % 10)] rfl rfl (by intro t u ht; match t, ht with | 0, ht => simp at ht; subst ht; simp [Addr.add]) (by intro u hu; simp at hu; subst hu; rfl) (by omega) ?_; intro w2 hown2 hgrow2))
        go_roundw
        case rel =>
          refine ⟨k + 1, n + 2, by omega, by go_num, ?_, by omega, rfl, ?_, ?_⟩
          · show _ = _
            rw [take_snoc s k hp, spl_app, List.length_append, ← HN.out]; simp [spl, spl1, hL]
          · have e : bts (spl (s.data.toList.take (k + 1))) = bts (spl (s.data.toList.take k)) ++ [.int .u8 (48 + val s[k].toNat / 10)] ++ [.int .u8 (48 + val s[k].toNat % 10)] := by
              rw [take_snoc s k hp, spl_app, bts_app]
              simp only [spl, spl1, if_pos hL, List.append_nil, List.append_assoc]
              simp only [bts, List.map_cons, List.map_nil]
              rw [toNat_dig (48 + val s[k].toNat / 10) (by omega) (by omega), toNat_dig (48 + val s[k].toNat % 10) (by omega) (by omega)]; rfl
            rw [e]; exact hown2
          · exact ((((hnx.alloc hnx.size _).grown hgrow1 (by simp; have := hnx.size; omega) (fun k hk => by cases hk; exact Nat.le_refl _)).alloc (by have := hnx.size; have := hgrow1.size; simp at this; omega) _).grown hgrow2 (by have := hnx.size; have := hgrow1.size; simp at this ⊢; omega) (fun k hk => by cases hk; exact Nat.le_refl _))
        case measure => simp [intOf]; omega
      · go_wp2_with (first
          | (go_at_call 35; refine (value_any _ _ (by omega) (by omega)).mono ?_; rintro e wv ⟨rfl, rfl⟩)
          | (at_builtin; refine wpList_append_fits _ rfl (.tmp 27) (.tmp 32) 51 rfl w.heap.size 5 i0 1 Try.underlying51 hi hz1 w.heap.size n 64 _ rfl (hown.alloc _) _ 1 1 [.int .u8 (48 + val s[k].toNat % 10)] rfl rfl (by intro t u ht; match t, ht with | 0, ht => simp at ht; subst ht; simp [Addr.add]) (by intro u hu; simp at hu; subst hu; rfl) (by omega) ?_; intro w2 hown2 hgrow2))
        go_roundw
        case rel =>
          refine ⟨k + 1, n + 1, by omega, by go_num, ?_, by omega, rfl, ?_, ?_⟩
          · show _ = _
            rw [take_snoc s k hp, spl_app, List.length_append, ← HN.out, spl_one_dig (by omega)]; rfl
          · have e : bts (spl (s.data.toList.take (k + 1))) = bts (spl (s.data.toList.take k)) ++ [.int .u8 (48 + val s[k].toNat % 10)] := by
              rw [take_snoc s k hp, spl_app, bts_app]
              rw [spl_one_dig (by omega)]
              simp only [bts, List.map_cons, List.map_nil]
              rw [toNat_dig (48 + val s[k].toNat) (by omega) (by omega), show val s[k].toNat % 10 = val s[k].toNat from by omega]
            rw [e]; exact hown2
          · exact ((hnx.alloc hnx.size _).grown hgrow2 (by simp; have := hnx.size; omega) (fun k hk => by cases hk; exact Nat.le_refl _))
        case measure => simp [intOf]; omega
    · have e : s.data.toList.take k = s.data.toList := take_all s k (by omega)
      rw [e] at hown HN
      have hcv := own_string hown HN.out
      go_wp2
      go_ret
      exact ⟨rfl, Fr.ofBelow hnx⟩

set_option maxHeartbeats 400000 in
theorem restm_any (s : ByteArray) (way : Int) (w : World) (hs : s.size ≤ 32) (hw : way = 1 ∧ allOk 10 s.data.toList ∨ way = 2 ∧ allOk 36 s.data.toList) :
    Calls Try.prog 42 #[.int .i64 way, .string s] w fun e w' => e = .returned (.int .i64 (restA way s.data.toList)) ∧ Fr [] w w' := by
  rcases hw with ⟨rfl, hd⟩ | ⟨rfl, hd⟩
  · have hr := rest1 s.data.toList
    go_enter Try.func42, Try.ntmps42
    go_wp2_with (go_at_call 43; refine (luhnm_any _ _ (by omega) hd).mono ?_; rintro e w' ⟨rfl, rfl⟩)
    go_ret
    exact ⟨ret_int hr.symm, Fr.refl _ _⟩
  · have HR : Hid (restA 2 s.data.toList = f97 0 s.data.toList) := rest2 s.data.toList
    have HF : Hid (f97 0 s.data.toList = d97 0 (spl s.data.toList)) := f97_spl 0 _ hd (by omega)
    have hdg := spl_digs _ hd
    have hln := spl_len s.data.toList
    go_enter Try.func42, Try.ntmps42
    go_wp2_with (go_at_call 44; refine (spell_any _ _ (by omega) hd).mono ?_; rintro e w1 ⟨rfl, hf1⟩)
    generalize hq : (⟨(spl s.data.toList).toArray⟩ : ByteArray) = q at *
    have hql : q.data.toList = spl s.data.toList := by rw [← hq]
    have hqs : q.size ≤ 64 := by rw [← hq]; rw [len_list] at hln; show (spl s.data.toList).toArray.size ≤ 64; rw [List.size_toArray]; omega
    rw [← hql] at hdg
    have HQ : Hid (q.data.toList = spl s.data.toList) := hql
    clear hq hql hln
    have hdp : ∀ k (h : k < q.size), 48 ≤ q[k].toNat ∧ q[k].toNat ≤ 57 := fun k h => hdg _ (mem_get q k h)
    go_wp2
    go_loop [6, 7] (fun a i => ∃ (k : Nat) (x : Int), k ≤ q.size ∧ i = .int .i64 k ∧ a = .int .i64 x ∧ 0 ≤ x ∧ x < 97 ∧ Hid (d97 x (q.data.toList.drop k) = d97 0 q.data.toList)) (fun _ i => q.size - (intOf i).toNat)
    case atStart => exact ⟨0, 0, by omega, rfl, rfl, by omega, by omega, by show _ = _; simp⟩
    case round =>
      obtain ⟨k, x, hk, rfl, rfl, hx0, hx1, HX⟩ := hrel
      by_cases hk7 : k < q.size
      · obtain ⟨hk1, hk2⟩ := hdp k hk7
        have HN : Hid (d97 ((x * 10 + ((q[k].toNat : Int) - 48)) % 97) (q.data.toList.drop (k + 1)) = d97 0 q.data.toList) := by
          have h := HX.out; rw [drop_cons q k hk7] at h; exact h
        clear hdp
        go_wp2
        go_round
        case rel => exact ⟨k + 1, _, by omega, by go_num, rfl, by omega, by omega, HN⟩
        case measure => simp [intOf]; omega
      · have HE : Hid (x = restA 2 s.data.toList) := by
          have h := HX.out
          rw [drop_end q k (by omega)] at h
          show _ = _
          rw [HR.out, HF.out, ← HQ.out, ← h]; rfl
        clear hdp
        go_wp2
        go_ret
        exact ⟨ret_int HE.out, hf1⟩

set_option maxHeartbeats 400000 in
theorem rest_any (s : ByteArray) (way : Int) (w : World) (hs : s.size ≤ 32) (hw : way = 1 ∧ allOk 10 s.data.toList ∨ way = 2 ∧ allOk 36 s.data.toList) :
    Calls Try.prog 36 #[.int .i64 way, .string s] w fun e w' => e = .returned (.int .i64 (restA way s.data.toList)) ∧ Fr [] w w' := by
  rcases hw with ⟨rfl, hd⟩ | ⟨rfl, hd⟩
  · have hr := rest1 s.data.toList
    go_enter Try.func36, Try.ntmps36
    go_wp2_with (go_at_call 38; refine (luhn_any _ 0 _ (by omega) (by omega) hd).mono ?_; rintro e w' ⟨rfl, pos, rfl⟩)
    go_ret
    exact ⟨ret_int hr.symm, (Fr.refl _ _).alloc _⟩
  · have hr := rest2 s.data.toList
    go_enter Try.func36, Try.ntmps36
    go_wp2_with (go_at_call 39; refine (by97_any _ _ (by omega) hd).mono ?_; rintro e w' ⟨rfl, hf⟩)
    go_ret
    exact ⟨ret_int hr.symm, hf⟩
end Go.Proofs.Qxb6500341a
