import Derived.Test.Qxb6500339aW4
namespace Go.Proofs.Qxb6500339a
open Go.RowKit
set_option linter.unusedVariables false
set_option linter.unusedSimpArgs false

theorem ats_at {l : List (Nat × Bl)} {i : Nat} (h : i < l.length) : (ats l)[i]? = some (.int .i64 (l[i]).1) := by
  unfold ats; rw [List.getElem?_map, List.getElem?_eq_getElem h]; rfl
theorem vals_at {l : List (Nat × Bl)} : ∀ {i : Nat} (h : i < l.length), (vals l)[i * 4]? = some (.int .u8 (l[i]).2.a) ∧ (vals l)[i * 4 + 1]? = some (.int .u8 (l[i]).2.b) ∧ (vals l)[i * 4 + 2]? = some (.int .u8 (l[i]).2.c) ∧ (vals l)[i * 4 + 3]? = some (.int .u8 (l[i]).2.d) := by
  induction l with
  | nil => intro i h; simp at h
  | cons p l ih =>
    intro i h
    cases i with
    | zero => simp [vals]
    | succ i =>
      have hi : i < l.length := by simpa using h
      obtain ⟨h0, h1, h2, h3⟩ := ih hi
      have e : vals (p :: l) = [.int .u8 p.2.a, .int .u8 p.2.b, .int .u8 p.2.c, .int .u8 p.2.d] ++ vals l := by simp [vals]
      rw [e]
      have key : ∀ j, ([.int .u8 p.2.a, .int .u8 p.2.b, .int .u8 p.2.c, .int .u8 p.2.d] ++ vals l)[(i + 1) * 4 + j]? = (vals l)[i * 4 + j]? := fun j => by
        rw [List.getElem?_append_right (by simp; omega)]
        congr 1; simp; omega
      have k0 := key 0
      simp only [Nat.add_zero] at k0
      rw [k0, key 1, key 2, key 3]
      simpa using ⟨h0, h1, h2, h3⟩
theorem app_take {l : List (Nat × Bl)} {i : Nat} (h : i < l.length) (n : Nat → Bl) : app n (l.take (i + 1)) = upd (app n (l.take i)) (l[i]).1 (l[i]).2 := by
  rw [List.take_succ_eq_append_getElem h, app_append]; rfl
theorem owns_form {w : World} {N : Nat} {e : TypeId} {s : Nat} {v : Value} {n : Nat} {xs : List Value} (h : w.ownsRow N e s v n xs) : ∃ a0 cap, v = .slice a0 n cap := by
  rcases h.2 with ⟨rfl, rfl⟩ | ⟨g, cap, cur, rfl, _⟩
  · exact ⟨_, _, rfl⟩
  · exact ⟨_, _, rfl⟩

set_option maxHeartbeats 6400000 in
set_option maxRecDepth 100000 in
theorem disk_after (N : Nat) (w : World) (d : Nat) (R : List Nat) (n bs : Nat → Bl) (l : List (Nat × Bl)) (h : Dr N w d R n bs l) (h8 : ∀ p, p ∈ l → p.1 < 8) (hlen : l.length ≤ 100) (k : Int) :
    Calls Try.prog 26 #[.pointer (some ⟨d, 0, none⟩), .int .i64 k] w fun e w' => e = .returned (.pointer (some ⟨w.heap.size, 0, none⟩)) ∧ Dk w' w.heap.size (app bs (l.take k.toNat)) (app bs (l.take k.toNat)) (.slice none 0 0) (.slice none 0 0) ∧ Fr [] w w' := by
  obtain ⟨av, vv, hD, hA, hV, hra, hrv⟩ := h.ex
  obtain ⟨a0, ca, rfl⟩ := owns_form hA
  obtain ⟨v0, cv, rfl⟩ := owns_form hV
  have HD : Hid (Dk w d n bs (.slice a0 l.length ca) (.slice v0 l.length cv)) := hD
  have HA : Hid (w.ownsRow N 3 1 (.slice a0 l.length ca) l.length (ats l)) := hA
  have HV : Hid (w.ownsRow N 41 4 (.slice v0 l.length cv) l.length (vals l)) := hV
  have H8 : Hid (∀ p, p ∈ l → p.1 < 8) := h8
  have hdl := blk_lt hD
  have hz := zero46
  clear h hD hA hV hra hrv h8
  have E0 : Hid (Dk (w.alloc (.cells (dkC (fun _ => zB) (fun _ => zB) (.slice none 0 0) (.slice none 0 0)) 46)) w.heap.size (fun _ => zB) (fun _ => zB) (.slice none 0 0) (.slice none 0 0)) := blk_new _ _
  have F0 : Hid (Fr [] w (w.alloc (.cells (dkC (fun _ => zB) (fun _ => zB) (.slice none 0 0) (.slice none 0 0)) 46))) := (Fr.refl _ _).alloc _
  have D0 : Hid (Dk (w.alloc (.cells (dkC (fun _ => zB) (fun _ => zB) (.slice none 0 0) (.slice none 0 0)) 46)) d n bs (.slice a0 l.length ca) (.slice v0 l.length cv)) := HD.out.alloc _
  go_enter Try.func26, Try.ntmps26
  go_wp2_with (first
    | (refine wpList_load_mid rfl 42 _ rfl d 32 rfl (lsN bs) _ D0.out.rangeB Try.underlying42 rfl info42 ?_)
    | (refine wpList_store_mid rfl 42 _ _ rfl w.heap.size 0 (lsN bs).toArray rfl rfl E0.out.thereN info42 (lsN_one bs) ?_))
  have E1 := E0.out.putN bs
  have F1 := Fr.setCells (Or.inr (Nat.le_refl _)) (lsN bs) _ 0 F0.out
  have HE1 := E1
  have HF1 := F1
  clear E1 F1
  generalize (w.alloc (.cells (dkC (fun _ => zB) (fun _ => zB) (.slice none 0 0) (.slice none 0 0)) 46)).setCells w.heap.size 0 (lsN bs) = W1 at HE1 HF1 ⊢
  have E1 : Hid (Dk W1 w.heap.size bs (fun _ => zB) (.slice none 0 0) (.slice none 0 0)) := HE1
  have F1 : Hid (Fr [] w W1) := HF1
  clear HE1 HF1 E0 F0 D0
  go_loopg [6] l.length (fun g s6 wx => ∃ i : Nat, i + g = l.length ∧ s6 = .int .i64 i ∧ i ≤ k.toNat ∧ Hid (Dk wx w.heap.size (app bs (l.take i)) (fun _ => zB) (.slice none 0 0) (.slice none 0 0)) ∧ Hid (Fr [] w wx))
  case atStart => exact ⟨0, by omega, rfl, by omega, E1, F1⟩
  case round =>
    clear E1 F1
    obtain ⟨i, hig, rfl, hik, E, F⟩ := hrel
    have D : Hid (Dk wr d n bs (.slice a0 l.length ca) (.slice v0 l.length cv)) := F.out.keep HD.out (by simp)
    have c64 := D.out.at
    have c65 := D.out.vl
    by_cases hk : (i : Int) < k
    · cases gk with
      | zero =>
        have hil : ¬ ((i : Int) < (l.length : Int)) := by omega
        have HT : Hid (app bs (l.take i) = app bs (l.take k.toNat)) := by
          show _ = _; rw [List.take_of_length_le (by omega), List.take_of_length_le (by omega)]
        go_wp2_with (first
          | (refine wpList_load_mid rfl 42 _ rfl w.heap.size 0 rfl (lsN (app bs (l.take i))) _ E.out.rangeN Try.underlying42 rfl info42 ?_)
          | (refine wpList_store_mid rfl 42 _ _ rfl w.heap.size 32 (lsN (app bs (l.take i))).toArray rfl rfl E.out.thereB info42 (lsN_one _) ?_))
        go_ret
        refine ⟨rfl, ?_, Fr.setCells (Or.inr (Nat.le_refl _)) _ _ _ F.out⟩
        rw [← HT.out]
        exact E.out.putB _
      | succ g1 =>
        have hil : i < l.length := by omega
        have hili : (i : Int) < (l.length : Int) := by omega
        obtain ⟨ga, cap', hva, _, hga⟩ := HA.out.form (by omega)
        obtain ⟨gv, cap2, hvv, _, hgv⟩ := HV.out.form (by omega)
        simp only [Value.slice.injEq, true_and] at hva hvv
        obtain ⟨rfl, rfl⟩ := hva
        obtain ⟨rfl, rfl⟩ := hvv
        have A1 := owns_keep HA.out F.out (by simp)
        have V1 := owns_keep HV.out F.out (by simp)
        have ai := A1.cellAt i (by omega)
        rw [ats_at hil] at ai
        obtain ⟨q0, q1, q2, q3⟩ := vals_at hil
        have y0 := V1.cellAt (i * 4) (by omega)
        have y1 := V1.cellAt (i * 4 + 1) (by omega)
        have y2 := V1.cellAt (i * 4 + 2) (by omega)
        have y3 := V1.cellAt (i * 4 + 3) (by omega)
        rw [q0] at y0
        rw [q1] at y1
        rw [q2] at y2
        rw [q3] at y3
        clear q0 q1 q2 q3 A1 V1
        have HT : Hid (app bs (l.take (i + 1)) = upd (app bs (l.take i)) (l[i]).1 (l[i]).2) := app_take hil bs
        have hb8 : (l[i]).1 < 8 := H8.out _ (List.getElem_mem hil)
        generalize (l[i]).1 = b at ai hb8 HT
        generalize (l[i]).2 = x at y0 y1 y2 y3 HT
        have hbi : (b : Int) < 8 := by omega
        have ea := E.out.na hb8
        have eb := E.out.nb hb8
        have ec := E.out.nc hb8
        have ed := E.out.nd hb8
        have fa := E.out.fr (b * 4)
        have fb := E.out.fr (b * 4 + 1)
        have fc := E.out.fr (b * 4 + 2)
        have fd := E.out.fr (b * 4 + 3)
        have hkk : i + 1 ≤ k.toNat := by omega
        go_wp2
        go_region
        go_wp2
        go_roundg g1
        case measure => omega
        case rel =>
          refine ⟨i + 1, by omega, by go_num, hkk, ?_, ?_⟩
          · show Dk _ _ _ _ _ _
            rw [HT.out]
            exact E.out.setN hb8 x
          · exact ((((F.out.setCell (Or.inr (Nat.le_refl _)) _).setCell (Or.inr (Nat.le_refl _)) _).setCell (Or.inr (Nat.le_refl _)) _).setCell (Or.inr (Nat.le_refl _)) _).drew
    · have hk2 : i = k.toNat := by omega
      have HT : Hid (app bs (l.take i) = app bs (l.take k.toNat)) := by show _ = _; rw [hk2]
      clear hk2
      have dk : decide ((i : Int) < k) = false := decide_eq_false hk
      go_wp2_with (first
        | (refine wpList_load_mid rfl 42 _ rfl w.heap.size 0 rfl (lsN (app bs (l.take i))) _ E.out.rangeN Try.underlying42 rfl info42 ?_)
        | (refine wpList_store_mid rfl 42 _ _ rfl w.heap.size 32 (lsN (app bs (l.take i))).toArray rfl rfl E.out.thereB info42 (lsN_one _) ?_))
      go_ret
      refine ⟨rfl, ?_, Fr.setCells (Or.inr (Nat.le_refl _)) _ _ _ F.out⟩
      rw [← HT.out]
      exact E.out.putB _

/-- The law's After: the cut image, marked. -/
theorem dk_dr {w : World} {d : Nat} {n bs : Nat → Bl} {N : Nat} (h : Dk w d n bs (.slice none 0 0) (.slice none 0 0)) (hN : N ≤ d) : Dr N w d [d] n bs [] :=
  ⟨⟨_, _, h, World.ownsRow_nil _ _ _ _, World.ownsRow_nil _ _ _ _, fun k hk => by simp [Value.ownBlock] at hk, fun k hk => by simp [Value.ownBlock] at hk⟩, by simp, fun k hk => by simp at hk; subst hk; exact ⟨hN, blk_lt h⟩⟩

set_option maxHeartbeats 1600000 in
theorem law_after (N : Nat) (w : World) (d : Nat) (R : List Nat) (n bs : Nat → Bl) (l : List (Nat × Bl)) (h : Dr N w d R n bs l) (h8 : ∀ p, p ∈ l → p.1 < 8) (hlen : l.length ≤ 100) (k : Int) :
    Calls Try.prog 16 #[.pointer (some ⟨d, 0, none⟩), .int .i64 k] w fun e w' => e = .returned (.pointer (some ⟨w.heap.size, 0, none⟩)) ∧ Dr w.heap.size w' w.heap.size [w.heap.size] (app bs (l.take k.toNat)) (app bs (l.take k.toNat)) [] ∧ Fr [] w w' := by
  have HD : Hid (Dr N w d R n bs l) := h
  have H8 : Hid (∀ p, p ∈ l → p.1 < 8) := h8
  clear h h8
  go_enter Try.func16, Try.ntmps16
  go_wp2_with fail
  go_at_call 26
  refine (disk_after N _ d R n bs l HD.out H8.out hlen k).mono ?_
  rintro e w1 ⟨rfl, hd, hf⟩
  have H1 : Hid (Dk w1 w.heap.size (app bs (l.take k.toNat)) (app bs (l.take k.toNat)) (.slice none 0 0) (.slice none 0 0)) := hd
  clear hd
  go_wp2_with fail
  go_at_call 23
  refine (mark_any _ _ _ _ _ _ H1.out).mono ?_
  rintro e w2 ⟨rfl, hd2, hf2⟩
  have H2 : Hid (Dk w2 w.heap.size (app bs (l.take k.toNat)) (app bs (l.take k.toNat)) (.slice none 0 0) (.slice none 0 0)) := hd2
  clear hd2
  go_wp2
  go_ret
  exact ⟨rfl, dk_dr H2.out (Nat.le_refl _), hf.narrow hf2 (fun i hi => by simp at hi; right; omega)⟩

set_option maxHeartbeats 800000 in
theorem law_mark (N : Nat) (w : World) (d : Nat) (R : List Nat) (n bs : Nat → Bl) (l : List (Nat × Bl)) (h : Dr N w d R n bs l) :
    Calls Try.prog 14 #[.pointer (some ⟨d, 0, none⟩)] w fun e w' => e = .returned (.tuple #[]) ∧ Dr N w' d [d] n n [] ∧ Fr [d] w w' := by
  obtain ⟨av, vv, hD, _⟩ := h.ex
  have HD : Hid (Dk w d n bs av vv) := hD
  have hN := (h.low d h.din).1
  clear h hD
  go_enter Try.func14, Try.ntmps14
  go_wp2_with fail
  go_at_call 23
  refine (mark_any _ _ _ _ _ _ HD.out).mono ?_
  rintro e w2 ⟨rfl, hd2, hf2⟩
  have H2 : Hid (Dk w2 d n n (.slice none 0 0) (.slice none 0 0)) := hd2
  clear hd2
  go_wp2
  go_end0
  exact ⟨rfl, dk_dr H2.out hN, hf2⟩

set_option maxHeartbeats 800000 in
theorem law_steps (N : Nat) (w : World) (d : Nat) (R : List Nat) (n bs : Nat → Bl) (l : List (Nat × Bl)) (h : Dr N w d R n bs l) :
    Calls Try.prog 12 #[.pointer (some ⟨d, 0, none⟩)] w fun e w' => e = .returned (.int .i64 (l.length : Nat)) ∧ w' = w := by
  obtain ⟨av, vv, hD, hA, _⟩ := h.ex
  obtain ⟨a0, ca, rfl⟩ := owns_form hA
  have HD : Hid (Dk w d n bs (.slice a0 l.length ca) vv) := hD
  clear h hD hA
  go_enter Try.func12, Try.ntmps12
  go_wp2_with fail
  go_at_call 20
  refine (steps_any _ _ _ _ _ _ _ _ HD.out).mono ?_
  rintro e w2 ⟨rfl, rfl⟩
  go_wp2
  go_ret
  exact ⟨rfl, rfl⟩
end Go.Proofs.Qxb6500339a
