import Derived.Test.Qxb6500341aW15
import Derived.Test.Qxb6500341aW16
import Derived.Test.Qxb6500341aW17
namespace Go.Proofs.Qxb6500341a
open Go.RowKit
set_option linter.unusedVariables false

/-- The ghost in block g: the text t, and a lawful memory of the last seal. -/
def GhoI (w : World) (g : Nat) (t : ByteArray) : Prop := ∃ was way, Gho w g t was way ∧ GI was way

theorem GhoI.keep {S : List Nat} {w w' : World} {b : Nat} {t : ByteArray} (h : GhoI w b t) (hf : Fr S w w') (hn : b ∉ S) : GhoI w' b t := by
  obtain ⟨was, way, h1, h2⟩ := h
  exact ⟨was, way, hf.keep h1 hn, h2⟩

theorem kept_test (w : World) (x g : Nat) (t was : ByteArray) (way : Int) (a b c : Int) (s u : ByteArray) (hs : s.size ≤ maxLen) (hr : Real w x t) (hg : Gho w g t was way) (hi : GI was way) (hxg : x ≠ g) :
    Calls Try.prog 15 #[.pointer (some ⟨x, 0, none⟩), .pointer (some ⟨g, 0, none⟩), .agg #[.int .i64 3, .int .i64 a, .int .i64 b, .int .i64 c, .string s, .string u]] w fun e w' => e = .returned (.bool true) ∧ Real w' x t ∧ Gho w' g t was way ∧ Fr [x, g] w w' := by
  have hway : way = 0 ∨ way = 1 ∨ way = 2 := by
    rcases hi.ok with h | ⟨h | h, _⟩
    · exact Or.inl h
    · exact Or.inr (Or.inl h.1)
    · exact Or.inr (Or.inr h)
  by_cases h1 : a = 1
  · subst h1
    by_cases hE : testE t 1 = 0
    · by_cases hR : restA 1 t.data.toList = 0
      · rcases hway with rfl | rfl | rfl
        · exact kept_test_1_none_ok_yes w x g t was b c s u hs hr hg hi hxg hE hR
        · exact kept_test_1_same_ok_yes w x g t was b c s u hs hr hg hi hxg hE hR
        · exact kept_test_1_other_ok_yes w x g t was b c s u hs hr hg hi hxg hE hR
      · rcases hway with rfl | rfl | rfl
        · exact kept_test_1_none_ok_no w x g t was b c s u hs hr hg hi hxg hE hR
        · exact kept_test_1_same_ok_no w x g t was b c s u hs hr hg hi hxg hE hR
        · exact kept_test_1_other_ok_no w x g t was b c s u hs hr hg hi hxg hE hR
    · rcases hway with rfl | rfl | rfl
      · exact kept_test_1_none_err w x g t was b c s u hs hr hg hi hxg hE
      · exact kept_test_1_same_err w x g t was b c s u hs hr hg hi hxg hE
      · exact kept_test_1_other_err w x g t was b c s u hs hr hg hi hxg hE
  · by_cases h2 : a = 2
    · subst h2
      by_cases hE : testE t 2 = 0
      · by_cases hR : restA 2 t.data.toList = 1
        · rcases hway with rfl | rfl | rfl
          · exact kept_test_2_none_ok_yes w x g t was b c s u hs hr hg hi hxg hE hR
          · exact kept_test_2_other_ok_yes w x g t was b c s u hs hr hg hi hxg hE hR
          · exact kept_test_2_same_ok_yes w x g t was b c s u hs hr hg hi hxg hE hR
        · rcases hway with rfl | rfl | rfl
          · exact kept_test_2_none_ok_no w x g t was b c s u hs hr hg hi hxg hE hR
          · exact kept_test_2_other_ok_no w x g t was b c s u hs hr hg hi hxg hE hR
          · exact kept_test_2_same_ok_no w x g t was b c s u hs hr hg hi hxg hE hR
      · rcases hway with rfl | rfl | rfl
        · exact kept_test_2_none_err w x g t was b c s u hs hr hg hi hxg hE
        · exact kept_test_2_other_err w x g t was b c s u hs hr hg hi hxg hE
        · exact kept_test_2_same_err w x g t was b c s u hs hr hg hi hxg hE
    · by_cases h0 : way = 0
      · exact kept_test_raw_none w x g t was way a b c s u hs hr hg hi hxg h1 h2 h0
      · exact kept_test_raw_other w x g t was way a b c s u hs hr hg hi hxg h1 h2 (by rw [bne_iff_ne]; exact h0) (beq_eq_false_iff_ne.2 (by omega))

theorem kept_any (w : World) (x g : Nat) (t : ByteArray) (o : OpT) (hs : o.s.size ≤ maxLen) (hr : Real w x t) (hg : GhoI w g t) (hxg : x ≠ g) :
    Calls Try.prog 15 #[.pointer (some ⟨x, 0, none⟩), .pointer (some ⟨g, 0, none⟩), o.val] w fun e w' => e = .returned (.bool true) ∧ Real w' x (nxt t o) ∧ GhoI w' g (nxt t o) ∧ Fr [x, g] w w' := by
  obtain ⟨k, a, b, c, s, u⟩ := o
  obtain ⟨was, way, hg, hi⟩ := hg
  unfold OpT.val
  have fin : ∀ {e : Ending} {w' : World} {T : ByteArray}, (e = .returned (.bool true) ∧ Real w' x T ∧ Gho w' g T was way ∧ Fr [x, g] w w') → (e = .returned (.bool true) ∧ Real w' x T ∧ GhoI w' g T ∧ Fr [x, g] w w') :=
    fun ⟨h1, h2, h3, h4⟩ => ⟨h1, h2, ⟨was, way, h3, hi⟩, h4⟩
  by_cases h1 : k = 1
  · subst h1
    by_cases h32 : 32 < s.size
    · exact (kept_load_long w x g t was way a b c s u hs hr hg hi hxg h32).mono fun _ _ => fin
    · by_cases hb : fbI 36 s.data.toList < 0
      · exact (kept_load_ok w x g t was way a b c s u hs hr hg hi hxg h32 (by have := fbI_ge 36 s.data.toList; omega)).mono fun _ _ => fin
      · obtain ⟨n, hn⟩ := Int.eq_ofNat_of_zero_le (show 0 ≤ fbI 36 s.data.toList by omega)
        exact (kept_load_bad w x g t was way a b c s u hs hr hg hi hxg h32 n hn).mono fun _ _ => fin
  by_cases h2 : k = 2
  · subst h2
    by_cases hE : sealE t a = 0
    · rcases gd_way0 hE with rfl | rfl
      · refine (kept_seal_1 w x g t was way b c s u hs hr hg hi hxg hE).mono ?_
        rintro e w' ⟨h1, h2, h3, h4⟩
        exact ⟨h1, h2, ⟨_, _, h3, GI.seal hr.law hE⟩, h4⟩
      · refine (kept_seal_2 w x g t was way b c s u hs hr hg hi hxg hE).mono ?_
        rintro e w' ⟨h1, h2, h3, h4⟩
        exact ⟨h1, h2, ⟨_, _, h3, GI.seal hr.law hE⟩, h4⟩
    · exact (kept_seal_err w x g t was way a b c s u hs hr hg hi hxg hE).mono fun _ _ => fin
  by_cases h3 : k = 3
  · subst h3; exact (kept_test w x g t was way a b c s u hs hr hg hi hxg).mono fun _ _ => fin
  by_cases h4 : k = 4
  · subst h4; exact (kept_show w x g t was way a b c s u hs hr hg hi hxg).mono fun _ _ => fin
  by_cases h5 : k = 5
  · subst h5; exact (kept_check w x g t was way a b c s u hs hr hg hi hxg).mono fun _ _ => fin
  have := (kept_none w x g t was way k a b c s u hs hr hg hi hxg (beq_eq_false_iff_ne.2 h1) (beq_eq_false_iff_ne.2 h2) (beq_eq_false_iff_ne.2 h3) (beq_eq_false_iff_ne.2 h4) (beq_eq_false_iff_ne.2 h5)).mono fun _ _ => fin
  simpa [nxt, h1, h2, h3, h4, h5] using this

def eyeOp (k a : Int) : OpT := ⟨k, a, 0, 0, ⟨#[]⟩, ⟨#[]⟩⟩
theorem nxt_eye {t : ByteArray} {k a : Int} (h : k = 3 ∨ k = 4 ∨ k = 5) : nxt t (eyeOp k a) = t := by
  rcases h with rfl | rfl | rfl <;> simp [nxt, eyeOp]

theorem eye_any (w : World) (x g : Nat) (t : ByteArray) (k a : Int) (hk : k = 3 ∨ k = 4 ∨ k = 5) (hr : Real w x t) (hg : GhoI w g t) (hxg : x ≠ g) :
    Calls Try.prog 15 #[.pointer (some ⟨x, 0, none⟩), .pointer (some ⟨g, 0, none⟩), .agg #[.int .i64 k, .int .i64 a, .int .i64 0, .int .i64 0, .string ⟨#[]⟩, .string ⟨#[]⟩]] w fun e w' => e = .returned (.bool true) ∧ Real w' x t ∧ GhoI w' g t ∧ Fr [x, g] w w' := by
  have h := kept_any w x g t (eyeOp k a) (by show 0 ≤ maxLen; omega) hr hg hxg
  rw [nxt_eye hk] at h
  exact h

set_option maxHeartbeats 800000 in
theorem looks_any (w : World) (x g : Nat) (t : ByteArray) (hr : Real w x t) (hg : GhoI w g t) (hxg : x ≠ g) :
    Calls Try.prog 14 #[.pointer (some ⟨x, 0, none⟩), .pointer (some ⟨g, 0, none⟩)] w fun e w' => e = .returned (.bool true) ∧ Real w' x t ∧ GhoI w' g t ∧ Fr [x, g] w w' := by
  have HR : Hid (Real w x t) := hr
  have HG : Hid (GhoI w g t) := hg
  clear hr hg
  go_enter Try.func14, Try.ntmps14
  go_wp2_with fail
  refine (eye_any w x g t 4 0 (by omega) HR.out HG.out hxg).mono ?_
  rintro e w1 ⟨rfl, hr1, hg1, hf1⟩
  go_wp2_with fail
  refine (eye_any w1 x g t 5 0 (by omega) hr1 hg1 hxg).mono ?_
  rintro e w2 ⟨rfl, hr2, hg2, hf2⟩
  have HF2 : Hid (Fr [x, g] w w2) := hf1.trans hf2
  have HR2 : Hid (Real w2 x t) := hr2
  have HG2 : Hid (GhoI w2 g t) := hg2
  obtain ⟨was, way, hgo, hi⟩ := hg2
  have c2 := blk_cell hgo 2
  clear hr1 hg1 hf1 hr2 hf2 hgo hi
  by_cases hw : way = 0
  · subst hw
    go_wp2_with fail
    go_ret
    exact ⟨rfl, HR2.out, HG2.out, HF2.out⟩
  · have b0 : (way == 0) = false := beq_eq_false_iff_ne.2 hw
    clear hw
    go_wp2_with fail
    refine (eye_any w2 x g t 3 way (by omega) HR2.out HG2.out hxg).mono ?_
    rintro e w3 ⟨rfl, hr3, hg3, hf3⟩
    go_wp2
    go_ret
    exact ⟨rfl, hr3, hg3, HF2.out.trans hf3⟩
end Go.Proofs.Qxb6500341a
