import Derived.Test.Qxb6500341aW6
import Derived.Test.Qxb6500341aPlainE
import Derived.Deep.RegionWith
import Derived.Deep.DeepCutAuto
namespace Go.Proofs.Qxb6500341a
open Go.RowKit
set_option linter.unusedVariables false

theorem Inv.fb {t : ByteArray} {l m1 m2 : Int} (h : Inv t l m1 m2) : 0 < l ↔ 0 ≤ fbI 10 t.data.toList := by
  rw [h.lets]; exact lets_fb _ h.law

set_option maxHeartbeats 800000 in
theorem seal_err (w : World) (b : Nat) (t : ByteArray) (way : Int) (hr : Real w b t) (hE : sealE t way ≠ 0) :
    Calls Try.prog 29 #[.pointer (some ⟨b, 0, none⟩), .int .i64 way] w fun e w' => e = .returned (.tuple #[.int .i64 0, .int .i64 (sealE t way)]) ∧ w' = w := by
  obtain ⟨l, m1, m2, hx, hinv⟩ := hr
  have hfb := hinv.fb
  have hsz := hinv.size
  have HF : Hid (0 < l ↔ 0 ≤ fbI 10 t.data.toList) := hfb
  have HX : Hid (Slp w b t l (-1) m1 m2) := hx
  have hne : (gd t.data.toList way 1 way != 0) = true := by rw [bne_iff_ne]; exact hE
  clear hfb hx hE hinv
  go_enter Try.func29, Try.ntmps29
  go_wp2_with (go_at_call 37; refine (guard_any _ b t l m1 m2 way 1 way HX.out (by omega) (by omega) HF.out).mono ?_; rintro e w' ⟨rfl, rfl⟩)
  go_ret2
  exact ⟨ret_two rfl rfl, rfl⟩

set_option maxHeartbeats 800000 in
theorem seal_one (w : World) (b : Nat) (t : ByteArray) (hr : Real w b t) (hE : sealE t 1 = 0) :
    Calls Try.prog 29 #[.pointer (some ⟨b, 0, none⟩), .int .i64 1] w fun e w' => e = .returned (.tuple #[.int .i64 (ckN t 1), .int .i64 0]) ∧ Real w' b (t ++ ckD t 1) ∧ Fr [b] w w' := by
  obtain ⟨l, m1, m2, hx, hinv⟩ := hr
  have hfb := hinv.fb
  have hsz := hinv.size
  have HF : Hid (0 < l ↔ 0 ≤ fbI 10 t.data.toList) := hfb
  have HX : Hid (Slp w b t l (-1) m1 m2) := hx
  have HI : Hid (Inv (t ++ ckD t 1) l 0 (-1)) := hinv.seal1 hE
  have HD : Hid (allOk 10 t.data.toList) := (gd_zero1 hE).2.2
  have hg : gd t.data.toList 1 1 1 = 0 := hE
  have c0 := blk_cell hx 0
  have hlr := luhnR_bd 1 t.data.toList
  clear hfb hx hE hinv
  go_enter Try.func29, Try.ntmps29
  go_wp2_with (go_at_call 37; refine (guard_any _ b t l m1 m2 1 1 1 HX.out (by omega) (by omega) HF.out).mono ?_; rintro e w' ⟨rfl, rfl⟩)
  refine (luhn_any _ 1 _ (by omega) (by omega) HD.out).mono ?_
  rintro e w1 ⟨rfl, pos, hw1⟩
  have hf1 : Fr [] w' w1 := by rw [hw1]; exact (Fr.refl _ _).alloc _
  have hx1 : Slp w1 b t l (-1) m1 m2 := hf1.keep HX.out (by simp)
  clear c0 hw1 hg
  have c0 := blk_cell hx1 0
  have c3 := blk_cell hx1 3
  have c4 := blk_cell hx1 4
  have f0 := blk_frozen hx1 0
  have f3 := blk_frozen hx1 3
  have f4 := blk_frozen hx1 4
  have HX1 : Hid (Slp w1 b t l (-1) m1 m2) := hx1
  have HN : Hid (ckN t 1 = -luhnR 1 t.data.toList % 10) := by show _ = _; rw [ck1, luhn_nought]; omega
  clear hx1
  obtain ⟨hr0, hr9⟩ := hlr
  generalize luhnR 1 t.data.toList = r at *
  have e1 : Utf8.encode (48 + -r % 10 / 10) = ⟨#[48]⟩ := by rw [show 48 + -r % 10 / 10 = 48 from by omega]; rfl
  have e2 : Utf8.encode (48 + -r % 10) = ⟨#[dg (-r % 10)]⟩ := enc1 _ (by omega) (by omega)
  have HD1 : Hid ((⟨#[48]⟩ ++ ⟨#[dg (-r % 10)]⟩ : ByteArray).extract 1 2 = ckD t 1) := by
    show _ = _
    rw [ckD1, HN.out, show -r % 10 % 10 = -r % 10 from by omega]; rfl
  go_wp2_with fail
  go_region
  go_wp2
  go_ret2
  refine ⟨ret_two (by rw [HN.out]; omega) rfl, ?_, ?_⟩
  · rw [← HD1.out]
    rw [← HD1.out] at HI
    exact ⟨l, 0, -1, blk_set (blk_set (blk_set HX1.out 0 _) 3 _) 4 _, HI⟩
  · exact ((((hf1.widen).setCell (by simp) _).setCell (by simp) _).setCell (by simp) _).drew

set_option maxHeartbeats 800000 in
theorem seal_two (w : World) (b : Nat) (t : ByteArray) (hr : Real w b t) (hE : sealE t 2 = 0) :
    Calls Try.prog 29 #[.pointer (some ⟨b, 0, none⟩), .int .i64 2] w fun e w' => e = .returned (.tuple #[.int .i64 (ckN t 2), .int .i64 0]) ∧ Real w' b (t ++ ckD t 2) ∧ Fr [b] w w' := by
  obtain ⟨l, m1, m2, hx, hinv⟩ := hr
  have hfb := hinv.fb
  have hsz := hinv.size
  have HF : Hid (0 < l ↔ 0 ≤ fbI 10 t.data.toList) := hfb
  have HX : Hid (Slp w b t l (-1) m1 m2) := hx
  have HI : Hid (Inv (t ++ ckD t 2) l (-1) 1) := hinv.seal2 hE
  have HL : Hid (allOk 36 t.data.toList) := hinv.law
  have hg : gd t.data.toList 2 1 2 = 0 := hE
  have c0 := blk_cell hx 0
  have hlr := f97_bd 0 t.data.toList (by omega)
  clear hfb hx hE hinv
  go_enter Try.func29, Try.ntmps29
  go_wp2_with (go_at_call 37; refine (guard_any _ b t l m1 m2 2 1 2 HX.out (by omega) (by omega) HF.out).mono ?_; rintro e w' ⟨rfl, rfl⟩)
  refine (by97_any _ _ (by omega) HL.out).mono ?_
  rintro e w1 ⟨rfl, hf1⟩
  have hx1 : Slp w1 b t l (-1) m1 m2 := hf1.keep HX.out (by simp)
  clear c0 hg
  have c0 := blk_cell hx1 0
  have c3 := blk_cell hx1 3
  have c4 := blk_cell hx1 4
  have f0 := blk_frozen hx1 0
  have f3 := blk_frozen hx1 3
  have f4 := blk_frozen hx1 4
  have HX1 : Hid (Slp w1 b t l (-1) m1 m2) := hx1
  have HN : Hid (ckN t 2 = 98 - f97 0 t.data.toList * 100 % 97) := by show _ = _; rw [ck2, f97_noughts]
  clear hx1
  obtain ⟨hr0, hr9⟩ := hlr
  generalize f97 0 t.data.toList = r at *
  have e1 : Utf8.encode (48 + (98 - r * 100 % 97) / 10) = ⟨#[dg ((98 - r * 100 % 97) / 10)]⟩ := enc1 _ (by omega) (by omega)
  have e2 : Utf8.encode (48 + (98 - r * 100 % 97) % 10) = ⟨#[dg ((98 - r * 100 % 97) % 10)]⟩ := enc1 _ (by omega) (by omega)
  have HD1 : Hid ((⟨#[dg ((98 - r * 100 % 97) / 10)]⟩ ++ ⟨#[dg ((98 - r * 100 % 97) % 10)]⟩ : ByteArray) = ckD t 2) := by
    show _ = _
    rw [ckD2, HN.out]; rfl
  go_wp2_with fail
  go_region
  go_wp2
  go_ret2
  refine ⟨ret_two (by rw [HN.out]) rfl, ?_, ?_⟩
  · rw [← HD1.out]
    rw [← HD1.out] at HI
    exact ⟨l, -1, 1, blk_set (blk_set (blk_set HX1.out 0 _) 4 _) 3 _, HI⟩
  · exact ((((hf1.widen).setCell (by simp) _).setCell (by simp) _).setCell (by simp) _).drew

theorem seal_any (w : World) (b : Nat) (t : ByteArray) (way : Int) (hr : Real w b t) :
    Calls Try.prog 29 #[.pointer (some ⟨b, 0, none⟩), .int .i64 way] w fun e w' => e = .returned (.tuple #[.int .i64 (sealN t way), .int .i64 (sealE t way)]) ∧ Real w' b (sealT t way) ∧ Fr [b] w w' := by
  by_cases hE : sealE t way = 0
  · have e1 : sealN t way = ckN t way := by simp [sealN, hE]
    have e2 : sealT t way = t ++ ckD t way := by simp [sealT, hE]
    rw [e1, e2, hE]
    rcases gd_way0 hE with rfl | rfl
    · exact seal_one w b t hr hE
    · exact seal_two w b t hr hE
  · have e1 : sealN t way = 0 := by simp [sealN, hE]
    have e2 : sealT t way = t := by simp [sealT, hE]
    rw [e1, e2]
    refine (seal_err w b t way hr hE).mono ?_
    rintro e w' ⟨rfl, rfl⟩
    exact ⟨rfl, hr, Fr.refl _ _⟩

set_option maxHeartbeats 800000 in
theorem sealm_err (w : World) (b : Nat) (t : ByteArray) (way : Int) (hr : Slm w b t) (hL : Law t) (hE : sealE t way ≠ 0) :
    Calls Try.prog 32 #[.pointer (some ⟨b, 0, none⟩), .int .i64 way] w fun e w' => e = .returned (.tuple #[.int .i64 0, .int .i64 (sealE t way)]) ∧ w' = w := by
  have hsz := hL.size
  have HX : Hid (Slm w b t) := hr
  have hne : (gd t.data.toList way 1 way != 0) = true := by rw [bne_iff_ne]; exact hE
  clear hr hE hL
  go_enter Try.func32, Try.ntmps32
  go_wp2_with (go_at_call 41; refine (guardm_any _ b t way 1 way HX.out (by omega) (by omega)).mono ?_; rintro e w' ⟨rfl, rfl⟩)
  go_ret2
  exact ⟨ret_two rfl rfl, rfl⟩

theorem ext1 : (⟨#[48, 48]⟩ : ByteArray).extract 0 1 = ⟨#[48]⟩ := rfl
theorem ext2 : (⟨#[48, 48]⟩ : ByteArray).extract 0 2 = ⟨#[48, 48]⟩ := rfl

theorem conv_one (w : World) (g : Nat) (x y : Int) (hx0 : 0 ≤ x) (hx1 : x ≤ 255) (hy0 : 0 ≤ y) (hy1 : y ≤ 255) (hc : w.heap[g]? = some (.cells #[.int .u8 x, .int .u8 y] 5)) :
    (convert 51 9 (.slice (some ⟨g, 1, none⟩) 1 1)).run Try.prog w = .ok (.string ⟨#[UInt8.ofNat y.toNat]⟩) w := by
  refine run_convert_bytes_back w 51 9 5 ⟨g, 1, none⟩ 1 [UInt8.ofNat y.toNat] Try.underlying51 Try.underlying5 Try.underlying9 (fun j hj => ?_)
  match j, hj with
  | 0, _ =>
    have e := blk_cell hc 1
    simp [Addr.add, e]
    omega

theorem conv_two (w : World) (g : Nat) (x y : Int) (hx0 : 0 ≤ x) (hx1 : x ≤ 255) (hy0 : 0 ≤ y) (hy1 : y ≤ 255) (hc : w.heap[g]? = some (.cells #[.int .u8 x, .int .u8 y] 5)) :
    (convert 51 9 (.slice (some ⟨g, 0, none⟩) 2 2)).run Try.prog w = .ok (.string ⟨#[UInt8.ofNat x.toNat, UInt8.ofNat y.toNat]⟩) w := by
  refine run_convert_bytes_back w 51 9 5 ⟨g, 0, none⟩ 2 [UInt8.ofNat x.toNat, UInt8.ofNat y.toNat] Try.underlying51 Try.underlying5 Try.underlying9 (fun j hj => ?_)
  match j, hj with
  | 0, _ =>
    have e := blk_cell hc 0
    simp [Addr.add, e]
    omega
  | 1, _ =>
    have e := blk_cell hc 1
    simp [Addr.add, e]
    omega

set_option maxHeartbeats 800000 in
theorem sealm_one (w : World) (b : Nat) (t : ByteArray) (hr : Slm w b t) (hL : Law t) (hE : sealE t 1 = 0) :
    Calls Try.prog 32 #[.pointer (some ⟨b, 0, none⟩), .int .i64 1] w fun e w' => e = .returned (.tuple #[.int .i64 (ckN t 1), .int .i64 0]) ∧ Slm w' b (t ++ ckD t 1) ∧ Fr [b] w w' := by
  have hsz := hL.size
  have HX : Hid (Slm w b t) := hr
  have hg : gd t.data.toList 1 1 1 = 0 := hE
  have hz := gd_zero1 hE
  have HD : Hid (allOk 10 (t ++ (⟨#[48, 48]⟩ : ByteArray).extract 0 1).data.toList) := by
    show allOk _ _; rw [ext1, app_list]; exact allOk_app hz.2.2 (fun c hc => by simp at hc; subst hc; decide)
  have HS : Hid ((t ++ (⟨#[48, 48]⟩ : ByteArray).extract 0 1).size ≤ 32) := by
    show _ ≤ _; rw [ext1, ByteArray.size_append]; show t.size + 1 ≤ 32; omega
  have HN : Hid (ckN t 1 = (10 - restA 1 (t.data.toList ++ [48])) % 10) := by show _ = _; rw [ck1, rest1]
  have hlr : 0 ≤ restA 1 (t.data.toList ++ [48]) ∧ restA 1 (t.data.toList ++ [48]) ≤ 9 := by rw [rest1]; exact luhnR_bd _ _
  have c0 := blk_cell hr 0
  clear hr hE hL
  go_enter Try.func32, Try.ntmps32
  go_wp2_with (go_at_call 41; refine (guardm_any _ b t 1 1 1 HX.out (by omega) (by omega)).mono ?_; rintro e w' ⟨rfl, rfl⟩)
  go_region_with (go_at_call 42; refine (restm_any _ 1 _ HS.out (Or.inl ⟨rfl, HD.out⟩)).mono ?_; rintro e w1 ⟨rfl, hf1⟩)
  clear HD HS
  generalize restA 1 (t.data.toList ++ [48]) = r at *
  have hf1' : Fr [] w' w1 := ((Fr.refl _ _).drew).trans hf1
  have hx1 : Slm w1 b t := hf1'.keep HX.out (by simp)
  clear c0 hg hf1
  obtain ⟨hr0, hr9⟩ := hlr
  go_wp2
  generalize hw2 : w1.alloc _ = w2
  have hc2 := blk_new w1 (.cells #[.int .u8 (48 + -r % 10 / 10), .int .u8 (48 + -r % 10)] 5)
  rw [hw2] at hc2
  have hx2 : Slm w2 b t := by rw [← hw2]; exact blk_alloc hx1 _
  have hf2 : Fr [] w' w2 := by rw [← hw2]; exact hf1'.alloc _
  have c0 := blk_cell hx2 0
  have f0 := blk_frozen hx2 0
  have HX2 : Hid (Slm w2 b t) := hx2
  have hcv := conv_one w2.drew w1.heap.size _ _ (by omega) (by omega) (by omega) (by omega) hc2
  have hbig : w1.heap.size ≠ b := by have := blk_lt hx1; omega
  clear hw2 hx1 hx2
  go_region
  go_wp2
  go_ret2
  refine ⟨ret_two (by rw [HN.out]) rfl, ?_, ?_⟩
  · have e : (⟨#[UInt8.ofNat (48 + -r % 10).toNat]⟩ : ByteArray) = ckD t 1 := by
      rw [ckD1, HN.out, show (10 - r) % 10 % 10 = -r % 10 from by omega]; rfl
    rw [← e]
    exact blk_set HX2.out 0 _
  · exact ((hf2.widen).setCell (by simp) _).drew

set_option maxHeartbeats 800000 in
theorem sealm_two (w : World) (b : Nat) (t : ByteArray) (hr : Slm w b t) (hL : Law t) (hE : sealE t 2 = 0) :
    Calls Try.prog 32 #[.pointer (some ⟨b, 0, none⟩), .int .i64 2] w fun e w' => e = .returned (.tuple #[.int .i64 (ckN t 2), .int .i64 0]) ∧ Slm w' b (t ++ ckD t 2) ∧ Fr [b] w w' := by
  have hsz := hL.size
  have HX : Hid (Slm w b t) := hr
  have hg : gd t.data.toList 2 1 2 = 0 := hE
  have hz := gd_zero2 hE
  have HD : Hid (allOk 36 (t ++ (⟨#[48, 48]⟩ : ByteArray).extract 0 2).data.toList) := by
    show allOk _ _; rw [ext2, app_list]; exact allOk_app hL.law (fun c hc => by simp at hc; subst hc; decide)
  have HS : Hid ((t ++ (⟨#[48, 48]⟩ : ByteArray).extract 0 2).size ≤ 32) := by
    show _ ≤ _; rw [ext2, ByteArray.size_append]; show t.size + 2 ≤ 32; omega
  have HN : Hid (ckN t 2 = 98 - restA 2 (t.data.toList ++ [48, 48])) := by show _ = _; rw [ck2, rest2]
  have hlr : 0 ≤ restA 2 (t.data.toList ++ [48, 48]) ∧ restA 2 (t.data.toList ++ [48, 48]) < 97 := by rw [rest2]; exact f97_bd _ _ (by omega)
  have c0 := blk_cell hr 0
  clear hr hE hL
  go_enter Try.func32, Try.ntmps32
  go_wp2_with (go_at_call 41; refine (guardm_any _ b t 2 1 2 HX.out (by omega) (by omega)).mono ?_; rintro e w' ⟨rfl, rfl⟩)
  go_region_with (go_at_call 42; refine (restm_any _ 2 _ HS.out (Or.inr ⟨rfl, HD.out⟩)).mono ?_; rintro e w1 ⟨rfl, hf1⟩)
  clear HD HS
  generalize restA 2 (t.data.toList ++ [48, 48]) = r at *
  have hf1' : Fr [] w' w1 := ((Fr.refl _ _).drew).trans hf1
  have hx1 : Slm w1 b t := hf1'.keep HX.out (by simp)
  clear c0 hg hf1
  obtain ⟨hr0, hr9⟩ := hlr
  go_wp2
  generalize hw2 : w1.alloc _ = w2
  have hc2 := blk_new w1 (.cells #[.int .u8 (48 + (98 - r) / 10), .int .u8 (48 + (98 - r) % 10)] 5)
  rw [hw2] at hc2
  have hx2 : Slm w2 b t := by rw [← hw2]; exact blk_alloc hx1 _
  have hf2 : Fr [] w' w2 := by rw [← hw2]; exact hf1'.alloc _
  have c0 := blk_cell hx2 0
  have f0 := blk_frozen hx2 0
  have HX2 : Hid (Slm w2 b t) := hx2
  have hcv := conv_two w2.drew w1.heap.size _ _ (by omega) (by omega) (by omega) (by omega) hc2
  have hbig : w1.heap.size ≠ b := by have := blk_lt hx1; omega
  clear hw2 hx1 hx2
  go_region
  go_wp2
  go_ret2
  refine ⟨ret_two (by rw [HN.out]) rfl, ?_, ?_⟩
  · have e : (⟨#[UInt8.ofNat (48 + (98 - r) / 10).toNat, UInt8.ofNat (48 + (98 - r) % 10).toNat]⟩ : ByteArray) = ckD t 2 := by
      rw [ckD2, HN.out]; rfl
    rw [← e]
    exact blk_set HX2.out 0 _
  · exact ((hf2.widen).setCell (by simp) _).drew

theorem sealm_any (w : World) (b : Nat) (t : ByteArray) (way : Int) (hr : Slm w b t) (hL : Law t) :
    Calls Try.prog 32 #[.pointer (some ⟨b, 0, none⟩), .int .i64 way] w fun e w' => e = .returned (.tuple #[.int .i64 (sealN t way), .int .i64 (sealE t way)]) ∧ Slm w' b (sealT t way) ∧ Fr [b] w w' := by
  by_cases hE : sealE t way = 0
  · have e1 : sealN t way = ckN t way := by simp [sealN, hE]
    have e2 : sealT t way = t ++ ckD t way := by simp [sealT, hE]
    rw [e1, e2, hE]
    rcases gd_way0 hE with rfl | rfl
    · exact sealm_one w b t hr hL hE
    · exact sealm_two w b t hr hL hE
  · have e1 : sealN t way = 0 := by simp [sealN, hE]
    have e2 : sealT t way = t := by simp [sealT, hE]
    rw [e1, e2]
    refine (sealm_err w b t way hr hL hE).mono ?_
    rintro e w' ⟨rfl, rfl⟩
    exact ⟨rfl, hr, Fr.refl _ _⟩

end Go.Proofs.Qxb6500341a
