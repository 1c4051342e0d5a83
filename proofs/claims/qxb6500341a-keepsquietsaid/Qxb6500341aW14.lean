import Derived.Test.Qxb6500341aW13
namespace Go.Proofs.Qxb6500341a
open Go.RowKit
set_option linter.unusedVariables false

set_option maxRecDepth 100000 in
set_option maxHeartbeats 1600000 in
theorem kept_seal_1 (w : World) (x g : Nat) (t was : ByteArray) (way : Int) (b c : Int) (s u : ByteArray) (hs : s.size ≤ maxLen) (hr : Real w x t) (hg : Gho w g t was way) (hi : GI was way) (hxg : x ≠ g) (hE : sealE t 1 = 0) :
    Calls Try.prog 15 #[.pointer (some ⟨x, 0, none⟩), .pointer (some ⟨g, 0, none⟩), .agg #[.int .i64 2, .int .i64 1, .int .i64 b, .int .i64 c, .string s, .string u]] w fun e w' => e = .returned (.bool true) ∧ Real w' x (sealT t 1) ∧ Gho w' g (sealT t 1) (sealT t 1) 1 ∧ Fr [x, g] w w' := by
  have hxl : x < w.heap.size := by obtain ⟨l, m1, m2, h, _⟩ := hr; exact blk_lt h
  have hgl : g < w.heap.size := blk_lt hg
  have hL := hr.law
  have hsz := hL.size
  have HR : Hid (Real w x t) := hr
  have HG : Hid (Gho w g t was way) := hg
  have HI : Hid (GI was way) := hi
  clear hr hg hi
  have HQ : Hid (sealT t 1 = t ++ ckD t 1) := by show _ = _; simp [sealT, hE]
  have HN : Hid (ckN t 1 = -restA 1 (t.data.toList ++ [48]) % 10) := by show _ = _; rw [ck1, rest1]; omega
  have q1 : sealN t 1 = -restA 1 (t.data.toList ++ [48]) % 10 := by rw [← HN.out]; simp [sealN, hE]
  have hg0 : gd t.data.toList 1 1 1 = 0 := hE
  have hz := gd_zero1 hE
  have hlr : 0 ≤ restA 1 (t.data.toList ++ [48]) ∧ restA 1 (t.data.toList ++ [48]) ≤ 9 := by rw [rest1]; exact luhnR_bd _ _
  have HD : Hid (allOk 10 (t ++ (⟨#[48, 48]⟩ : ByteArray).extract 0 1).data.toList) := by
    show allOk _ _; rw [ext1, app_list]; exact allOk_app hz.2.2 (fun c hc => by simp at hc; subst hc; decide)
  have HS : Hid ((t ++ (⟨#[48, 48]⟩ : ByteArray).extract 0 1).size ≤ 1000) := by
    show _ ≤ _; rw [ext1, ByteArray.size_append]; show t.size + 1 ≤ 1000; omega
  have hpin : Hid (pinA 1 t = -1 ∨ pinA 1 t = -restA 1 (t.data.toList ++ [48]) % 10) := by rw [← HN.out]; exact pin_law 1 t
  have hsE : sealE t 1 = 0 := hE
  clear hE
  obtain ⟨hb0, hb9⟩ := hlr
  go_enter Try.func15, Try.ntmps15
  go_wp2_with fail
  have hoW := blk_new w (.cells #[.int .i64 2, .int .i64 1, .int .i64 b, .int .i64 c, .string s, .string u] 36)
  have hFW : Fr [] w (w.alloc (.cells #[.int .i64 2, .int .i64 1, .int .i64 b, .int .i64 c, .string s, .string u] 36)) := (Fr.refl _ _).alloc _
  generalize hW : w.alloc _ = W at hoW hFW ⊢
  have hRW : Real W x t := HR.out.keep hFW (by simp)
  have hGW : Gho W g t was way := hFW.keep HG.out (by simp)
  refine (do_seal W x t 1 b c s u hs hRW).mono ?_
  rintro e w1 ⟨rfl, hr1, hf1⟩
  rw [hsE, q1]
  have ho1 := hf1.keep hoW (by simp; omega)
  have hg1 : Gho w1 g t was way := hf1.keep hGW (by simp; omega)
  have hF1 : Fr [x, g] w w1 := hFW.widen.trans (hf1.mono (by simp))
  have hol : w.heap.size < w1.heap.size := blk_lt ho1
  have hgl1 : g < w1.heap.size := blk_lt hg1
  have o0 := blk_cell ho1 0
  have HO1 : Hid (w1.heap[w.heap.size]? = some (.cells #[.int .i64 2, .int .i64 1, .int .i64 b, .int .i64 c, .string s, .string u] 36)) := ho1
  have HR1 : Hid (Real w1 x (sealT t 1)) := hr1
  have HG1 : Hid (Gho w1 g t was way) := hg1
  have HF1 : Hid (Fr [x, g] w w1) := hF1
  clear hoW hFW hW hRW hGW hf1 ho1 hg1 hF1 hr1
  go_wp2
  clear o0
  generalize hWa : w1.alloc _ = Wa
  have HA : Hid (Wa.heap[w1.heap.size]? = some (.cells #[.int .i64 (0), .int .i64 (-restA 1 (t.data.toList ++ [48]) % 10), .int .i64 (0), .string ⟨#[]⟩] 42)) := by rw [← hWa]; exact blk_new _ _
  have HO : Hid (Wa.heap[w.heap.size]? = some (.cells #[.int .i64 2, .int .i64 1, .int .i64 b, .int .i64 c, .string s, .string u] 36)) := by rw [← hWa]; exact blk_alloc HO1.out _
  have HG2 : Hid (Gho Wa g t was way) := by rw [← hWa]; exact blk_alloc HG1.out _
  have HR2 : Hid (Real Wa x (sealT t 1)) := by rw [← hWa]; exact HR1.out.keep ((Fr.refl [] _).alloc _) (by simp)
  have HF2 : Hid (Fr [x, g] w Wa) := by rw [← hWa]; exact HF1.out.alloc _
  clear hWa HO1 HG1 HR1 HF1
  have HG1 := HG2
  have HR1 := HR2
  have HF1 := HF2
  clear HG2 HR2 HF2
  have o1 := blk_cell HO.out 1
  have o4 := blk_cell HO.out 4
  have g0 := blk_cell HG1.out 0
  have g1 := blk_cell HG1.out 1
  have g2 := blk_cell HG1.out 2
  have k0 := blk_frozen HG1.out 0
  have k1 := blk_frozen HG1.out 1
  have k2 := blk_frozen HG1.out 2
  have a0 := blk_cell HA.out 0
  have a1 := blk_cell HA.out 1
  have a2 := blk_cell HA.out 2
  have a3 := blk_cell HA.out 3
  go_quiet ((go_at_call 21; refine Calls.quiet_of_same (fit_any _ t 1 1 1 (by omega) (by omega))))
  clear o1 o4 g0 g1 g2 k0 k1 k2 a0 a1 a2 a3
  generalize hWn : Wa.drewN nq = Wb
  have HA' : Hid (Wb.heap[w1.heap.size]? = some (.cells #[.int .i64 (0), .int .i64 (-restA 1 (t.data.toList ++ [48]) % 10), .int .i64 (0), .string ⟨#[]⟩] 42)) := by rw [← hWn]; exact HA.out
  have HO' : Hid (Wb.heap[w.heap.size]? = some (.cells #[.int .i64 2, .int .i64 1, .int .i64 b, .int .i64 c, .string s, .string u] 36)) := by rw [← hWn]; exact HO.out
  have HG' : Hid (Gho Wb g t was way) := by rw [← hWn]; exact HG1.out
  have HR' : Hid (Real Wb x (sealT t 1)) := by rw [← hWn]; exact HR1.out.keep ((Fr.refl [] _).drewN _) (by simp)
  have HF' : Hid (Fr [x, g] w Wb) := by rw [← hWn]; exact HF1.out.drewN _
  clear hWn HA HO HG1 HR1 HF1
  have HA := HA'
  have HO := HO'
  have HG1 := HG'
  have HR1 := HR'
  have HF1 := HF'
  clear HA' HO' HG' HR' HF'
  have o1 := blk_cell HO.out 1
  have o4 := blk_cell HO.out 4
  have g0 := blk_cell HG1.out 0
  have g1 := blk_cell HG1.out 1
  have g2 := blk_cell HG1.out 2
  have k0 := blk_frozen HG1.out 0
  have k1 := blk_frozen HG1.out 1
  have k2 := blk_frozen HG1.out 2
  have a0 := blk_cell HA.out 0
  have a1 := blk_cell HA.out 1
  have a2 := blk_cell HA.out 2
  have a3 := blk_cell HA.out 3
  go_wp2
  go_quiet ((go_at_call 22; refine Calls.quiet_of_same (pin_any _ 1 t)))
  clear o1 o4 g0 g1 g2 k0 k1 k2 a0 a1 a2 a3
  generalize hWn : Wb.drewN nq = Wc
  have HA' : Hid (Wc.heap[w1.heap.size]? = some (.cells #[.int .i64 (0), .int .i64 (-restA 1 (t.data.toList ++ [48]) % 10), .int .i64 (0), .string ⟨#[]⟩] 42)) := by rw [← hWn]; exact HA.out
  have HO' : Hid (Wc.heap[w.heap.size]? = some (.cells #[.int .i64 2, .int .i64 1, .int .i64 b, .int .i64 c, .string s, .string u] 36)) := by rw [← hWn]; exact HO.out
  have HG' : Hid (Gho Wc g t was way) := by rw [← hWn]; exact HG1.out
  have HR' : Hid (Real Wc x (sealT t 1)) := by rw [← hWn]; exact HR1.out.keep ((Fr.refl [] _).drewN _) (by simp)
  have HF' : Hid (Fr [x, g] w Wc) := by rw [← hWn]; exact HF1.out.drewN _
  clear hWn HA HO HG1 HR1 HF1
  have HA := HA'
  have HO := HO'
  have HG1 := HG'
  have HR1 := HR'
  have HF1 := HF'
  clear HA' HO' HG' HR' HF'
  have o1 := blk_cell HO.out 1
  have o4 := blk_cell HO.out 4
  have g0 := blk_cell HG1.out 0
  have g1 := blk_cell HG1.out 1
  have g2 := blk_cell HG1.out 2
  have k0 := blk_frozen HG1.out 0
  have k1 := blk_frozen HG1.out 1
  have k2 := blk_frozen HG1.out 2
  have a0 := blk_cell HA.out 0
  have a1 := blk_cell HA.out 1
  have a2 := blk_cell HA.out 2
  have a3 := blk_cell HA.out 3
  rcases hpin.out with hp | hp
  all_goals
    go_wp2
    go_quiet ((go_at_call 23; refine Calls.quiet_of_same (owe_any _ 1 _ HS.out (Or.inl ⟨rfl, HD.out⟩))))
    go_wp2
    generalize hWd : (Wc.drewN nq).alloc _ = Wd
    have hc2 : Wd.heap[Wc.heap.size]? = some (.cells #[.int .u8 (48 + -restA 1 (t.data.toList ++ [48]) % 10 / 10), .int .u8 (48 + -restA 1 (t.data.toList ++ [48]) % 10)] 5) := by rw [← hWd]; exact blk_new _ _
    have HOd : Hid (Wd.heap[w.heap.size]? = some (.cells #[.int .i64 2, .int .i64 1, .int .i64 b, .int .i64 c, .string s, .string u] 36)) := by rw [← hWd]; exact blk_alloc (blk_drewN HO.out _) _
    have HGd : Hid (Gho Wd g t was way) := by rw [← hWd]; exact blk_alloc (blk_drewN HG1.out _) _
    have HRd : Hid (Real Wd x (sealT t 1)) := by rw [← hWd]; exact HR1.out.keep (((Fr.refl [] _).drewN _).alloc _) (by simp)
    have HFd : Hid (Fr [x, g] w Wd) := by rw [← hWd]; exact (HF1.out.drewN _).alloc _
    have hcv := conv_one Wd.drew Wc.heap.size _ _ (by omega) (by omega) (by omega) (by omega) hc2
    clear hWd hc2 HO HG1 HR1 HF1 HA o1 o4 g0 g1 g2 k0 k1 k2 a0 a1 a2 a3 hp
    have o1 := blk_cell HOd.out 1
    have g0 := blk_cell HGd.out 0
    have g1 := blk_cell HGd.out 1
    have g2 := blk_cell HGd.out 2
    have k0 := blk_frozen HGd.out 0
    have k1 := blk_frozen HGd.out 1
    have k2 := blk_frozen HGd.out 2
    have hgo : g ≠ w.heap.size := by omega
    have hog : w.heap.size ≠ g := by omega
    go_region
    go_wp2
    clear hcv
    have HGe : Hid (Gho (Wd.setCell ⟨g, 0, none⟩ (.string (t ++ ⟨#[UInt8.ofNat (48 + -restA 1 (t.data.toList ++ [48]) % 10).toNat]⟩))).drew g (t ++ ⟨#[UInt8.ofNat (48 + -restA 1 (t.data.toList ++ [48]) % 10).toNat]⟩) was way) := blk_set HGd.out 0 _
    have HOe : Hid ((Wd.setCell ⟨g, 0, none⟩ (.string (t ++ ⟨#[UInt8.ofNat (48 + -restA 1 (t.data.toList ++ [48]) % 10).toNat]⟩))).drew.heap[w.heap.size]? = some (.cells #[.int .i64 2, .int .i64 1, .int .i64 b, .int .i64 c, .string s, .string u] 36)) := blk_set_far HOd.out _ _ hog
    have HRe : Hid (Real (Wd.setCell ⟨g, 0, none⟩ (.string (t ++ ⟨#[UInt8.ofNat (48 + -restA 1 (t.data.toList ++ [48]) % 10).toNat]⟩))).drew x (sealT t 1)) := (HRd.out.far (p := ⟨g, 0, none⟩) hxg).keep ((Fr.refl [] _).drew) (by simp)
    have HFe : Hid (Fr [x, g] w (Wd.setCell ⟨g, 0, none⟩ (.string (t ++ ⟨#[UInt8.ofNat (48 + -restA 1 (t.data.toList ++ [48]) % 10).toNat]⟩))).drew) := (HFd.out.setCell (p := ⟨g, 0, none⟩) (by simp) _).drew
    generalize (Wd.setCell ⟨g, 0, none⟩ (.string (t ++ ⟨#[UInt8.ofNat (48 + -restA 1 (t.data.toList ++ [48]) % 10).toNat]⟩))).drew = We at *
    clear o1 g0 g1 g2 k0 k1 k2 HOd HGd HRd HFd
    have o1 := blk_cell HOe.out 1
    have g0 := blk_cell HGe.out 0
    have g1 := blk_cell HGe.out 1
    have g2 := blk_cell HGe.out 2
    have k0 := blk_frozen HGe.out 0
    have k1 := blk_frozen HGe.out 1
    have k2 := blk_frozen HGe.out 2
    have HD2 : Hid (sealT t 1 = t ++ ⟨#[UInt8.ofNat (48 + -restA 1 (t.data.toList ++ [48]) % 10).toNat]⟩) := by
      show _ = _
      rw [HQ.out, ckD1, HN.out, show -restA 1 (t.data.toList ++ [48]) % 10 % 10 = -restA 1 (t.data.toList ++ [48]) % 10 from by omega]; rfl
    generalize t ++ ⟨#[UInt8.ofNat (48 + -restA 1 (t.data.toList ++ [48]) % 10).toNat]⟩ = T3 at *
    go_region
    all_goals
      go_wp2
      go_ret
      refine ⟨rfl, ?_, ?_, ?_⟩
      · rw [HD2.out] at HRe ⊢
        first
          | exact ((HRe.out.far (p := ⟨g, 1, none⟩) hxg).far (p := ⟨g, 2, none⟩) hxg).keep ((Fr.refl [] _).drew) (by simp)
          | exact ((HRe.out.far (p := ⟨g, 2, none⟩) hxg).far (p := ⟨g, 1, none⟩) hxg).keep ((Fr.refl [] _).drew) (by simp)
      · rw [HD2.out]
        first
          | exact blk_set (blk_set HGe.out 1 _) 2 _
          | exact blk_set (blk_set HGe.out 2 _) 1 _
      · first
          | exact ((HFe.out.setCell (p := ⟨g, 1, none⟩) (by simp) _).setCell (p := ⟨g, 2, none⟩) (by simp) _).drew
          | exact ((HFe.out.setCell (p := ⟨g, 2, none⟩) (by simp) _).setCell (p := ⟨g, 1, none⟩) (by simp) _).drew

set_option maxRecDepth 100000 in
set_option maxHeartbeats 1600000 in
theorem kept_seal_2 (w : World) (x g : Nat) (t was : ByteArray) (way : Int) (b c : Int) (s u : ByteArray) (hs : s.size ≤ maxLen) (hr : Real w x t) (hg : Gho w g t was way) (hi : GI was way) (hxg : x ≠ g) (hE : sealE t 2 = 0) :
    Calls Try.prog 15 #[.pointer (some ⟨x, 0, none⟩), .pointer (some ⟨g, 0, none⟩), .agg #[.int .i64 2, .int .i64 2, .int .i64 b, .int .i64 c, .string s, .string u]] w fun e w' => e = .returned (.bool true) ∧ Real w' x (sealT t 2) ∧ Gho w' g (sealT t 2) (sealT t 2) 2 ∧ Fr [x, g] w w' := by
  have hxl : x < w.heap.size := by obtain ⟨l, m1, m2, h, _⟩ := hr; exact blk_lt h
  have hgl : g < w.heap.size := blk_lt hg
  have hL := hr.law
  have hsz := hL.size
  have HR : Hid (Real w x t) := hr
  have HG : Hid (Gho w g t was way) := hg
  have HI : Hid (GI was way) := hi
  clear hr hg hi
  have HQ : Hid (sealT t 2 = t ++ ckD t 2) := by show _ = _; simp [sealT, hE]
  have HN : Hid (ckN t 2 = 98 - restA 2 (t.data.toList ++ [48, 48])) := by show _ = _; rw [ck2, rest2]
  have q1 : sealN t 2 = 98 - restA 2 (t.data.toList ++ [48, 48]) := by rw [← HN.out]; simp [sealN, hE]
  have hg0 : gd t.data.toList 2 1 2 = 0 := hE
  have hz := gd_zero2 hE
  have hlr : 0 ≤ restA 2 (t.data.toList ++ [48, 48]) ∧ restA 2 (t.data.toList ++ [48, 48]) < 97 := by rw [rest2]; exact f97_bd _ _ (by omega)
  have HD : Hid (allOk 36 (t ++ (⟨#[48, 48]⟩ : ByteArray).extract 0 2).data.toList) := by
    show allOk _ _; rw [ext2, app_list]; exact allOk_app hL.law (fun c hc => by simp at hc; subst hc; decide)
  have HS : Hid ((t ++ (⟨#[48, 48]⟩ : ByteArray).extract 0 2).size ≤ 1000) := by
    show _ ≤ _; rw [ext2, ByteArray.size_append]; show t.size + 2 ≤ 1000; omega
  have hpin : Hid (pinA 2 t = -1 ∨ pinA 2 t = 98 - restA 2 (t.data.toList ++ [48, 48])) := by rw [← HN.out]; exact pin_law 2 t
  have hsE : sealE t 2 = 0 := hE
  clear hE
  obtain ⟨hb0, hb9⟩ := hlr
  go_enter Try.func15, Try.ntmps15
  go_wp2_with fail
  have hoW := blk_new w (.cells #[.int .i64 2, .int .i64 2, .int .i64 b, .int .i64 c, .string s, .string u] 36)
  have hFW : Fr [] w (w.alloc (.cells #[.int .i64 2, .int .i64 2, .int .i64 b, .int .i64 c, .string s, .string u] 36)) := (Fr.refl _ _).alloc _
  generalize hW : w.alloc _ = W at hoW hFW ⊢
  have hRW : Real W x t := HR.out.keep hFW (by simp)
  have hGW : Gho W g t was way := hFW.keep HG.out (by simp)
  refine (do_seal W x t 2 b c s u hs hRW).mono ?_
  rintro e w1 ⟨rfl, hr1, hf1⟩
  rw [hsE, q1]
  have ho1 := hf1.keep hoW (by simp; omega)
  have hg1 : Gho w1 g t was way := hf1.keep hGW (by simp; omega)
  have hF1 : Fr [x, g] w w1 := hFW.widen.trans (hf1.mono (by simp))
  have hol : w.heap.size < w1.heap.size := blk_lt ho1
  have hgl1 : g < w1.heap.size := blk_lt hg1
  have o0 := blk_cell ho1 0
  have HO1 : Hid (w1.heap[w.heap.size]? = some (.cells #[.int .i64 2, .int .i64 2, .int .i64 b, .int .i64 c, .string s, .string u] 36)) := ho1
  have HR1 : Hid (Real w1 x (sealT t 2)) := hr1
  have HG1 : Hid (Gho w1 g t was way) := hg1
  have HF1 : Hid (Fr [x, g] w w1) := hF1
  clear hoW hFW hW hRW hGW hf1 ho1 hg1 hF1 hr1
  go_wp2
  clear o0
  generalize hWa : w1.alloc _ = Wa
  have HA : Hid (Wa.heap[w1.heap.size]? = some (.cells #[.int .i64 (0), .int .i64 (98 - restA 2 (t.data.toList ++ [48, 48])), .int .i64 (0), .string ⟨#[]⟩] 42)) := by rw [← hWa]; exact blk_new _ _
  have HO : Hid (Wa.heap[w.heap.size]? = some (.cells #[.int .i64 2, .int .i64 2, .int .i64 b, .int .i64 c, .string s, .string u] 36)) := by rw [← hWa]; exact blk_alloc HO1.out _
  have HG2 : Hid (Gho Wa g t was way) := by rw [← hWa]; exact blk_alloc HG1.out _
  have HR2 : Hid (Real Wa x (sealT t 2)) := by rw [← hWa]; exact HR1.out.keep ((Fr.refl [] _).alloc _) (by simp)
  have HF2 : Hid (Fr [x, g] w Wa) := by rw [← hWa]; exact HF1.out.alloc _
  clear hWa HO1 HG1 HR1 HF1
  have HG1 := HG2
  have HR1 := HR2
  have HF1 := HF2
  clear HG2 HR2 HF2
  have o1 := blk_cell HO.out 1
  have o4 := blk_cell HO.out 4
  have g0 := blk_cell HG1.out 0
  have g1 := blk_cell HG1.out 1
  have g2 := blk_cell HG1.out 2
  have k0 := blk_frozen HG1.out 0
  have k1 := blk_frozen HG1.out 1
  have k2 := blk_frozen HG1.out 2
  have a0 := blk_cell HA.out 0
  have a1 := blk_cell HA.out 1
  have a2 := blk_cell HA.out 2
  have a3 := blk_cell HA.out 3
  go_quiet ((go_at_call 21; refine Calls.quiet_of_same (fit_any _ t 2 1 2 (by omega) (by omega))))
  clear o1 o4 g0 g1 g2 k0 k1 k2 a0 a1 a2 a3
  generalize hWn : Wa.drewN nq = Wb
  have HA' : Hid (Wb.heap[w1.heap.size]? = some (.cells #[.int .i64 (0), .int .i64 (98 - restA 2 (t.data.toList ++ [48, 48])), .int .i64 (0), .string ⟨#[]⟩] 42)) := by rw [← hWn]; exact HA.out
  have HO' : Hid (Wb.heap[w.heap.size]? = some (.cells #[.int .i64 2, .int .i64 2, .int .i64 b, .int .i64 c, .string s, .string u] 36)) := by rw [← hWn]; exact HO.out
  have HG' : Hid (Gho Wb g t was way) := by rw [← hWn]; exact HG1.out
  have HR' : Hid (Real Wb x (sealT t 2)) := by rw [← hWn]; exact HR1.out.keep ((Fr.refl [] _).drewN _) (by simp)
  have HF' : Hid (Fr [x, g] w Wb) := by rw [← hWn]; exact HF1.out.drewN _
  clear hWn HA HO HG1 HR1 HF1
  have HA := HA'
  have HO := HO'
  have HG1 := HG'
  have HR1 := HR'
  have HF1 := HF'
  clear HA' HO' HG' HR' HF'
  have o1 := blk_cell HO.out 1
  have o4 := blk_cell HO.out 4
  have g0 := blk_cell HG1.out 0
  have g1 := blk_cell HG1.out 1
  have g2 := blk_cell HG1.out 2
  have k0 := blk_frozen HG1.out 0
  have k1 := blk_frozen HG1.out 1
  have k2 := blk_frozen HG1.out 2
  have a0 := blk_cell HA.out 0
  have a1 := blk_cell HA.out 1
  have a2 := blk_cell HA.out 2
  have a3 := blk_cell HA.out 3
  go_wp2
  go_quiet ((go_at_call 22; refine Calls.quiet_of_same (pin_any _ 2 t)))
  clear o1 o4 g0 g1 g2 k0 k1 k2 a0 a1 a2 a3
  generalize hWn : Wb.drewN nq = Wc
  have HA' : Hid (Wc.heap[w1.heap.size]? = some (.cells #[.int .i64 (0), .int .i64 (98 - restA 2 (t.data.toList ++ [48, 48])), .int .i64 (0), .string ⟨#[]⟩] 42)) := by rw [← hWn]; exact HA.out
  have HO' : Hid (Wc.heap[w.heap.size]? = some (.cells #[.int .i64 2, .int .i64 2, .int .i64 b, .int .i64 c, .string s, .string u] 36)) := by rw [← hWn]; exact HO.out
  have HG' : Hid (Gho Wc g t was way) := by rw [← hWn]; exact HG1.out
  have HR' : Hid (Real Wc x (sealT t 2)) := by rw [← hWn]; exact HR1.out.keep ((Fr.refl [] _).drewN _) (by simp)
  have HF' : Hid (Fr [x, g] w Wc) := by rw [← hWn]; exact HF1.out.drewN _
  clear hWn HA HO HG1 HR1 HF1
  have HA := HA'
  have HO := HO'
  have HG1 := HG'
  have HR1 := HR'
  have HF1 := HF'
  clear HA' HO' HG' HR' HF'
  have o1 := blk_cell HO.out 1
  have o4 := blk_cell HO.out 4
  have g0 := blk_cell HG1.out 0
  have g1 := blk_cell HG1.out 1
  have g2 := blk_cell HG1.out 2
  have k0 := blk_frozen HG1.out 0
  have k1 := blk_frozen HG1.out 1
  have k2 := blk_frozen HG1.out 2
  have a0 := blk_cell HA.out 0
  have a1 := blk_cell HA.out 1
  have a2 := blk_cell HA.out 2
  have a3 := blk_cell HA.out 3
  rcases hpin.out with hp | hp
  all_goals
    go_wp2
    go_quiet ((go_at_call 23; refine Calls.quiet_of_same (owe_any _ 2 _ HS.out (Or.inr ⟨rfl, HD.out⟩))))
    go_wp2
    generalize hWd : (Wc.drewN nq).alloc _ = Wd
    have hc2 : Wd.heap[Wc.heap.size]? = some (.cells #[.int .u8 (48 + (98 - restA 2 (t.data.toList ++ [48, 48])) / 10), .int .u8 (48 + (98 - restA 2 (t.data.toList ++ [48, 48])) % 10)] 5) := by rw [← hWd]; exact blk_new _ _
    have HOd : Hid (Wd.heap[w.heap.size]? = some (.cells #[.int .i64 2, .int .i64 2, .int .i64 b, .int .i64 c, .string s, .string u] 36)) := by rw [← hWd]; exact blk_alloc (blk_drewN HO.out _) _
    have HGd : Hid (Gho Wd g t was way) := by rw [← hWd]; exact blk_alloc (blk_drewN HG1.out _) _
    have HRd : Hid (Real Wd x (sealT t 2)) := by rw [← hWd]; exact HR1.out.keep (((Fr.refl [] _).drewN _).alloc _) (by simp)
    have HFd : Hid (Fr [x, g] w Wd) := by rw [← hWd]; exact (HF1.out.drewN _).alloc _
    have hcv := conv_two Wd.drew Wc.heap.size _ _ (by omega) (by omega) (by omega) (by omega) hc2
    clear hWd hc2 HO HG1 HR1 HF1 HA o1 o4 g0 g1 g2 k0 k1 k2 a0 a1 a2 a3 hp
    have o1 := blk_cell HOd.out 1
    have g0 := blk_cell HGd.out 0
    have g1 := blk_cell HGd.out 1
    have g2 := blk_cell HGd.out 2
    have k0 := blk_frozen HGd.out 0
    have k1 := blk_frozen HGd.out 1
    have k2 := blk_frozen HGd.out 2
    have hgo : g ≠ w.heap.size := by omega
    have hog : w.heap.size ≠ g := by omega
    go_region
    go_wp2
    clear hcv
    have HGe : Hid (Gho (Wd.setCell ⟨g, 0, none⟩ (.string (t ++ ⟨#[UInt8.ofNat (48 + (98 - restA 2 (t.data.toList ++ [48, 48])) / 10).toNat, UInt8.ofNat (48 + (98 - restA 2 (t.data.toList ++ [48, 48])) % 10).toNat]⟩))).drew g (t ++ ⟨#[UInt8.ofNat (48 + (98 - restA 2 (t.data.toList ++ [48, 48])) / 10).toNat, UInt8.ofNat (48 + (98 - restA 2 (t.data.toList ++ [48, 48])) % 10).toNat]⟩) was way) := blk_set HGd.out 0 _
    have HOe : Hid ((Wd.setCell ⟨g, 0, none⟩ (.string (t ++ ⟨#[UInt8.ofNat (48 + (98 - restA 2 (t.data.toList ++ [48, 48])) / 10).toNat, UInt8.ofNat (48 + (98 - restA 2 (t.data.toList ++ [48, 48])) % 10).toNat]⟩))).drew.heap[w.heap.size]? = some (.cells #[.int .i64 2, .int .i64 2, .int .i64 b, .int .i64 c, .string s, .string u] 36)) := blk_set_far HOd.out _ _ hog
    have HRe : Hid (Real (Wd.setCell ⟨g, 0, none⟩ (.string (t ++ ⟨#[UInt8.ofNat (48 + (98 - restA 2 (t.data.toList ++ [48, 48])) / 10).toNat, UInt8.ofNat (48 + (98 - restA 2 (t.data.toList ++ [48, 48])) % 10).toNat]⟩))).drew x (sealT t 2)) := (HRd.out.far (p := ⟨g, 0, none⟩) hxg).keep ((Fr.refl [] _).drew) (by simp)
    have HFe : Hid (Fr [x, g] w (Wd.setCell ⟨g, 0, none⟩ (.string (t ++ ⟨#[UInt8.ofNat (48 + (98 - restA 2 (t.data.toList ++ [48, 48])) / 10).toNat, UInt8.ofNat (48 + (98 - restA 2 (t.data.toList ++ [48, 48])) % 10).toNat]⟩))).drew) := (HFd.out.setCell (p := ⟨g, 0, none⟩) (by simp) _).drew
    generalize (Wd.setCell ⟨g, 0, none⟩ (.string (t ++ ⟨#[UInt8.ofNat (48 + (98 - restA 2 (t.data.toList ++ [48, 48])) / 10).toNat, UInt8.ofNat (48 + (98 - restA 2 (t.data.toList ++ [48, 48])) % 10).toNat]⟩))).drew = We at *
    clear o1 g0 g1 g2 k0 k1 k2 HOd HGd HRd HFd
    have o1 := blk_cell HOe.out 1
    have g0 := blk_cell HGe.out 0
    have g1 := blk_cell HGe.out 1
    have g2 := blk_cell HGe.out 2
    have k0 := blk_frozen HGe.out 0
    have k1 := blk_frozen HGe.out 1
    have k2 := blk_frozen HGe.out 2
    have HD2 : Hid (sealT t 2 = t ++ ⟨#[UInt8.ofNat (48 + (98 - restA 2 (t.data.toList ++ [48, 48])) / 10).toNat, UInt8.ofNat (48 + (98 - restA 2 (t.data.toList ++ [48, 48])) % 10).toNat]⟩) := by
      show _ = _
      rw [HQ.out, ckD2, HN.out]; rfl
    generalize t ++ ⟨#[UInt8.ofNat (48 + (98 - restA 2 (t.data.toList ++ [48, 48])) / 10).toNat, UInt8.ofNat (48 + (98 - restA 2 (t.data.toList ++ [48, 48])) % 10).toNat]⟩ = T3 at *
    go_region
    all_goals
      go_wp2
      go_ret
      refine ⟨rfl, ?_, ?_, ?_⟩
      · rw [HD2.out] at HRe ⊢
        first
          | exact ((HRe.out.far (p := ⟨g, 1, none⟩) hxg).far (p := ⟨g, 2, none⟩) hxg).keep ((Fr.refl [] _).drew) (by simp)
          | exact ((HRe.out.far (p := ⟨g, 2, none⟩) hxg).far (p := ⟨g, 1, none⟩) hxg).keep ((Fr.refl [] _).drew) (by simp)
      · rw [HD2.out]
        first
          | exact blk_set (blk_set HGe.out 1 _) 2 _
          | exact blk_set (blk_set HGe.out 2 _) 1 _
      · first
          | exact ((HFe.out.setCell (p := ⟨g, 1, none⟩) (by simp) _).setCell (p := ⟨g, 2, none⟩) (by simp) _).drew
          | exact ((HFe.out.setCell (p := ⟨g, 2, none⟩) (by simp) _).setCell (p := ⟨g, 1, none⟩) (by simp) _).drew

end Go.Proofs.Qxb6500341a
