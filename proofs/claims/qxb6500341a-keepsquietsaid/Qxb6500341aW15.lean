import Derived.Test.Qxb6500341aW14
namespace Go.Proofs.Qxb6500341a
open Go.RowKit
set_option linter.unusedVariables false

set_option maxRecDepth 100000 in
set_option maxHeartbeats 1600000 in
theorem kept_test_raw_none (w : World) (x g : Nat) (t was : ByteArray) (way : Int) (a b c : Int) (s u : ByteArray) (hs : s.size ≤ maxLen) (hr : Real w x t) (hg : Gho w g t was way) (hi : GI was way) (hxg : x ≠ g) (h1 : a ≠ 1) (h2 : a ≠ 2) (h0 : way = 0) :
    Calls Try.prog 15 #[.pointer (some ⟨x, 0, none⟩), .pointer (some ⟨g, 0, none⟩), .agg #[.int .i64 3, .int .i64 a, .int .i64 b, .int .i64 c, .string s, .string u]] w fun e w' => e = .returned (.bool true) ∧ Real w' x t ∧ Gho w' g t was way ∧ Fr [x, g] w w' := by
  have hxl : x < w.heap.size := by obtain ⟨l, m1, m2, h, _⟩ := hr; exact blk_lt h
  have hgl : g < w.heap.size := blk_lt hg
  have hL := hr.law
  have hsz := hL.size
  have HR : Hid (Real w x t) := hr
  have HG : Hid (Gho w g t was way) := hg
  have HI : Hid (GI was way) := hi
  clear hr hg hi
  have HX : Hid (a ≠ 1 ∧ a ≠ 2) := ⟨h1, h2⟩
  have hgd : ∀ y z, gd t.data.toList a y z = 3 := fun y z => gd_way h1 h2
  have hE : testE t a = 3 := gd_way h1 h2
  have q1 : testO t a = 0 := by simp [testO, hE]
  have q2 : testR t a = 0 := by simp [testR, hE]
  clear h1 h2
  subst h0
  go_enter Try.func15, Try.ntmps15
  go_wp2_with fail
  have hoW := blk_new w (.cells #[.int .i64 3, .int .i64 a, .int .i64 b, .int .i64 c, .string s, .string u] 36)
  have hFW : Fr [] w (w.alloc (.cells #[.int .i64 3, .int .i64 a, .int .i64 b, .int .i64 c, .string s, .string u] 36)) := (Fr.refl _ _).alloc _
  generalize hW : w.alloc _ = W at hoW hFW ⊢
  have hRW : Real W x t := HR.out.keep hFW (by simp)
  have hGW : Gho W g t was 0 := hFW.keep HG.out (by simp)
  refine (do_test W x t a b c s u hs hRW).mono ?_
  rintro e w1 ⟨rfl, hr1, hf1⟩
  rw [q1, q2, hE]
  have ho1 := hf1.keep hoW (by simp; omega)
  have hg1 : Gho w1 g t was 0 := hf1.keep hGW (by simp; omega)
  have hF1 : Fr [x, g] w w1 := hFW.widen.trans (hf1.mono (by simp))
  have hol : w.heap.size < w1.heap.size := blk_lt ho1
  have hgl1 : g < w1.heap.size := blk_lt hg1
  have o0 := blk_cell ho1 0
  have HO1 : Hid (w1.heap[w.heap.size]? = some (.cells #[.int .i64 3, .int .i64 a, .int .i64 b, .int .i64 c, .string s, .string u] 36)) := ho1
  have HR1 : Hid (Real w1 x t) := hr1
  have HG1 : Hid (Gho w1 g t was 0) := hg1
  have HF1 : Hid (Fr [x, g] w w1) := hF1
  clear hoW hFW hW hRW hGW hf1 ho1 hg1 hF1 hr1
  go_wp2
  clear o0
  generalize hWa : w1.alloc _ = Wa
  have HA : Hid (Wa.heap[w1.heap.size]? = some (.cells #[.int .i64 (3), .int .i64 (0), .int .i64 (0), .string ⟨#[]⟩] 42)) := by rw [← hWa]; exact blk_new _ _
  have HO : Hid (Wa.heap[w.heap.size]? = some (.cells #[.int .i64 3, .int .i64 a, .int .i64 b, .int .i64 c, .string s, .string u] 36)) := by rw [← hWa]; exact blk_alloc HO1.out _
  have HG2 : Hid (Gho Wa g t was 0) := by rw [← hWa]; exact blk_alloc HG1.out _
  have HR2 : Hid (Real Wa x t) := by rw [← hWa]; exact HR1.out.keep ((Fr.refl [] _).alloc _) (by simp)
  have HF2 : Hid (Fr [x, g] w Wa) := by rw [← hWa]; exact HF1.out.alloc _
  clear hWa HO1 HG1 HR1 HF1
  have HG1 := HG2
  have HR1 := HR2
  have HF1 := HF2
  clear HG2 HR2 HF2
  have o1 := blk_cell HO.out 1
  have o4 := blk_cell HO.out 4
  have g0 := blk_cell HG1.out 0
  have g1 := blk_cell HG1.out 1
  have g2 := blk_cell HG1.out 2
  have k0 := blk_frozen HG1.out 0
  have k1 := blk_frozen HG1.out 1
  have k2 := blk_frozen HG1.out 2
  have a0 := blk_cell HA.out 0
  have a1 := blk_cell HA.out 1
  have a2 := blk_cell HA.out 2
  have a3 := blk_cell HA.out 3
  have zA := blk_lt HA.out
  have zO := blk_lt HO.out
  have zG := blk_lt HG1.out
  go_quiet ((go_at_call 21; refine Calls.quiet_of_same (fit_any _ t a _ 0 (by omega) (fun h => absurd h (by have := HX.out; omega)))))
  clear o1 o4 g0 g1 g2 k0 k1 k2 a0 a1 a2 a3 zA zO zG
  generalize hWn : Wa.drewN nq = Wb
  have HA' : Hid (Wb.heap[w1.heap.size]? = some (.cells #[.int .i64 (3), .int .i64 (0), .int .i64 (0), .string ⟨#[]⟩] 42)) := by rw [← hWn]; exact HA.out
  have HO' : Hid (Wb.heap[w.heap.size]? = some (.cells #[.int .i64 3, .int .i64 a, .int .i64 b, .int .i64 c, .string s, .string u] 36)) := by rw [← hWn]; exact HO.out
  have HG' : Hid (Gho Wb g t was 0) := by rw [← hWn]; exact HG1.out
  have HR' : Hid (Real Wb x t) := by rw [← hWn]; exact HR1.out.keep ((Fr.refl [] _).drewN _) (by simp)
  have HF' : Hid (Fr [x, g] w Wb) := by rw [← hWn]; exact HF1.out.drewN _
  clear hWn HA HO HG1 HR1 HF1
  have HA := HA'
  have HO := HO'
  have HG1 := HG'
  have HR1 := HR'
  have HF1 := HF'
  clear HA' HO' HG' HR' HF'
  have o1 := blk_cell HO.out 1
  have o4 := blk_cell HO.out 4
  have g0 := blk_cell HG1.out 0
  have g1 := blk_cell HG1.out 1
  have g2 := blk_cell HG1.out 2
  have k0 := blk_frozen HG1.out 0
  have k1 := blk_frozen HG1.out 1
  have k2 := blk_frozen HG1.out 2
  have a0 := blk_cell HA.out 0
  have a1 := blk_cell HA.out 1
  have a2 := blk_cell HA.out 2
  have a3 := blk_cell HA.out 3
  have zA := blk_lt HA.out
  have zO := blk_lt HO.out
  have zG := blk_lt HG1.out
  go_wp2
  go_quiet (fail)
  clear o1 o4 g0 g1 g2 k0 k1 k2 a0 a1 a2 a3 zA zO zG
  generalize hWn : Wb.drewN nq = Wc
  have HA' : Hid (Wc.heap[w1.heap.size]? = some (.cells #[.int .i64 (3), .int .i64 (0), .int .i64 (0), .string ⟨#[]⟩] 42)) := by rw [← hWn]; exact HA.out
  have HO' : Hid (Wc.heap[w.heap.size]? = some (.cells #[.int .i64 3, .int .i64 a, .int .i64 b, .int .i64 c, .string s, .string u] 36)) := by rw [← hWn]; exact HO.out
  have HG' : Hid (Gho Wc g t was 0) := by rw [← hWn]; exact HG1.out
  have HR' : Hid (Real Wc x t) := by rw [← hWn]; exact HR1.out.keep ((Fr.refl [] _).drewN _) (by simp)
  have HF' : Hid (Fr [x, g] w Wc) := by rw [← hWn]; exact HF1.out.drewN _
  clear hWn HA HO HG1 HR1 HF1
  have HA := HA'
  have HO := HO'
  have HG1 := HG'
  have HR1 := HR'
  have HF1 := HF'
  clear HA' HO' HG' HR' HF'
  have o1 := blk_cell HO.out 1
  have o4 := blk_cell HO.out 4
  have g0 := blk_cell HG1.out 0
  have g1 := blk_cell HG1.out 1
  have g2 := blk_cell HG1.out 2
  have k0 := blk_frozen HG1.out 0
  have k1 := blk_frozen HG1.out 1
  have k2 := blk_frozen HG1.out 2
  have a0 := blk_cell HA.out 0
  have a1 := blk_cell HA.out 1
  have a2 := blk_cell HA.out 2
  have a3 := blk_cell HA.out 3
  have zA := blk_lt HA.out
  have zO := blk_lt HO.out
  have zG := blk_lt HG1.out
  go_wp2
  go_ret
  exact ⟨rfl, HR1.out, HG1.out, HF1.out⟩

set_option maxRecDepth 100000 in
set_option maxHeartbeats 1600000 in
theorem kept_test_raw_other (w : World) (x g : Nat) (t was : ByteArray) (way : Int) (a b c : Int) (s u : ByteArray) (hs : s.size ≤ maxLen) (hr : Real w x t) (hg : Gho w g t was way) (hi : GI was way) (hxg : x ≠ g) (h1 : a ≠ 1) (h2 : a ≠ 2) (hw : (way != 0) = true) (haw : (a == way) = false) :
    Calls Try.prog 15 #[.pointer (some ⟨x, 0, none⟩), .pointer (some ⟨g, 0, none⟩), .agg #[.int .i64 3, .int .i64 a, .int .i64 b, .int .i64 c, .string s, .string u]] w fun e w' => e = .returned (.bool true) ∧ Real w' x t ∧ Gho w' g t was way ∧ Fr [x, g] w w' := by
  have hxl : x < w.heap.size := by obtain ⟨l, m1, m2, h, _⟩ := hr; exact blk_lt h
  have hgl : g < w.heap.size := blk_lt hg
  have hL := hr.law
  have hsz := hL.size
  have HR : Hid (Real w x t) := hr
  have HG : Hid (Gho w g t was way) := hg
  have HI : Hid (GI was way) := hi
  clear hr hg hi
  have HX : Hid (a ≠ 1 ∧ a ≠ 2) := ⟨h1, h2⟩
  have hgd : ∀ y z, gd t.data.toList a y z = 3 := fun y z => gd_way h1 h2
  have hE : testE t a = 3 := gd_way h1 h2
  have q1 : testO t a = 0 := by simp [testO, hE]
  have q2 : testR t a = 0 := by simp [testR, hE]
  clear h1 h2
  go_enter Try.func15, Try.ntmps15
  go_wp2_with fail
  have hoW := blk_new w (.cells #[.int .i64 3, .int .i64 a, .int .i64 b, .int .i64 c, .string s, .string u] 36)
  have hFW : Fr [] w (w.alloc (.cells #[.int .i64 3, .int .i64 a, .int .i64 b, .int .i64 c, .string s, .string u] 36)) := (Fr.refl _ _).alloc _
  generalize hW : w.alloc _ = W at hoW hFW ⊢
  have hRW : Real W x t := HR.out.keep hFW (by simp)
  have hGW : Gho W g t was way := hFW.keep HG.out (by simp)
  refine (do_test W x t a b c s u hs hRW).mono ?_
  rintro e w1 ⟨rfl, hr1, hf1⟩
  rw [q1, q2, hE]
  have ho1 := hf1.keep hoW (by simp; omega)
  have hg1 : Gho w1 g t was way := hf1.keep hGW (by simp; omega)
  have hF1 : Fr [x, g] w w1 := hFW.widen.trans (hf1.mono (by simp))
  have hol : w.heap.size < w1.heap.size := blk_lt ho1
  have hgl1 : g < w1.heap.size := blk_lt hg1
  have o0 := blk_cell ho1 0
  have HO1 : Hid (w1.heap[w.heap.size]? = some (.cells #[.int .i64 3, .int .i64 a, .int .i64 b, .int .i64 c, .string s, .string u] 36)) := ho1
  have HR1 : Hid (Real w1 x t) := hr1
  have HG1 : Hid (Gho w1 g t was way) := hg1
  have HF1 : Hid (Fr [x, g] w w1) := hF1
  clear hoW hFW hW hRW hGW hf1 ho1 hg1 hF1 hr1
  go_wp2
  clear o0
  generalize hWa : w1.alloc _ = Wa
  have HA : Hid (Wa.heap[w1.heap.size]? = some (.cells #[.int .i64 (3), .int .i64 (0), .int .i64 (0), .string ⟨#[]⟩] 42)) := by rw [← hWa]; exact blk_new _ _
  have HO : Hid (Wa.heap[w.heap.size]? = some (.cells #[.int .i64 3, .int .i64 a, .int .i64 b, .int .i64 c, .string s, .string u] 36)) := by rw [← hWa]; exact blk_alloc HO1.out _
  have HG2 : Hid (Gho Wa g t was way) := by rw [← hWa]; exact blk_alloc HG1.out _
  have HR2 : Hid (Real Wa x t) := by rw [← hWa]; exact HR1.out.keep ((Fr.refl [] _).alloc _) (by simp)
  have HF2 : Hid (Fr [x, g] w Wa) := by rw [← hWa]; exact HF1.out.alloc _
  clear hWa HO1 HG1 HR1 HF1
  have HG1 := HG2
  have HR1 := HR2
  have HF1 := HF2
  clear HG2 HR2 HF2
  have o1 := blk_cell HO.out 1
  have o4 := blk_cell HO.out 4
  have g0 := blk_cell HG1.out 0
  have g1 := blk_cell HG1.out 1
  have g2 := blk_cell HG1.out 2
  have k0 := blk_frozen HG1.out 0
  have k1 := blk_frozen HG1.out 1
  have k2 := blk_frozen HG1.out 2
  have a0 := blk_cell HA.out 0
  have a1 := blk_cell HA.out 1
  have a2 := blk_cell HA.out 2
  have a3 := blk_cell HA.out 3
  have zA := blk_lt HA.out
  have zO := blk_lt HO.out
  have zG := blk_lt HG1.out
  go_quiet ((go_at_call 21; refine Calls.quiet_of_same (fit_any _ t a _ 0 (by omega) (fun h => absurd h (by have := HX.out; omega)))))
  clear o1 o4 g0 g1 g2 k0 k1 k2 a0 a1 a2 a3 zA zO zG
  generalize hWn : Wa.drewN nq = Wb
  have HA' : Hid (Wb.heap[w1.heap.size]? = some (.cells #[.int .i64 (3), .int .i64 (0), .int .i64 (0), .string ⟨#[]⟩] 42)) := by rw [← hWn]; exact HA.out
  have HO' : Hid (Wb.heap[w.heap.size]? = some (.cells #[.int .i64 3, .int .i64 a, .int .i64 b, .int .i64 c, .string s, .string u] 36)) := by rw [← hWn]; exact HO.out
  have HG' : Hid (Gho Wb g t was way) := by rw [← hWn]; exact HG1.out
  have HR' : Hid (Real Wb x t) := by rw [← hWn]; exact HR1.out.keep ((Fr.refl [] _).drewN _) (by simp)
  have HF' : Hid (Fr [x, g] w Wb) := by rw [← hWn]; exact HF1.out.drewN _
  clear hWn HA HO HG1 HR1 HF1
  have HA := HA'
  have HO := HO'
  have HG1 := HG'
  have HR1 := HR'
  have HF1 := HF'
  clear HA' HO' HG' HR' HF'
  have o1 := blk_cell HO.out 1
  have o4 := blk_cell HO.out 4
  have g0 := blk_cell HG1.out 0
  have g1 := blk_cell HG1.out 1
  have g2 := blk_cell HG1.out 2
  have k0 := blk_frozen HG1.out 0
  have k1 := blk_frozen HG1.out 1
  have k2 := blk_frozen HG1.out 2
  have a0 := blk_cell HA.out 0
  have a1 := blk_cell HA.out 1
  have a2 := blk_cell HA.out 2
  have a3 := blk_cell HA.out 3
  have zA := blk_lt HA.out
  have zO := blk_lt HO.out
  have zG := blk_lt HG1.out
  go_wp2
  go_quiet (fail)
  clear o1 o4 g0 g1 g2 k0 k1 k2 a0 a1 a2 a3 zA zO zG
  generalize hWn : Wb.drewN nq = Wc
  have HA' : Hid (Wc.heap[w1.heap.size]? = some (.cells #[.int .i64 (3), .int .i64 (0), .int .i64 (0), .string ⟨#[]⟩] 42)) := by rw [← hWn]; exact HA.out
  have HO' : Hid (Wc.heap[w.heap.size]? = some (.cells #[.int .i64 3, .int .i64 a, .int .i64 b, .int .i64 c, .string s, .string u] 36)) := by rw [← hWn]; exact HO.out
  have HG' : Hid (Gho Wc g t was way) := by rw [← hWn]; exact HG1.out
  have HR' : Hid (Real Wc x t) := by rw [← hWn]; exact HR1.out.keep ((Fr.refl [] _).drewN _) (by simp)
  have HF' : Hid (Fr [x, g] w Wc) := by rw [← hWn]; exact HF1.out.drewN _
  clear hWn HA HO HG1 HR1 HF1
  have HA := HA'
  have HO := HO'
  have HG1 := HG'
  have HR1 := HR'
  have HF1 := HF'
  clear HA' HO' HG' HR' HF'
  have o1 := blk_cell HO.out 1
  have o4 := blk_cell HO.out 4
  have g0 := blk_cell HG1.out 0
  have g1 := blk_cell HG1.out 1
  have g2 := blk_cell HG1.out 2
  have k0 := blk_frozen HG1.out 0
  have k1 := blk_frozen HG1.out 1
  have k2 := blk_frozen HG1.out 2
  have a0 := blk_cell HA.out 0
  have a1 := blk_cell HA.out 1
  have a2 := blk_cell HA.out 2
  have a3 := blk_cell HA.out 3
  have zA := blk_lt HA.out
  have zO := blk_lt HO.out
  have zG := blk_lt HG1.out
  go_wp2
  go_ret
  exact ⟨rfl, HR1.out, HG1.out, HF1.out⟩

set_option maxRecDepth 100000 in
set_option maxHeartbeats 1600000 in
theorem kept_test_1_none_err (w : World) (x g : Nat) (t was : ByteArray) (b c : Int) (s u : ByteArray) (hs : s.size ≤ maxLen) (hr : Real w x t) (hg : Gho w g t was 0) (hi : GI was 0) (hxg : x ≠ g) (hE : testE t 1 ≠ 0) :
    Calls Try.prog 15 #[.pointer (some ⟨x, 0, none⟩), .pointer (some ⟨g, 0, none⟩), .agg #[.int .i64 3, .int .i64 1, .int .i64 b, .int .i64 c, .string s, .string u]] w fun e w' => e = .returned (.bool true) ∧ Real w' x t ∧ Gho w' g t was 0 ∧ Fr [x, g] w w' := by
  have hxl : x < w.heap.size := by obtain ⟨l, m1, m2, h, _⟩ := hr; exact blk_lt h
  have hgl : g < w.heap.size := blk_lt hg
  have hL := hr.law
  have hsz := hL.size
  have HR : Hid (Real w x t) := hr
  have HG : Hid (Gho w g t was 0) := hg
  have HI : Hid (GI was 0) := hi
  clear hr hg hi
  have HX : Hid (testE t 1 ≠ 0) := hE
  have hne : (gd t.data.toList 1 2 0 != 0) = true := by rw [bne_iff_ne]; exact hE
  have q1 : testO t 1 = 0 := by simp [testO, hE]
  have q2 : testR t 1 = 0 := by simp [testR, hE]
  have q3 : testE t 1 = gd t.data.toList 1 2 0 := rfl
  clear hE
  go_enter Try.func15, Try.ntmps15
  go_wp2_with fail
  have hoW := blk_new w (.cells #[.int .i64 3, .int .i64 1, .int .i64 b, .int .i64 c, .string s, .string u] 36)
  have hFW : Fr [] w (w.alloc (.cells #[.int .i64 3, .int .i64 1, .int .i64 b, .int .i64 c, .string s, .string u] 36)) := (Fr.refl _ _).alloc _
  generalize hW : w.alloc _ = W at hoW hFW ⊢
  have hRW : Real W x t := HR.out.keep hFW (by simp)
  have hGW : Gho W g t was 0 := hFW.keep HG.out (by simp)
  refine (do_test W x t 1 b c s u hs hRW).mono ?_
  rintro e w1 ⟨rfl, hr1, hf1⟩
  rw [q1, q2, q3]
  have ho1 := hf1.keep hoW (by simp; omega)
  have hg1 : Gho w1 g t was 0 := hf1.keep hGW (by simp; omega)
  have hF1 : Fr [x, g] w w1 := hFW.widen.trans (hf1.mono (by simp))
  have hol : w.heap.size < w1.heap.size := blk_lt ho1
  have hgl1 : g < w1.heap.size := blk_lt hg1
  have o0 := blk_cell ho1 0
  have HO1 : Hid (w1.heap[w.heap.size]? = some (.cells #[.int .i64 3, .int .i64 1, .int .i64 b, .int .i64 c, .string s, .string u] 36)) := ho1
  have HR1 : Hid (Real w1 x t) := hr1
  have HG1 : Hid (Gho w1 g t was 0) := hg1
  have HF1 : Hid (Fr [x, g] w w1) := hF1
  clear hoW hFW hW hRW hGW hf1 ho1 hg1 hF1 hr1
  go_wp2
  clear o0
  generalize hWa : w1.alloc _ = Wa
  have HA : Hid (Wa.heap[w1.heap.size]? = some (.cells #[.int .i64 (gd t.data.toList 1 2 0), .int .i64 (0), .int .i64 (0), .string ⟨#[]⟩] 42)) := by rw [← hWa]; exact blk_new _ _
  have HO : Hid (Wa.heap[w.heap.size]? = some (.cells #[.int .i64 3, .int .i64 1, .int .i64 b, .int .i64 c, .string s, .string u] 36)) := by rw [← hWa]; exact blk_alloc HO1.out _
  have HG2 : Hid (Gho Wa g t was 0) := by rw [← hWa]; exact blk_alloc HG1.out _
  have HR2 : Hid (Real Wa x t) := by rw [← hWa]; exact HR1.out.keep ((Fr.refl [] _).alloc _) (by simp)
  have HF2 : Hid (Fr [x, g] w Wa) := by rw [← hWa]; exact HF1.out.alloc _
  clear hWa HO1 HG1 HR1 HF1
  have HG1 := HG2
  have HR1 := HR2
  have HF1 := HF2
  clear HG2 HR2 HF2
  have o1 := blk_cell HO.out 1
  have o4 := blk_cell HO.out 4
  have g0 := blk_cell HG1.out 0
  have g1 := blk_cell HG1.out 1
  have g2 := blk_cell HG1.out 2
  have k0 := blk_frozen HG1.out 0
  have k1 := blk_frozen HG1.out 1
  have k2 := blk_frozen HG1.out 2
  have a0 := blk_cell HA.out 0
  have a1 := blk_cell HA.out 1
  have a2 := blk_cell HA.out 2
  have a3 := blk_cell HA.out 3
  have zA := blk_lt HA.out
  have zO := blk_lt HO.out
  have zG := blk_lt HG1.out
  go_quiet ((go_at_call 21; refine Calls.quiet_of_same (fit_any _ t 1 2 0 (by omega) (by omega))))
  clear o1 o4 g0 g1 g2 k0 k1 k2 a0 a1 a2 a3 zA zO zG
  generalize hWn : Wa.drewN nq = Wb
  have HA' : Hid (Wb.heap[w1.heap.size]? = some (.cells #[.int .i64 (gd t.data.toList 1 2 0), .int .i64 (0), .int .i64 (0), .string ⟨#[]⟩] 42)) := by rw [← hWn]; exact HA.out
  have HO' : Hid (Wb.heap[w.heap.size]? = some (.cells #[.int .i64 3, .int .i64 1, .int .i64 b, .int .i64 c, .string s, .string u] 36)) := by rw [← hWn]; exact HO.out
  have HG' : Hid (Gho Wb g t was 0) := by rw [← hWn]; exact HG1.out
  have HR' : Hid (Real Wb x t) := by rw [← hWn]; exact HR1.out.keep ((Fr.refl [] _).drewN _) (by simp)
  have HF' : Hid (Fr [x, g] w Wb) := by rw [← hWn]; exact HF1.out.drewN _
  clear hWn HA HO HG1 HR1 HF1
  have HA := HA'
  have HO := HO'
  have HG1 := HG'
  have HR1 := HR'
  have HF1 := HF'
  clear HA' HO' HG' HR' HF'
  have o1 := blk_cell HO.out 1
  have o4 := blk_cell HO.out 4
  have g0 := blk_cell HG1.out 0
  have g1 := blk_cell HG1.out 1
  have g2 := blk_cell HG1.out 2
  have k0 := blk_frozen HG1.out 0
  have k1 := blk_frozen HG1.out 1
  have k2 := blk_frozen HG1.out 2
  have a0 := blk_cell HA.out 0
  have a1 := blk_cell HA.out 1
  have a2 := blk_cell HA.out 2
  have a3 := blk_cell HA.out 3
  have zA := blk_lt HA.out
  have zO := blk_lt HO.out
  have zG := blk_lt HG1.out
  go_wp2
  go_quiet (fail)
  clear o1 o4 g0 g1 g2 k0 k1 k2 a0 a1 a2 a3 zA zO zG
  generalize hWn : Wb.drewN nq = Wc
  have HA' : Hid (Wc.heap[w1.heap.size]? = some (.cells #[.int .i64 (gd t.data.toList 1 2 0), .int .i64 (0), .int .i64 (0), .string ⟨#[]⟩] 42)) := by rw [← hWn]; exact HA.out
  have HO' : Hid (Wc.heap[w.heap.size]? = some (.cells #[.int .i64 3, .int .i64 1, .int .i64 b, .int .i64 c, .string s, .string u] 36)) := by rw [← hWn]; exact HO.out
  have HG' : Hid (Gho Wc g t was 0) := by rw [← hWn]; exact HG1.out
  have HR' : Hid (Real Wc x t) := by rw [← hWn]; exact HR1.out.keep ((Fr.refl [] _).drewN _) (by simp)
  have HF' : Hid (Fr [x, g] w Wc) := by rw [← hWn]; exact HF1.out.drewN _
  clear hWn HA HO HG1 HR1 HF1
  have HA := HA'
  have HO := HO'
  have HG1 := HG'
  have HR1 := HR'
  have HF1 := HF'
  clear HA' HO' HG' HR' HF'
  have o1 := blk_cell HO.out 1
  have o4 := blk_cell HO.out 4
  have g0 := blk_cell HG1.out 0
  have g1 := blk_cell HG1.out 1
  have g2 := blk_cell HG1.out 2
  have k0 := blk_frozen HG1.out 0
  have k1 := blk_frozen HG1.out 1
  have k2 := blk_frozen HG1.out 2
  have a0 := blk_cell HA.out 0
  have a1 := blk_cell HA.out 1
  have a2 := blk_cell HA.out 2
  have a3 := blk_cell HA.out 3
  have zA := blk_lt HA.out
  have zO := blk_lt HO.out
  have zG := blk_lt HG1.out
  go_wp2
  go_wp2
  go_ret
  exact ⟨rfl, HR1.out, HG1.out, HF1.out⟩

set_option maxRecDepth 100000 in
set_option maxHeartbeats 1600000 in
theorem kept_test_1_other_err (w : World) (x g : Nat) (t was : ByteArray) (b c : Int) (s u : ByteArray) (hs : s.size ≤ maxLen) (hr : Real w x t) (hg : Gho w g t was 2) (hi : GI was 2) (hxg : x ≠ g) (hE : testE t 1 ≠ 0) :
    Calls Try.prog 15 #[.pointer (some ⟨x, 0, none⟩), .pointer (some ⟨g, 0, none⟩), .agg #[.int .i64 3, .int .i64 1, .int .i64 b, .int .i64 c, .string s, .string u]] w fun e w' => e = .returned (.bool true) ∧ Real w' x t ∧ Gho w' g t was 2 ∧ Fr [x, g] w w' := by
  have hxl : x < w.heap.size := by obtain ⟨l, m1, m2, h, _⟩ := hr; exact blk_lt h
  have hgl : g < w.heap.size := blk_lt hg
  have hL := hr.law
  have hsz := hL.size
  have HR : Hid (Real w x t) := hr
  have HG : Hid (Gho w g t was 2) := hg
  have HI : Hid (GI was 2) := hi
  clear hr hg hi
  have HX : Hid (testE t 1 ≠ 0) := hE
  have hne : (gd t.data.toList 1 2 0 != 0) = true := by rw [bne_iff_ne]; exact hE
  have q1 : testO t 1 = 0 := by simp [testO, hE]
  have q2 : testR t 1 = 0 := by simp [testR, hE]
  have q3 : testE t 1 = gd t.data.toList 1 2 0 := rfl
  clear hE
  go_enter Try.func15, Try.ntmps15
  go_wp2_with fail
  have hoW := blk_new w (.cells #[.int .i64 3, .int .i64 1, .int .i64 b, .int .i64 c, .string s, .string u] 36)
  have hFW : Fr [] w (w.alloc (.cells #[.int .i64 3, .int .i64 1, .int .i64 b, .int .i64 c, .string s, .string u] 36)) := (Fr.refl _ _).alloc _
  generalize hW : w.alloc _ = W at hoW hFW ⊢
  have hRW : Real W x t := HR.out.keep hFW (by simp)
  have hGW : Gho W g t was 2 := hFW.keep HG.out (by simp)
  refine (do_test W x t 1 b c s u hs hRW).mono ?_
  rintro e w1 ⟨rfl, hr1, hf1⟩
  rw [q1, q2, q3]
  have ho1 := hf1.keep hoW (by simp; omega)
  have hg1 : Gho w1 g t was 2 := hf1.keep hGW (by simp; omega)
  have hF1 : Fr [x, g] w w1 := hFW.widen.trans (hf1.mono (by simp))
  have hol : w.heap.size < w1.heap.size := blk_lt ho1
  have hgl1 : g < w1.heap.size := blk_lt hg1
  have o0 := blk_cell ho1 0
  have HO1 : Hid (w1.heap[w.heap.size]? = some (.cells #[.int .i64 3, .int .i64 1, .int .i64 b, .int .i64 c, .string s, .string u] 36)) := ho1
  have HR1 : Hid (Real w1 x t) := hr1
  have HG1 : Hid (Gho w1 g t was 2) := hg1
  have HF1 : Hid (Fr [x, g] w w1) := hF1
  clear hoW hFW hW hRW hGW hf1 ho1 hg1 hF1 hr1
  go_wp2
  clear o0
  generalize hWa : w1.alloc _ = Wa
  have HA : Hid (Wa.heap[w1.heap.size]? = some (.cells #[.int .i64 (gd t.data.toList 1 2 0), .int .i64 (0), .int .i64 (0), .string ⟨#[]⟩] 42)) := by rw [← hWa]; exact blk_new _ _
  have HO : Hid (Wa.heap[w.heap.size]? = some (.cells #[.int .i64 3, .int .i64 1, .int .i64 b, .int .i64 c, .string s, .string u] 36)) := by rw [← hWa]; exact blk_alloc HO1.out _
  have HG2 : Hid (Gho Wa g t was 2) := by rw [← hWa]; exact blk_alloc HG1.out _
  have HR2 : Hid (Real Wa x t) := by rw [← hWa]; exact HR1.out.keep ((Fr.refl [] _).alloc _) (by simp)
  have HF2 : Hid (Fr [x, g] w Wa) := by rw [← hWa]; exact HF1.out.alloc _
  clear hWa HO1 HG1 HR1 HF1
  have HG1 := HG2
  have HR1 := HR2
  have HF1 := HF2
  clear HG2 HR2 HF2
  have o1 := blk_cell HO.out 1
  have o4 := blk_cell HO.out 4
  have g0 := blk_cell HG1.out 0
  have g1 := blk_cell HG1.out 1
  have g2 := blk_cell HG1.out 2
  have k0 := blk_frozen HG1.out 0
  have k1 := blk_frozen HG1.out 1
  have k2 := blk_frozen HG1.out 2
  have a0 := blk_cell HA.out 0
  have a1 := blk_cell HA.out 1
  have a2 := blk_cell HA.out 2
  have a3 := blk_cell HA.out 3
  have zA := blk_lt HA.out
  have zO := blk_lt HO.out
  have zG := blk_lt HG1.out
  go_quiet ((go_at_call 21; refine Calls.quiet_of_same (fit_any _ t 1 2 0 (by omega) (by omega))))
  clear o1 o4 g0 g1 g2 k0 k1 k2 a0 a1 a2 a3 zA zO zG
  generalize hWn : Wa.drewN nq = Wb
  have HA' : Hid (Wb.heap[w1.heap.size]? = some (.cells #[.int .i64 (gd t.data.toList 1 2 0), .int .i64 (0), .int .i64 (0), .string ⟨#[]⟩] 42)) := by rw [← hWn]; exact HA.out
  have HO' : Hid (Wb.heap[w.heap.size]? = some (.cells #[.int .i64 3, .int .i64 1, .int .i64 b, .int .i64 c, .string s, .string u] 36)) := by rw [← hWn]; exact HO.out
  have HG' : Hid (Gho Wb g t was 2) := by rw [← hWn]; exact HG1.out
  have HR' : Hid (Real Wb x t) := by rw [← hWn]; exact HR1.out.keep ((Fr.refl [] _).drewN _) (by simp)
  have HF' : Hid (Fr [x, g] w Wb) := by rw [← hWn]; exact HF1.out.drewN _
  clear hWn HA HO HG1 HR1 HF1
  have HA := HA'
  have HO := HO'
  have HG1 := HG'
  have HR1 := HR'
  have HF1 := HF'
  clear HA' HO' HG' HR' HF'
  have o1 := blk_cell HO.out 1
  have o4 := blk_cell HO.out 4
  have g0 := blk_cell HG1.out 0
  have g1 := blk_cell HG1.out 1
  have g2 := blk_cell HG1.out 2
  have k0 := blk_frozen HG1.out 0
  have k1 := blk_frozen HG1.out 1
  have k2 := blk_frozen HG1.out 2
  have a0 := blk_cell HA.out 0
  have a1 := blk_cell HA.out 1
  have a2 := blk_cell HA.out 2
  have a3 := blk_cell HA.out 3
  have zA := blk_lt HA.out
  have zO := blk_lt HO.out
  have zG := blk_lt HG1.out
  go_wp2
  go_quiet (fail)
  clear o1 o4 g0 g1 g2 k0 k1 k2 a0 a1 a2 a3 zA zO zG
  generalize hWn : Wb.drewN nq = Wc
  have HA' : Hid (Wc.heap[w1.heap.size]? = some (.cells #[.int .i64 (gd t.data.toList 1 2 0), .int .i64 (0), .int .i64 (0), .string ⟨#[]⟩] 42)) := by rw [← hWn]; exact HA.out
  have HO' : Hid (Wc.heap[w.heap.size]? = some (.cells #[.int .i64 3, .int .i64 1, .int .i64 b, .int .i64 c, .string s, .string u] 36)) := by rw [← hWn]; exact HO.out
  have HG' : Hid (Gho Wc g t was 2) := by rw [← hWn]; exact HG1.out
  have HR' : Hid (Real Wc x t) := by rw [← hWn]; exact HR1.out.keep ((Fr.refl [] _).drewN _) (by simp)
  have HF' : Hid (Fr [x, g] w Wc) := by rw [← hWn]; exact HF1.out.drewN _
  clear hWn HA HO HG1 HR1 HF1
  have HA := HA'
  have HO := HO'
  have HG1 := HG'
  have HR1 := HR'
  have HF1 := HF'
  clear HA' HO' HG' HR' HF'
  have o1 := blk_cell HO.out 1
  have o4 := blk_cell HO.out 4
  have g0 := blk_cell HG1.out 0
  have g1 := blk_cell HG1.out 1
  have g2 := blk_cell HG1.out 2
  have k0 := blk_frozen HG1.out 0
  have k1 := blk_frozen HG1.out 1
  have k2 := blk_frozen HG1.out 2
  have a0 := blk_cell HA.out 0
  have a1 := blk_cell HA.out 1
  have a2 := blk_cell HA.out 2
  have a3 := blk_cell HA.out 3
  have zA := blk_lt HA.out
  have zO := blk_lt HO.out
  have zG := blk_lt HG1.out
  go_wp2
  go_wp2
  go_ret
  exact ⟨rfl, HR1.out, HG1.out, HF1.out⟩

set_option maxRecDepth 100000 in
set_option maxHeartbeats 1600000 in
theorem kept_test_1_same_err (w : World) (x g : Nat) (t was : ByteArray) (b c : Int) (s u : ByteArray) (hs : s.size ≤ maxLen) (hr : Real w x t) (hg : Gho w g t was 1) (hi : GI was 1) (hxg : x ≠ g) (hE : testE t 1 ≠ 0) :
    Calls Try.prog 15 #[.pointer (some ⟨x, 0, none⟩), .pointer (some ⟨g, 0, none⟩), .agg #[.int .i64 3, .int .i64 1, .int .i64 b, .int .i64 c, .string s, .string u]] w fun e w' => e = .returned (.bool true) ∧ Real w' x t ∧ Gho w' g t was 1 ∧ Fr [x, g] w w' := by
  have hxl : x < w.heap.size := by obtain ⟨l, m1, m2, h, _⟩ := hr; exact blk_lt h
  have hgl : g < w.heap.size := blk_lt hg
  have hL := hr.law
  have hsz := hL.size
  have HR : Hid (Real w x t) := hr
  have HG : Hid (Gho w g t was 1) := hg
  have HI : Hid (GI was 1) := hi
  clear hr hg hi
  have HX : Hid (testE t 1 ≠ 0) := hE
  have hne : (gd t.data.toList 1 2 0 != 0) = true := by rw [bne_iff_ne]; exact hE
  have q1 : testO t 1 = 0 := by simp [testO, hE]
  have q2 : testR t 1 = 0 := by simp [testR, hE]
  have q3 : testE t 1 = gd t.data.toList 1 2 0 := rfl
  clear hE
  have HT := told_law HI.out (by omega) hL
  have hws : was.size ≤ 32 := by rcases HI.out.ok with h | ⟨_, h, _⟩; omega; exact h.size
  have hT : toldA 1 was t = -1 := by rcases HT with h | ⟨h, _⟩; exact h; exact absurd h HX.out
  clear HT
  go_enter Try.func15, Try.ntmps15
  go_wp2_with fail
  have hoW := blk_new w (.cells #[.int .i64 3, .int .i64 1, .int .i64 b, .int .i64 c, .string s, .string u] 36)
  have hFW : Fr [] w (w.alloc (.cells #[.int .i64 3, .int .i64 1, .int .i64 b, .int .i64 c, .string s, .string u] 36)) := (Fr.refl _ _).alloc _
  generalize hW : w.alloc _ = W at hoW hFW ⊢
  have hRW : Real W x t := HR.out.keep hFW (by simp)
  have hGW : Gho W g t was 1 := hFW.keep HG.out (by simp)
  refine (do_test W x t 1 b c s u hs hRW).mono ?_
  rintro e w1 ⟨rfl, hr1, hf1⟩
  rw [q1, q2, q3]
  have ho1 := hf1.keep hoW (by simp; omega)
  have hg1 : Gho w1 g t was 1 := hf1.keep hGW (by simp; omega)
  have hF1 : Fr [x, g] w w1 := hFW.widen.trans (hf1.mono (by simp))
  have hol : w.heap.size < w1.heap.size := blk_lt ho1
  have hgl1 : g < w1.heap.size := blk_lt hg1
  have o0 := blk_cell ho1 0
  have HO1 : Hid (w1.heap[w.heap.size]? = some (.cells #[.int .i64 3, .int .i64 1, .int .i64 b, .int .i64 c, .string s, .string u] 36)) := ho1
  have HR1 : Hid (Real w1 x t) := hr1
  have HG1 : Hid (Gho w1 g t was 1) := hg1
  have HF1 : Hid (Fr [x, g] w w1) := hF1
  clear hoW hFW hW hRW hGW hf1 ho1 hg1 hF1 hr1
  go_wp2
  clear o0
  generalize hWa : w1.alloc _ = Wa
  have HA : Hid (Wa.heap[w1.heap.size]? = some (.cells #[.int .i64 (gd t.data.toList 1 2 0), .int .i64 (0), .int .i64 (0), .string ⟨#[]⟩] 42)) := by rw [← hWa]; exact blk_new _ _
  have HO : Hid (Wa.heap[w.heap.size]? = some (.cells #[.int .i64 3, .int .i64 1, .int .i64 b, .int .i64 c, .string s, .string u] 36)) := by rw [← hWa]; exact blk_alloc HO1.out _
  have HG2 : Hid (Gho Wa g t was 1) := by rw [← hWa]; exact blk_alloc HG1.out _
  have HR2 : Hid (Real Wa x t) := by rw [← hWa]; exact HR1.out.keep ((Fr.refl [] _).alloc _) (by simp)
  have HF2 : Hid (Fr [x, g] w Wa) := by rw [← hWa]; exact HF1.out.alloc _
  clear hWa HO1 HG1 HR1 HF1
  have HG1 := HG2
  have HR1 := HR2
  have HF1 := HF2
  clear HG2 HR2 HF2
  have o1 := blk_cell HO.out 1
  have o4 := blk_cell HO.out 4
  have g0 := blk_cell HG1.out 0
  have g1 := blk_cell HG1.out 1
  have g2 := blk_cell HG1.out 2
  have k0 := blk_frozen HG1.out 0
  have k1 := blk_frozen HG1.out 1
  have k2 := blk_frozen HG1.out 2
  have a0 := blk_cell HA.out 0
  have a1 := blk_cell HA.out 1
  have a2 := blk_cell HA.out 2
  have a3 := blk_cell HA.out 3
  have zA := blk_lt HA.out
  have zO := blk_lt HO.out
  have zG := blk_lt HG1.out
  go_quiet ((go_at_call 21; refine Calls.quiet_of_same (fit_any _ t 1 2 0 (by omega) (by omega))))
  clear o1 o4 g0 g1 g2 k0 k1 k2 a0 a1 a2 a3 zA zO zG
  generalize hWn : Wa.drewN nq = Wb
  have HA' : Hid (Wb.heap[w1.heap.size]? = some (.cells #[.int .i64 (gd t.data.toList 1 2 0), .int .i64 (0), .int .i64 (0), .string ⟨#[]⟩] 42)) := by rw [← hWn]; exact HA.out
  have HO' : Hid (Wb.heap[w.heap.size]? = some (.cells #[.int .i64 3, .int .i64 1, .int .i64 b, .int .i64 c, .string s, .string u] 36)) := by rw [← hWn]; exact HO.out
  have HG' : Hid (Gho Wb g t was 1) := by rw [← hWn]; exact HG1.out
  have HR' : Hid (Real Wb x t) := by rw [← hWn]; exact HR1.out.keep ((Fr.refl [] _).drewN _) (by simp)
  have HF' : Hid (Fr [x, g] w Wb) := by rw [← hWn]; exact HF1.out.drewN _
  clear hWn HA HO HG1 HR1 HF1
  have HA := HA'
  have HO := HO'
  have HG1 := HG'
  have HR1 := HR'
  have HF1 := HF'
  clear HA' HO' HG' HR' HF'
  have o1 := blk_cell HO.out 1
  have o4 := blk_cell HO.out 4
  have g0 := blk_cell HG1.out 0
  have g1 := blk_cell HG1.out 1
  have g2 := blk_cell HG1.out 2
  have k0 := blk_frozen HG1.out 0
  have k1 := blk_frozen HG1.out 1
  have k2 := blk_frozen HG1.out 2
  have a0 := blk_cell HA.out 0
  have a1 := blk_cell HA.out 1
  have a2 := blk_cell HA.out 2
  have a3 := blk_cell HA.out 3
  have zA := blk_lt HA.out
  have zO := blk_lt HO.out
  have zG := blk_lt HG1.out
  go_wp2
  go_quiet (fail)
  clear o1 o4 g0 g1 g2 k0 k1 k2 a0 a1 a2 a3 zA zO zG
  generalize hWn : Wb.drewN nq = Wc
  have HA' : Hid (Wc.heap[w1.heap.size]? = some (.cells #[.int .i64 (gd t.data.toList 1 2 0), .int .i64 (0), .int .i64 (0), .string ⟨#[]⟩] 42)) := by rw [← hWn]; exact HA.out
  have HO' : Hid (Wc.heap[w.heap.size]? = some (.cells #[.int .i64 3, .int .i64 1, .int .i64 b, .int .i64 c, .string s, .string u] 36)) := by rw [← hWn]; exact HO.out
  have HG' : Hid (Gho Wc g t was 1) := by rw [← hWn]; exact HG1.out
  have HR' : Hid (Real Wc x t) := by rw [← hWn]; exact HR1.out.keep ((Fr.refl [] _).drewN _) (by simp)
  have HF' : Hid (Fr [x, g] w Wc) := by rw [← hWn]; exact HF1.out.drewN _
  clear hWn HA HO HG1 HR1 HF1
  have HA := HA'
  have HO := HO'
  have HG1 := HG'
  have HR1 := HR'
  have HF1 := HF'
  clear HA' HO' HG' HR' HF'
  have o1 := blk_cell HO.out 1
  have o4 := blk_cell HO.out 4
  have g0 := blk_cell HG1.out 0
  have g1 := blk_cell HG1.out 1
  have g2 := blk_cell HG1.out 2
  have k0 := blk_frozen HG1.out 0
  have k1 := blk_frozen HG1.out 1
  have k2 := blk_frozen HG1.out 2
  have a0 := blk_cell HA.out 0
  have a1 := blk_cell HA.out 1
  have a2 := blk_cell HA.out 2
  have a3 := blk_cell HA.out 3
  have zA := blk_lt HA.out
  have zO := blk_lt HO.out
  have zG := blk_lt HG1.out
  go_wp2
  go_quiet ((go_at_call 24; refine Calls.quiet_of (told_any _ 1 was t (by omega) (by omega))))
  clear o1 o4 g0 g1 g2 k0 k1 k2 a0 a1 a2 a3 zA zO zG
  generalize hWn : Wc.drewN nq = Wd
  have HA' : Hid (Wd.heap[w1.heap.size]? = some (.cells #[.int .i64 (gd t.data.toList 1 2 0), .int .i64 (0), .int .i64 (0), .string ⟨#[]⟩] 42)) := by rw [← hWn]; exact HA.out
  have HO' : Hid (Wd.heap[w.heap.size]? = some (.cells #[.int .i64 3, .int .i64 1, .int .i64 b, .int .i64 c, .string s, .string u] 36)) := by rw [← hWn]; exact HO.out
  have HG' : Hid (Gho Wd g t was 1) := by rw [← hWn]; exact HG1.out
  have HR' : Hid (Real Wd x t) := by rw [← hWn]; exact HR1.out.keep ((Fr.refl [] _).drewN _) (by simp)
  have HF' : Hid (Fr [x, g] w Wd) := by rw [← hWn]; exact HF1.out.drewN _
  clear hWn HA HO HG1 HR1 HF1
  have HA := HA'
  have HO := HO'
  have HG1 := HG'
  have HR1 := HR'
  have HF1 := HF'
  clear HA' HO' HG' HR' HF'
  have o1 := blk_cell HO.out 1
  have o4 := blk_cell HO.out 4
  have g0 := blk_cell HG1.out 0
  have g1 := blk_cell HG1.out 1
  have g2 := blk_cell HG1.out 2
  have k0 := blk_frozen HG1.out 0
  have k1 := blk_frozen HG1.out 1
  have k2 := blk_frozen HG1.out 2
  have a0 := blk_cell HA.out 0
  have a1 := blk_cell HA.out 1
  have a2 := blk_cell HA.out 2
  have a3 := blk_cell HA.out 3
  have zA := blk_lt HA.out
  have zO := blk_lt HO.out
  have zG := blk_lt HG1.out
  go_wp2
  go_ret
  exact ⟨rfl, HR1.out, HG1.out, HF1.out⟩

set_option maxRecDepth 100000 in
set_option maxHeartbeats 1600000 in
theorem kept_test_2_none_err (w : World) (x g : Nat) (t was : ByteArray) (b c : Int) (s u : ByteArray) (hs : s.size ≤ maxLen) (hr : Real w x t) (hg : Gho w g t was 0) (hi : GI was 0) (hxg : x ≠ g) (hE : testE t 2 ≠ 0) :
    Calls Try.prog 15 #[.pointer (some ⟨x, 0, none⟩), .pointer (some ⟨g, 0, none⟩), .agg #[.int .i64 3, .int .i64 2, .int .i64 b, .int .i64 c, .string s, .string u]] w fun e w' => e = .returned (.bool true) ∧ Real w' x t ∧ Gho w' g t was 0 ∧ Fr [x, g] w w' := by
  have hxl : x < w.heap.size := by obtain ⟨l, m1, m2, h, _⟩ := hr; exact blk_lt h
  have hgl : g < w.heap.size := blk_lt hg
  have hL := hr.law
  have hsz := hL.size
  have HR : Hid (Real w x t) := hr
  have HG : Hid (Gho w g t was 0) := hg
  have HI : Hid (GI was 0) := hi
  clear hr hg hi
  have HX : Hid (testE t 2 ≠ 0) := hE
  have hne : (gd t.data.toList 2 3 0 != 0) = true := by rw [bne_iff_ne]; exact hE
  have q1 : testO t 2 = 0 := by simp [testO, hE]
  have q2 : testR t 2 = 0 := by simp [testR, hE]
  have q3 : testE t 2 = gd t.data.toList 2 3 0 := rfl
  clear hE
  go_enter Try.func15, Try.ntmps15
  go_wp2_with fail
  have hoW := blk_new w (.cells #[.int .i64 3, .int .i64 2, .int .i64 b, .int .i64 c, .string s, .string u] 36)
  have hFW : Fr [] w (w.alloc (.cells #[.int .i64 3, .int .i64 2, .int .i64 b, .int .i64 c, .string s, .string u] 36)) := (Fr.refl _ _).alloc _
  generalize hW : w.alloc _ = W at hoW hFW ⊢
  have hRW : Real W x t := HR.out.keep hFW (by simp)
  have hGW : Gho W g t was 0 := hFW.keep HG.out (by simp)
  refine (do_test W x t 2 b c s u hs hRW).mono ?_
  rintro e w1 ⟨rfl, hr1, hf1⟩
  rw [q1, q2, q3]
  have ho1 := hf1.keep hoW (by simp; omega)
  have hg1 : Gho w1 g t was 0 := hf1.keep hGW (by simp; omega)
  have hF1 : Fr [x, g] w w1 := hFW.widen.trans (hf1.mono (by simp))
  have hol : w.heap.size < w1.heap.size := blk_lt ho1
  have hgl1 : g < w1.heap.size := blk_lt hg1
  have o0 := blk_cell ho1 0
  have HO1 : Hid (w1.heap[w.heap.size]? = some (.cells #[.int .i64 3, .int .i64 2, .int .i64 b, .int .i64 c, .string s, .string u] 36)) := ho1
  have HR1 : Hid (Real w1 x t) := hr1
  have HG1 : Hid (Gho w1 g t was 0) := hg1
  have HF1 : Hid (Fr [x, g] w w1) := hF1
  clear hoW hFW hW hRW hGW hf1 ho1 hg1 hF1 hr1
  go_wp2
  clear o0
  generalize hWa : w1.alloc _ = Wa
  have HA : Hid (Wa.heap[w1.heap.size]? = some (.cells #[.int .i64 (gd t.data.toList 2 3 0), .int .i64 (0), .int .i64 (0), .string ⟨#[]⟩] 42)) := by rw [← hWa]; exact blk_new _ _
  have HO : Hid (Wa.heap[w.heap.size]? = some (.cells #[.int .i64 3, .int .i64 2, .int .i64 b, .int .i64 c, .string s, .string u] 36)) := by rw [← hWa]; exact blk_alloc HO1.out _
  have HG2 : Hid (Gho Wa g t was 0) := by rw [← hWa]; exact blk_alloc HG1.out _
  have HR2 : Hid (Real Wa x t) := by rw [← hWa]; exact HR1.out.keep ((Fr.refl [] _).alloc _) (by simp)
  have HF2 : Hid (Fr [x, g] w Wa) := by rw [← hWa]; exact HF1.out.alloc _
  clear hWa HO1 HG1 HR1 HF1
  have HG1 := HG2
  have HR1 := HR2
  have HF1 := HF2
  clear HG2 HR2 HF2
  have o1 := blk_cell HO.out 1
  have o4 := blk_cell HO.out 4
  have g0 := blk_cell HG1.out 0
  have g1 := blk_cell HG1.out 1
  have g2 := blk_cell HG1.out 2
  have k0 := blk_frozen HG1.out 0
  have k1 := blk_frozen HG1.out 1
  have k2 := blk_frozen HG1.out 2
  have a0 := blk_cell HA.out 0
  have a1 := blk_cell HA.out 1
  have a2 := blk_cell HA.out 2
  have a3 := blk_cell HA.out 3
  have zA := blk_lt HA.out
  have zO := blk_lt HO.out
  have zG := blk_lt HG1.out
  go_quiet ((go_at_call 21; refine Calls.quiet_of_same (fit_any _ t 2 3 0 (by omega) (by omega))))
  clear o1 o4 g0 g1 g2 k0 k1 k2 a0 a1 a2 a3 zA zO zG
  generalize hWn : Wa.drewN nq = Wb
  have HA' : Hid (Wb.heap[w1.heap.size]? = some (.cells #[.int .i64 (gd t.data.toList 2 3 0), .int .i64 (0), .int .i64 (0), .string ⟨#[]⟩] 42)) := by rw [← hWn]; exact HA.out
  have HO' : Hid (Wb.heap[w.heap.size]? = some (.cells #[.int .i64 3, .int .i64 2, .int .i64 b, .int .i64 c, .string s, .string u] 36)) := by rw [← hWn]; exact HO.out
  have HG' : Hid (Gho Wb g t was 0) := by rw [← hWn]; exact HG1.out
  have HR' : Hid (Real Wb x t) := by rw [← hWn]; exact HR1.out.keep ((Fr.refl [] _).drewN _) (by simp)
  have HF' : Hid (Fr [x, g] w Wb) := by rw [← hWn]; exact HF1.out.drewN _
  clear hWn HA HO HG1 HR1 HF1
  have HA := HA'
  have HO := HO'
  have HG1 := HG'
  have HR1 := HR'
  have HF1 := HF'
  clear HA' HO' HG' HR' HF'
  have o1 := blk_cell HO.out 1
  have o4 := blk_cell HO.out 4
  have g0 := blk_cell HG1.out 0
  have g1 := blk_cell HG1.out 1
  have g2 := blk_cell HG1.out 2
  have k0 := blk_frozen HG1.out 0
  have k1 := blk_frozen HG1.out 1
  have k2 := blk_frozen HG1.out 2
  have a0 := blk_cell HA.out 0
  have a1 := blk_cell HA.out 1
  have a2 := blk_cell HA.out 2
  have a3 := blk_cell HA.out 3
  have zA := blk_lt HA.out
  have zO := blk_lt HO.out
  have zG := blk_lt HG1.out
  go_wp2
  go_quiet (fail)
  clear o1 o4 g0 g1 g2 k0 k1 k2 a0 a1 a2 a3 zA zO zG
  generalize hWn : Wb.drewN nq = Wc
  have HA' : Hid (Wc.heap[w1.heap.size]? = some (.cells #[.int .i64 (gd t.data.toList 2 3 0), .int .i64 (0), .int .i64 (0), .string ⟨#[]⟩] 42)) := by rw [← hWn]; exact HA.out
  have HO' : Hid (Wc.heap[w.heap.size]? = some (.cells #[.int .i64 3, .int .i64 2, .int .i64 b, .int .i64 c, .string s, .string u] 36)) := by rw [← hWn]; exact HO.out
  have HG' : Hid (Gho Wc g t was 0) := by rw [← hWn]; exact HG1.out
  have HR' : Hid (Real Wc x t) := by rw [← hWn]; exact HR1.out.keep ((Fr.refl [] _).drewN _) (by simp)
  have HF' : Hid (Fr [x, g] w Wc) := by rw [← hWn]; exact HF1.out.drewN _
  clear hWn HA HO HG1 HR1 HF1
  have HA := HA'
  have HO := HO'
  have HG1 := HG'
  have HR1 := HR'
  have HF1 := HF'
  clear HA' HO' HG' HR' HF'
  have o1 := blk_cell HO.out 1
  have o4 := blk_cell HO.out 4
  have g0 := blk_cell HG1.out 0
  have g1 := blk_cell HG1.out 1
  have g2 := blk_cell HG1.out 2
  have k0 := blk_frozen HG1.out 0
  have k1 := blk_frozen HG1.out 1
  have k2 := blk_frozen HG1.out 2
  have a0 := blk_cell HA.out 0
  have a1 := blk_cell HA.out 1
  have a2 := blk_cell HA.out 2
  have a3 := blk_cell HA.out 3
  have zA := blk_lt HA.out
  have zO := blk_lt HO.out
  have zG := blk_lt HG1.out
  go_wp2
  go_wp2
  go_ret
  exact ⟨rfl, HR1.out, HG1.out, HF1.out⟩

set_option maxRecDepth 100000 in
set_option maxHeartbeats 1600000 in
theorem kept_test_2_other_err (w : World) (x g : Nat) (t was : ByteArray) (b c : Int) (s u : ByteArray) (hs : s.size ≤ maxLen) (hr : Real w x t) (hg : Gho w g t was 1) (hi : GI was 1) (hxg : x ≠ g) (hE : testE t 2 ≠ 0) :
    Calls Try.prog 15 #[.pointer (some ⟨x, 0, none⟩), .pointer (some ⟨g, 0, none⟩), .agg #[.int .i64 3, .int .i64 2, .int .i64 b, .int .i64 c, .string s, .string u]] w fun e w' => e = .returned (.bool true) ∧ Real w' x t ∧ Gho w' g t was 1 ∧ Fr [x, g] w w' := by
  have hxl : x < w.heap.size := by obtain ⟨l, m1, m2, h, _⟩ := hr; exact blk_lt h
  have hgl : g < w.heap.size := blk_lt hg
  have hL := hr.law
  have hsz := hL.size
  have HR : Hid (Real w x t) := hr
  have HG : Hid (Gho w g t was 1) := hg
  have HI : Hid (GI was 1) := hi
  clear hr hg hi
  have HX : Hid (testE t 2 ≠ 0) := hE
  have hne : (gd t.data.toList 2 3 0 != 0) = true := by rw [bne_iff_ne]; exact hE
  have q1 : testO t 2 = 0 := by simp [testO, hE]
  have q2 : testR t 2 = 0 := by simp [testR, hE]
  have q3 : testE t 2 = gd t.data.toList 2 3 0 := rfl
  clear hE
  go_enter Try.func15, Try.ntmps15
  go_wp2_with fail
  have hoW := blk_new w (.cells #[.int .i64 3, .int .i64 2, .int .i64 b, .int .i64 c, .string s, .string u] 36)
  have hFW : Fr [] w (w.alloc (.cells #[.int .i64 3, .int .i64 2, .int .i64 b, .int .i64 c, .string s, .string u] 36)) := (Fr.refl _ _).alloc _
  generalize hW : w.alloc _ = W at hoW hFW ⊢
  have hRW : Real W x t := HR.out.keep hFW (by simp)
  have hGW : Gho W g t was 1 := hFW.keep HG.out (by simp)
  refine (do_test W x t 2 b c s u hs hRW).mono ?_
  rintro e w1 ⟨rfl, hr1, hf1⟩
  rw [q1, q2, q3]
  have ho1 := hf1.keep hoW (by simp; omega)
  have hg1 : Gho w1 g t was 1 := hf1.keep hGW (by simp; omega)
  have hF1 : Fr [x, g] w w1 := hFW.widen.trans (hf1.mono (by simp))
  have hol : w.heap.size < w1.heap.size := blk_lt ho1
  have hgl1 : g < w1.heap.size := blk_lt hg1
  have o0 := blk_cell ho1 0
  have HO1 : Hid (w1.heap[w.heap.size]? = some (.cells #[.int .i64 3, .int .i64 2, .int .i64 b, .int .i64 c, .string s, .string u] 36)) := ho1
  have HR1 : Hid (Real w1 x t) := hr1
  have HG1 : Hid (Gho w1 g t was 1) := hg1
  have HF1 : Hid (Fr [x, g] w w1) := hF1
  clear hoW hFW hW hRW hGW hf1 ho1 hg1 hF1 hr1
  go_wp2
  clear o0
  generalize hWa : w1.alloc _ = Wa
  have HA : Hid (Wa.heap[w1.heap.size]? = some (.cells #[.int .i64 (gd t.data.toList 2 3 0), .int .i64 (0), .int .i64 (0), .string ⟨#[]⟩] 42)) := by rw [← hWa]; exact blk_new _ _
  have HO : Hid (Wa.heap[w.heap.size]? = some (.cells #[.int .i64 3, .int .i64 2, .int .i64 b, .int .i64 c, .string s, .string u] 36)) := by rw [← hWa]; exact blk_alloc HO1.out _
  have HG2 : Hid (Gho Wa g t was 1) := by rw [← hWa]; exact blk_alloc HG1.out _
  have HR2 : Hid (Real Wa x t) := by rw [← hWa]; exact HR1.out.keep ((Fr.refl [] _).alloc _) (by simp)
  have HF2 : Hid (Fr [x, g] w Wa) := by rw [← hWa]; exact HF1.out.alloc _
  clear hWa HO1 HG1 HR1 HF1
  have HG1 := HG2
  have HR1 := HR2
  have HF1 := HF2
  clear HG2 HR2 HF2
  have o1 := blk_cell HO.out 1
  have o4 := blk_cell HO.out 4
  have g0 := blk_cell HG1.out 0
  have g1 := blk_cell HG1.out 1
  have g2 := blk_cell HG1.out 2
  have k0 := blk_frozen HG1.out 0
  have k1 := blk_frozen HG1.out 1
  have k2 := blk_frozen HG1.out 2
  have a0 := blk_cell HA.out 0
  have a1 := blk_cell HA.out 1
  have a2 := blk_cell HA.out 2
  have a3 := blk_cell HA.out 3
  have zA := blk_lt HA.out
  have zO := blk_lt HO.out
  have zG := blk_lt HG1.out
  go_quiet ((go_at_call 21; refine Calls.quiet_of_same (fit_any _ t 2 3 0 (by omega) (by omega))))
  clear o1 o4 g0 g1 g2 k0 k1 k2 a0 a1 a2 a3 zA zO zG
  generalize hWn : Wa.drewN nq = Wb
  have HA' : Hid (Wb.heap[w1.heap.size]? = some (.cells #[.int .i64 (gd t.data.toList 2 3 0), .int .i64 (0), .int .i64 (0), .string ⟨#[]⟩] 42)) := by rw [← hWn]; exact HA.out
  have HO' : Hid (Wb.heap[w.heap.size]? = some (.cells #[.int .i64 3, .int .i64 2, .int .i64 b, .int .i64 c, .string s, .string u] 36)) := by rw [← hWn]; exact HO.out
  have HG' : Hid (Gho Wb g t was 1) := by rw [← hWn]; exact HG1.out
  have HR' : Hid (Real Wb x t) := by rw [← hWn]; exact HR1.out.keep ((Fr.refl [] _).drewN _) (by simp)
  have HF' : Hid (Fr [x, g] w Wb) := by rw [← hWn]; exact HF1.out.drewN _
  clear hWn HA HO HG1 HR1 HF1
  have HA := HA'
  have HO := HO'
  have HG1 := HG'
  have HR1 := HR'
  have HF1 := HF'
  clear HA' HO' HG' HR' HF'
  have o1 := blk_cell HO.out 1
  have o4 := blk_cell HO.out 4
  have g0 := blk_cell HG1.out 0
  have g1 := blk_cell HG1.out 1
  have g2 := blk_cell HG1.out 2
  have k0 := blk_frozen HG1.out 0
  have k1 := blk_frozen HG1.out 1
  have k2 := blk_frozen HG1.out 2
  have a0 := blk_cell HA.out 0
  have a1 := blk_cell HA.out 1
  have a2 := blk_cell HA.out 2
  have a3 := blk_cell HA.out 3
  have zA := blk_lt HA.out
  have zO := blk_lt HO.out
  have zG := blk_lt HG1.out
  go_wp2
  go_quiet (fail)
  clear o1 o4 g0 g1 g2 k0 k1 k2 a0 a1 a2 a3 zA zO zG
  generalize hWn : Wb.drewN nq = Wc
  have HA' : Hid (Wc.heap[w1.heap.size]? = some (.cells #[.int .i64 (gd t.data.toList 2 3 0), .int .i64 (0), .int .i64 (0), .string ⟨#[]⟩] 42)) := by rw [← hWn]; exact HA.out
  have HO' : Hid (Wc.heap[w.heap.size]? = some (.cells #[.int .i64 3, .int .i64 2, .int .i64 b, .int .i64 c, .string s, .string u] 36)) := by rw [← hWn]; exact HO.out
  have HG' : Hid (Gho Wc g t was 1) := by rw [← hWn]; exact HG1.out
  have HR' : Hid (Real Wc x t) := by rw [← hWn]; exact HR1.out.keep ((Fr.refl [] _).drewN _) (by simp)
  have HF' : Hid (Fr [x, g] w Wc) := by rw [← hWn]; exact HF1.out.drewN _
  clear hWn HA HO HG1 HR1 HF1
  have HA := HA'
  have HO := HO'
  have HG1 := HG'
  have HR1 := HR'
  have HF1 := HF'
  clear HA' HO' HG' HR' HF'
  have o1 := blk_cell HO.out 1
  have o4 := blk_cell HO.out 4
  have g0 := blk_cell HG1.out 0
  have g1 := blk_cell HG1.out 1
  have g2 := blk_cell HG1.out 2
  have k0 := blk_frozen HG1.out 0
  have k1 := blk_frozen HG1.out 1
  have k2 := blk_frozen HG1.out 2
  have a0 := blk_cell HA.out 0
  have a1 := blk_cell HA.out 1
  have a2 := blk_cell HA.out 2
  have a3 := blk_cell HA.out 3
  have zA := blk_lt HA.out
  have zO := blk_lt HO.out
  have zG := blk_lt HG1.out
  go_wp2
  go_wp2
  go_ret
  exact ⟨rfl, HR1.out, HG1.out, HF1.out⟩

set_option maxRecDepth 100000 in
set_option maxHeartbeats 1600000 in
theorem kept_test_2_same_err (w : World) (x g : Nat) (t was : ByteArray) (b c : Int) (s u : ByteArray) (hs : s.size ≤ maxLen) (hr : Real w x t) (hg : Gho w g t was 2) (hi : GI was 2) (hxg : x ≠ g) (hE : testE t 2 ≠ 0) :
    Calls Try.prog 15 #[.pointer (some ⟨x, 0, none⟩), .pointer (some ⟨g, 0, none⟩), .agg #[.int .i64 3, .int .i64 2, .int .i64 b, .int .i64 c, .string s, .string u]] w fun e w' => e = .returned (.bool true) ∧ Real w' x t ∧ Gho w' g t was 2 ∧ Fr [x, g] w w' := by
  have hxl : x < w.heap.size := by obtain ⟨l, m1, m2, h, _⟩ := hr; exact blk_lt h
  have hgl : g < w.heap.size := blk_lt hg
  have hL := hr.law
  have hsz := hL.size
  have HR : Hid (Real w x t) := hr
  have HG : Hid (Gho w g t was 2) := hg
  have HI : Hid (GI was 2) := hi
  clear hr hg hi
  have HX : Hid (testE t 2 ≠ 0) := hE
  have hne : (gd t.data.toList 2 3 0 != 0) = true := by rw [bne_iff_ne]; exact hE
  have q1 : testO t 2 = 0 := by simp [testO, hE]
  have q2 : testR t 2 = 0 := by simp [testR, hE]
  have q3 : testE t 2 = gd t.data.toList 2 3 0 := rfl
  clear hE
  have HT := told_law HI.out (by omega) hL
  have hws : was.size ≤ 32 := by rcases HI.out.ok with h | ⟨_, h, _⟩; omega; exact h.size
  have hT : toldA 2 was t = -1 := by rcases HT with h | ⟨h, _⟩; exact h; exact absurd h HX.out
  clear HT
  go_enter Try.func15, Try.ntmps15
  go_wp2_with fail
  have hoW := blk_new w (.cells #[.int .i64 3, .int .i64 2, .int .i64 b, .int .i64 c, .string s, .string u] 36)
  have hFW : Fr [] w (w.alloc (.cells #[.int .i64 3, .int .i64 2, .int .i64 b, .int .i64 c, .string s, .string u] 36)) := (Fr.refl _ _).alloc _
  generalize hW : w.alloc _ = W at hoW hFW ⊢
  have hRW : Real W x t := HR.out.keep hFW (by simp)
  have hGW : Gho W g t was 2 := hFW.keep HG.out (by simp)
  refine (do_test W x t 2 b c s u hs hRW).mono ?_
  rintro e w1 ⟨rfl, hr1, hf1⟩
  rw [q1, q2, q3]
  have ho1 := hf1.keep hoW (by simp; omega)
  have hg1 : Gho w1 g t was 2 := hf1.keep hGW (by simp; omega)
  have hF1 : Fr [x, g] w w1 := hFW.widen.trans (hf1.mono (by simp))
  have hol : w.heap.size < w1.heap.size := blk_lt ho1
  have hgl1 : g < w1.heap.size := blk_lt hg1
  have o0 := blk_cell ho1 0
  have HO1 : Hid (w1.heap[w.heap.size]? = some (.cells #[.int .i64 3, .int .i64 2, .int .i64 b, .int .i64 c, .string s, .string u] 36)) := ho1
  have HR1 : Hid (Real w1 x t) := hr1
  have HG1 : Hid (Gho w1 g t was 2) := hg1
  have HF1 : Hid (Fr [x, g] w w1) := hF1
  clear hoW hFW hW hRW hGW hf1 ho1 hg1 hF1 hr1
  go_wp2
  clear o0
  generalize hWa : w1.alloc _ = Wa
  have HA : Hid (Wa.heap[w1.heap.size]? = some (.cells #[.int .i64 (gd t.data.toList 2 3 0), .int .i64 (0), .int .i64 (0), .string ⟨#[]⟩] 42)) := by rw [← hWa]; exact blk_new _ _
  have HO : Hid (Wa.heap[w.heap.size]? = some (.cells #[.int .i64 3, .int .i64 2, .int .i64 b, .int .i64 c, .string s, .string u] 36)) := by rw [← hWa]; exact blk_alloc HO1.out _
  have HG2 : Hid (Gho Wa g t was 2) := by rw [← hWa]; exact blk_alloc HG1.out _
  have HR2 : Hid (Real Wa x t) := by rw [← hWa]; exact HR1.out.keep ((Fr.refl [] _).alloc _) (by simp)
  have HF2 : Hid (Fr [x, g] w Wa) := by rw [← hWa]; exact HF1.out.alloc _
  clear hWa HO1 HG1 HR1 HF1
  have HG1 := HG2
  have HR1 := HR2
  have HF1 := HF2
  clear HG2 HR2 HF2
  have o1 := blk_cell HO.out 1
  have o4 := blk_cell HO.out 4
  have g0 := blk_cell HG1.out 0
  have g1 := blk_cell HG1.out 1
  have g2 := blk_cell HG1.out 2
  have k0 := blk_frozen HG1.out 0
  have k1 := blk_frozen HG1.out 1
  have k2 := blk_frozen HG1.out 2
  have a0 := blk_cell HA.out 0
  have a1 := blk_cell HA.out 1
  have a2 := blk_cell HA.out 2
  have a3 := blk_cell HA.out 3
  have zA := blk_lt HA.out
  have zO := blk_lt HO.out
  have zG := blk_lt HG1.out
  go_quiet ((go_at_call 21; refine Calls.quiet_of_same (fit_any _ t 2 3 0 (by omega) (by omega))))
  clear o1 o4 g0 g1 g2 k0 k1 k2 a0 a1 a2 a3 zA zO zG
  generalize hWn : Wa.drewN nq = Wb
  have HA' : Hid (Wb.heap[w1.heap.size]? = some (.cells #[.int .i64 (gd t.data.toList 2 3 0), .int .i64 (0), .int .i64 (0), .string ⟨#[]⟩] 42)) := by rw [← hWn]; exact HA.out
  have HO' : Hid (Wb.heap[w.heap.size]? = some (.cells #[.int .i64 3, .int .i64 2, .int .i64 b, .int .i64 c, .string s, .string u] 36)) := by rw [← hWn]; exact HO.out
  have HG' : Hid (Gho Wb g t was 2) := by rw [← hWn]; exact HG1.out
  have HR' : Hid (Real Wb x t) := by rw [← hWn]; exact HR1.out.keep ((Fr.refl [] _).drewN _) (by simp)
  have HF' : Hid (Fr [x, g] w Wb) := by rw [← hWn]; exact HF1.out.drewN _
  clear hWn HA HO HG1 HR1 HF1
  have HA := HA'
  have HO := HO'
  have HG1 := HG'
  have HR1 := HR'
  have HF1 := HF'
  clear HA' HO' HG' HR' HF'
  have o1 := blk_cell HO.out 1
  have o4 := blk_cell HO.out 4
  have g0 := blk_cell HG1.out 0
  have g1 := blk_cell HG1.out 1
  have g2 := blk_cell HG1.out 2
  have k0 := blk_frozen HG1.out 0
  have k1 := blk_frozen HG1.out 1
  have k2 := blk_frozen HG1.out 2
  have a0 := blk_cell HA.out 0
  have a1 := blk_cell HA.out 1
  have a2 := blk_cell HA.out 2
  have a3 := blk_cell HA.out 3
  have zA := blk_lt HA.out
  have zO := blk_lt HO.out
  have zG := blk_lt HG1.out
  go_wp2
  go_quiet (fail)
  clear o1 o4 g0 g1 g2 k0 k1 k2 a0 a1 a2 a3 zA zO zG
  generalize hWn : Wb.drewN nq = Wc
  have HA' : Hid (Wc.heap[w1.heap.size]? = some (.cells #[.int .i64 (gd t.data.toList 2 3 0), .int .i64 (0), .int .i64 (0), .string ⟨#[]⟩] 42)) := by rw [← hWn]; exact HA.out
  have HO' : Hid (Wc.heap[w.heap.size]? = some (.cells #[.int .i64 3, .int .i64 2, .int .i64 b, .int .i64 c, .string s, .string u] 36)) := by rw [← hWn]; exact HO.out
  have HG' : Hid (Gho Wc g t was 2) := by rw [← hWn]; exact HG1.out
  have HR' : Hid (Real Wc x t) := by rw [← hWn]; exact HR1.out.keep ((Fr.refl [] _).drewN _) (by simp)
  have HF' : Hid (Fr [x, g] w Wc) := by rw [← hWn]; exact HF1.out.drewN _
  clear hWn HA HO HG1 HR1 HF1
  have HA := HA'
  have HO := HO'
  have HG1 := HG'
  have HR1 := HR'
  have HF1 := HF'
  clear HA' HO' HG' HR' HF'
  have o1 := blk_cell HO.out 1
  have o4 := blk_cell HO.out 4
  have g0 := blk_cell HG1.out 0
  have g1 := blk_cell HG1.out 1
  have g2 := blk_cell HG1.out 2
  have k0 := blk_frozen HG1.out 0
  have k1 := blk_frozen HG1.out 1
  have k2 := blk_frozen HG1.out 2
  have a0 := blk_cell HA.out 0
  have a1 := blk_cell HA.out 1
  have a2 := blk_cell HA.out 2
  have a3 := blk_cell HA.out 3
  have zA := blk_lt HA.out
  have zO := blk_lt HO.out
  have zG := blk_lt HG1.out
  go_wp2
  go_quiet ((go_at_call 24; refine Calls.quiet_of (told_any _ 2 was t (by omega) (by omega))))
  clear o1 o4 g0 g1 g2 k0 k1 k2 a0 a1 a2 a3 zA zO zG
  generalize hWn : Wc.drewN nq = Wd
  have HA' : Hid (Wd.heap[w1.heap.size]? = some (.cells #[.int .i64 (gd t.data.toList 2 3 0), .int .i64 (0), .int .i64 (0), .string ⟨#[]⟩] 42)) := by rw [← hWn]; exact HA.out
  have HO' : Hid (Wd.heap[w.heap.size]? = some (.cells #[.int .i64 3, .int .i64 2, .int .i64 b, .int .i64 c, .string s, .string u] 36)) := by rw [← hWn]; exact HO.out
  have HG' : Hid (Gho Wd g t was 2) := by rw [← hWn]; exact HG1.out
  have HR' : Hid (Real Wd x t) := by rw [← hWn]; exact HR1.out.keep ((Fr.refl [] _).drewN _) (by simp)
  have HF' : Hid (Fr [x, g] w Wd) := by rw [← hWn]; exact HF1.out.drewN _
  clear hWn HA HO HG1 HR1 HF1
  have HA := HA'
  have HO := HO'
  have HG1 := HG'
  have HR1 := HR'
  have HF1 := HF'
  clear HA' HO' HG' HR' HF'
  have o1 := blk_cell HO.out 1
  have o4 := blk_cell HO.out 4
  have g0 := blk_cell HG1.out 0
  have g1 := blk_cell HG1.out 1
  have g2 := blk_cell HG1.out 2
  have k0 := blk_frozen HG1.out 0
  have k1 := blk_frozen HG1.out 1
  have k2 := blk_frozen HG1.out 2
  have a0 := blk_cell HA.out 0
  have a1 := blk_cell HA.out 1
  have a2 := blk_cell HA.out 2
  have a3 := blk_cell HA.out 3
  have zA := blk_lt HA.out
  have zO := blk_lt HO.out
  have zG := blk_lt HG1.out
  go_wp2
  go_ret
  exact ⟨rfl, HR1.out, HG1.out, HF1.out⟩

end Go.Proofs.Qxb6500341a
