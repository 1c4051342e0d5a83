import Derived.Test.Qxb6500341aW12
namespace Go.Proofs.Qxb6500341a
open Go.RowKit
set_option linter.unusedVariables false

set_option maxRecDepth 100000 in
set_option maxHeartbeats 1600000 in
theorem kept_show (w : World) (x g : Nat) (t was : ByteArray) (way : Int) (a b c : Int) (s u : ByteArray) (hs : s.size ≤ maxLen) (hr : Real w x t) (hg : Gho w g t was way) (hi : GI was way) (hxg : x ≠ g) :
    Calls Try.prog 15 #[.pointer (some ⟨x, 0, none⟩), .pointer (some ⟨g, 0, none⟩), .agg #[.int .i64 4, .int .i64 a, .int .i64 b, .int .i64 c, .string s, .string u]] w fun e w' => e = .returned (.bool true) ∧ Real w' x t ∧ Gho w' g t was way ∧ Fr [x, g] w w' := by
  have hxl : x < w.heap.size := by obtain ⟨l, m1, m2, h, _⟩ := hr; exact blk_lt h
  have hgl : g < w.heap.size := blk_lt hg
  have hL := hr.law
  have hsz := hL.size
  have HR : Hid (Real w x t) := hr
  have HG : Hid (Gho w g t was way) := hg
  have HI : Hid (GI was way) := hi
  clear hr hg hi
  go_enter Try.func15, Try.ntmps15
  go_wp2_with fail
  have hoW := blk_new w (.cells #[.int .i64 4, .int .i64 a, .int .i64 b, .int .i64 c, .string s, .string u] 36)
  have hFW : Fr [] w (w.alloc (.cells #[.int .i64 4, .int .i64 a, .int .i64 b, .int .i64 c, .string s, .string u] 36)) := (Fr.refl _ _).alloc _
  generalize hW : w.alloc _ = W at hoW hFW ⊢
  have hRW : Real W x t := HR.out.keep hFW (by simp)
  have hGW : Gho W g t was way := hFW.keep HG.out (by simp)
  refine (do_show W x t a b c s u hs hRW).mono ?_
  rintro e w1 ⟨rfl, hr1, hf1⟩
  have ho1 := hf1.keep hoW (by simp; omega)
  have hg1 : Gho w1 g t was way := hf1.keep hGW (by simp; omega)
  have hF1 : Fr [x, g] w w1 := hFW.widen.trans (hf1.mono (by simp))
  have hol : w.heap.size < w1.heap.size := blk_lt ho1
  have hgl1 : g < w1.heap.size := blk_lt hg1
  have o1 := blk_cell ho1 1
  have o4 := blk_cell ho1 4
  have o0 := blk_cell ho1 0
  have g0 := blk_cell hg1 0
  have g1 := blk_cell hg1 1
  have g2 := blk_cell hg1 2
  have k0 := blk_frozen hg1 0
  have k1 := blk_frozen hg1 1
  have k2 := blk_frozen hg1 2
  have HR1 : Hid (Real w1 x t) := hr1
  have HG1 : Hid (Gho w1 g t was way) := hg1
  have HF1 : Hid (Fr [x, g] w w1) := hF1
  clear hoW hFW hW hRW hGW hf1 ho1 hg1 hF1 hr1
  go_wp2
  go_quiet (fail)
  go_wp2
  go_ret
  exact ⟨rfl, HR1.out.keep (((Fr.refl [] _).alloc _).drewN _) (by simp), blk_drewN (blk_alloc HG1.out _) _, (HF1.out.alloc _).drewN _⟩

set_option maxRecDepth 100000 in
set_option maxHeartbeats 1600000 in
theorem kept_check (w : World) (x g : Nat) (t was : ByteArray) (way : Int) (a b c : Int) (s u : ByteArray) (hs : s.size ≤ maxLen) (hr : Real w x t) (hg : Gho w g t was way) (hi : GI was way) (hxg : x ≠ g) :
    Calls Try.prog 15 #[.pointer (some ⟨x, 0, none⟩), .pointer (some ⟨g, 0, none⟩), .agg #[.int .i64 5, .int .i64 a, .int .i64 b, .int .i64 c, .string s, .string u]] w fun e w' => e = .returned (.bool true) ∧ Real w' x t ∧ Gho w' g t was way ∧ Fr [x, g] w w' := by
  have hxl : x < w.heap.size := by obtain ⟨l, m1, m2, h, _⟩ := hr; exact blk_lt h
  have hgl : g < w.heap.size := blk_lt hg
  have hL := hr.law
  have hsz := hL.size
  have HR : Hid (Real w x t) := hr
  have HG : Hid (Gho w g t was way) := hg
  have HI : Hid (GI was way) := hi
  clear hr hg hi
  go_enter Try.func15, Try.ntmps15
  go_wp2_with fail
  have hoW := blk_new w (.cells #[.int .i64 5, .int .i64 a, .int .i64 b, .int .i64 c, .string s, .string u] 36)
  have hFW : Fr [] w (w.alloc (.cells #[.int .i64 5, .int .i64 a, .int .i64 b, .int .i64 c, .string s, .string u] 36)) := (Fr.refl _ _).alloc _
  generalize hW : w.alloc _ = W at hoW hFW ⊢
  have hRW : Real W x t := HR.out.keep hFW (by simp)
  have hGW : Gho W g t was way := hFW.keep HG.out (by simp)
  refine (do_check W x t a b c s u hs hRW).mono ?_
  rintro e w1 ⟨rfl, hr1, hf1⟩
  have ho1 := hf1.keep hoW (by simp; omega)
  have hg1 : Gho w1 g t was way := hf1.keep hGW (by simp; omega)
  have hF1 : Fr [x, g] w w1 := hFW.widen.trans (hf1.mono (by simp))
  have hol : w.heap.size < w1.heap.size := blk_lt ho1
  have hgl1 : g < w1.heap.size := blk_lt hg1
  have o1 := blk_cell ho1 1
  have o4 := blk_cell ho1 4
  have o0 := blk_cell ho1 0
  have g0 := blk_cell hg1 0
  have g1 := blk_cell hg1 1
  have g2 := blk_cell hg1 2
  have k0 := blk_frozen hg1 0
  have k1 := blk_frozen hg1 1
  have k2 := blk_frozen hg1 2
  have HR1 : Hid (Real w1 x t) := hr1
  have HG1 : Hid (Gho w1 g t was way) := hg1
  have HF1 : Hid (Fr [x, g] w w1) := hF1
  clear hoW hFW hW hRW hGW hf1 ho1 hg1 hF1 hr1
  go_wp2
  go_ret
  exact ⟨rfl, HR1.out.keep ((Fr.refl [] _).alloc _) (by simp), blk_alloc HG1.out _, HF1.out.alloc _⟩

set_option maxRecDepth 100000 in
set_option maxHeartbeats 1600000 in
theorem kept_none (w : World) (x g : Nat) (t was : ByteArray) (way : Int) (k : Int) (a b c : Int) (s u : ByteArray) (hs : s.size ≤ maxLen) (hr : Real w x t) (hg : Gho w g t was way) (hi : GI was way) (hxg : x ≠ g) (h1 : (k == 1) = false) (h2 : (k == 2) = false) (h3 : (k == 3) = false) (h4 : (k == 4) = false) (h5 : (k == 5) = false) :
    Calls Try.prog 15 #[.pointer (some ⟨x, 0, none⟩), .pointer (some ⟨g, 0, none⟩), .agg #[.int .i64 k, .int .i64 a, .int .i64 b, .int .i64 c, .string s, .string u]] w fun e w' => e = .returned (.bool true) ∧ Real w' x t ∧ Gho w' g t was way ∧ Fr [x, g] w w' := by
  have hxl : x < w.heap.size := by obtain ⟨l, m1, m2, h, _⟩ := hr; exact blk_lt h
  have hgl : g < w.heap.size := blk_lt hg
  have hL := hr.law
  have hsz := hL.size
  have HR : Hid (Real w x t) := hr
  have HG : Hid (Gho w g t was way) := hg
  have HI : Hid (GI was way) := hi
  clear hr hg hi
  go_enter Try.func15, Try.ntmps15
  go_wp2_with fail
  have hoW := blk_new w (.cells #[.int .i64 k, .int .i64 a, .int .i64 b, .int .i64 c, .string s, .string u] 36)
  have hFW : Fr [] w (w.alloc (.cells #[.int .i64 k, .int .i64 a, .int .i64 b, .int .i64 c, .string s, .string u] 36)) := (Fr.refl _ _).alloc _
  generalize hW : w.alloc _ = W at hoW hFW ⊢
  have hRW : Real W x t := HR.out.keep hFW (by simp)
  have hGW : Gho W g t was way := hFW.keep HG.out (by simp)
  refine (do_none W x t k a b c s u hs hRW h1 h2 h3 h4 h5).mono ?_
  rintro e w1 ⟨rfl, hr1, hf1⟩
  have ho1 := hf1.keep hoW (by simp; omega)
  have hg1 : Gho w1 g t was way := hf1.keep hGW (by simp; omega)
  have hF1 : Fr [x, g] w w1 := hFW.widen.trans (hf1.mono (by simp))
  have hol : w.heap.size < w1.heap.size := blk_lt ho1
  have hgl1 : g < w1.heap.size := blk_lt hg1
  have o1 := blk_cell ho1 1
  have o4 := blk_cell ho1 4
  have o0 := blk_cell ho1 0
  have g0 := blk_cell hg1 0
  have g1 := blk_cell hg1 1
  have g2 := blk_cell hg1 2
  have k0 := blk_frozen hg1 0
  have k1 := blk_frozen hg1 1
  have k2 := blk_frozen hg1 2
  have HR1 : Hid (Real w1 x t) := hr1
  have HG1 : Hid (Gho w1 g t was way) := hg1
  have HF1 : Hid (Fr [x, g] w w1) := hF1
  clear hoW hFW hW hRW hGW hf1 ho1 hg1 hF1 hr1
  go_wp2
  go_ret
  exact ⟨rfl, HR1.out.keep ((Fr.refl [] _).alloc _) (by simp), blk_alloc HG1.out _, HF1.out.alloc _⟩

set_option maxRecDepth 100000 in
set_option maxHeartbeats 1600000 in
theorem kept_load_long (w : World) (x g : Nat) (t was : ByteArray) (way : Int) (a b c : Int) (s u : ByteArray) (hs : s.size ≤ maxLen) (hr : Real w x t) (hg : Gho w g t was way) (hi : GI was way) (hxg : x ≠ g) (h32 : 32 < s.size) :
    Calls Try.prog 15 #[.pointer (some ⟨x, 0, none⟩), .pointer (some ⟨g, 0, none⟩), .agg #[.int .i64 1, .int .i64 a, .int .i64 b, .int .i64 c, .string s, .string u]] w fun e w' => e = .returned (.bool true) ∧ Real w' x (loadT t s) ∧ Gho w' g (loadT t s) was way ∧ Fr [x, g] w w' := by
  have hxl : x < w.heap.size := by obtain ⟨l, m1, m2, h, _⟩ := hr; exact blk_lt h
  have hgl : g < w.heap.size := blk_lt hg
  have hL := hr.law
  have hsz := hL.size
  have HR : Hid (Real w x t) := hr
  have HG : Hid (Gho w g t was way) := hg
  have HI : Hid (GI was way) := hi
  clear hr hg hi
  go_enter Try.func15, Try.ntmps15
  go_wp2_with fail
  have hoW := blk_new w (.cells #[.int .i64 1, .int .i64 a, .int .i64 b, .int .i64 c, .string s, .string u] 36)
  have hFW : Fr [] w (w.alloc (.cells #[.int .i64 1, .int .i64 a, .int .i64 b, .int .i64 c, .string s, .string u] 36)) := (Fr.refl _ _).alloc _
  generalize hW : w.alloc _ = W at hoW hFW ⊢
  have hRW : Real W x t := HR.out.keep hFW (by simp)
  have hGW : Gho W g t was way := hFW.keep HG.out (by simp)
  refine (do_load W x t a b c s u hs hRW).mono ?_
  rintro e w1 ⟨rfl, hr1, hf1⟩
  have ho1 := hf1.keep hoW (by simp; omega)
  have hg1 : Gho w1 g t was way := hf1.keep hGW (by simp; omega)
  have hF1 : Fr [x, g] w w1 := hFW.widen.trans (hf1.mono (by simp))
  have hol : w.heap.size < w1.heap.size := blk_lt ho1
  have hgl1 : g < w1.heap.size := blk_lt hg1
  have o1 := blk_cell ho1 1
  have o4 := blk_cell ho1 4
  have o0 := blk_cell ho1 0
  have g0 := blk_cell hg1 0
  have g1 := blk_cell hg1 1
  have g2 := blk_cell hg1 2
  have k0 := blk_frozen hg1 0
  have k1 := blk_frozen hg1 1
  have k2 := blk_frozen hg1 2
  have HR1 : Hid (Real w1 x (loadT t s)) := hr1
  have HG1 : Hid (Gho w1 g t was way) := hg1
  have HF1 : Hid (Fr [x, g] w w1) := hF1
  clear hoW hFW hW hRW hGW hf1 ho1 hg1 hF1 hr1
  obtain ⟨q1, q2, q3⟩ := load_long (t := t) h32
  have hmx : s.size ≤ 9223372036854775807 := by unfold maxLen at hs; omega
  have HQ : Hid (loadT t s = t) := q3
  clear q3 hs
  go_wp2
  go_ret
  exact ⟨rfl, HR1.out.keep ((Fr.refl [] _).alloc _) (by simp), by rw [HQ.out]; exact blk_alloc HG1.out _, HF1.out.alloc _⟩

set_option maxRecDepth 100000 in
set_option maxHeartbeats 1600000 in
theorem kept_load_bad (w : World) (x g : Nat) (t was : ByteArray) (way : Int) (a b c : Int) (s u : ByteArray) (hs : s.size ≤ maxLen) (hr : Real w x t) (hg : Gho w g t was way) (hi : GI was way) (hxg : x ≠ g) (h32 : ¬ 32 < s.size) (n : Nat) (hb : fbI 36 s.data.toList = n) :
    Calls Try.prog 15 #[.pointer (some ⟨x, 0, none⟩), .pointer (some ⟨g, 0, none⟩), .agg #[.int .i64 1, .int .i64 a, .int .i64 b, .int .i64 c, .string s, .string u]] w fun e w' => e = .returned (.bool true) ∧ Real w' x (loadT t s) ∧ Gho w' g (loadT t s) was way ∧ Fr [x, g] w w' := by
  have hxl : x < w.heap.size := by obtain ⟨l, m1, m2, h, _⟩ := hr; exact blk_lt h
  have hgl : g < w.heap.size := blk_lt hg
  have hL := hr.law
  have hsz := hL.size
  have HR : Hid (Real w x t) := hr
  have HG : Hid (Gho w g t was way) := hg
  have HI : Hid (GI was way) := hi
  clear hr hg hi
  go_enter Try.func15, Try.ntmps15
  go_wp2_with fail
  have hoW := blk_new w (.cells #[.int .i64 1, .int .i64 a, .int .i64 b, .int .i64 c, .string s, .string u] 36)
  have hFW : Fr [] w (w.alloc (.cells #[.int .i64 1, .int .i64 a, .int .i64 b, .int .i64 c, .string s, .string u] 36)) := (Fr.refl _ _).alloc _
  generalize hW : w.alloc _ = W at hoW hFW ⊢
  have hRW : Real W x t := HR.out.keep hFW (by simp)
  have hGW : Gho W g t was way := hFW.keep HG.out (by simp)
  refine (do_load W x t a b c s u hs hRW).mono ?_
  rintro e w1 ⟨rfl, hr1, hf1⟩
  have ho1 := hf1.keep hoW (by simp; omega)
  have hg1 : Gho w1 g t was way := hf1.keep hGW (by simp; omega)
  have hF1 : Fr [x, g] w w1 := hFW.widen.trans (hf1.mono (by simp))
  have hol : w.heap.size < w1.heap.size := blk_lt ho1
  have hgl1 : g < w1.heap.size := blk_lt hg1
  have o1 := blk_cell ho1 1
  have o4 := blk_cell ho1 4
  have o0 := blk_cell ho1 0
  have g0 := blk_cell hg1 0
  have g1 := blk_cell hg1 1
  have g2 := blk_cell hg1 2
  have k0 := blk_frozen hg1 0
  have k1 := blk_frozen hg1 1
  have k2 := blk_frozen hg1 2
  have HR1 : Hid (Real w1 x (loadT t s)) := hr1
  have HG1 : Hid (Gho w1 g t was way) := hg1
  have HF1 : Hid (Fr [x, g] w w1) := hF1
  clear hoW hFW hW hRW hGW hf1 ho1 hg1 hF1 hr1
  obtain ⟨q1, q2, q3⟩ := load_bad (t := t) h32 n hb
  have HQ : Hid (loadT t s = t) := q3
  clear q3 hs
  go_wp2_with (go_at_call 20; refine (first_any _ _ _ (by omega) (by omega) (by omega)).mono ?_; rintro e w2 ⟨rfl, rfl⟩)
  go_ret
  exact ⟨rfl, HR1.out.keep ((Fr.refl [] _).alloc _) (by simp), by rw [HQ.out]; exact blk_alloc HG1.out _, HF1.out.alloc _⟩

set_option maxRecDepth 100000 in
set_option maxHeartbeats 1600000 in
theorem kept_load_ok (w : World) (x g : Nat) (t was : ByteArray) (way : Int) (a b c : Int) (s u : ByteArray) (hs : s.size ≤ maxLen) (hr : Real w x t) (hg : Gho w g t was way) (hi : GI was way) (hxg : x ≠ g) (h32 : ¬ 32 < s.size) (hb : fbI 36 s.data.toList = -1) :
    Calls Try.prog 15 #[.pointer (some ⟨x, 0, none⟩), .pointer (some ⟨g, 0, none⟩), .agg #[.int .i64 1, .int .i64 a, .int .i64 b, .int .i64 c, .string s, .string u]] w fun e w' => e = .returned (.bool true) ∧ Real w' x (loadT t s) ∧ Gho w' g (loadT t s) was way ∧ Fr [x, g] w w' := by
  have hxl : x < w.heap.size := by obtain ⟨l, m1, m2, h, _⟩ := hr; exact blk_lt h
  have hgl : g < w.heap.size := blk_lt hg
  have hL := hr.law
  have hsz := hL.size
  have HR : Hid (Real w x t) := hr
  have HG : Hid (Gho w g t was way) := hg
  have HI : Hid (GI was way) := hi
  clear hr hg hi
  go_enter Try.func15, Try.ntmps15
  go_wp2_with fail
  have hoW := blk_new w (.cells #[.int .i64 1, .int .i64 a, .int .i64 b, .int .i64 c, .string s, .string u] 36)
  have hFW : Fr [] w (w.alloc (.cells #[.int .i64 1, .int .i64 a, .int .i64 b, .int .i64 c, .string s, .string u] 36)) := (Fr.refl _ _).alloc _
  generalize hW : w.alloc _ = W at hoW hFW ⊢
  have hRW : Real W x t := HR.out.keep hFW (by simp)
  have hGW : Gho W g t was way := hFW.keep HG.out (by simp)
  refine (do_load W x t a b c s u hs hRW).mono ?_
  rintro e w1 ⟨rfl, hr1, hf1⟩
  have ho1 := hf1.keep hoW (by simp; omega)
  have hg1 : Gho w1 g t was way := hf1.keep hGW (by simp; omega)
  have hF1 : Fr [x, g] w w1 := hFW.widen.trans (hf1.mono (by simp))
  have hol : w.heap.size < w1.heap.size := blk_lt ho1
  have hgl1 : g < w1.heap.size := blk_lt hg1
  have o1 := blk_cell ho1 1
  have o4 := blk_cell ho1 4
  have o0 := blk_cell ho1 0
  have g0 := blk_cell hg1 0
  have g1 := blk_cell hg1 1
  have g2 := blk_cell hg1 2
  have k0 := blk_frozen hg1 0
  have k1 := blk_frozen hg1 1
  have k2 := blk_frozen hg1 2
  have HR1 : Hid (Real w1 x (loadT t s)) := hr1
  have HG1 : Hid (Gho w1 g t was way) := hg1
  have HF1 : Hid (Fr [x, g] w w1) := hF1
  clear hoW hFW hW hRW hGW hf1 ho1 hg1 hF1 hr1
  obtain ⟨q1, q2, q3⟩ := load_ok (t := t) h32 hb
  have HQ : Hid (loadT t s = s) := q3
  clear q3 hs
  go_wp2_with (go_at_call 20; refine (first_any _ _ _ (by omega) (by omega) (by omega)).mono ?_; rintro e w2 ⟨rfl, rfl⟩)
  go_ret
  refine ⟨rfl, ?_, ?_, ?_⟩
  · exact (HR1.out.far (p := ⟨g, 0, none⟩) hxg).keep ((Fr.refl [] _).alloc _) (by simp)
  · rw [HQ.out]; exact blk_alloc (blk_set HG1.out 0 _) _
  · exact (HF1.out.setCell (p := ⟨g, 0, none⟩) (by simp) _).alloc _

set_option maxRecDepth 100000 in
set_option maxHeartbeats 1600000 in
theorem kept_seal_err (w : World) (x g : Nat) (t was : ByteArray) (way : Int) (a b c : Int) (s u : ByteArray) (hs : s.size ≤ maxLen) (hr : Real w x t) (hg : Gho w g t was way) (hi : GI was way) (hxg : x ≠ g) (hE : sealE t a ≠ 0) :
    Calls Try.prog 15 #[.pointer (some ⟨x, 0, none⟩), .pointer (some ⟨g, 0, none⟩), .agg #[.int .i64 2, .int .i64 a, .int .i64 b, .int .i64 c, .string s, .string u]] w fun e w' => e = .returned (.bool true) ∧ Real w' x (sealT t a) ∧ Gho w' g (sealT t a) was way ∧ Fr [x, g] w w' := by
  have hxl : x < w.heap.size := by obtain ⟨l, m1, m2, h, _⟩ := hr; exact blk_lt h
  have hgl : g < w.heap.size := blk_lt hg
  have hL := hr.law
  have hsz := hL.size
  have HR : Hid (Real w x t) := hr
  have HG : Hid (Gho w g t was way) := hg
  have HI : Hid (GI was way) := hi
  clear hr hg hi
  go_enter Try.func15, Try.ntmps15
  go_wp2_with fail
  have hoW := blk_new w (.cells #[.int .i64 2, .int .i64 a, .int .i64 b, .int .i64 c, .string s, .string u] 36)
  have hFW : Fr [] w (w.alloc (.cells #[.int .i64 2, .int .i64 a, .int .i64 b, .int .i64 c, .string s, .string u] 36)) := (Fr.refl _ _).alloc _
  generalize hW : w.alloc _ = W at hoW hFW ⊢
  have hRW : Real W x t := HR.out.keep hFW (by simp)
  have hGW : Gho W g t was way := hFW.keep HG.out (by simp)
  refine (do_seal W x t a b c s u hs hRW).mono ?_
  rintro e w1 ⟨rfl, hr1, hf1⟩
  have ho1 := hf1.keep hoW (by simp; omega)
  have hg1 : Gho w1 g t was way := hf1.keep hGW (by simp; omega)
  have hF1 : Fr [x, g] w w1 := hFW.widen.trans (hf1.mono (by simp))
  have hol : w.heap.size < w1.heap.size := blk_lt ho1
  have hgl1 : g < w1.heap.size := blk_lt hg1
  have o1 := blk_cell ho1 1
  have o4 := blk_cell ho1 4
  have o0 := blk_cell ho1 0
  have g0 := blk_cell hg1 0
  have g1 := blk_cell hg1 1
  have g2 := blk_cell hg1 2
  have k0 := blk_frozen hg1 0
  have k1 := blk_frozen hg1 1
  have k2 := blk_frozen hg1 2
  have HR1 : Hid (Real w1 x (sealT t a)) := hr1
  have HG1 : Hid (Gho w1 g t was way) := hg1
  have HF1 : Hid (Fr [x, g] w w1) := hF1
  clear hoW hFW hW hRW hGW hf1 ho1 hg1 hF1 hr1
  have HQ : Hid (sealT t a = t) := by show _ = _; simp [sealT, hE]
  have q1 : sealN t a = 0 := by simp [sealN, hE]
  have hne : (gd t.data.toList a 1 a != 0) = true := by rw [bne_iff_ne]; exact hE
  have HE : Hid (sealE t a = gd t.data.toList a 1 a) := rfl
  rw [HE.out]
  clear hE
  go_wp2
  go_quiet ((go_at_call 21; refine Calls.quiet_of_same (fit_any _ t a 1 a (by omega) (by omega))))
  go_wp2
  go_ret
  exact ⟨rfl, HR1.out.keep (((Fr.refl [] _).alloc _).drewN _) (by simp), by rw [HQ.out]; exact blk_drewN (blk_alloc HG1.out _) _, (HF1.out.alloc _).drewN _⟩

end Go.Proofs.Qxb6500341a
