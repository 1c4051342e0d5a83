import Derived.Test.Qxb6500336aR3
namespace Go.Proofs.Qxb6500336a
open Go.RowKit
set_option linter.unusedVariables false
set_option linter.unusedSimpArgs false

/-- The table of capabilities. -/
def hasB (tag c : Int) : Bool :=
  if c = 1 then decide (tag ≠ 4) else if c = 2 then decide (tag = 1 ∨ tag = 4) else if c = 3 then decide (tag ≠ 1) else decide (tag = 3 ∨ tag = 4)
theorem has_any {w : World} {tag c : Int} (ht : tag = 1 ∨ tag = 2 ∨ tag = 3 ∨ tag = 4) (hc : c = 1 ∨ c = 2 ∨ c = 3 ∨ c = 4) :
    Calls Try.prog 100 #[.int .i64 tag, .int .i64 c] w fun e w' => e = .returned (.bool (hasB tag c)) ∧ w' = w := by
  rcases ht with rfl | rfl | rfl | rfl <;> rcases hc with rfl | rfl | rfl | rfl
  all_goals
    go_enter Try.func100, Try.ntmps100
    go_wp2
    go_ret
    exact ⟨rfl, rfl⟩
theorem emp2 : (⟨#[]⟩ : ByteArray) ++ ⟨#[]⟩ = ⟨#[]⟩ := ByteArray.empty_append

/-! ### Rows -/
theorem Ms.asRow {w : World} {A : List Nat} {t : Code} {v : List Value} (h : Ms w A false t [v]) (hl : isL t = true) : ∃ ks vs, v = cells4 3 0 ⟨#[]⟩ ks ∧ RowAt w A ks vs ∧ Ms w A true t vs := by
  cases t with
  | skip =>
    have h1 : [v] = [cells4 3 0 ⟨#[]⟩ (.slice none 0 0)] := h
    simp at h1
    exact ⟨_, [], h1, Or.inl ⟨rfl, rfl⟩, rfl⟩
  | seq a b =>
    obtain ⟨ks, u, us, h1, h2, h3, h4⟩ := h
    simp at h1
    exact ⟨ks, u :: us, h1, h2, u, us, rfl, h3, h4⟩
  | _ => simp [isL] at hl
theorem Ms.ofRow {w : World} {A : List Nat} {t : Code} {ks : Value} {vs : List (List Value)} (hr : RowAt w A ks vs) (h : Ms w A true t vs) : Ms w A false t [cells4 3 0 ⟨#[]⟩ ks] := by
  cases t with
  | skip =>
    have h1 : vs = [] := h
    subst h1
    rcases hr with ⟨_, rfl⟩ | ⟨_, _, _, _, h0, _⟩
    · rfl
    · exact absurd rfl h0
  | seq a b =>
    obtain ⟨v, us, rfl, h3, h4⟩ := h
    exact ⟨ks, v, us, rfl, hr, h3, h4⟩
  | _ => exact h.elim
theorem Ms.app {w : World} {A : List Nat} {b : Code} {us : List (List Value)} (hb : Ms w A true b us) : ∀ (a : Code) (vs : List (List Value)), Ms w A true a vs → Ms w A true (appT a b) (vs ++ us) := by
  intro a
  induction a with
  | skip => intro vs h; cases h; exact hb
  | seq x y _ ih =>
    intro vs h
    obtain ⟨v, vs', rfl, h3, h4⟩ := h
    exact ⟨v, vs' ++ us, rfl, h3, ih _ h4⟩
  | _ => intro vs h; exact h.elim
theorem flat_len {vs : List (List Value)} (h4 : ∀ v ∈ vs, v.length = 4) : vs.flatten.length = vs.length * 4 := by
  induction vs with
  | nil => rfl
  | cons a r ih =>
    have h1 := h4 a (by simp)
    have h2 := ih (fun v hv => h4 v (by simp [hv]))
    simp only [List.flatten_cons, List.length_append, List.length_cons]
    omega
theorem MsL.one {w : World} {A : List Nat} : ∀ {ts : List Code} {vs : List (List Value)}, MsL w A ts vs → ∀ u ∈ vs.flatten, u.oneCell' = true
  | [], [], _, u, h => by simp at h
  | t :: ts, v :: vs, h, u, hu => by
    simp only [List.flatten_cons, List.mem_append] at hu
    rcases hu with hu | hu
    · obtain ⟨tag, n, s, ks, rfl⟩ := h.1.shape
      exact one4 h.1.one u hu
    · exact MsL.one h.2 u hu
theorem RowAt.news {w : World} {A : List Nat} {g off n cap : Nat} {vs : List (List Value)} (h : RowAt w A (.slice (some ⟨g, off, none⟩) n cap) vs) : ∀ j u, vs.flatten[j]? = some u → w.cell? ((⟨g, off, none⟩ : Addr).add j) = some u := by
  intro j u hu
  rcases h with ⟨rfl, _⟩ | ⟨g', off', cap', cur, _, h1, h2, h3, h4⟩
  · simp at hu
  · simp at h1
    obtain ⟨⟨rfl, rfl⟩, _⟩ := h1
    have hadd : (⟨g, off, none⟩ : Addr).add j = ⟨g, off + j, none⟩ := by unfold Addr.add; split <;> simp_all
    rw [hadd, blk_cell h2]
    exact h4 j u hu
theorem RowAt.ofOwn {w : World} {A : List Nat} {g n cap : Nat} {xs : List Value} {vs : List (List Value)} (h : w.ownsRow 0 119 4 (.slice (some ⟨g, 0, none⟩) n cap) n xs) (hn : n = vs.length) (hx : xs = vs.flatten) (h0 : vs ≠ []) (hg : g ∉ A) : RowAt w A (.slice (some ⟨g, 0, none⟩) n cap) vs := by
  subst hn hx
  rcases h.2 with ⟨h2, _⟩ | ⟨g', cap', cur, h2, _, h3, h4, h5, h6, h7⟩
  · simp at h2
  · simp at h2
    obtain ⟨rfl, rfl⟩ := h2
    refine Or.inr ⟨g, 0, cap, cur, h0, rfl, h3, hg, ?_⟩
    intro j u hu
    rw [← h7] at hu
    have hj : j < vs.length * 4 := by
      rcases Nat.lt_or_ge j (vs.length * 4) with h8 | h8
      · exact h8
      · rw [List.getElem?_eq_none (by simp; omega)] at hu; cases hu
    rw [List.getElem?_take_of_lt hj] at hu
    simpa using hu
theorem own_nil (w : World) : w.ownsRow 0 119 4 (.slice none 0 0) 0 [] := ⟨rfl, Or.inl ⟨rfl, rfl⟩⟩

/-- What a + b leaves. -/
def MPlus (w : World) (A : List Nat) (r : Int × Code) (e : Ending) (w' : World) : Prop :=
  ∃ tag n s p l c, e = .returned (.tuple #[.agg #[.int .i64 tag, .int .i64 n, .string s, .slice p l c], .int .i64 r.1]) ∧ Fr [] w w' ∧ (r.1 = 0 → Ms w' A false r.2 [cells4 tag n s (.slice p l c)])

theorem blk4b (w : World) (a b c d : Obj) : ((((w.alloc a).alloc b).alloc c).alloc d).heap[w.heap.size + 1]? = some b := by
  have h1 := blk_new (w.alloc a) b
  have h2 := (((Fr.refl [] ((w.alloc a).alloc b)).alloc c).alloc d).keep h1 (by simp)
  simpa using h2
theorem blk4c (w : World) (a b c d : Obj) : ((((w.alloc a).alloc b).alloc c).alloc d).heap[w.heap.size + 1 + 1]? = some c := by
  have h1 := blk_new ((w.alloc a).alloc b) c
  have h2 := ((Fr.refl [] (((w.alloc a).alloc b).alloc c)).alloc d).keep h1 (by simp)
  simpa using h2
theorem blk4d (w : World) (a b c d : Obj) : ((((w.alloc a).alloc b).alloc c).alloc d).heap[w.heap.size + 1 + 1 + 1]? = some d := by
  have h1 := blk_new (((w.alloc a).alloc b).alloc c) d
  simpa using h1
theorem res99 {w : World} {R : Nat} {e : Int} {x0 x1 x2 x3 : Value} {tmps : Array Value} (h4 : tmps[4]?.getD undef = .pointer (some ⟨R, 0, none⟩)) (h5 : tmps[5]?.getD undef = .int .i64 e) (hb : w.heap[R]? = some (.cells #[x0, x1, x2, x3] 119)) : (results Try.f99 tmps).run Try.prog w = .ok (.tuple #[.agg #[x0, x1, x2, x3], .int .i64 e]) w := by
  have a0 := blk_cell hb 0
  have a1 := blk_cell hb 1
  have a2 := blk_cell hb 2
  have a3 := blk_cell hb 3
  simp at a0 a1 a2 a3
  simp [results, Try.results99, go_sem, h4, h5, a0, a1, a2, a3]
theorem blk_set4 {w : World} {R : Nat} {y0 y1 y2 y3 : Value} {T : TypeId} (h : w.heap[R]? = some (.cells #[y0, y1, y2, y3] T)) (x0 x1 x2 x3 : Value) :
    ((((w.setCell ⟨R, 0, none⟩ x0).setCell ⟨R, 1, none⟩ x1).setCell ⟨R, 2, none⟩ x2).setCell ⟨R, 3, none⟩ x3).heap[R]? = some (.cells #[x0, x1, x2, x3] T) := by
  have h0 := blk_set h 0 x0
  have h1 := blk_set h0 1 x1
  have h2 := blk_set h1 2 x2
  have h3 := blk_set h2 3 x3
  simpa using h3
theorem Fr.set4 {w w' : World} {S : List Nat} {R : Nat} (h : Fr S w w') (hR : w.heap.size ≤ R) (x0 x1 x2 x3 : Value) : Fr S w ((((w'.setCell ⟨R, 0, none⟩ x0).setCell ⟨R, 1, none⟩ x1).setCell ⟨R, 2, none⟩ x2).setCell ⟨R, 3, none⟩ x3) :=
  (((h.setCell (Or.inr hR) _).setCell (Or.inr hR) _).setCell (Or.inr hR) _).setCell (Or.inr hR) _

set_option maxHeartbeats 3200000 in
set_option maxRecDepth 100000 in
theorem plus_int {w : World} {A : List Nat} {n k : Int} (hn : w64 n) (hk : w64 k) : Calls Try.prog 99 #[.agg #[.int .i64 1, .int .i64 n, .string ⟨#[]⟩, .slice none 0 0], .agg #[.int .i64 1, .int .i64 k, .string ⟨#[]⟩, .slice none 0 0]] w (MPlus w A (0, tI (wrap64 (n + k)))) := by
  have hz := itoa_size (wrap64 (n + k))
  generalize hX : itoa (wrap64 (n + k)) = X at hz
  have HX : Hid (itoa (wrap64 (n + k)) = X) := hX
  clear hX
  go_enter Try.func99, Try.ntmps99
  go_wp2_with (first | (go_at_call 100; refine (has_any (by simp) (by simp)).mono ?_; rintro e w1 ⟨rfl, rfl⟩; simp only [hasB]) | (go_at_call 83; rw [emp2]; refine (text_int (w_out (n + k))).mono ?_; rw [HX.out]; rintro e w2 ⟨rfl, hf2⟩; have hbc := hf2.keep (blk4c _ _ _ _ _) (by simp); have hbd := hf2.keep (blk4d _ _ _ _ _) (by simp); have FF : Fr [] w w2 := (((((Fr.refl [] w).alloc _).alloc _).alloc _).alloc _).trans hf2; have y0 := blk_cell hbd 0; have y1 := blk_cell hbd 1; have y2 := blk_cell hbd 2; have y3 := blk_cell hbd 3; simp at y0 y1 y2 y3; have r0 := blk_cell hbc 0; have r1 := blk_cell hbc 1; have r2 := blk_cell hbc 2; have r3 := blk_cell hbc 3; have f0 := blk_frozen hbc 0; have f1 := blk_frozen hbc 1; have f2 := blk_frozen hbc 2; have f3 := blk_frozen hbc 3; simp at r0 r1 r2 r3; have HB : Hid _ := hbc; clear hbc hbd))
  refine bodyPost_ret (res99 (R := w.heap.size + 1 + 1) (by simp) (by simp) (blk_set4 HB.out _ _ _ _)) rfl ⟨_, _, _, _, _, _, rfl, FF.set4 (by omega) _ _ _ _, fun _ => ⟨rfl, w_out _⟩⟩

set_option maxHeartbeats 3200000 in
set_option maxRecDepth 100000 in
theorem plus_str {w : World} {A : List Nat} {s r : ByteArray} (hsr : s.size ≤ 30 ∧ r.size ≤ 30) (hft : ((itoa (s ++ r).size ++ ⟨#[58]⟩) ++ (s ++ r)).size ≤ 30) : Calls Try.prog 99 #[.agg #[.int .i64 2, .int .i64 0, .string s, .slice none 0 0], .agg #[.int .i64 2, .int .i64 0, .string r, .slice none 0 0]] w (MPlus w A (0, tS (s ++ r))) := by
  have hsz : s.size ≤ 30 ∧ r.size ≤ 30 := hsr
  have hzz : ((itoa (s ++ r).size ++ ⟨#[58]⟩) ++ (s ++ r)).size ≤ 1000 := by
    have := itoa_size (s ++ r).size
    have h58 : ByteArray.size ⟨#[58]⟩ = 1 := rfl
    simp only [ByteArray.size_append, h58] at *
    omega
  have HZ : Hid (((itoa (s ++ r).size ++ ⟨#[58]⟩) ++ (s ++ r)).size ≤ 1000) := hzz
  have hq : ¬ 9223372036854775807 < s.size + r.size := by omega
  clear hzz hsr
  skip
  generalize hX : (itoa (s ++ r).size ++ ⟨#[58]⟩) ++ (s ++ r) = X at hft
  have HX : Hid ((itoa (s ++ r).size ++ ⟨#[58]⟩) ++ (s ++ r) = X) := hX
  clear hX hsz
  go_enter Try.func99, Try.ntmps99
  go_wp2_with (first | (go_at_call 100; refine (has_any (by simp) (by simp)).mono ?_; rintro e w1 ⟨rfl, rfl⟩; simp only [hasB]) | (go_at_call 83; refine (text_str HZ.out).mono ?_; rw [HX.out]; rintro e w2 ⟨rfl, hf2⟩; have hbc := hf2.keep (blk4c _ _ _ _ _) (by simp); have hbd := hf2.keep (blk4d _ _ _ _ _) (by simp); have FF : Fr [] w w2 := (((((Fr.refl [] w).alloc _).alloc _).alloc _).alloc _).trans hf2; have y0 := blk_cell hbd 0; have y1 := blk_cell hbd 1; have y2 := blk_cell hbd 2; have y3 := blk_cell hbd 3; simp at y0 y1 y2 y3; have r0 := blk_cell hbc 0; have r1 := blk_cell hbc 1; have r2 := blk_cell hbc 2; have r3 := blk_cell hbc 3; have f0 := blk_frozen hbc 0; have f1 := blk_frozen hbc 1; have f2 := blk_frozen hbc 2; have f3 := blk_frozen hbc 3; simp at r0 r1 r2 r3; have HB : Hid _ := hbc; clear hbc hbd))
  refine bodyPost_ret (res99 (R := w.heap.size + 1 + 1) (by simp) (by simp) (blk_set4 HB.out _ _ _ _)) rfl ⟨_, _, _, _, _, _, rfl, FF.set4 (by omega) _ _ _ _, fun _ => rfl⟩

set_option maxHeartbeats 3200000 in
set_option maxRecDepth 100000 in
theorem plus_str7 {w : World} {A : List Nat} {s r : ByteArray} (hsr : s.size ≤ 30 ∧ r.size ≤ 30) (hft : ¬ ((itoa (s ++ r).size ++ ⟨#[58]⟩) ++ (s ++ r)).size ≤ 30) : Calls Try.prog 99 #[.agg #[.int .i64 2, .int .i64 0, .string s, .slice none 0 0], .agg #[.int .i64 2, .int .i64 0, .string r, .slice none 0 0]] w (MPlus w A (7, .skip)) := by
  have hsz : s.size ≤ 30 ∧ r.size ≤ 30 := hsr
  have hzz : ((itoa (s ++ r).size ++ ⟨#[58]⟩) ++ (s ++ r)).size ≤ 1000 := by
    have := itoa_size (s ++ r).size
    have h58 : ByteArray.size ⟨#[58]⟩ = 1 := rfl
    simp only [ByteArray.size_append, h58] at *
    omega
  have HZ : Hid (((itoa (s ++ r).size ++ ⟨#[58]⟩) ++ (s ++ r)).size ≤ 1000) := hzz
  have hq : ¬ 9223372036854775807 < s.size + r.size := by omega
  clear hzz hsr
  skip
  generalize hX : (itoa (s ++ r).size ++ ⟨#[58]⟩) ++ (s ++ r) = X at hft
  have HX : Hid ((itoa (s ++ r).size ++ ⟨#[58]⟩) ++ (s ++ r) = X) := hX
  clear hX hsz
  go_enter Try.func99, Try.ntmps99
  go_wp2_with (first | (go_at_call 100; refine (has_any (by simp) (by simp)).mono ?_; rintro e w1 ⟨rfl, rfl⟩; simp only [hasB]) | (go_at_call 83; refine (text_str HZ.out).mono ?_; rw [HX.out]; rintro e w2 ⟨rfl, hf2⟩; have hbc := hf2.keep (blk4c _ _ _ _ _) (by simp); have hbd := hf2.keep (blk4d _ _ _ _ _) (by simp); have FF : Fr [] w w2 := (((((Fr.refl [] w).alloc _).alloc _).alloc _).alloc _).trans hf2; have y0 := blk_cell hbd 0; have y1 := blk_cell hbd 1; have y2 := blk_cell hbd 2; have y3 := blk_cell hbd 3; simp at y0 y1 y2 y3; have r0 := blk_cell hbc 0; have r1 := blk_cell hbc 1; have r2 := blk_cell hbc 2; have r3 := blk_cell hbc 3; have f0 := blk_frozen hbc 0; have f1 := blk_frozen hbc 1; have f2 := blk_frozen hbc 2; have f3 := blk_frozen hbc 3; simp at r0 r1 r2 r3; have HB : Hid _ := hbc; clear hbc hbd))
  refine bodyPost_ret (res99 (R := w.heap.size + 1 + 1) (by simp) (by simp) (blk_set4 HB.out _ _ _ _)) rfl ⟨_, _, _, _, _, _, rfl, FF.set4 (by omega) _ _ _ _, fun h => by cases h⟩

set_option maxRecDepth 100000 in
theorem plus_nocap {w : World} {A : List Nat} {n m tag : Int} {s r : ByteArray} {p q : Option Addr} {k l c d : Nat} : Calls Try.prog 99 #[.agg #[.int .i64 4, .int .i64 n, .string s, .slice p k c], .agg #[.int .i64 tag, .int .i64 m, .string r, .slice q l d]] w (MPlus w A (5, .skip)) := by
  go_enter Try.func99, Try.ntmps99
  go_wp2_with (go_at_call 100; refine (has_any (by simp) (by simp)).mono ?_; rintro e w1 ⟨rfl, rfl⟩; simp only [hasB])
  have hbc := blk_new ((w.alloc (.cells #[.int .i64 4, .int .i64 n, .string s, .slice p k c] 119)).alloc (.cells #[.int .i64 tag, .int .i64 m, .string r, .slice q l d] 119)) (.cells #[.int .i64 0, .int .i64 0, .string ⟨#[]⟩, .slice none 0 0] 119)
  simp only [World.size_alloc] at hbc
  refine bodyPost_ret (res99 (R := w.heap.size + 1 + 1) (by simp) (by simp) hbc) rfl ⟨_, _, _, _, _, _, rfl, (((Fr.refl [] w).alloc _).alloc _).alloc _, fun h => by cases h⟩
set_option maxRecDepth 100000 in
theorem plus_mix {w : World} {A : List Nat} {n m t1 tag : Int} {s r : ByteArray} {p q : Option Addr} {k l c d : Nat} (h1 : t1 = 1 ∨ t1 = 2 ∨ t1 = 3) (h2 : t1 ≠ tag) : Calls Try.prog 99 #[.agg #[.int .i64 t1, .int .i64 n, .string s, .slice p k c], .agg #[.int .i64 tag, .int .i64 m, .string r, .slice q l d]] w (MPlus w A (6, .skip)) := by
  have hh : hasB t1 1 = true := by rcases h1 with rfl | rfl | rfl <;> rfl
  have H1 : Hid (t1 = 1 ∨ t1 = 2 ∨ t1 = 3 ∨ t1 = 4) := by rcases h1 with rfl | rfl | rfl <;> simp [Hid]
  have h3 : (t1 != tag) = true := by simpa using h2
  have h4 : (t1 == tag) = false := by simpa using h2
  clear h1
  go_enter Try.func99, Try.ntmps99
  go_wp2_with (go_at_call 100; refine (has_any H1.out (by simp)).mono ?_; rintro e w1 ⟨rfl, rfl⟩)
  have hbc := blk_new ((w.alloc (.cells #[.int .i64 t1, .int .i64 n, .string s, .slice p k c] 119)).alloc (.cells #[.int .i64 tag, .int .i64 m, .string r, .slice q l d] 119)) (.cells #[.int .i64 0, .int .i64 0, .string ⟨#[]⟩, .slice none 0 0] 119)
  simp only [World.size_alloc] at hbc
  refine bodyPost_ret (res99 (R := w.heap.size + 1 + 1) (by simp) (by simp) hbc) rfl ⟨_, _, _, _, _, _, rfl, (((Fr.refl [] w).alloc _).alloc _).alloc _, fun h => by cases h⟩
end Go.Proofs.Qxb6500336a
