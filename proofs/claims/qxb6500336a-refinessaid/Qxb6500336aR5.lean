import Derived.Test.Qxb6500336aR4
namespace Go.Proofs.Qxb6500336a
open Go.RowKit
set_option linter.unusedVariables false
set_option linter.unusedSimpArgs false

theorem Fr.set4m {w w' : World} {S : List Nat} {R : Nat} (h : Fr S w w') (hR : R ∈ S) (x0 x1 x2 x3 : Value) : Fr S w ((((w'.setCell ⟨R, 0, none⟩ x0).setCell ⟨R, 1, none⟩ x1).setCell ⟨R, 2, none⟩ x2).setCell ⟨R, 3, none⟩ x3) :=
  (((h.setCell (Or.inl hR) _).setCell (Or.inl hR) _).setCell (Or.inl hR) _).setCell (Or.inl hR) _
theorem own_cap {w : World} {g n cap : Nat} {xs : List Value} (h : w.ownsRow 0 119 4 (.slice (some ⟨g, 0, none⟩) n cap) n xs) : n ≤ cap := by
  rcases h.2 with ⟨h2, _⟩ | ⟨g', cap', cur, h2, _, h3, h4, h5, h6, h7⟩
  · simp at h2
  · simp at h2
    obtain ⟨rfl, rfl⟩ := h2
    exact h4
def lstR (t : Code) : Int × Code := if (tx false t).size ≤ 30 then (0, t) else (7, .skip)

set_option maxHeartbeats 6400000 in
set_option maxRecDepth 100000 in
theorem plus_l00 {w : World} {A : List Nat} {ta tb : Code} {va vb : List (List Value)} (hA : ∀ b ∈ A, b < w.heap.size) (hra : RowAt w A (.slice none 0 0) va) (hrb : RowAt w A (.slice none 0 0) vb) (hma : Ms w A true ta va) (hmb : Ms w A true tb vb) (h0a : va = []) (h0b : vb = []) (hz : (tx false (appT ta tb)).size ≤ 1000) :
    Calls Try.prog 99 #[.agg #[.int .i64 3, .int .i64 0, .string ⟨#[]⟩, .slice none 0 0], .agg #[.int .i64 3, .int .i64 0, .string ⟨#[]⟩, .slice none 0 0]] w (MPlus w A (lstR (appT ta tb))) := by
  have e0 : (⟨#[]⟩ : ByteArray) ++ ⟨#[]⟩ = ⟨#[]⟩ := emp2
  obtain ⟨i119, hi119, hz119⟩ := info_parts info119
  have HA : Hid (∀ b ∈ A, b < w.heap.size) := hA
  have HM : Hid (Ms w A true (appT ta tb) (va ++ vb)) := Ms.app hmb _ _ hma
  have HRA : Hid (RowAt w A (.slice none 0 0) va) := hra
  have HRB : Hid (RowAt w A (.slice none 0 0) vb) := hrb
  have HOA : Hid (∀ u ∈ va.flatten, u.oneCell' = true) := (Ms.rest _ _ hma).1.one
  have HOB : Hid (∀ u ∈ vb.flatten, u.oneCell' = true) := (Ms.rest _ _ hmb).1.one
  have hfa := flat_len (Ms.rest _ _ hma).1.four
  have hfb := flat_len (Ms.rest _ _ hmb).1.four
  have HZ : Hid ((tx false (appT ta tb)).size ≤ 1000) := hz
  have H0a : Hid (va = []) := h0a
  have H0b : Hid (vb = []) := h0b
  have HY : Hid (lstR (appT ta tb) = if (tx false (appT ta tb)).size ≤ 30 then (0, appT ta tb) else (7, .skip)) := rfl
  generalize hX : tx false (appT ta tb) = X at HY
  have HX : Hid (tx false (appT ta tb) = X) := hX
  clear hA hra hrb hma hmb hz hX hfa hfb h0a h0b
  generalize lstR (appT ta tb) = R at HY ⊢
  by_cases hft : X.size ≤ 30
  all_goals
    go_enter Try.func99, Try.ntmps99
    go_wp2_with (first
      | (go_at_call 83; refine ((text_all (appT ta tb)).1 _ A 3 0 ⟨#[]⟩ (.slice none 0 0) (Ms.ofRow (vs := va ++ vb) (by rw [H0a.out, H0b.out]; exact Or.inl ⟨rfl, rfl⟩) (Ms.kept (((((Fr.refl _ w).alloc _).alloc _).alloc _).alloc _) (fun b hb => Or.inl hb) _ _ _ HM.out)) HZ.out).mono ?_; rw [HX.out]; rintro e w2 ⟨rfl, hf2⟩; have hbc := hf2.keep (blk4c _ _ _ _ _) (by simp); have hbd := hf2.keep (blk4d _ _ _ _ _) (by simp); have FF : Fr [] w w2 := (((((Fr.refl _ w).alloc _).alloc _).alloc _).alloc _).trans hf2; have y0 := blk_cell hbd 0; have y1 := blk_cell hbd 1; have y2 := blk_cell hbd 2; have y3 := blk_cell hbd 3; simp at y0 y1 y2 y3; have r0 := blk_cell hbc 0; have r1 := blk_cell hbc 1; have r2 := blk_cell hbc 2; have r3 := blk_cell hbc 3; have f0 := blk_frozen hbc 0; have f1 := blk_frozen hbc 1; have f2 := blk_frozen hbc 2; have f3 := blk_frozen hbc 3; simp at r0 r1 r2 r3; have HB : Hid _ := hbc; clear hbc hbd)
      | (go_at_call 100; refine (has_any (by simp) (by simp)).mono ?_; rintro e w1 ⟨rfl, rfl⟩; simp only [hasB]))
  · have e2 : R = (0, appT ta tb) := by rw [HY.out, if_pos hft]
    rw [e2]
    refine bodyPost_ret (res99 (R := w.heap.size + 1 + 1) (by simp) (by simp) (blk_set4 HB.out _ _ _ _)) rfl ⟨_, _, _, _, _, _, rfl, FF.set4 (by omega) _ _ _ _, fun _ => ?_⟩
    exact Ms.ofRow (vs := va ++ vb) (by rw [H0a.out, H0b.out]; exact Or.inl ⟨rfl, rfl⟩) (Ms.kept (FF.set4 (by omega) _ _ _ _).widen (fun b hb => Or.inl hb) _ _ _ HM.out)
  · have e2 : R = (7, .skip) := by rw [HY.out, if_neg hft]
    rw [e2]
    refine bodyPost_ret (res99 (R := w.heap.size + 1 + 1) (by simp) (by simp) (blk_set4 HB.out _ _ _ _)) rfl ⟨_, _, _, _, _, _, rfl, FF.set4 (by omega) _ _ _ _, fun h => by cases h⟩

set_option maxHeartbeats 6400000 in
set_option maxRecDepth 100000 in
theorem plus_l10 {w : World} {A : List Nat} {ta tb : Code} {va vb : List (List Value)} {ga oa na ca : Nat} (hA : ∀ b ∈ A, b < w.heap.size) (hra : RowAt w A (.slice (some ⟨ga, oa, none⟩) na ca) va) (hrb : RowAt w A (.slice none 0 0) vb) (hma : Ms w A true ta va) (hmb : Ms w A true tb vb) (hna : na = va.length) (h0a : va ≠ []) (hla : na ≤ 100) (h0b : vb = []) (hz : (tx false (appT ta tb)).size ≤ 1000) :
    Calls Try.prog 99 #[.agg #[.int .i64 3, .int .i64 0, .string ⟨#[]⟩, .slice (some ⟨ga, oa, none⟩) na ca], .agg #[.int .i64 3, .int .i64 0, .string ⟨#[]⟩, .slice none 0 0]] w (MPlus w A (lstR (appT ta tb))) := by
  have e0 : (⟨#[]⟩ : ByteArray) ++ ⟨#[]⟩ = ⟨#[]⟩ := emp2
  obtain ⟨i119, hi119, hz119⟩ := info_parts info119
  have HA : Hid (∀ b ∈ A, b < w.heap.size) := hA
  have HM : Hid (Ms w A true (appT ta tb) (va ++ vb)) := Ms.app hmb _ _ hma
  have HRA : Hid (RowAt w A (.slice (some ⟨ga, oa, none⟩) na ca) va) := hra
  have HRB : Hid (RowAt w A (.slice none 0 0) vb) := hrb
  have HOA : Hid (∀ u ∈ va.flatten, u.oneCell' = true) := (Ms.rest _ _ hma).1.one
  have HOB : Hid (∀ u ∈ vb.flatten, u.oneCell' = true) := (Ms.rest _ _ hmb).1.one
  have hfa := flat_len (Ms.rest _ _ hma).1.four
  have hfb := flat_len (Ms.rest _ _ hmb).1.four
  have HZ : Hid ((tx false (appT ta tb)).size ≤ 1000) := hz
  have HFa : Hid (va.flatten.length = na * 4) := by show _ = _; rw [hna]; exact hfa
  have HNa : Hid (na = va.length) := hna
  have H0a : Hid (va ≠ []) := h0a
  have hpa : 0 < na := by rw [hna]; exact List.length_pos_iff.2 h0a
  have H0b : Hid (vb = []) := h0b
  have HY : Hid (lstR (appT ta tb) = if (tx false (appT ta tb)).size ≤ 30 then (0, appT ta tb) else (7, .skip)) := rfl
  generalize hX : tx false (appT ta tb) = X at HY
  have HX : Hid (tx false (appT ta tb) = X) := hX
  clear hA hra hrb hma hmb hz hX hfa hfb hna h0a h0b
  generalize lstR (appT ta tb) = R at HY ⊢
  by_cases hft : X.size ≤ 30
  all_goals
    have HLEN : Hid (na = (va ++ vb).length) := by show _ = _; rw [HNa.out, H0b.out]; simp
    have HNE : Hid (va ++ vb ≠ []) := by show _ ≠ _; simp [H0a.out]
    go_enter Try.func99, Try.ntmps99
    go_wp2_with (first
      | (go_at_call 83; have FS6 : Fr [] w ((w6.setCell ⟨w.heap.size + 1 + 1 + 1, 3, none⟩ (.slice (some ⟨g2, 0, none⟩) na cap2)).setCell ⟨w.heap.size + 1 + 1 + 1, 3, none⟩ (.slice (some ⟨g2, 0, none⟩) na cap2)) := (HFw.out.setCell (Or.inr (by dsimp only; omega)) _).setCell (Or.inr (by dsimp only; omega)) _; have HOS : ((w6.setCell ⟨w.heap.size + 1 + 1 + 1, 3, none⟩ (.slice (some ⟨g2, 0, none⟩) na cap2)).setCell ⟨w.heap.size + 1 + 1 + 1, 3, none⟩ (.slice (some ⟨g2, 0, none⟩) na cap2)).ownsRow 0 119 4 (.slice (some ⟨g2, 0, none⟩) na cap2) na (va ++ vb).flatten := owns_keep HOW.out (((Fr.refl [w.heap.size + 1 + 1 + 1] _).setCell (Or.inl (by simp)) _).setCell (Or.inl (by simp)) _) (fun k hk => by simp [Value.ownBlock] at hk; have := HAT.out.2; subst hk; simpa using this); have HMS6 : Ms ((w6.setCell ⟨w.heap.size + 1 + 1 + 1, 3, none⟩ (.slice (some ⟨g2, 0, none⟩) na cap2)).setCell ⟨w.heap.size + 1 + 1 + 1, 3, none⟩ (.slice (some ⟨g2, 0, none⟩) na cap2)) A false (appT ta tb) [cells4 3 0 ⟨#[]⟩ (.slice (some ⟨g2, 0, none⟩) na cap2)] := Ms.ofRow (RowAt.ofOwn HOS HLEN.out rfl HNE.out (fun hm => by have := HA.out _ hm; have := HAT.out.1; omega)) (Ms.kept FS6.widen (fun b hb => Or.inl hb) _ _ _ HM.out); refine ((text_all (appT ta tb)).1 _ A 3 0 ⟨#[]⟩ (.slice (some ⟨g2, 0, none⟩) na cap2) HMS6 HZ.out).mono ?_; rw [HX.out]; rintro e w2 ⟨rfl, hf2⟩; have hbc := hf2.keep (blk_set_far (blk_set_far HC.out _ _ (by dsimp only; omega)) _ _ (by dsimp only; omega)) (by simp); have hbd := hf2.keep (blk_set (blk_set HD.out 3 (.slice (some ⟨g2, 0, none⟩) na cap2)) 3 (.slice (some ⟨g2, 0, none⟩) na cap2)) (by simp); simp at hbd; have FF : Fr [] w w2 := FS6.trans hf2; have y0 := blk_cell hbd 0; have y1 := blk_cell hbd 1; have y2 := blk_cell hbd 2; have y3 := blk_cell hbd 3; simp at y0 y1 y2 y3; have r0 := blk_cell hbc 0; have r1 := blk_cell hbc 1; have r2 := blk_cell hbc 2; have r3 := blk_cell hbc 3; have f0 := blk_frozen hbc 0; have f1 := blk_frozen hbc 1; have f2 := blk_frozen hbc 2; have f3 := blk_frozen hbc 3; simp at r0 r1 r2 r3; have HB : Hid _ := hbc; have HOF : Hid (w2.ownsRow 0 119 4 (.slice (some ⟨g2, 0, none⟩) na cap2) na (va ++ vb).flatten) := owns_keep HOS hf2 (by simp); clear hbc hbd HMS6 HOS FS6)
      | (at_builtin; refine wpList_append_lies _ rfl _ _ _ rfl 0 119 i119 (.agg #[.int .i64 0, .int .i64 0, .string ⟨#[]⟩, .slice none 0 0]) 4 56 Try.underlying103 hi119 hz119.1 hz119.2.1 hz119.2.2 rfl (by omega) (.slice none 0 0) 0 [] rfl (own_nil _) ⟨ga, oa, none⟩ na ca va.flatten rfl HFa.out (RowAt.news (RowAt.kept HRA.out (((((Fr.refl _ w).alloc _).alloc _).alloc _).alloc _) (fun b hb => Or.inl hb))) HOA.out (by omega) (by unfold maxLen; omega) (by omega) (by simp) (w.heap.size + 1 + 1 + 1 + 1) (by simp) ?_; intro g2 cap2 w6 hown1 hgrow1 hat1 hlt1; simp only [Nat.zero_add, List.nil_append] at hown1 ⊢; have hcp1 := own_cap hown1; have FG1 := Fr.ofGrown hgrow1; have hg1 : w.heap.size + 4 ≤ g2 := (by rcases hat1 with h | h; simp [Value.ownBlock] at h; omega); have hbb := FG1.keep (blk4b _ _ _ _ _) (by simp [Value.ownBlock]); have hbc := FG1.keep (blk4c _ _ _ _ _) (by simp [Value.ownBlock]); have hbd := FG1.keep (blk4d _ _ _ _ _) (by simp [Value.ownBlock]); have HFw : Hid (Fr [] w w6) := (((((Fr.refl _ w).alloc _).alloc _).alloc _).alloc _).trans FG1; have HAT : Hid (w.heap.size + 4 ≤ g2 ∧ g2 ≠ w.heap.size + 1 + 1 + 1) := ⟨by omega, by omega⟩; have HOW : Hid (w6.ownsRow 0 119 4 (.slice (some ⟨g2, 0, none⟩) na cap2) na (va ++ vb).flatten) := (by show World.ownsRow _ _ _ _ _ _ _; rw [H0b.out]; simpa using hown1); have HC : Hid _ := hbc; have HD : Hid _ := hbd; have b3 := blk_cell hbb 3; have y0 := blk_cell hbd 0; have y1 := blk_cell hbd 1; have y2 := blk_cell hbd 2; have y3 := blk_cell hbd 3; have z3 := blk_frozen hbd 3; simp at b3 y0 y1 y2 y3; clear hbb hbc hbd hown1 hgrow1 hat1 FG1)
      | (go_at_call 100; refine (has_any (by simp) (by simp)).mono ?_; rintro e w1 ⟨rfl, rfl⟩; simp only [hasB]))
  · have e2 : R = (0, appT ta tb) := by rw [HY.out, if_pos hft]
    rw [e2]
    refine bodyPost_ret (res99 (R := w.heap.size + 1 + 1) (by simp) (by simp) (blk_set4 HB.out _ _ _ _)) rfl ⟨_, _, _, _, _, _, rfl, FF.set4 (by omega) _ _ _ _, fun _ => ?_⟩
    exact Ms.ofRow (vs := va ++ vb) (RowAt.ofOwn (owns_keep HOF.out ((Fr.refl [w.heap.size + 1 + 1] w2).set4m (by simp) _ _ _ _) (fun k hk => by simp [Value.ownBlock] at hk; have := HAT.out.1; subst hk; simp; omega)) HLEN.out rfl HNE.out (fun hm => by have := HA.out _ hm; have := HAT.out.1; omega)) (Ms.kept (FF.set4 (by omega) _ _ _ _).widen (fun b hb => Or.inl hb) _ _ _ HM.out)
  · have e2 : R = (7, .skip) := by rw [HY.out, if_neg hft]
    rw [e2]
    refine bodyPost_ret (res99 (R := w.heap.size + 1 + 1) (by simp) (by simp) (blk_set4 HB.out _ _ _ _)) rfl ⟨_, _, _, _, _, _, rfl, FF.set4 (by omega) _ _ _ _, fun h => by cases h⟩

set_option maxHeartbeats 6400000 in
set_option maxRecDepth 100000 in
theorem plus_l01 {w : World} {A : List Nat} {ta tb : Code} {va vb : List (List Value)} {gb ob nb cb : Nat} (hA : ∀ b ∈ A, b < w.heap.size) (hra : RowAt w A (.slice none 0 0) va) (hrb : RowAt w A (.slice (some ⟨gb, ob, none⟩) nb cb) vb) (hma : Ms w A true ta va) (hmb : Ms w A true tb vb) (h0a : va = []) (hnb : nb = vb.length) (h0b : vb ≠ []) (hlb : nb ≤ 100) (hz : (tx false (appT ta tb)).size ≤ 1000) :
    Calls Try.prog 99 #[.agg #[.int .i64 3, .int .i64 0, .string ⟨#[]⟩, .slice none 0 0], .agg #[.int .i64 3, .int .i64 0, .string ⟨#[]⟩, .slice (some ⟨gb, ob, none⟩) nb cb]] w (MPlus w A (lstR (appT ta tb))) := by
  have e0 : (⟨#[]⟩ : ByteArray) ++ ⟨#[]⟩ = ⟨#[]⟩ := emp2
  obtain ⟨i119, hi119, hz119⟩ := info_parts info119
  have HA : Hid (∀ b ∈ A, b < w.heap.size) := hA
  have HM : Hid (Ms w A true (appT ta tb) (va ++ vb)) := Ms.app hmb _ _ hma
  have HRA : Hid (RowAt w A (.slice none 0 0) va) := hra
  have HRB : Hid (RowAt w A (.slice (some ⟨gb, ob, none⟩) nb cb) vb) := hrb
  have HOA : Hid (∀ u ∈ va.flatten, u.oneCell' = true) := (Ms.rest _ _ hma).1.one
  have HOB : Hid (∀ u ∈ vb.flatten, u.oneCell' = true) := (Ms.rest _ _ hmb).1.one
  have hfa := flat_len (Ms.rest _ _ hma).1.four
  have hfb := flat_len (Ms.rest _ _ hmb).1.four
  have HZ : Hid ((tx false (appT ta tb)).size ≤ 1000) := hz
  have H0a : Hid (va = []) := h0a
  have HFb : Hid (vb.flatten.length = nb * 4) := by show _ = _; rw [hnb]; exact hfb
  have HNb : Hid (nb = vb.length) := hnb
  have H0b : Hid (vb ≠ []) := h0b
  have hpb : 0 < nb := by rw [hnb]; exact List.length_pos_iff.2 h0b
  have HY : Hid (lstR (appT ta tb) = if (tx false (appT ta tb)).size ≤ 30 then (0, appT ta tb) else (7, .skip)) := rfl
  generalize hX : tx false (appT ta tb) = X at HY
  have HX : Hid (tx false (appT ta tb) = X) := hX
  clear hA hra hrb hma hmb hz hX hfa hfb h0a hnb h0b
  generalize lstR (appT ta tb) = R at HY ⊢
  by_cases hft : X.size ≤ 30
  all_goals
    have HLEN : Hid (nb = (va ++ vb).length) := by show _ = _; rw [HNb.out, H0a.out]; simp
    have HNE : Hid (va ++ vb ≠ []) := by show _ ≠ _; simp [H0b.out]
    go_enter Try.func99, Try.ntmps99
    go_wp2_with (first
      | (go_at_call 83; have FS6 : Fr [] w (w6.setCell ⟨w.heap.size + 1 + 1 + 1, 3, none⟩ (.slice (some ⟨g2, 0, none⟩) nb cap2)) := HFw.out.setCell (Or.inr (by dsimp only; omega)) _; have HOS : (w6.setCell ⟨w.heap.size + 1 + 1 + 1, 3, none⟩ (.slice (some ⟨g2, 0, none⟩) nb cap2)).ownsRow 0 119 4 (.slice (some ⟨g2, 0, none⟩) nb cap2) nb (va ++ vb).flatten := owns_keep HOW.out ((Fr.refl [w.heap.size + 1 + 1 + 1] _).setCell (Or.inl (by simp)) _) (fun k hk => by simp [Value.ownBlock] at hk; have := HAT.out.2; subst hk; simpa using this); have HMS6 : Ms (w6.setCell ⟨w.heap.size + 1 + 1 + 1, 3, none⟩ (.slice (some ⟨g2, 0, none⟩) nb cap2)) A false (appT ta tb) [cells4 3 0 ⟨#[]⟩ (.slice (some ⟨g2, 0, none⟩) nb cap2)] := Ms.ofRow (RowAt.ofOwn HOS HLEN.out rfl HNE.out (fun hm => by have := HA.out _ hm; have := HAT.out.1; omega)) (Ms.kept FS6.widen (fun b hb => Or.inl hb) _ _ _ HM.out); refine ((text_all (appT ta tb)).1 _ A 3 0 ⟨#[]⟩ (.slice (some ⟨g2, 0, none⟩) nb cap2) HMS6 HZ.out).mono ?_; rw [HX.out]; rintro e w2 ⟨rfl, hf2⟩; have hbc := hf2.keep (blk_set_far HC.out _ _ (by dsimp only; omega)) (by simp); have hbd := hf2.keep (blk_set HD.out 3 (.slice (some ⟨g2, 0, none⟩) nb cap2)) (by simp); simp at hbd; have FF : Fr [] w w2 := FS6.trans hf2; have y0 := blk_cell hbd 0; have y1 := blk_cell hbd 1; have y2 := blk_cell hbd 2; have y3 := blk_cell hbd 3; simp at y0 y1 y2 y3; have r0 := blk_cell hbc 0; have r1 := blk_cell hbc 1; have r2 := blk_cell hbc 2; have r3 := blk_cell hbc 3; have f0 := blk_frozen hbc 0; have f1 := blk_frozen hbc 1; have f2 := blk_frozen hbc 2; have f3 := blk_frozen hbc 3; simp at r0 r1 r2 r3; have HB : Hid _ := hbc; have HOF : Hid (w2.ownsRow 0 119 4 (.slice (some ⟨g2, 0, none⟩) nb cap2) nb (va ++ vb).flatten) := owns_keep HOS hf2 (by simp); clear hbc hbd HMS6 HOS FS6)
      | (at_builtin; refine wpList_append_lies _ rfl _ _ _ rfl 0 119 i119 (.agg #[.int .i64 0, .int .i64 0, .string ⟨#[]⟩, .slice none 0 0]) 4 56 Try.underlying103 hi119 hz119.1 hz119.2.1 hz119.2.2 rfl (by omega) (.slice none 0 0) 0 [] rfl (own_nil _) ⟨gb, ob, none⟩ nb cb vb.flatten rfl HFb.out (RowAt.news (RowAt.kept HRB.out (((((Fr.refl _ w).alloc _).alloc _).alloc _).alloc _) (fun b hb => Or.inl hb))) HOB.out (by omega) (by unfold maxLen; omega) (by omega) (by simp) (w.heap.size + 1 + 1 + 1 + 1) (by simp) ?_; intro g2 cap2 w6 hown1 hgrow1 hat1 hlt1; simp only [Nat.zero_add, List.nil_append] at hown1 ⊢; have hcp1 := own_cap hown1; have FG1 := Fr.ofGrown hgrow1; have hg1 : w.heap.size + 4 ≤ g2 := (by rcases hat1 with h | h; simp [Value.ownBlock] at h; omega); have hbb := FG1.keep (blk4b _ _ _ _ _) (by simp [Value.ownBlock]); have hbc := FG1.keep (blk4c _ _ _ _ _) (by simp [Value.ownBlock]); have hbd := FG1.keep (blk4d _ _ _ _ _) (by simp [Value.ownBlock]); have HFw : Hid (Fr [] w w6) := (((((Fr.refl _ w).alloc _).alloc _).alloc _).alloc _).trans FG1; have HAT : Hid (w.heap.size + 4 ≤ g2 ∧ g2 ≠ w.heap.size + 1 + 1 + 1) := ⟨by omega, by omega⟩; have HOW : Hid (w6.ownsRow 0 119 4 (.slice (some ⟨g2, 0, none⟩) nb cap2) nb (va ++ vb).flatten) := (by show World.ownsRow _ _ _ _ _ _ _; rw [H0a.out]; simpa using hown1); have HC : Hid _ := hbc; have HD : Hid _ := hbd; have b3 := blk_cell hbb 3; have y0 := blk_cell hbd 0; have y1 := blk_cell hbd 1; have y2 := blk_cell hbd 2; have y3 := blk_cell hbd 3; have z3 := blk_frozen hbd 3; simp at b3 y0 y1 y2 y3; clear hbb hbc hbd hown1 hgrow1 hat1 FG1)
      | (go_at_call 100; refine (has_any (by simp) (by simp)).mono ?_; rintro e w1 ⟨rfl, rfl⟩; simp only [hasB]))
  · have e2 : R = (0, appT ta tb) := by rw [HY.out, if_pos hft]
    rw [e2]
    refine bodyPost_ret (res99 (R := w.heap.size + 1 + 1) (by simp) (by simp) (blk_set4 HB.out _ _ _ _)) rfl ⟨_, _, _, _, _, _, rfl, FF.set4 (by omega) _ _ _ _, fun _ => ?_⟩
    exact Ms.ofRow (vs := va ++ vb) (RowAt.ofOwn (owns_keep HOF.out ((Fr.refl [w.heap.size + 1 + 1] w2).set4m (by simp) _ _ _ _) (fun k hk => by simp [Value.ownBlock] at hk; have := HAT.out.1; subst hk; simp; omega)) HLEN.out rfl HNE.out (fun hm => by have := HA.out _ hm; have := HAT.out.1; omega)) (Ms.kept (FF.set4 (by omega) _ _ _ _).widen (fun b hb => Or.inl hb) _ _ _ HM.out)
  · have e2 : R = (7, .skip) := by rw [HY.out, if_neg hft]
    rw [e2]
    refine bodyPost_ret (res99 (R := w.heap.size + 1 + 1) (by simp) (by simp) (blk_set4 HB.out _ _ _ _)) rfl ⟨_, _, _, _, _, _, rfl, FF.set4 (by omega) _ _ _ _, fun h => by cases h⟩

set_option maxHeartbeats 6400000 in
set_option maxRecDepth 100000 in
theorem plus_l11 {w : World} {A : List Nat} {ta tb : Code} {va vb : List (List Value)} {ga oa na ca : Nat} {gb ob nb cb : Nat} (hA : ∀ b ∈ A, b < w.heap.size) (hra : RowAt w A (.slice (some ⟨ga, oa, none⟩) na ca) va) (hrb : RowAt w A (.slice (some ⟨gb, ob, none⟩) nb cb) vb) (hma : Ms w A true ta va) (hmb : Ms w A true tb vb) (hna : na = va.length) (h0a : va ≠ []) (hla : na ≤ 100) (hnb : nb = vb.length) (h0b : vb ≠ []) (hlb : nb ≤ 100) (hz : (tx false (appT ta tb)).size ≤ 1000) :
    Calls Try.prog 99 #[.agg #[.int .i64 3, .int .i64 0, .string ⟨#[]⟩, .slice (some ⟨ga, oa, none⟩) na ca], .agg #[.int .i64 3, .int .i64 0, .string ⟨#[]⟩, .slice (some ⟨gb, ob, none⟩) nb cb]] w (MPlus w A (lstR (appT ta tb))) := by
  have e0 : (⟨#[]⟩ : ByteArray) ++ ⟨#[]⟩ = ⟨#[]⟩ := emp2
  obtain ⟨i119, hi119, hz119⟩ := info_parts info119
  have HA : Hid (∀ b ∈ A, b < w.heap.size) := hA
  have HM : Hid (Ms w A true (appT ta tb) (va ++ vb)) := Ms.app hmb _ _ hma
  have HRA : Hid (RowAt w A (.slice (some ⟨ga, oa, none⟩) na ca) va) := hra
  have HRB : Hid (RowAt w A (.slice (some ⟨gb, ob, none⟩) nb cb) vb) := hrb
  have HOA : Hid (∀ u ∈ va.flatten, u.oneCell' = true) := (Ms.rest _ _ hma).1.one
  have HOB : Hid (∀ u ∈ vb.flatten, u.oneCell' = true) := (Ms.rest _ _ hmb).1.one
  have hfa := flat_len (Ms.rest _ _ hma).1.four
  have hfb := flat_len (Ms.rest _ _ hmb).1.four
  have HZ : Hid ((tx false (appT ta tb)).size ≤ 1000) := hz
  have HFa : Hid (va.flatten.length = na * 4) := by show _ = _; rw [hna]; exact hfa
  have HNa : Hid (na = va.length) := hna
  have H0a : Hid (va ≠ []) := h0a
  have hpa : 0 < na := by rw [hna]; exact List.length_pos_iff.2 h0a
  have HFb : Hid (vb.flatten.length = nb * 4) := by show _ = _; rw [hnb]; exact hfb
  have HNb : Hid (nb = vb.length) := hnb
  have H0b : Hid (vb ≠ []) := h0b
  have hpb : 0 < nb := by rw [hnb]; exact List.length_pos_iff.2 h0b
  have HY : Hid (lstR (appT ta tb) = if (tx false (appT ta tb)).size ≤ 30 then (0, appT ta tb) else (7, .skip)) := rfl
  generalize hX : tx false (appT ta tb) = X at HY
  have HX : Hid (tx false (appT ta tb) = X) := hX
  clear hA hra hrb hma hmb hz hX hfa hfb hna h0a hnb h0b
  generalize lstR (appT ta tb) = R at HY ⊢
  by_cases hft : X.size ≤ 30
  all_goals
    have HLEN : Hid ((na + nb) = (va ++ vb).length) := by show _ = _; rw [HNa.out, HNb.out]; simp
    have HNE : Hid (va ++ vb ≠ []) := by show _ ≠ _; simp [H0a.out]
    go_enter Try.func99, Try.ntmps99
    go_wp2_with (first
      | (go_at_call 83; have FS6 : Fr [] w (w6.setCell ⟨w.heap.size + 1 + 1 + 1, 3, none⟩ (.slice (some ⟨g2, 0, none⟩) (na + nb) cap2)) := HFw.out.setCell (Or.inr (by dsimp only; omega)) _; have HOS : (w6.setCell ⟨w.heap.size + 1 + 1 + 1, 3, none⟩ (.slice (some ⟨g2, 0, none⟩) (na + nb) cap2)).ownsRow 0 119 4 (.slice (some ⟨g2, 0, none⟩) (na + nb) cap2) (na + nb) (va ++ vb).flatten := owns_keep HOW.out ((Fr.refl [w.heap.size + 1 + 1 + 1] _).setCell (Or.inl (by simp)) _) (fun k hk => by simp [Value.ownBlock] at hk; have := HAT.out.2; subst hk; simpa using this); have HMS6 : Ms (w6.setCell ⟨w.heap.size + 1 + 1 + 1, 3, none⟩ (.slice (some ⟨g2, 0, none⟩) (na + nb) cap2)) A false (appT ta tb) [cells4 3 0 ⟨#[]⟩ (.slice (some ⟨g2, 0, none⟩) (na + nb) cap2)] := Ms.ofRow (RowAt.ofOwn HOS HLEN.out rfl HNE.out (fun hm => by have := HA.out _ hm; have := HAT.out.1; omega)) (Ms.kept FS6.widen (fun b hb => Or.inl hb) _ _ _ HM.out); refine ((text_all (appT ta tb)).1 _ A 3 0 ⟨#[]⟩ (.slice (some ⟨g2, 0, none⟩) (na + nb) cap2) HMS6 HZ.out).mono ?_; rw [HX.out]; rintro e w2 ⟨rfl, hf2⟩; have hbc := hf2.keep (blk_set_far HC.out _ _ (by dsimp only; omega)) (by simp); have hbd := hf2.keep (blk_set HD.out 3 (.slice (some ⟨g2, 0, none⟩) (na + nb) cap2)) (by simp); simp at hbd; have FF : Fr [] w w2 := FS6.trans hf2; have y0 := blk_cell hbd 0; have y1 := blk_cell hbd 1; have y2 := blk_cell hbd 2; have y3 := blk_cell hbd 3; simp at y0 y1 y2 y3; have r0 := blk_cell hbc 0; have r1 := blk_cell hbc 1; have r2 := blk_cell hbc 2; have r3 := blk_cell hbc 3; have f0 := blk_frozen hbc 0; have f1 := blk_frozen hbc 1; have f2 := blk_frozen hbc 2; have f3 := blk_frozen hbc 3; simp at r0 r1 r2 r3; have HB : Hid _ := hbc; have HOF : Hid (w2.ownsRow 0 119 4 (.slice (some ⟨g2, 0, none⟩) (na + nb) cap2) (na + nb) (va ++ vb).flatten) := owns_keep HOS hf2 (by simp); clear hbc hbd HMS6 HOS FS6)
      | (at_builtin; refine wpList_append_lies _ rfl _ _ _ rfl 0 119 i119 (.agg #[.int .i64 0, .int .i64 0, .string ⟨#[]⟩, .slice none 0 0]) 4 56 Try.underlying103 hi119 hz119.1 hz119.2.1 hz119.2.2 rfl (by omega) (.slice (some ⟨g1, 0, none⟩) na cap1) na va.flatten rfl HO5.out ⟨gb, ob, none⟩ nb cb vb.flatten rfl HFb.out (RowAt.news (RowAt.kept HRB.out HF5.out.widen (fun b hb => Or.inl hb))) HOB.out (by omega) (by unfold maxLen; omega) (by omega) (by simp) H5 HH5.out ?_; intro g2 cap2 w6 hown2 hgrow2 hat2 hlt2; have FG2 : Fr [g1] (w5.setCell ⟨w.heap.size + 1 + 1 + 1, 3, none⟩ (.slice (some ⟨g1, 0, none⟩) na cap1)) w6 := Fr.ofGrown hgrow2; have hbc := FG2.keep HC5.out (by simp; omega); have hbd := FG2.keep HD5.out (by simp; omega); have HFw : Hid (Fr [] w w6) := HF5.out.narrow FG2 (fun i hi => by simp at hi; right; omega); have HAT : Hid (w.heap.size + 4 ≤ g2 ∧ g2 ≠ w.heap.size + 1 + 1 + 1) := (by rcases hat2 with h | h; simp [Value.ownBlock] at h; exact ⟨by omega, by omega⟩; exact ⟨by omega, by omega⟩); have HOW : Hid (w6.ownsRow 0 119 4 (.slice (some ⟨g2, 0, none⟩) (na + nb) cap2) (na + nb) (va ++ vb).flatten) := (by show World.ownsRow _ _ _ _ _ _ _; rw [List.flatten_append]; exact hown2); have HC : Hid _ := hbc; have HD : Hid _ := hbd; have y0 := blk_cell hbd 0; have y1 := blk_cell hbd 1; have y2 := blk_cell hbd 2; have y3 := blk_cell hbd 3; have z3 := blk_frozen hbd 3; simp at y0 y1 y2 y3; clear hbc hbd hown2 hgrow2 hat2 FG2)
      | (at_builtin; refine wpList_append_lies _ rfl _ _ _ rfl 0 119 i119 (.agg #[.int .i64 0, .int .i64 0, .string ⟨#[]⟩, .slice none 0 0]) 4 56 Try.underlying103 hi119 hz119.1 hz119.2.1 hz119.2.2 rfl (by omega) (.slice none 0 0) 0 [] rfl (own_nil _) ⟨ga, oa, none⟩ na ca va.flatten rfl HFa.out (RowAt.news (RowAt.kept HRA.out (((((Fr.refl _ w).alloc _).alloc _).alloc _).alloc _) (fun b hb => Or.inl hb))) HOA.out (by omega) (by unfold maxLen; omega) (by omega) (by simp) (w.heap.size + 1 + 1 + 1 + 1) (by simp) ?_; intro g1 cap1 w5 hown1 hgrow1 hat1 hlt1; simp only [Nat.zero_add, List.nil_append] at hown1 ⊢; have hcp1 := own_cap hown1; have FG1 := Fr.ofGrown hgrow1; have hg1 : w.heap.size + 4 ≤ g1 := (by rcases hat1 with h | h; simp [Value.ownBlock] at h; omega); have hbb := FG1.keep (blk4b _ _ _ _ _) (by simp [Value.ownBlock]); have hbc := FG1.keep (blk4c _ _ _ _ _) (by simp [Value.ownBlock]); have hbd := FG1.keep (blk4d _ _ _ _ _) (by simp [Value.ownBlock]); have HF5 : Hid (Fr [] w (w5.setCell ⟨w.heap.size + 1 + 1 + 1, 3, none⟩ (.slice (some ⟨g1, 0, none⟩) na cap1))) := ((((((Fr.refl _ w).alloc _).alloc _).alloc _).alloc _).trans FG1).setCell (Or.inr (by dsimp only; omega)) _; have HO5 : Hid ((w5.setCell ⟨w.heap.size + 1 + 1 + 1, 3, none⟩ (.slice (some ⟨g1, 0, none⟩) na cap1)).ownsRow 0 119 4 (.slice (some ⟨g1, 0, none⟩) na cap1) na va.flatten) := owns_keep hown1 ((Fr.refl [w.heap.size + 1 + 1 + 1] _).setCell (Or.inl (by simp)) _) (fun k hk => by simp [Value.ownBlock] at hk; subst hk; simp; omega); have HC5 : Hid _ := blk_set_far hbc ⟨w.heap.size + 1 + 1 + 1, 3, none⟩ (.slice (some ⟨g1, 0, none⟩) na cap1) (by dsimp only; omega); have HD5 : Hid _ := blk_set hbd 3 (.slice (some ⟨g1, 0, none⟩) na cap1); obtain ⟨H5, hH5⟩ : ∃ H5, (w5.setCell ⟨w.heap.size + 1 + 1 + 1, 3, none⟩ (.slice (some ⟨g1, 0, none⟩) na cap1)).heap.size = H5 := ⟨_, rfl⟩; have HH5 : Hid _ := hH5; have hH5' : w.heap.size + 4 ≤ H5 := (by rw [← hH5]; simp; omega); have b3 := blk_cell hbb 3; have y3 := blk_cell hbd 3; have z3 := blk_frozen hbd 3; simp at b3 y3; clear hH5 FG1 hbb hbc hbd hown1 hgrow1 hat1)
      | (go_at_call 100; refine (has_any (by simp) (by simp)).mono ?_; rintro e w1 ⟨rfl, rfl⟩; simp only [hasB]))
  · have e2 : R = (0, appT ta tb) := by rw [HY.out, if_pos hft]
    rw [e2]
    refine bodyPost_ret (res99 (R := w.heap.size + 1 + 1) (by simp) (by simp) (blk_set4 HB.out _ _ _ _)) rfl ⟨_, _, _, _, _, _, rfl, FF.set4 (by omega) _ _ _ _, fun _ => ?_⟩
    exact Ms.ofRow (vs := va ++ vb) (RowAt.ofOwn (owns_keep HOF.out ((Fr.refl [w.heap.size + 1 + 1] w2).set4m (by simp) _ _ _ _) (fun k hk => by simp [Value.ownBlock] at hk; have := HAT.out.1; subst hk; simp; omega)) HLEN.out rfl HNE.out (fun hm => by have := HA.out _ hm; have := HAT.out.1; omega)) (Ms.kept (FF.set4 (by omega) _ _ _ _).widen (fun b hb => Or.inl hb) _ _ _ HM.out)
  · have e2 : R = (7, .skip) := by rw [HY.out, if_neg hft]
    rw [e2]
    refine bodyPost_ret (res99 (R := w.heap.size + 1 + 1) (by simp) (by simp) (blk_set4 HB.out _ _ _ _)) rfl ⟨_, _, _, _, _, _, rfl, FF.set4 (by omega) _ _ _ _, fun h => by cases h⟩
end Go.Proofs.Qxb6500336a
