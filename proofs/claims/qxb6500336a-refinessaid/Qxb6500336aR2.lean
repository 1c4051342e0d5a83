import Derived.Test.Qxb6500336aR1
namespace Go.Proofs.Qxb6500336a
open Go.RowKit
set_option linter.unusedVariables false
set_option linter.unusedSimpArgs false

/-- Texts with one blank between two. -/
def catJ : Bool → List Code → ByteArray → ByteArray
  | _, [], t => t
  | b, a :: r, t => catJ false r ((if b then t else t ++ ⟨#[32]⟩) ++ tx false a)
theorem catJ_false {w : World} {A : List Nat} : ∀ (t : Code) (vs : List (List Value)), Ms w A true t vs → ∀ acc, catJ false (kids t) acc = acc ++ tx true t := by
  intro t
  induction t with
  | skip => intro vs h acc; show acc = acc ++ ByteArray.empty; rw [ByteArray.append_empty]
  | seq a b _ ihb =>
    intro vs h acc
    obtain ⟨v, us, rfl, h3, h4⟩ := h
    show catJ false (kids b) ((acc ++ ⟨#[32]⟩) ++ tx false a) = acc ++ (((⟨#[32]⟩ : ByteArray) ++ tx false a) ++ tx true b)
    rw [ihb _ h4]
    simp only [ByteArray.append_assoc]
  | _ => intro vs h; exact h.elim
theorem empty_app (t : ByteArray) : (⟨#[]⟩ : ByteArray) ++ t = t := ByteArray.empty_append
theorem catJ_list {w : World} {A : List Nat} {t : Code} {v : List Value} (h : Ms w A false t [v]) (hl : isL t = true) : ((⟨#[91]⟩ : ByteArray) ++ catJ true (kids t) ⟨#[]⟩) ++ ⟨#[93]⟩ = tx false t := by
  cases t with
  | skip => rfl
  | seq a b =>
    obtain ⟨ks, u, us, h1, h2, h3, h4⟩ := h
    show ((⟨#[91]⟩ : ByteArray) ++ catJ false (kids b) ((⟨#[]⟩ : ByteArray) ++ tx false a)) ++ ⟨#[93]⟩ = (((⟨#[91]⟩ : ByteArray) ++ tx false a) ++ tx true b) ++ ⟨#[93]⟩
    rw [catJ_false b us h4, empty_app]
    simp only [ByteArray.append_assoc]
  | _ => simp [isL] at hl
theorem catJ_pair {w : World} {A : List Nat} {t : Code} {v : List Value} (h : Ms w A false t [v]) (hl : (isP t).isSome = true) : ((⟨#[60]⟩ : ByteArray) ++ catJ true (kids t) ⟨#[]⟩) ++ ⟨#[62]⟩ = tx false t := by
  cases t with
  | cond c a b =>
    show ((⟨#[60]⟩ : ByteArray) ++ (((((⟨#[]⟩ : ByteArray) ++ tx false a)) ++ ⟨#[32]⟩) ++ tx false b)) ++ ⟨#[62]⟩ = ((((⟨#[60]⟩ : ByteArray) ++ tx false a) ++ ⟨#[32]⟩) ++ tx false b) ++ ⟨#[62]⟩
    rw [empty_app]
    simp only [ByteArray.append_assoc]
  | _ => simp [isP] at hl
theorem catJ_mono : ∀ (l : List Code) (b : Bool) (t : ByteArray), t.size ≤ (catJ b l t).size
  | [], b, t => Nat.le_refl _
  | a :: r, b, t => by
    have h1 := catJ_mono r false ((if b then t else t ++ ⟨#[32]⟩) ++ tx false a)
    cases b
    · simp only [ByteArray.size_append, Bool.false_eq_true, ↓reduceIte] at h1
      simp only [catJ, Bool.false_eq_true, ↓reduceIte]
      omega
    · simp only [ByteArray.size_append, ↓reduceIte] at h1
      simp only [catJ, ↓reduceIte]
      omega

def TextP (t : Code) : Prop := ∀ (w : World) (A : List Nat) (tag n : Int) (s : ByteArray) (ks : Value), Ms w A false t [cells4 tag n s ks] → (tx false t).size ≤ 1000 →
  Calls Try.prog 83 #[.agg #[.int .i64 tag, .int .i64 n, .string s, ks]] w fun e w' => e = .returned (.string (tx false t)) ∧ Fr [] w w'

theorem Ms.shape {w : World} {A : List Nat} {t : Code} {v : List Value} (h : Ms w A false t [v]) : ∃ tag n s ks, v = cells4 tag n s ks := by
  rcases h.kinds with ⟨n, _, _, _, _, _, h, _⟩ | ⟨s, _, _, _, _, _, h, _⟩ | ⟨ks, vs, _, _, _, _, h, _⟩ | ⟨ks, vs, _, _, _, _, h, _⟩
  all_goals exact ⟨_, _, _, _, h⟩

theorem text_int {w : World} {n : Int} (hn : w64 n) : Calls Try.prog 83 #[.agg #[.int .i64 1, .int .i64 n, .string ⟨#[]⟩, .slice none 0 0]] w fun e w' => e = .returned (.string (itoa n)) ∧ Fr [] w w' := by
  go_enter Try.func83, Try.ntmps83
  go_wp2_with (go_at_call 34; refine (itoa_any _ _ hn).mono ?_; rintro e w1 ⟨rfl, hf1⟩)
  go_ret
  exact ⟨rfl, ((Fr.refl [] w).alloc _).trans hf1⟩

theorem text_str {w : World} {s : ByteArray} (hz : ((itoa s.size ++ ⟨#[58]⟩) ++ s).size ≤ 1000) : Calls Try.prog 83 #[.agg #[.int .i64 2, .int .i64 0, .string s, .slice none 0 0]] w fun e w' => e = .returned (.string ((itoa s.size ++ ⟨#[58]⟩) ++ s)) ∧ Fr [] w w' := by
  simp only [ByteArray.size_append] at hz
  have h1 : ¬ 9223372036854775807 < (itoa s.size).size + 1 := by omega
  have h2 : ¬ 9223372036854775807 < (itoa s.size).size + 1 + s.size := by omega
  go_enter Try.func83, Try.ntmps83
  go_wp2_with (go_at_call 34; refine (itoa_any _ _ (by unfold w64; omega)).mono ?_; rintro e w1 ⟨rfl, hf1⟩; have c1 := blk_cell (hf1.keep (blk_new w (.cells #[.int .i64 2, .int .i64 0, .string s, .slice none 0 0] 119)) (by simp)) 2; simp at c1)
  go_ret
  exact ⟨rfl, ((Fr.refl [] w).alloc _).trans hf1⟩

/-- The cells of one element of a row. -/
theorem RowAt.at {w : World} {A : List Nat} {ks : Value} {vs : List (List Value)} (h : RowAt w A ks vs) (h4 : ∀ v ∈ vs, v.length = 4) {j : Nat} {tag n : Int} {s : ByteArray} {k : Value} (hv : vs[j]? = some (cells4 tag n s k)) :
    ∃ g off cap, ks = .slice (some ⟨g, off, none⟩) vs.length cap ∧ g < w.heap.size ∧ g ∉ A ∧ (∃ cur, w.heap[g]? = some (.cells cur 119)) ∧ w.cell? ⟨g, off + j * 4, none⟩ = some (.int .i64 tag) ∧ w.cell? ⟨g, off + j * 4 + 1, none⟩ = some (.int .i64 n) ∧ w.cell? ⟨g, off + j * 4 + 2, none⟩ = some (.string s) ∧ w.cell? ⟨g, off + j * 4 + 3, none⟩ = some k := by
  rcases h with ⟨rfl, _⟩ | ⟨g, off, cap, cur, h0, h1, h2, h3, h5⟩
  · simp at hv
  · have hfl : ∀ i, i < 4 → vs.flatten[j * 4 + i]? = (cells4 tag n s k)[i]? := by
      intro i hi
      clear h0 h1 h2 h3 h5
      induction vs generalizing j with
      | nil => simp at hv
      | cons a r ih =>
        have ha := h4 a (by simp)
        cases j with
        | zero =>
          simp at hv
          subst hv
          simp only [List.flatten_cons]
          rw [List.getElem?_append_left (by simp [cells4]; omega)]
          simp
        | succ j =>
          simp only [List.flatten_cons]
          rw [List.getElem?_append_right (by omega), ha, show (j + 1) * 4 + i - 4 = j * 4 + i from by omega]
          exact ih (fun v hv => h4 v (by simp [hv])) (by simpa using hv)
    refine ⟨g, off, cap, h1, blk_lt h2, h3, ⟨cur, h2⟩, ?_, ?_, ?_, ?_⟩
    · rw [blk_cell h2]; exact h5 (j * 4) _ (hfl 0 (by omega))
    · rw [blk_cell h2]; exact h5 (j * 4 + 1) _ (hfl 1 (by omega))
    · rw [blk_cell h2]; exact h5 (j * 4 + 2) _ (hfl 2 (by omega))
    · rw [blk_cell h2]; exact h5 (j * 4 + 3) _ (hfl 3 (by omega))

theorem MsL.four {w : World} {A : List Nat} : ∀ {ts : List Code} {vs : List (List Value)}, MsL w A ts vs → ∀ v ∈ vs, v.length = 4
  | [], [], _, v, h => by cases h
  | t :: ts, u :: vs, h, v, hv => by
    rcases List.mem_cons.1 hv with rfl | hv
    · obtain ⟨_, _, _, _, rfl⟩ := h.1.shape; rfl
    · exact MsL.four h.2 v hv

set_option maxHeartbeats 3200000 in
set_option maxRecDepth 100000 in
theorem text_kids {w : World} {A : List Nat} {ts : List Code} {vs : List (List Value)} {ks : Value} {tag : Int} {ob cb : UInt8} (hr : RowAt w A ks vs) (hm : MsL w A ts vs) (hk : ∀ x ∈ ts, TextP x) (hz : (((⟨#[ob]⟩ : ByteArray) ++ catJ true ts ⟨#[]⟩) ++ ⟨#[cb]⟩).size ≤ 1000)
    (ht : (tag = 3 ∧ ob = 91 ∧ cb = 93) ∨ (tag = 4 ∧ ob = 60 ∧ cb = 62)) (hn : vs.length ≤ 1000) :
    Calls Try.prog 83 #[.agg #[.int .i64 tag, .int .i64 0, .string ⟨#[]⟩, ks]] w fun e w' => e = .returned (.string (((⟨#[ob]⟩ : ByteArray) ++ catJ true ts ⟨#[]⟩) ++ ⟨#[cb]⟩)) ∧ Fr [] w w' := by
  obtain ⟨p, cap, hks⟩ : ∃ p cap, ks = .slice p vs.length cap := by
    rcases hr with ⟨rfl, h⟩ | ⟨g, off, cap, cur, _, h, _⟩
    · exact ⟨_, _, h⟩
    · exact ⟨_, cap, h⟩
  subst hks
  have HR : Hid (RowAt w A (.slice p vs.length cap) vs) := hr
  have HM : Hid (MsL w A ts vs) := hm
  have HK : Hid (∀ x ∈ ts, TextP x) := hk
  have s1 : ByteArray.size ⟨#[ob]⟩ = 1 := rfl
  have s2 : ByteArray.size ⟨#[cb]⟩ = 1 := rfl
  simp only [ByteArray.size_append, s1, s2] at hz
  have HZ : Hid ((catJ true ts ⟨#[]⟩).size ≤ 998) := by show _ ≤ _; omega
  have HLN : Hid (vs.length = ts.length) := hm.len
  generalize hX : catJ true ts ⟨#[]⟩ = X at HZ hz
  have HX : Hid (catJ true ts ⟨#[]⟩ = X) := hX
  rw [← hX]
  have HT : Hid ((tag = 3 ∧ ob = 91 ∧ cb = 93) ∨ (tag = 4 ∧ ob = 60 ∧ cb = 62)) := ht
  have htt : (tag == 1) = false ∧ (tag == 2) = false := by rcases ht with ⟨rfl, _⟩ | ⟨rfl, _⟩ <;> exact ⟨rfl, rfl⟩
  obtain ⟨htt1, htt2⟩ := htt
  clear hr hm hk hX s1 s2 ht
  generalize hn' : vs.length = n at *
  have HNN : Hid (vs.length = n) := hn'
  clear hn'
  have HB : Hid ((w.alloc (.cells #[.int .i64 tag, .int .i64 0, .string ⟨#[]⟩, .slice p n cap] 119)).heap[w.heap.size]? = some (.cells #[.int .i64 tag, .int .i64 0, .string ⟨#[]⟩, .slice p n cap] 119)) := blk_new _ _
  go_enter Try.func83, Try.ntmps83
  go_wp2
  go_loopw [4, 5] (fun t i wr => ∃ (j : Nat) (acc : ByteArray), t = .string acc ∧ i = .int .i64 j ∧ j ≤ n ∧ Fr [] w wr ∧ Hid (wr.heap[w.heap.size]? = some (.cells #[.int .i64 tag, .int .i64 0, .string ⟨#[]⟩, .slice p n cap] 119)) ∧ Hid (X = catJ (j == 0) (ts.drop j) acc)) (fun _ i _ => n - (intOf i).toNat)
  case atStart => exact ⟨0, ⟨#[]⟩, rfl, rfl, by omega, (Fr.refl [] w).alloc _, HB, by show _ = _; rw [← HX.out]; rfl⟩
  case round =>
    obtain ⟨j, acc, rfl, rfl, hj, hf, HBl, HC⟩ := hrel
    have d0 := blk_cell HBl.out 0
    have d3 := blk_cell HBl.out 3
    simp at d0 d3
    by_cases hlt : j < n
    · obtain ⟨v, hv⟩ : ∃ v, vs[j]? = some v := ⟨_, List.getElem?_eq_getElem (by have := HNN.out; omega)⟩
      obtain ⟨t, ht, hms⟩ := HM.out.get hv
      obtain ⟨tag', n', s', k', rfl⟩ := hms.shape
      obtain ⟨g, off, cap', e1, hg, hgA, ⟨cur, hcur⟩, e3, e4, e5, e6⟩ := HR.out.at HM.out.four hv
      simp at e1
      obtain ⟨rfl, e1b⟩ := e1
      have hcg := hf.keep hcur (by simp)
      have g0 : wr.cell? ⟨g, off + j * 4, none⟩ = some (.int .i64 tag') := by rw [blk_cell hcg, ← blk_cell hcur]; exact e3
      have g1 : wr.cell? ⟨g, off + j * 4 + 1, none⟩ = some (.int .i64 n') := by rw [blk_cell hcg, ← blk_cell hcur]; exact e4
      have g2 : wr.cell? ⟨g, off + j * 4 + 2, none⟩ = some (.string s') := by rw [blk_cell hcg, ← blk_cell hcur]; exact e5
      have g3 : wr.cell? ⟨g, off + j * 4 + 3, none⟩ = some k' := by rw [blk_cell hcg, ← blk_cell hcur]; exact e6
      have hmem : t ∈ ts := List.mem_of_getElem? ht
      have HTX : Hid (TextP t) := HK.out t hmem
      have HMS : Hid (Ms wr A false t [cells4 tag' n' s' k']) := Ms.kept (hf.widen) (fun b hb => Or.inl hb) _ _ _ hms
      have hd : ts.drop j = t :: ts.drop (j + 1) := by rw [List.drop_eq_getElem?_toList_append, ht]; rfl
      have HC2 : Hid (X = catJ false (ts.drop (j + 1)) ((if (j == 0) then acc else acc ++ ⟨#[32]⟩) ++ tx false t)) := by
        show _ = _
        rw [HC.out, hd]; rfl
      have hzz : ((if (j == 0) then acc else acc ++ ⟨#[32]⟩) ++ tx false t).size ≤ 998 := by
        have h5 := catJ_mono (ts.drop (j + 1)) false ((if (j == 0) then acc else acc ++ ⟨#[32]⟩) ++ tx false t)
        rw [← HC2.out] at h5
        have h6 := HZ.out
        omega
      clear hv ht hms hcur hcg e3 e4 e5 e6 hmem hd hgA e1b
      by_cases hj0 : j = 0
      · subst hj0
        simp only [BEq.rfl, ↓reduceIte, ByteArray.size_append] at hzz
        have HZ1 : Hid ((tx false t).size ≤ 1000) := by show _ ≤ _; omega
        have q1 : ¬ 9223372036854775807 < acc.size + (tx false t).size := by omega
        simp only [Nat.zero_mul, Nat.add_zero] at g0 g1 g2 g3
        clear hzz
        go_wp2_with (go_at_call 83; refine (HTX.out wr A tag' n' s' k' HMS.out HZ1.out).mono ?_; rintro e w2 ⟨rfl, hf2⟩)
        go_roundw
        case rel => exact ⟨1, _, rfl, rfl, by omega, hf.trans hf2, hf2.keep HBl.out (by simp), by show _ = _; simpa using HC2.out⟩
        case measure => simp [intOf]; omega
      · have hj1 : (j == 0) = false := by simpa using hj0
        rw [hj1] at hzz
        simp only [Bool.false_eq_true, ↓reduceIte, ByteArray.size_append] at hzz
        have s3 : ByteArray.size ⟨#[32]⟩ = 1 := rfl
        have HZ1 : Hid ((tx false t).size ≤ 1000) := by show _ ≤ _; omega
        have q0 : ¬ 9223372036854775807 < acc.size + 1 := by omega
        have q1 : ¬ 9223372036854775807 < acc.size + 1 + (tx false t).size := by omega
        have hjp : (0 : Int) < (j : Int) := by omega
        have HC3 : Hid (X = catJ false (ts.drop (j + 1)) ((acc ++ ⟨#[32]⟩) ++ tx false t)) := by
          have h5 := HC2.out
          rw [hj1] at h5
          exact h5
        clear hzz s3 HC2
        go_wp2_with (go_at_call 83; refine (HTX.out wr A tag' n' s' k' HMS.out HZ1.out).mono ?_; rintro e w2 ⟨rfl, hf2⟩)
        go_roundw
        case rel => exact ⟨j + 1, _, rfl, by go_num, by omega, hf.trans hf2, hf2.keep HBl.out (by simp), HC3⟩
        case measure => simp [intOf]; omega
    · have hjj : j = n := by omega
      have HC2 : Hid (X = acc) := by
        show _ = _
        rw [HC.out, hjj, HLN.out, List.drop_length]; rfl
      have HZA : Hid (acc.size ≤ 998) := by rw [← HC2.out]; exact HZ.out
      have hza : acc.size ≤ 998 := HZA.out
      have q1 : ¬ 9223372036854775807 < 1 + acc.size := by omega
      have q2 : ¬ 9223372036854775807 < 1 + acc.size + 1 := by omega
      rcases HT.out with ⟨rfl, rfl, rfl⟩ | ⟨rfl, rfl, rfl⟩
      · go_wp2
        go_ret
        refine ⟨?_, hf⟩
        rw [HX.out, HC2.out]; rfl
      · go_wp2
        go_ret
        refine ⟨?_, hf⟩
        rw [HX.out, HC2.out]; rfl

theorem text_all (t : Code) : TextP t ∧ ∀ x ∈ kids t, TextP x := by
  have key : ∀ t : Code, (∀ x ∈ kids t, TextP x) → TextP t := by
    intro t hk w A tag n s ks h hz
    rcases h.kinds with ⟨m, _, _, _, _, _, e, hm, et⟩ | ⟨r, _, _, _, _, _, e, et⟩ | ⟨ks', vs, _, _, e3, _, e, hr, hml⟩ | ⟨ks', vs, _, _, _, e4, e, hr, hml, _⟩
    · simp [cells4] at e
      obtain ⟨rfl, rfl, rfl, rfl⟩ := e
      rw [et]; exact text_int hm
    · simp [cells4] at e
      obtain ⟨rfl, rfl, rfl, rfl⟩ := e
      rw [et] at hz ⊢; exact text_str hz
    · simp [cells4] at e
      obtain ⟨rfl, rfl, rfl, rfl⟩ := e
      have h2 := catJ_list h e3
      rw [← h2] at hz ⊢
      exact text_kids hr hml hk hz (Or.inl ⟨rfl, rfl, rfl⟩) (by have h1 := hml.len; have h2' := kids_len t false; rw [h2] at hz; omega)
    · simp [cells4] at e
      obtain ⟨rfl, rfl, rfl, rfl⟩ := e
      have h2 := catJ_pair h e4
      rw [← h2] at hz ⊢
      exact text_kids hr hml hk hz (Or.inr ⟨rfl, rfl, rfl⟩) (by have h1 := hml.len; have h2' := kids_len t false; rw [h2] at hz; omega)
  induction t with
  | skip => exact ⟨key _ (fun x hx => by cases hx), fun x hx => by cases hx⟩
  | seq a b iha ihb =>
    have hk : ∀ x ∈ kids (.seq a b), TextP x := fun x hx => by
      rcases List.mem_cons.1 hx with rfl | hx
      · exact iha.1
      · exact ihb.2 x hx
    exact ⟨key _ hk, hk⟩
  | cond c a b iha ihb =>
    have hk : ∀ x ∈ kids (.cond c a b), TextP x := fun x hx => by
      simp [kids] at hx
      rcases hx with rfl | rfl
      · exact iha.1
      · exact ihb.1
    exact ⟨key _ hk, hk⟩
  | rangeFunc o p a b _ _ => exact ⟨key _ (fun x hx => by cases hx), fun x hx => by cases hx⟩
  | _ => exact ⟨fun w A tag n s ks h => h.elim, fun x hx => by cases hx⟩
end Go.Proofs.Qxb6500336a
