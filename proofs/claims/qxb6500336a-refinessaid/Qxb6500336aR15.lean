import Derived.Test.Qxb6500336aR13
namespace Go.Proofs.Qxb6500336a
open Go.RowKit
set_option linter.unusedVariables false
set_option linter.unusedSimpArgs false

def MSoundP (t : Code) : Prop := ∀ (w : World) (A : List Nat) (tag n : Int) (s : ByteArray) (ks : Value), Ms w A false t [cells4 tag n s ks] → (tx false t).size ≤ 1000 →
  Calls Try.prog 84 #[.agg #[.int .i64 tag, .int .i64 n, .string s, ks]] w fun e w' => e = .returned (.bool true) ∧ Fr [] w w'

theorem msound_int {w : World} {n : Int} : Calls Try.prog 84 #[.agg #[.int .i64 1, .int .i64 n, .string ⟨#[]⟩, .slice none 0 0]] w fun e w' => e = .returned (.bool true) ∧ Fr [] w w' := by
  go_enter Try.func84, Try.ntmps84
  go_wp2
  go_ret
  exact ⟨rfl, (Fr.refl [] w).alloc _⟩
theorem msound_str {w : World} {s : ByteArray} : Calls Try.prog 84 #[.agg #[.int .i64 2, .int .i64 0, .string s, .slice none 0 0]] w fun e w' => e = .returned (.bool true) ∧ Fr [] w w' := by
  go_enter Try.func84, Try.ntmps84
  go_wp2
  go_ret
  exact ⟨rfl, (Fr.refl [] w).alloc _⟩

set_option maxHeartbeats 3200000 in
set_option maxRecDepth 100000 in
theorem msound_kids {w : World} {A : List Nat} {ts : List Code} {vs : List (List Value)} {ks : Value} {tag : Int} (hr : RowAt w A ks vs) (hm : MsL w A ts vs) (hk : ∀ x ∈ ts, MSoundP x) (hz : ∀ x ∈ ts, (tx false x).size ≤ 1000)
    (ht : tag = 3 ∨ (tag = 4 ∧ vs.length = 2)) (hn : vs.length ≤ 1000) :
    Calls Try.prog 84 #[.agg #[.int .i64 tag, .int .i64 0, .string ⟨#[]⟩, ks]] w fun e w' => e = .returned (.bool true) ∧ Fr [] w w' := by
  obtain ⟨p, cap, hks⟩ : ∃ p cap, ks = .slice p vs.length cap := by
    rcases hr with ⟨rfl, h⟩ | ⟨g, off, cap, cur, _, h, _⟩
    · exact ⟨_, _, h⟩
    · exact ⟨_, cap, h⟩
  subst hks
  have HR : Hid (RowAt w A (.slice p vs.length cap) vs) := hr
  have HM : Hid (MsL w A ts vs) := hm
  have HK : Hid (∀ x ∈ ts, MSoundP x) := hk
  have HZ : Hid (∀ x ∈ ts, (tx false x).size ≤ 1000) := hz
  clear hr hm hk hz
  generalize hn' : vs.length = n at *
  have HNN : Hid (vs.length = n) := hn'
  clear hn'
  have HB : Hid ((w.alloc (.cells #[.int .i64 tag, .int .i64 0, .string ⟨#[]⟩, .slice p n cap] 119)).heap[w.heap.size]? = some (.cells #[.int .i64 tag, .int .i64 0, .string ⟨#[]⟩, .slice p n cap] 119)) := blk_new _ _
  rcases ht with rfl | ⟨rfl, rfl⟩
  all_goals
    go_enter Try.func84, Try.ntmps84
    go_wp2
  · go_loopw [3] (fun i wr => ∃ (j : Nat), i = .int .i64 j ∧ j ≤ n ∧ Fr [] w wr ∧ Hid (wr.heap[w.heap.size]? = some (.cells #[.int .i64 3, .int .i64 0, .string ⟨#[]⟩, .slice p n cap] 119))) (fun i _ => n - (intOf i).toNat)
    case atStart => exact ⟨0, rfl, by omega, (Fr.refl [] w).alloc _, HB⟩
    case round =>
      obtain ⟨j, rfl, hj, hf, HBl⟩ := hrel
      have d3 := blk_cell HBl.out 3
      simp at d3
      by_cases hlt : j < n
      · obtain ⟨v, hv⟩ : ∃ v, vs[j]? = some v := ⟨_, List.getElem?_eq_getElem (by have := HNN.out; omega)⟩
        obtain ⟨t, ht, hms⟩ := HM.out.get hv
        obtain ⟨tag', n', s', k', rfl⟩ := hms.shape
        obtain ⟨g, off, cap', e1, hg, hgA, ⟨cur, hcur⟩, e3, e4, e5, e6⟩ := HR.out.at HM.out.four hv
        simp at e1
        obtain ⟨rfl, e1b⟩ := e1
        have hcg := hf.keep hcur (by simp)
        have g0 : wr.cell? ⟨g, off + j * 4, none⟩ = some (.int .i64 tag') := by rw [blk_cell hcg, ← blk_cell hcur]; exact e3
        have g1 : wr.cell? ⟨g, off + j * 4 + 1, none⟩ = some (.int .i64 n') := by rw [blk_cell hcg, ← blk_cell hcur]; exact e4
        have g2 : wr.cell? ⟨g, off + j * 4 + 2, none⟩ = some (.string s') := by rw [blk_cell hcg, ← blk_cell hcur]; exact e5
        have g3 : wr.cell? ⟨g, off + j * 4 + 3, none⟩ = some k' := by rw [blk_cell hcg, ← blk_cell hcur]; exact e6
        have hmem : t ∈ ts := List.mem_of_getElem? ht
        have HTX : Hid (MSoundP t) := HK.out t hmem
        have HZ1 : Hid ((tx false t).size ≤ 1000) := HZ.out t hmem
        have HMS : Hid (Ms wr A false t [cells4 tag' n' s' k']) := Ms.kept (hf.widen) (fun b hb => Or.inl hb) _ _ _ hms
        clear hv ht hms hcur hcg e3 e4 e5 e6 hmem hgA e1b
        go_wp2_with (go_at_call 84; refine (HTX.out wr A tag' n' s' k' HMS.out HZ1.out).mono ?_; rintro e w2 ⟨rfl, hf2⟩)
        go_roundw
        case rel => exact ⟨j + 1, by go_num, by omega, hf.trans hf2, hf2.keep HBl.out (by simp)⟩
        case measure => simp [intOf]; omega
      · go_wp2
        go_ret
        exact ⟨rfl, hf⟩
  · go_loopw [3] (fun i wr => ∃ (j : Nat), i = .int .i64 j ∧ j ≤ 2 ∧ Fr [] w wr ∧ Hid (wr.heap[w.heap.size]? = some (.cells #[.int .i64 4, .int .i64 0, .string ⟨#[]⟩, .slice p 2 cap] 119))) (fun i _ => 2 - (intOf i).toNat)
    case atStart => exact ⟨0, rfl, by omega, (Fr.refl [] w).alloc _, HB⟩
    case round =>
      obtain ⟨j, rfl, hj, hf, HBl⟩ := hrel
      have d3 := blk_cell HBl.out 3
      simp at d3
      by_cases hlt : j < 2
      · obtain ⟨v, hv⟩ : ∃ v, vs[j]? = some v := ⟨_, List.getElem?_eq_getElem (by have := HNN.out; omega)⟩
        obtain ⟨t, ht, hms⟩ := HM.out.get hv
        obtain ⟨tag', n', s', k', rfl⟩ := hms.shape
        obtain ⟨g, off, cap', e1, hg, hgA, ⟨cur, hcur⟩, e3, e4, e5, e6⟩ := HR.out.at HM.out.four hv
        simp at e1
        obtain ⟨rfl, e1b⟩ := e1
        have hcg := hf.keep hcur (by simp)
        have g0 : wr.cell? ⟨g, off + j * 4, none⟩ = some (.int .i64 tag') := by rw [blk_cell hcg, ← blk_cell hcur]; exact e3
        have g1 : wr.cell? ⟨g, off + j * 4 + 1, none⟩ = some (.int .i64 n') := by rw [blk_cell hcg, ← blk_cell hcur]; exact e4
        have g2 : wr.cell? ⟨g, off + j * 4 + 2, none⟩ = some (.string s') := by rw [blk_cell hcg, ← blk_cell hcur]; exact e5
        have g3 : wr.cell? ⟨g, off + j * 4 + 3, none⟩ = some k' := by rw [blk_cell hcg, ← blk_cell hcur]; exact e6
        have hmem : t ∈ ts := List.mem_of_getElem? ht
        have HTX : Hid (MSoundP t) := HK.out t hmem
        have HZ1 : Hid ((tx false t).size ≤ 1000) := HZ.out t hmem
        have HMS : Hid (Ms wr A false t [cells4 tag' n' s' k']) := Ms.kept (hf.widen) (fun b hb => Or.inl hb) _ _ _ hms
        clear hv ht hms hcur hcg e3 e4 e5 e6 hmem hgA e1b
        go_wp2_with (go_at_call 84; refine (HTX.out wr A tag' n' s' k' HMS.out HZ1.out).mono ?_; rintro e w2 ⟨rfl, hf2⟩)
        go_roundw
        case rel => exact ⟨j + 1, by go_num, by omega, hf.trans hf2, hf2.keep HBl.out (by simp)⟩
        case measure => simp [intOf]; omega
      · go_wp2
        go_ret
        exact ⟨rfl, hf⟩

theorem msound_all (t : Code) : MSoundP t ∧ ∀ x ∈ kids t, MSoundP x := by
  have key : ∀ t : Code, (∀ x ∈ kids t, MSoundP x) → MSoundP t := by
    intro t hk w A tag n s ks h hz
    have hzk : ∀ x ∈ kids t, (tx false x).size ≤ 1000 := fun x hx => by have := (kids_size t).2 x hx; omega
    have hkl := kids_len t false
    rcases h.kinds with ⟨m, _, _, _, _, _, e, hm, et⟩ | ⟨r, _, _, _, _, _, e, et⟩ | ⟨ks', vs, _, _, e3, _, e, hr, hml⟩ | ⟨ks', vs, _, _, _, e4, e, hr, hml, h2l⟩
    · simp [cells4] at e
      obtain ⟨rfl, rfl, rfl, rfl⟩ := e
      exact msound_int
    · simp [cells4] at e
      obtain ⟨rfl, rfl, rfl, rfl⟩ := e
      exact msound_str
    · simp [cells4] at e
      obtain ⟨rfl, rfl, rfl, rfl⟩ := e
      exact msound_kids hr hml hk hzk (Or.inl rfl) (by have h1 := hml.len; omega)
    · simp [cells4] at e
      obtain ⟨rfl, rfl, rfl, rfl⟩ := e
      exact msound_kids hr hml hk hzk (Or.inr ⟨rfl, h2l⟩) (by omega)
  induction t with
  | skip => exact ⟨key _ (fun x hx => by cases hx), fun x hx => by cases hx⟩
  | seq a b iha ihb =>
    have hk : ∀ x ∈ kids (.seq a b), MSoundP x := fun x hx => by
      rcases List.mem_cons.1 hx with rfl | hx
      · exact iha.1
      · exact ihb.2 x hx
    exact ⟨key _ hk, hk⟩
  | cond c a b iha ihb =>
    have hk : ∀ x ∈ kids (.cond c a b), MSoundP x := fun x hx => by
      simp [kids] at hx
      rcases hx with rfl | rfl
      · exact iha.1
      · exact ihb.1
    exact ⟨key _ hk, hk⟩
  | rangeFunc o p a b _ _ => exact ⟨key _ (fun x hx => by cases hx), fun x hx => by cases hx⟩
  | _ => exact ⟨fun w A tag n s ks h => h.elim, fun x hx => by cases hx⟩
end Go.Proofs.Qxb6500336a
