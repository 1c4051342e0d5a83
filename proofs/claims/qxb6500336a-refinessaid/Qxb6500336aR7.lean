import Derived.Test.Qxb6500336aR6
namespace Go.Proofs.Qxb6500336a
open Go.RowKit
set_option linter.unusedVariables false
set_option linter.unusedSimpArgs false

theorem putW_push {t : Code} {rs : List Code} (h : (tx false t).size ≤ 30) : putW t 0 rs = pushW t rs := by
  have h7 : ft t = true := by unfold ft; exact decide_eq_true h
  simp [putW, pushW, h7]
theorem MOutS.frl {a b c : World} {m : Nat} {sl : Value} {r : Int × List Code} {e : Ending} (h : Fr [] a b) (k : MOutS b m sl r e c) : MOutS a m sl r e c := by
  obtain ⟨h1, sl', vs', h2, h3⟩ := k
  exact ⟨h1, sl', vs', h2, Mv.frl h h3⟩

theorem mpushI {w : World} {m : Nat} {sl : Value} {rs : List Code} {vs : List (List Value)} (h : Mt w m sl rs vs) (hl : rs.length ≤ 5) {v : Int} (hv : w64 v) :
    Calls Try.prog 87 #[.pointer (some ⟨m, 0, none⟩), .int .i64 1, .int .i64 v, .string ⟨#[]⟩] w (MOutS w m sl (pushW (tI v) rs)) := by
  rw [← putW_push (tI_size v)]
  have HV : Hid (w64 v) := hv
  have H : Hid (Mt w m sl rs vs) := h
  have HL : Hid (rs.length ≤ 5) := hl
  clear h hl
  generalize hR : putW (tI v) 0 rs = R
  have HR : Hid (putW (tI v) 0 rs = R) := hR
  clear hR
  go_enter Try.func87, Try.ntmps87
  go_wp2_with (go_at_call 98; refine (put_any H.out HL.out 0 (by omega) (t := tI v) ⟨rfl, HV.out⟩ (by have := tI_size v; omega)).mono ?_; rw [HR.out]; rintro e w1 ⟨rfl, sl', vs', h1, h2⟩)
  go_ret
  exact ⟨rfl, sl', vs', h1, h2⟩
theorem mpushS {w : World} {m : Nat} {sl : Value} {rs : List Code} {vs : List (List Value)} (h : Mt w m sl rs vs) (hl : rs.length ≤ 5) {s : ByteArray} (hs : s.size ≤ 6) :
    Calls Try.prog 87 #[.pointer (some ⟨m, 0, none⟩), .int .i64 2, .int .i64 0, .string s] w (MOutS w m sl (pushW (tS s) rs)) := by
  have hz : (tx false (tS s)).size ≤ 30 := by
    have := itoa_size s.size
    show ((itoa s.size ++ ⟨#[58]⟩) ++ s).size ≤ 30
    have h58 : ByteArray.size ⟨#[58]⟩ = 1 := rfl
    simp only [ByteArray.size_append, h58]
    omega
  rw [← putW_push hz]
  have HZ : Hid ((tx false (tS s)).size ≤ 30) := hz
  have H : Hid (Mt w m sl rs vs) := h
  have HL : Hid (rs.length ≤ 5) := hl
  clear h hl hz
  generalize hR : putW (tS s) 0 rs = R
  have HR : Hid (putW (tS s) 0 rs = R) := hR
  clear hR
  go_enter Try.func87, Try.ntmps87
  go_wp2_with (go_at_call 98; refine (put_any H.out HL.out 0 (by omega) (t := tS s) rfl (by have := HZ.out; omega)).mono ?_; rw [HR.out]; rintro e w1 ⟨rfl, sl', vs', h1, h2⟩)
  go_ret
  exact ⟨rfl, sl', vs', h1, h2⟩
theorem mpushL {w : World} {m : Nat} {sl : Value} {rs : List Code} {vs : List (List Value)} (h : Mt w m sl rs vs) (hl : rs.length ≤ 5) :
    Calls Try.prog 87 #[.pointer (some ⟨m, 0, none⟩), .int .i64 3, .int .i64 0, .string ⟨#[]⟩] w (MOutS w m sl (pushW .skip rs)) := by
  have hz : (tx false .skip).size ≤ 30 := by decide
  rw [← putW_push hz]
  have HZ : Hid ((tx false .skip).size ≤ 30) := hz
  have H : Hid (Mt w m sl rs vs) := h
  have HL : Hid (rs.length ≤ 5) := hl
  clear h hl hz
  generalize hR : putW .skip 0 rs = R
  have HR : Hid (putW .skip 0 rs = R) := hR
  clear hR
  go_enter Try.func87, Try.ntmps87
  go_wp2_with (go_at_call 98; refine (put_any H.out HL.out 0 (by omega) (t := .skip) rfl (by have := HZ.out; omega)).mono ?_; rw [HR.out]; rintro e w1 ⟨rfl, sl', vs', h1, h2⟩)
  go_ret
  exact ⟨rfl, sl', vs', h1, h2⟩

/-- The cells of the value at place i (the top is 0). -/
theorem Mt.at {w : World} {m : Nat} {sl : Value} {rs : List Code} {vs : List (List Value)} (h : Mt w m sl rs vs) {i : Nat} {t : Code} (hi : rs[i]? = some t) :
    ∃ g cap tag n s ks, sl = .slice (some ⟨g, 0, none⟩) rs.length cap ∧ rs.length ≤ cap ∧ Ms w (Oa m sl) false t [cells4 tag n s ks] ∧ g ≠ m ∧ (∃ cur, w.heap[g]? = some (.cells cur 119)) ∧
      w.cell? ⟨g, (rs.length - 1 - i) * 4, none⟩ = some (.int .i64 tag) ∧ w.cell? ⟨g, (rs.length - 1 - i) * 4 + 1, none⟩ = some (.int .i64 n) ∧ w.cell? ⟨g, (rs.length - 1 - i) * 4 + 2, none⟩ = some (.string s) ∧ w.cell? ⟨g, (rs.length - 1 - i) * 4 + 3, none⟩ = some ks := by
  have hlen := h.ms.len
  have hlt : i < rs.length := by
    rcases Nat.lt_or_ge i rs.length with h5 | h5
    · exact h5
    · rw [List.getElem?_eq_none h5] at hi; cases hi
  obtain ⟨v, hv⟩ : ∃ v, vs[i]? = some v := ⟨_, List.getElem?_eq_getElem (by omega)⟩
  obtain ⟨t', ht', hms⟩ := h.ms.get hv
  rw [hi] at ht'
  cases ht'
  obtain ⟨tag, n, s, ks, rfl⟩ := hms.shape
  rcases h.form with ⟨_, h2⟩ | ⟨g, cap, cur, h1, h2, h3, h4, h5, h6⟩
  · rw [h2] at hlen; simp at hlen; omega
  · have hne : vs.reverse ≠ [] := by
      intro e
      have := congrArg List.length e
      simp at this
      rw [this] at hlen; simp at hlen; omega
    have hrow : RowAt w [] sl vs.reverse := by
      have h7 := h.row
      rw [h1] at h7 ⊢
      exact RowAt.ofOwn h7 (by simp) rfl hne (by simp)
    have hj : vs.reverse[rs.length - 1 - i]? = some (cells4 tag n s ks) := by
      rw [List.getElem?_reverse (by omega), show vs.length - 1 - (rs.length - 1 - i) = i from by omega]
      exact hv
    obtain ⟨g', off, cap', e1, _, _, ⟨cur', hc'⟩, e3, e4, e5, e6⟩ := hrow.at (fun v hv => h.ms.four v (by simpa using hv)) hj
    rw [h1] at e1
    simp at e1
    obtain ⟨⟨rfl, rfl⟩, rfl⟩ := e1
    simp only [Nat.zero_add] at e3 e4 e5 e6
    refine ⟨g, cap, tag, n, s, ks, by rw [h1, hlen], by omega, hms, ?_, ⟨cur, h2⟩, e3, e4, e5, e6⟩
    exact h.far (by rw [h1]; rfl)

set_option maxHeartbeats 3200000 in
set_option maxRecDepth 100000 in
theorem mdup_any {w : World} {m : Nat} {sl : Value} {rs : List Code} {vs : List (List Value)} (h : Mt w m sl rs vs) (hw : Wf rs) :
    Calls Try.prog 90 #[.pointer (some ⟨m, 0, none⟩)] w (MOutS w m sl (dupW rs)) := by
  have H : Hid (Mt w m sl rs vs) := h
  have HL : Hid (rs.length ≤ 5) := hw.1
  cases rs with
  | nil =>
    obtain ⟨p, cap, hsl⟩ := h.len
    have hv0 : vs.length = 0 := h.ms.len
    have c0 := blk_cell h.obj 0
    simp at c0
    rw [hsl, hv0] at c0
    clear h hsl hv0
    go_enter Try.func90, Try.ntmps90
    go_wp2
    go_ret
    exact MOutS.same H.out (Fr.refl _ _) 4
  | cons a r =>
    obtain ⟨g, cap, tag, n, s, ks, hsl, hcap, hms, hgm, _, e0, e1, e2, e3⟩ := h.at (i := 0) (t := a) rfl
    have hz := hw.2 a (by simp)
    have c0 := blk_cell h.obj 0
    simp at c0
    rw [hsl] at c0
    have e5 : dupW (a :: r) = putW a 0 (a :: r) := by
      have h7 : ft a = true := by unfold ft; exact decide_eq_true hz
      simp [putW, dupW, h7]
    rw [e5]
    generalize hR : putW a 0 (a :: r) = R
    have HR : Hid (putW a 0 (a :: r) = R) := hR
    have HMS : Hid (Ms w (Oa m sl) false a [cells4 tag n s ks]) := hms
    have HZ : Hid ((tx false a).size ≤ 1000) := by show _ ≤ _; omega
    have hk5 : r.length + 1 ≤ 5 := HL.out
    simp at e0 e1 e2 e3 hcap c0
    clear h hR hms hsl e5 hw hz
    generalize hk : r.length = k at *
    clear hk
    go_enter Try.func90, Try.ntmps90
    go_wp2_with (go_at_call 98; refine (put_any H.out HL.out 0 (by omega) HMS.out HZ.out).mono ?_; rw [HR.out]; rintro e w1 ⟨rfl, sl', vs', h1, h2⟩)
    go_ret
    exact ⟨rfl, sl', vs', h1, h2⟩
end Go.Proofs.Qxb6500336a
