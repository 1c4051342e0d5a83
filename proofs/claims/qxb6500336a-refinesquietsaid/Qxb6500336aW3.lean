import Derived.Test.Qxb6500336aW2
import Derived.Deep.AppendLies
import Derived.Deep.RegionLaw
import Derived.Deep.RegionHeld3
namespace Go.Proofs.Qxb6500336a
open Go.RowKit
set_option linter.unusedVariables false

theorem Fr.ofGrown {w w' : World} {row : Option Nat} (h : w.grownBy w' row) : Fr row.toList w w' :=
  ⟨h.os, h.tape, h.output, h.size, fun k hk hn => h.block k hk (fun e => hn (by rw [← e]; simp))⟩
theorem owns_keep {w w' : World} {S : List Nat} {N : Nat} {e : TypeId} {s : Nat} {v : Value} {n : Nat} {xs : List Value} (h : w.ownsRow N e s v n xs) (hf : Fr S w w') (hn : ∀ k, v.ownBlock = some k → k ∉ S) : w'.ownsRow N e s v n xs := by
  obtain ⟨h1, h2⟩ := h
  refine ⟨h1, ?_⟩
  rcases h2 with h2 | ⟨g, cap, cur, rfl, hb, hg, rest⟩
  · exact Or.inl h2
  · exact Or.inr ⟨g, cap, cur, rfl, hb, hf.keep hg (hn g rfl), rest⟩
theorem owns_block {w : World} {N : Nat} {e : TypeId} {s : Nat} {v : Value} {n : Nat} {xs : List Value} (h : w.ownsRow N e s v n xs) {k : Nat} (hk : v.ownBlock = some k) : ∃ cur, w.heap[k]? = some (.cells cur e) := by
  rcases h.2 with ⟨rfl, _⟩ | ⟨g, cap, cur, rfl, hb, hg, rest⟩
  · simp [Value.ownBlock] at hk
  · simp [Value.ownBlock] at hk; subst hk; exact ⟨cur, hg⟩

/-- The stack at block S; its slice sl; its values, the top first; its mark. -/
structure Stv (w : World) (S : Nat) (sl : Value) (us : List Value) (bz : Bool) : Prop where
  obj : w.heap[S]? = some (.cells #[sl, .bool bz] 55)
  row : w.ownsRow 0 65 1 sl us.length us.reverse

theorem Stv.far {w : World} {S : Nat} {sl : Value} {us : List Value} {bz : Bool} (h : Stv w S sl us bz) {k : Nat} (hk : sl.ownBlock = some k) : k ≠ S := by
  intro e
  subst e
  obtain ⟨cur, hc⟩ := owns_block h.row hk
  have := h.obj
  rw [hc] at this
  simp at this

theorem Stv.form {w : World} {S : Nat} {sl : Value} {us : List Value} {bz : Bool} (h : Stv w S sl us bz) :
    (sl = .slice none 0 0 ∧ us = []) ∨ ∃ g cap cur, sl = .slice (some ⟨g, 0, none⟩) us.length cap ∧ w.heap[g]? = some (.cells cur 65) ∧ us.length ≤ cap ∧ cap ≤ maxLen ∧ cur.size = cap ∧ cur.toList.take us.length = us.reverse := by
  rcases h.row.2 with ⟨h1, h2⟩ | ⟨g, cap, cur, h1, _, h2, h3, h4, h5, h6⟩
  · exact Or.inl ⟨h1, List.eq_nil_of_length_eq_zero h2⟩
  · exact Or.inr ⟨g, cap, cur, h1, h2, h3, h4, by omega, by simpa using h6⟩

theorem Stv.len {w : World} {S : Nat} {sl : Value} {us : List Value} {bz : Bool} (h : Stv w S sl us bz) : ∃ p cap, sl = .slice p us.length cap := by
  rcases h.form with ⟨rfl, rfl⟩ | ⟨g, cap, cur, rfl, _⟩
  · exact ⟨none, 0, rfl⟩
  · exact ⟨_, _, rfl⟩

theorem Stv.keep {w w' : World} {S : Nat} {sl : Value} {us : List Value} {bz : Bool} {T : List Nat} (h : Stv w S sl us bz) (hf : Fr T w w') (h1 : S ∉ T) (h2 : ∀ k, sl.ownBlock = some k → k ∉ T) : Stv w' S sl us bz :=
  ⟨hf.keep h.obj h1, owns_keep h.row hf h2⟩
theorem Stv.keep0 {w w' : World} {S : Nat} {sl : Value} {us : List Value} {bz : Bool} (h : Stv w S sl us bz) (hf : Fr [] w w') : Stv w' S sl us bz := h.keep hf (by simp) (by simp)

def Own (w : World) (sl sl' : Value) : Prop := sl'.ownBlock = sl.ownBlock ∨ ∃ g, sl'.ownBlock = some g ∧ w.heap.size ≤ g
structure Mv (w w' : World) (S : Nat) (sl sl' : Value) : Prop where
  fr : Fr (S :: sl.ownBlock.toList) w w'
  own : Own w sl sl'
theorem Mv.refl (w : World) (S : Nat) (sl : Value) : Mv w w S sl sl := ⟨Fr.refl _ _, Or.inl rfl⟩
theorem Mv.ofFr {w w' : World} {S : Nat} {sl : Value} (h : Fr [] w w') : Mv w w' S sl sl := ⟨h.widen, Or.inl rfl⟩
theorem Mv.trans {a b c : World} {S : Nat} {s1 s2 s3 : Value} (h : Mv a b S s1 s2) (k : Mv b c S s2 s3) : Mv a c S s1 s3 := by
  refine ⟨h.fr.narrow k.fr ?_, ?_⟩
  · intro i hi
    simp at hi
    rcases hi with rfl | hi
    · left; simp
    · rcases h.own with e | ⟨g, e, hg⟩
      · left; rw [e] at hi; simp [hi]
      · right; rw [e] at hi; cases hi; exact hg
  · rcases k.own with e | ⟨g, e, hg⟩
    · rcases h.own with e' | ⟨g', e', hg'⟩
      · exact Or.inl (e.trans e')
      · exact Or.inr ⟨g', e.trans e', hg'⟩
    · exact Or.inr ⟨g, e, Nat.le_trans h.fr.size hg⟩
theorem Mv.frl {a b c : World} {S : Nat} {s1 s2 : Value} (h : Fr [] a b) (k : Mv b c S s1 s2) : Mv a c S s1 s2 := (Mv.ofFr h).trans k
theorem Mv.frr {a b c : World} {S : Nat} {s1 s2 : Value} (h : Mv a b S s1 s2) (k : Fr [] b c) : Mv a c S s1 s2 := h.trans (Mv.ofFr k)
theorem Stv.kc {w w' : World} {S : Nat} {sl sl' : Value} {us : List Value} {bz : Bool} (h : Stv w S sl us bz) (m : Mv w w' S sl sl') : Kc w w' := by
  refine m.fr.kc ?_
  intro b hb c t hc
  simp at hb
  rcases hb with rfl | hb
  · rw [h.obj] at hc; simp at hc; rw [← hc.2]; simp
  · obtain ⟨cur, hc'⟩ := owns_block h.row hb
    rw [hc'] at hc; simp at hc; rw [← hc.2]; simp

set_option maxHeartbeats 800000 in
theorem peek_any {w : World} {S : Nat} {sl : Value} {us : List Value} {bz : Bool} (h : Stv w S sl us bz) (hl : us.length ≤ 5) (i : Nat) (hi : i ≤ 5) :
    Calls Try.prog 62 #[.pointer (some ⟨S, 0, none⟩), .int .i64 i] w fun e w' => e = .returned (us[i]?.getD .nilIface) ∧ Fr [] w w' := by
  have c0 := blk_cell h.obj 0
  simp at c0
  by_cases hlt : i < us.length
  · rcases h.form with ⟨rfl, rfl⟩ | ⟨g, cap, cur, rfl, hg, h1, h2, h3, h4⟩
    · simp at hlt
    · have hc : w.cell? ⟨g, us.length - 1 - i, none⟩ = some (us[i]?.getD .nilIface) := by
        rw [blk_cell hg]
        have h5 : (cur.toList.take us.length)[us.length - 1 - i]? = us.reverse[us.length - 1 - i]? := by rw [h4]
        rw [List.getElem?_take_of_lt (by omega), List.getElem?_reverse (by omega), show us.length - 1 - (us.length - 1 - i) = i from by omega] at h5
        rw [List.getElem?_eq_getElem hlt] at h5 ⊢
        simpa using h5
      generalize us[i]?.getD .nilIface = r at hc ⊢
      have hq : ¬ (us.length : Int) ≤ (i : Int) := by omega
      clear h4 h3 h hg
      generalize us.length = n at *
      go_enter Try.func62, Try.ntmps62
      go_wp2
      go_ret
      exact ⟨rfl, Fr.refl _ _⟩
  · rw [List.getElem?_eq_none (by omega)]
    obtain ⟨p, cap, rfl⟩ := h.len
    clear h
    generalize us.length = n at *
    go_enter Try.func62, Try.ntmps62
    go_wp2
    go_ret
    exact ⟨rfl, Fr.refl _ _⟩


theorem info65 : (Try.prog.info? 65).map (fun i => (i.zero, i.size, i.bytes)) = some (some .nilIface, 1, 16) := by kernel_rfl

theorem owns_cut {w : World} {g cap : Nat} {us : List Value} (h : w.ownsRow 0 65 1 (.slice (some ⟨g, 0, none⟩) us.length cap) us.length us.reverse) (d : Nat) (hd : d ≤ us.length) :
    w.ownsRow 0 65 1 (.slice (some ⟨g, 0, none⟩) (us.length - d) cap) (us.length - d) (us.drop d).reverse := by
  obtain ⟨h1, h2⟩ := h
  refine ⟨by simp, Or.inr ?_⟩
  rcases h2 with ⟨h2, _⟩ | ⟨g', cap', cur, h2, h3, h4, h5, h6, h7, h8⟩
  · simp at h2
  · simp at h2
    obtain ⟨rfl, rfl⟩ := h2
    refine ⟨g, cap, cur, rfl, h3, h4, by omega, h6, h7, ?_⟩
    have e : List.take (us.length - d) (cur.toList.take us.length) = List.take (us.length - d) us.reverse := by
      have h9 := h8
      simp only [Nat.mul_one] at h9
      rw [h9]
    rw [List.take_take, Nat.min_eq_left (by omega)] at e
    rw [Nat.mul_one, e, List.reverse_drop]

theorem Stv.obj1 {w w1 : World} {S : Nat} {sl : Value} {us : List Value} {bz : Bool} (h : Stv w S sl us bz) (hf : Fr sl.ownBlock.toList w w1) : w1.heap[S]? = some (.cells #[sl, .bool bz] 55) :=
  hf.keep h.obj (fun hm => by
    have : sl.ownBlock = some S := by simpa using hm
    exact h.far this rfl)
theorem swap_end {w w1 : World} {S : Nat} {sl : Value} {us : List Value} {bz : Bool} (h : Stv w S sl us bz) {g cap n : Nat} {vs us' : List Value} (hf : Fr sl.ownBlock.toList w w1)
    (hown : w1.ownsRow 0 65 1 (.slice (some ⟨g, 0, none⟩) n cap) n vs) (hat : sl.ownBlock = some g ∨ w.heap.size ≤ g) (hn : n = us'.length) (hvs : vs = us'.reverse) :
    ∃ sl', Stv (w1.setCell ⟨S, 0, none⟩ (.slice (some ⟨g, 0, none⟩) n cap)) S sl' us' bz ∧ Mv w (w1.setCell ⟨S, 0, none⟩ (.slice (some ⟨g, 0, none⟩) n cap)) S sl sl' := by
  subst hn hvs
  have ho := h.obj1 hf
  have hg : g ≠ S := fun e => by
    subst e
    obtain ⟨cur, hc⟩ := owns_block hown (k := g) rfl
    rw [hc] at ho; simp at ho
  refine ⟨.slice (some ⟨g, 0, none⟩) us'.length cap, ⟨?_, ?_⟩, ?_, ?_⟩
  · have := blk_set ho 0 (.slice (some ⟨g, 0, none⟩) us'.length cap)
    simpa using this
  · exact owns_keep hown (Fr.setCell (S := [S]) (Fr.refl _ _) (Or.inl (by simp)) _) (fun k hk => by
      simp [Value.ownBlock] at hk; subst hk; simpa using hg)
  · exact (hf.mono (fun k hk => by simp [hk])).trans (Fr.setCell (Fr.refl _ _) (Or.inl (by simp)) _)
  · rcases hat with e | e
    · exact Or.inl e.symm
    · exact Or.inr ⟨g, rfl, e⟩

set_option maxHeartbeats 1600000 in
set_option maxRecDepth 100000 in
theorem swap_any {w : World} {S : Nat} {sl : Value} {us : List Value} {bz : Bool} (h : Stv w S sl us bz) (hl : us.length ≤ 5) (d : Nat) (hd : d ≤ us.length) (T : TypeId) (u : Value) :
    Calls Try.prog 64 #[.pointer (some ⟨S, 0, none⟩), .int .i64 d, .iface T u] w fun e w' => e = .returned (.tuple #[]) ∧ ∃ sl', Stv w' S sl' (.iface T u :: us.drop d) bz ∧ Mv w w' S sl sl' := by
  have c0 := blk_cell h.obj 0
  simp at c0
  have hS := blk_lt h.obj
  obtain ⟨i65, hi65, hz65⟩ := info_parts info65
  have HO : Hid (Stv w S sl us bz) := h
  rcases h.form with ⟨rfl, rfl⟩ | ⟨g, cap, cur, rfl, hg, h1, h2, h3, h4⟩
  · have hd0 : d = 0 := by simpa using hd
    subst hd0
    have HW : Hid (w.ownsRow 0 65 1 (.slice none 0 0) 0 []) := HO.out.row
    clear h hd hl
    go_enter Try.func64, Try.ntmps64
    go_wp2_with (at_builtin; refine wpList_append_lies _ rfl _ _ _ rfl 0 65 i65 .nilIface 1 16 Try.underlying53 hi65 hz65.1 hz65.2.1 hz65.2.2 rfl (by omega) (.slice none 0 0) 0 [] rfl (owns_keep HW.out ((Fr.refl [] _).alloc _) (by simp)) ⟨w.heap.size, 0, none⟩ 1 1 [.iface T u] rfl rfl (World.news_of_block (heap_alloc_new _ _)) (by simp [Value.oneCell']) (by omega) (by unfold maxLen; omega) (by omega) (by simp) (w.heap.size + 1) (by simp) ?_)
    intro g cap w1 hown hgrow hat hlt
    have FG : Fr (Value.slice none 0 0).ownBlock.toList w w1 := ((Fr.refl _ _).alloc _).trans (Fr.ofGrown hgrow)
    have ho1 := HO.out.obj1 FG
    have HE : Hid _ := swap_end HO.out (us' := [.iface T u]) FG hown (Or.inr (by rcases hat with h | h; simp [Value.ownBlock] at h; omega)) rfl rfl
    have c1 := blk_cell ho1 0
    have f1 := blk_frozen ho1 0
    simp at c1
    clear ho1 FG hown hgrow hat
    go_wp2
    go_end0
    exact ⟨rfl, HE.out⟩
  · have HW : Hid (w.ownsRow 0 65 1 (.slice (some ⟨g, 0, none⟩) (us.length - d) cap) (us.length - d) (us.drop d).reverse) := owns_cut HO.out.row d hd
    have hq1 : us.length - d ≤ cap := by omega
    clear h h3 h4 hg
    go_enter Try.func64, Try.ntmps64
    go_wp2_with (at_builtin; refine wpList_append_lies _ rfl _ _ _ rfl 0 65 i65 .nilIface 1 16 Try.underlying53 hi65 hz65.1 hz65.2.1 hz65.2.2 rfl (by omega) (.slice (some ⟨g, 0, none⟩) (us.length - d) cap) (us.length - d) (us.drop d).reverse rfl (owns_keep HW.out ((Fr.refl [] _).alloc _) (by simp)) ⟨w.heap.size, 0, none⟩ 1 1 [.iface T u] rfl rfl (World.news_of_block (heap_alloc_new _ _)) (by simp [Value.oneCell']) (by omega) (by unfold maxLen; omega) (by omega) (by simp) (w.heap.size + 1) (by simp) ?_)
    intro g2 cap2 w1 hown hgrow hat hlt
    have FG : Fr (Value.slice (some ⟨g, 0, none⟩) us.length cap).ownBlock.toList w w1 := ((Fr.refl _ _).alloc _).trans (Fr.ofGrown hgrow)
    have ho1 := HO.out.obj1 FG
    have HE : Hid _ := swap_end HO.out (us' := .iface T u :: us.drop d) FG hown (by rcases hat with e5 | e5; exact Or.inl e5; exact Or.inr (by omega)) (by simp) (by simp)
    have c1 := blk_cell ho1 0
    have f1 := blk_frozen ho1 0
    simp at c1
    clear ho1 FG hown hgrow hat
    go_wp2
    go_end0
    exact ⟨rfl, HE.out⟩
end Go.Proofs.Qxb6500336a
