import Derived.Test.Qxb6500336aW10
import Derived.Maps.AppendAt
import Derived.RangeFuncBox
import Derived.Shelf.Abstract
namespace Go.Proofs.Qxb6500336a
open Go.RowKit
set_option linter.unusedVariables false
attribute [local go_sem] Oper.semAt_some

theorem Fr.putL (W : World) (l : Nat) (o : Obj) : Fr [l] W (W.putObj l o) :=
  ⟨rfl, rfl, rfl, by simp [World.putObj], fun k hk hn => World.putObj_heap_other (by simp at hn; omega)⟩
theorem Fr.put {S : List Nat} {w W : World} (h : Fr S w W) {l : Nat} (hl : w.heap.size ≤ l) (o : Obj) : Fr S w (W.putObj l o) :=
  h.narrow (Fr.putL W l o) (fun i hi => by simp at hi; subst hi; exact Or.inr hl)
theorem kc_put {W : World} {l : Nat} {o o' : Obj} (h : W.heap[l]? = some o) (ho : o.isCells = false) : Kc W (W.putObj l o') :=
  (Fr.putL W l o').kc (fun b hb c t hc => by simp at hb; subst hb; rw [h] at hc; cases hc; simp [Obj.isCells] at ho)
theorem blk_put {W : World} {l b : Nat} {o o' : Obj} {c : Array Value} {t : TypeId} {f : Nat × Nat} (h : W.heap[l]? = some o) (ho : o.isCells = false) (hb : W.heap[b]? = some (.cells c t f)) : (W.putObj l o').heap[b]? = some (.cells c t f) :=
  (Fr.putL W l o').keep hb (fun hm => by simp at hm; subst hm; rw [h] at hb; cases hb; simp [Obj.isCells] at ho)
theorem keeps_fr {S : List Nat} {W W' : World} (h : Fr S W W') (hs : ∀ b, b ∈ S → ∀ o, W.heap[b]? = some o → o.isCells = true) : KeepsOthers W W' :=
  ⟨h.size, fun k o hk ho => h.keep hk (fun hm => by rw [hs k hm o hk] at ho; cases ho)⟩
theorem keeps_fr0 {W W' : World} (h : Fr [] W W') : KeepsOthers W W' := keeps_fr h (fun b hb => by cases hb)

/-- What List.Add holds between two rounds. -/
structure AddI (w : World) (bs : List Nat) (vs : List Value) (k : Nat) (W : World) : Prop where
  own : ∃ sl, W.heap[w.heap.size]? = some (.cells #[sl] 53) ∧ W.ownsRow w.heap.size 65 1 sl k (vs.take k)
  box : W.heap[w.heap.size + 1]? = some (.cells #[ptrO bs.head?] 75)
  lc : LC W bs vs
  fr : Fr [] w W

theorem AddI.put {w : World} {bs : List Nat} {vs : List Value} {k : Nat} {W : World} (h : AddI w bs vs k W) {l : Nat} {o : Obj} (hl : W.heap[l]? = some o) (ho : o.isCells = false) (hw : w.heap.size ≤ l) (o' : Obj) : AddI w bs vs k (W.putObj l o') := by
  obtain ⟨sl, h1, h2⟩ := h.own
  exact ⟨⟨sl, blk_put hl ho h1, ownsRow_putObj h2 o' hl ho⟩, blk_put hl ho h.box, h.lc.kept (kc_put hl ho), h.fr.put hw o'⟩
theorem AddI.alloc {w : World} {bs : List Nat} {vs : List Value} {k : Nat} {W : World} (h : AddI w bs vs k W) (o : Obj) : AddI w bs vs k (W.alloc o) := by
  obtain ⟨sl, h1, h2⟩ := h.own
  exact ⟨⟨sl, blk_alloc h1 _, h2.alloc _⟩, blk_alloc h.box _, h.lc.kept ((Fr.refl [] _).alloc _).kc0, h.fr.alloc _⟩

theorem owns_base {w : World} {N : Nat} {e : TypeId} {s : Nat} {v : Value} {n : Nat} {xs : List Value} (h : w.ownsRow N e s v n xs) {k : Nat} (hk : v.ownBlock = some k) : N ≤ k := by
  rcases h.2 with ⟨rfl, _⟩ | ⟨g, cap, cur, rfl, hb, hg, rest⟩
  · simp [Value.ownBlock] at hk
  · simp [Value.ownBlock] at hk; subst hk; exact hb
theorem AddI.step {w : World} {bs : List Nat} {vs : List Value} {k : Nat} {W : World} (h : AddI w bs vs k W) {T : TypeId} {u sl : Value} {g cap : Nat} {w1 : World} (h1 : W.heap[w.heap.size]? = some (.cells #[sl] 53)) (h2 : W.ownsRow w.heap.size 65 1 sl k (vs.take k))
    (hx : vs.take k ++ [.iface T u] = vs.take (k + 1)) (hown : w1.ownsRow w.heap.size 65 1 (.slice (some ⟨g, 0, none⟩) (k + 1) cap) (k + 1) (vs.take k ++ [.iface T u])) (hgrow : (W.alloc (.cells #[.iface T u] 65)).grownBy w1 sl.ownBlock) :
    w1.heap[w.heap.size]? = some (.cells #[sl] 53) ∧ KeepsOthers W (w1.setCell ⟨w.heap.size, 0, none⟩ (.slice (some ⟨g, 0, none⟩) (k + 1) cap)) ∧ AddI w bs vs (k + 1) (w1.setCell ⟨w.heap.size, 0, none⟩ (.slice (some ⟨g, 0, none⟩) (k + 1) cap)) := by
  have FG : Fr sl.ownBlock.toList W w1 := ((Fr.refl _ _).alloc _).trans (Fr.ofGrown hgrow)
  have hty : ∀ b, b ∈ sl.ownBlock.toList → ∃ c, W.heap[b]? = some (.cells c 65) := fun b hb => owns_block h2 (by simpa using hb)
  have hO := FG.keep h1 (fun hm => by obtain ⟨c, hc⟩ := hty _ hm; rw [h1] at hc; simp at hc)
  have hB := FG.keep h.box (fun hm => by obtain ⟨c, hc⟩ := hty _ hm; rw [h.box] at hc; simp at hc)
  have hg : g ≠ w.heap.size := fun e => by
    subst e
    obtain ⟨c, hc⟩ := owns_block hown (k := w.heap.size) rfl
    rw [hO] at hc; simp at hc
  have hk1 : Kc W w1 := FG.kc (fun b hb c t hc => by obtain ⟨c', hc'⟩ := hty b hb; rw [hc'] at hc; simp at hc; rw [← hc.2]; simp)
  have FS : Fr [w.heap.size] w1 (w1.setCell ⟨w.heap.size, 0, none⟩ (.slice (some ⟨g, 0, none⟩) (k + 1) cap)) := Fr.setCell (Fr.refl _ _) (Or.inl (by simp)) _
  have hk2 : Kc w1 (w1.setCell ⟨w.heap.size, 0, none⟩ (.slice (some ⟨g, 0, none⟩) (k + 1) cap)) := FS.kc (fun b hb c t hc => by simp at hb; subst hb; rw [hO] at hc; simp at hc; rw [← hc.2]; simp)
  refine ⟨hO, (keeps_fr FG (fun b hb o ho => by obtain ⟨c, hc⟩ := hty b hb; rw [hc] at ho; cases ho; rfl)).trans (KeepsOthers.setCell _ _ _), ⟨⟨.slice (some ⟨g, 0, none⟩) (k + 1) cap, ?_, ?_⟩, ?_, (h.lc.kept hk1).kept hk2, ?_⟩⟩
  · have := blk_set hO 0 (.slice (some ⟨g, 0, none⟩) (k + 1) cap); simpa using this
  · rw [← hx]; exact owns_keep hown FS (fun b hb => by simp [Value.ownBlock] at hb; subst hb; simpa using hg)
  · exact FS.keep hB (by simp)
  · exact (h.fr.narrow FG (fun i hi => Or.inr (owns_base h2 (by simpa using hi)))).setCell (Or.inr (Nat.le_refl _)) _
theorem LC.iface {W : World} : ∀ {bs : List Nat} {vs : List Value}, LC W bs vs → ∀ {k : Nat} {x : Value}, vs[k]? = some x → ∃ T u, x = .iface T u
  | [], [], _, k, x, h => by simp at h
  | b :: bs, v :: vs, h, 0, x, hx => by simp at hx; subst hx; exact h.2.2.1
  | b :: bs, v :: vs, h, k + 1, x, hx => LC.iface h.2.2.2 (by simpa using hx)
theorem take_snoc {vs : List Value} {k : Nat} {x : Value} (h : vs[k]? = some x) : vs.take k ++ [x] = vs.take (k + 1) := by
  rw [List.take_add_one, h]; rfl
def appL (l : List Code) (b : Code) : Code := l.foldr Code.seq b
theorem Shs.get {w : World} : ∀ {ts : List Code} {vs : List Value}, Shs w ts vs → ∀ {j : Nat} {v : Value}, vs[j]? = some v → ∃ t, ts[j]? = some t ∧ Sh w t v
  | [], [], _, j, v, h => by simp at h
  | t :: ts, v :: vs, h, 0, x, hx => by simp at hx; subst hx; exact ⟨t, rfl, h.1⟩
  | t :: ts, v :: vs, h, j + 1, x, hx => by
    obtain ⟨t', h1, h2⟩ := Shs.get h.2 (j := j) (v := x) (by simpa using hx)
    exact ⟨t', by simpa using h1, h2⟩
theorem appT_eq {w : World} (b : Code) : ∀ {a : Code} {k : Option Nat}, Sh w a (.iface 75 (ptrO k)) → appT a b = appL (kids a) b := by
  intro a
  induction a with
  | skip => intro k h; rfl
  | seq x y _ ihy =>
    intro k h
    rcases h.lst with ⟨e, _⟩ | ⟨hd, tl, B, hv, k', e, rfl, h2, h3, h4, h5⟩
    · cases e
    · cases e
      show Code.seq x (appT y b) = Code.seq x (appL (kids y) b)
      rw [ihy h4]
  | _ => intro k h; rcases h.lst with ⟨e, _⟩ | ⟨_, _, _, _, _, e, _⟩ <;> cases e

set_option maxHeartbeats 3200000 in
set_option maxRecDepth 100000 in
theorem add_list {w : World} {bs : List Nat} {vs : List Value} {ks : List Code} (hlc : LC w bs vs) (hks : Shs w ks vs) {b : Code} {kb : Option Nat} (hb : Sh w b (.iface 75 (ptrO kb))) (hn : vs.length ≤ 1000) :
    Calls Try.prog 119 #[ptrO bs.head?, .iface 75 (ptrO kb)] w fun e w' => ∃ kr, e = .returned (.tuple #[.iface 75 (ptrO kr), .int .i64 0]) ∧ Fr [] w w' ∧ Sh w' (appL ks b) (.iface 75 (ptrO kr)) := by
  have n1 := as75_75
  obtain ⟨i65, hi65, hz65⟩ := info_parts info65
  refine (callsIn_wide (n := 3)).1 ?_
  refine callsIn_of_wp_marks Try.func119 rfl trivial ?_
  simp only [Try.ntmps119, List.size_toArray, List.length_cons, List.length_nil, Nat.reduceAdd, Nat.reduceSub, Array.replicate_succ, Array.replicate_zero, List.push_toArray, List.append_toArray, List.nil_append, List.cons_append]
  have HLC : Hid (LC w bs vs) := hlc
  have HKS : Hid (Shs w ks vs) := hks
  have HB : Hid (Sh w b (.iface 75 (ptrO kb))) := hb
  have HN : Hid (vs.length ≤ 1000) := hn
  clear hlc hks hb hn
  gi_wp2_with (refine ⟨trivial, ?_⟩; gi_at_call 120; refine (callsIn_wide.2 (all_list _ _)).mono ?_; rintro e w' ⟨rfl, rfl⟩)
  have A0 : AddI w bs vs 0 ((w.alloc (.cells #[.slice none 0 0] 53)).alloc (.cells #[ptrO bs.head?] 75)) := by
    refine ⟨⟨.slice none 0 0, blk_alloc (blk_new _ _) _, ⟨by simp, Or.inl ⟨rfl, rfl⟩⟩⟩, ?_, HLC.out.kept (((Fr.refl [] _).alloc _).alloc _).kc0, ((Fr.refl [] _).alloc _).alloc _⟩
    have := blk_new (w.alloc (.cells #[.slice none 0 0] 53)) (.cells #[ptrO bs.head?] 75)
    simpa using this
  have hsz : ((w.alloc (.cells #[.slice none 0 0] 53)).alloc (.cells #[ptrO bs.head?] 75)).heap.size = w.heap.size + 2 := by simp
  generalize hW0 : (w.alloc (.cells #[.slice none 0 0] 53)).alloc (.cells #[ptrO bs.head?] 75) = W0 at A0 hsz ⊢
  have HA0 : Hid (AddI w bs vs 0 W0) := A0
  have HSZ : Hid (W0.heap.size = w.heap.size + 2) := hsz
  clear hW0 A0 hsz
  refine wpIn_rangeFunc fun fn _ => range_core fn (gf := 123) (lb := #[.pointer (some ⟨w.heap.size + 1, 0, none⟩)]) rfl (enters_of Try.func123 (by kernel_rfl) rfl) (it_list (w.heap.size + 1) bs vs)
    (AddI w bs vs) (fun _ _ => False) (fun _ _ => False) (fun _ _ h => h.elim) (fun k W h => ⟨h.box, h.lc⟩)
    (fun k W r o h hl => h.put hl rfl (by have := HSZ.out; omega) o) (fun _ _ _ _ h => h.elim) (fun r => (HA0.out.alloc _).alloc _)
    (fun x => { tmps := #[ptrO bs.head?, Value.iface 75 (ptrO kb), undef, undef, Value.nilIface, Value.int IntKind.i64 0, ptrO kb, Value.bool true, Value.pointer (some { block := w.heap.size, off := 0 }), x, undef, undef, Value.tuple #[ptrO kb, Value.bool true], Value.iface 75 (ptrO kb), Value.tuple #[ptrO kb, Value.bool true], ptrO kb, Value.bool true, Value.bool true, Value.bool false, ptrO bs.head?, .func (.func 123) #[] #[.pointer (some ⟨w.heap.size + 1, 0, none⟩)], x, undef, undef, undef, undef, undef, undef, undef, undef, undef, undef, undef, undef, undef, undef, undef, undef, undef, undef, undef, undef, undef, undef, undef, undef, undef, undef], defers := [] })
    ?assign ?body ?done ?stop (fun _ _ h => h.elim)
  case assign =>
    intro l x W K hK
    gi_wp2
    exact hK
  case body =>
    intro l k x W hI hx
    obtain ⟨T, u, rfl⟩ := hI.lc.iface hx
    obtain ⟨sl, h1, h2⟩ := hI.own
    have c0 := blk_cell h1 0
    simp at c0
    have HI : Hid (AddI w bs vs k W) := hI
    have HX : Hid (vs[k]? = some (.iface T u)) := hx
    have H1 : Hid (W.heap[w.heap.size]? = some (.cells #[sl] 53)) := h1
    have H2 : Hid (W.ownsRow w.heap.size 65 1 sl k (vs.take k)) := h2
    have hk : k < 1000 := by
      have := (List.getElem?_eq_some_iff.1 hx).1
      have := HN.out
      omega
    clear hI hx h1 h2
    dsimp only
    gi_wp2_with (gi_at_builtin; refine wpListIn_append_own _ rfl _ _ 53 rfl w.heap.size 65 i65 .nilIface 1 16 Try.underlying53 hi65 hz65.1 hz65.2.1 hz65.2.2 rfl (by decide) sl k (vs.take k) rfl (H2.out.alloc _) ⟨W.heap.size, 0, none⟩ 1 1 [.iface T u] rfl rfl (cell_one_new _ _ _) (by simp [Value.oneCell']) (by unfold maxLen; omega) (by omega) (by have := HI.out.fr.size; simp; omega) ?_; intro v' w1 hown hgrow _; obtain ⟨g, cap, rfl⟩ := ownsRow_succ hown; have hst := HI.out.step H1.out H2.out (take_snoc HX.out) hown hgrow; have c1 := blk_cell hst.1 0; have f1 := blk_frozen hst.1 0; simp at c1; have HST : Hid _ := hst.2; clear hst hown hgrow)
    exact HST.out
  case stop => exact fun _ _ h => h.elim
  case done =>
    intro W hI hD
    obtain ⟨sl, h1, h2⟩ := hI.own
    have hform : ∃ p cap, sl = .slice p vs.length cap ∧ (∀ j v, vs[j]? = some v → ∃ g, p = some ⟨g, 0, none⟩ ∧ W.cell? ⟨g, j, none⟩ = some v ∧ w.heap.size ≤ g ∧ ∃ c, W.heap[g]? = some (.cells c 65)) := by
      obtain ⟨e1, e2⟩ := h2
      rcases e2 with ⟨rfl, e3⟩ | ⟨g, cap, cur, rfl, e3, e4, e5, e6, e7, e8⟩
      · refine ⟨none, 0, by rw [e3], fun j v hv => ?_⟩
        have := (List.getElem?_eq_some_iff.1 hv).1
        omega
      · refine ⟨some ⟨g, 0, none⟩, cap, rfl, fun j v hv => ⟨g, rfl, ?_, e3, cur, e4⟩⟩
        rw [blk_cell e4]
        have e9 : (cur.toList.take (vs.length * 1))[j]? = (vs.take vs.length)[j]? := by rw [e8]
        have := (List.getElem?_eq_some_iff.1 hv).1
        rw [List.getElem?_take_of_lt (by omega), List.take_length, hv] at e9
        simpa using e9
    obtain ⟨p, cap, rfl, hcell⟩ := hform
    have c0 := blk_cell h1 0
    simp at c0
    have hn0 := HN.out
    have HI : Hid (AddI w bs vs vs.length W) := hI
    have H1 : Hid _ := h1
    have HD : Hid (W.heap[W0.heap.size]? = some (.deferred (some []))) := hD
    have HCL : Hid _ := hcell
    clear hI h1 hD hcell h2
    generalize hvl : vs.length = n at *
    have HVL : Hid (vs.length = n) := hvl
    clear hvl
    have HLN : Hid (ks.length = n) := by show _ = _; rw [← HVL.out]; exact HKS.out.len.symm
    gi_wp2
    gi_loopw [6, 10] (fun s i wr => ∃ (j : Nat) (k : Option Nat), s = ptrO k ∧ i = .int .i64 (j - 1) ∧ j ≤ n ∧ Hid (Sh wr (appL (ks.drop j) b) (.iface 75 (ptrO k))) ∧ Fr [] W wr) (fun _ i _ => (intOf i + 1).toNat)
    case atStart =>
      refine ⟨n, kb, rfl, by go_num, Nat.le_refl _, ?_, Fr.refl _ _⟩
      show Sh _ _ _
      rw [List.drop_eq_nil_of_le (by have := HLN.out; omega)]
      exact Sh.kept HI.out.fr.kc0 _ _ HB.out
    case round =>
      obtain ⟨j, k, rfl, rfl, hj, HS, hf⟩ := hrel
      cases j with
      | zero =>
        gi_wp2
        refine ⟨by simp, .inl ⟨_, _, rfl, run_takeDeferred (hf.keep HD.out (by simp)), ?_⟩⟩
        refine ⟨_, results_tmp2 rfl _ _ _, k, rfl, ?_, ?_⟩
        · exact (HI.out.fr.trans hf).put (by have := HSZ.out; omega) _
        · have h5 := HS.out
          rw [List.drop_zero] at h5
          exact Sh.kept (kc_put (hf.keep HD.out (by simp)) rfl) _ _ h5
      | succ j' =>
        obtain ⟨v, hv⟩ : ∃ v, vs[j']? = some v := ⟨_, List.getElem?_eq_getElem (by have := HVL.out; omega)⟩
        obtain ⟨T, u, rfl⟩ := HI.out.lc.iface hv
        obtain ⟨g, rfl, hc, hg, cc, hcc⟩ := HCL.out j' _ hv
        have c1 := blk_cell (hf.keep H1.out (by simp)) 0
        simp at c1
        have c2 : wr.cell? ⟨g, j', none⟩ = some (.iface T u) := by
          rw [blk_cell (hf.keep hcc (by simp))]; rw [blk_cell hcc] at hc; exact hc
        have hlt1 := blk_lt (hf.keep H1.out (by simp))
        have hlt2 := blk_lt (hf.keep hcc (by simp))
        have hne1 : ¬ w.heap.size = wr.heap.size := by omega
        have hne2 : ¬ g = wr.heap.size := by omega
        have HV : Hid (vs[j']? = some (.iface T u)) := hv
        have HK : Hid (∀ b, k = some b → b < wr.heap.size) := by
          intro b' hb'
          rcases HS.out.lst with ⟨_, e⟩ | ⟨_, _, B, _, _, _, e, hB, _⟩
          · rw [e] at hb'; cases hb'
          · rw [e] at hb'; cases hb'; exact blk_lt hB
        clear hv hc hcc hg
        have hk1 : ((j' + 1 : Nat) : Int) - 1 = (j' : Int) := by omega
        rw [hk1]
        unfold ptrO
        gi_wp2
        go_roundw
        case rel =>
          refine ⟨j', some wr.heap.size, rfl, rfl, by omega, ?_, hf.alloc _⟩
          obtain ⟨t, ht, hsh⟩ := HKS.out.get HV.out
          show Sh _ _ _
          rw [show ks.drop j' = t :: ks.drop (j' + 1) from by rw [List.drop_eq_getElem?_toList_append, ht]; rfl]
          refine ⟨wr.heap.size, _, k, rfl, blk_new _ _, ?_, ?_, HK.out⟩
          · exact Sh.kept (((HI.out.fr.trans hf).alloc _).kc0) _ _ hsh
          · exact Sh.kept ((Fr.refl [] wr).alloc _).kc0 _ _ HS.out
        case measure => simp [intOf]
end Go.Proofs.Qxb6500336a
