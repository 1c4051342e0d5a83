import Derived.Test.Qxb6500336aW15
namespace Go.Proofs.Qxb6500336a
open Go.RowKit
set_option linter.unusedVariables false
set_option linter.unusedSimpArgs false
attribute [local go_sem] Oper.semAt_some

/-- Fold, between two rounds. -/
structure GI (w : World) (R N : Nat) (r : Value) (bt : TypeId) (Cc : World → Prop) (a : Code) (l : List Code) (k : Nat) (W : World) : Prop where
  cr : W.heap[R]? = some (.cells #[.int .i64 0] 26)
  cm : ∃ mv, W.heap[N]? = some (.cells #[mv] 65) ∧ ((k = 0 ∧ mv = .nilIface) ∨ (1 ≤ k ∧ ∃ acc, Sh W acc mv ∧ (tx false acc).size ≤ 30 ∧ foldT a l = foldT acc (l.drop (k - 1))))
  bx : W.heap[N + 1]? = some (.cells #[r] bt)
  cc : Cc W
  fr : Fr [] w W
def GX (w : World) (R : Nat) (a : Code) (l : List Code) (c : Code) (W : World) : Prop :=
  c = .ret ∧ W.heap[R]? = some (.cells #[.int .i64 (foldT a l).1] 26) ∧ (foldT a l).1 ≠ 0 ∧ Fr [] w W
theorem GI.put {w : World} {R N : Nat} {r : Value} {bt : TypeId} {Cc : World → Prop} {a : Code} {ls : List Code} {k : Nat} {W : World} (hc : ∀ W W', Kc W W' → Cc W → Cc W') (h : GI w R N r bt Cc a ls k W) {l : Nat} {o : Obj} (hl : W.heap[l]? = some o) (ho : o.isCells = false) (hw : w.heap.size ≤ l) (o' : Obj) : GI w R N r bt Cc a ls k (W.putObj l o') := by
  obtain ⟨mv, h1, h2⟩ := h.cm
  refine ⟨blk_put hl ho h.cr, ⟨mv, blk_put hl ho h1, ?_⟩, blk_put hl ho h.bx, hc _ _ (kc_put hl ho) h.cc, h.fr.put hw o'⟩
  rcases h2 with h2 | ⟨h2, acc, h3, h4⟩
  · exact Or.inl h2
  · exact Or.inr ⟨h2, acc, Sh.kept (kc_put hl ho) _ _ h3, h4⟩
theorem GI.keep0 {w : World} {R N : Nat} {r : Value} {bt : TypeId} {Cc : World → Prop} {a : Code} {ls : List Code} {k : Nat} {W W' : World} (hc : ∀ W W', Kc W W' → Cc W → Cc W') (h : GI w R N r bt Cc a ls k W) (hf : Fr [] W W') : GI w R N r bt Cc a ls k W' := by
  obtain ⟨mv, h1, h2⟩ := h.cm
  refine ⟨hf.keep h.cr (by simp), ⟨mv, hf.keep h1 (by simp), ?_⟩, hf.keep h.bx (by simp), hc _ _ hf.kc0 h.cc, h.fr.trans hf⟩
  rcases h2 with h2 | ⟨h2, acc, h3, h4⟩
  · exact Or.inl h2
  · exact Or.inr ⟨h2, acc, Sh.kept hf.kc0 _ _ h3, h4⟩
/-- The sum's cell is written. -/
theorem GI.next {w : World} {R N : Nat} {r : Value} {bt : TypeId} {Cc : World → Prop} {a : Code} {ls : List Code} {k : Nat} {W : World} (hc : ∀ W W', Kc W W' → Cc W → Cc W') (h : GI w R N r bt Cc a ls k W) (hN : w.heap.size ≤ N) (hR : R ≠ N) {acc : Code} {v : Value} (hs : Sh W acc v) (hz : (tx false acc).size ≤ 30) (hq : foldT a ls = foldT acc (ls.drop k)) :
    GI w R N r bt Cc a ls (k + 1) (W.setCell ⟨N, 0, none⟩ v) := by
  obtain ⟨mv, h1, h2⟩ := h.cm
  have FS : Fr [N] W (W.setCell ⟨N, 0, none⟩ v) := Fr.setCell (Fr.refl _ _) (Or.inl (by simp)) _
  have hk : Kc W (W.setCell ⟨N, 0, none⟩ v) := FS.kc (fun b hb c t hc' => by
    simp at hb
    rw [hb, h1] at hc'
    simp at hc'
    rw [← hc'.2]; simp)
  refine ⟨FS.keep h.cr (by simpa using hR), ⟨v, ?_, Or.inr ⟨by omega, acc, Sh.kept hk _ _ hs, hz, by simpa using hq⟩⟩, FS.keep h.bx (by simp), hc _ _ hk h.cc, h.fr.setCell (Or.inr hN) _⟩
  have := blk_set h1 0 v; simpa using this

theorem plusT_fits (a b : Code) (h : (plusT a b).1 = 0) : (tx false (plusT a b).2).size ≤ 30 := by
  unfold plusT at *
  split at h
  · rename_i h0
    rw [if_pos h0]
    split at h
    · rename_i h1
      rw [if_pos h1]
      simpa [ft] using h1
    · simp at h
  · rename_i h0; exact absurd h h0

theorem res48 {w : World} {R : Nat} {n : Int} {tmps : Array Value} (h0 : tmps[2]?.getD undef = .pointer (some ⟨R, 0, none⟩)) (hc : w.cell? ⟨R, 0, none⟩ = some (.int .i64 n)) : (results Try.f48 tmps).run Try.prog w = .ok (.int .i64 n) w := by
  simp [results, Try.results48, go_sem, h0, hc]

/-- A result's cell is written: the stack does not turn. -/
theorem St.setR {w : World} {S R : Nat} {sl : Value} {rs : List Code} {c : Array Value} (h : St w S sl rs) (hR : w.heap[R]? = some (.cells c 26)) (v : Value) : St (w.setCell ⟨R, 0, none⟩ v) S sl rs := by
  obtain ⟨us, h1, h2⟩ := h
  have FS : Fr [R] w (w.setCell ⟨R, 0, none⟩ v) := Fr.setCell (Fr.refl _ _) (Or.inl (by simp)) _
  refine ⟨us, h1.keep FS ?_ ?_, h2.kept (FS.kc ?_)⟩
  · intro hm
    simp at hm
    subst hm
    rw [h1.obj] at hR; simp at hR
  · intro k hk hm
    simp at hm
    subst hm
    obtain ⟨cur, hc⟩ := owns_block h1.row hk
    rw [hc] at hR; simp at hR
  · intro b hb c' t hc'
    simp at hb
    subst hb
    rw [hR] at hc'
    simp at hc'
    rw [← hc'.2]; simp
def foldR (p : Int × Code) (c : Code) (r : List Code) : Int × List Code := if p.1 = 0 then (0, p.2 :: r) else (p.1, c :: r)

set_option maxHeartbeats 3200000 in
set_option maxRecDepth 100000 in
theorem fold_ok {w : World} {S : Nat} {sl : Value} {c : Code} {r : List Code} (h : St w S sl (c :: r)) (hw : Wf (c :: r)) (hc : isC c = true) {a : Code} {ls : List Code} (hk : kids c = a :: ls) :
    Calls Try.prog 48 #[.pointer (some ⟨S, 0, none⟩)] w (Out w S sl (foldR (foldT a ls) c r)) := by
  have H : Hid (St w S sl (c :: r)) := h
  obtain ⟨us, h1, h2⟩ := h
  have hlen := h2.len
  have hl5 := hw.1
  have HR : Hid ((c :: r).length ≤ 5) := hl5
  have HL : Hid (us.length ≤ 5) := by show _ ≤ _; omega
  have H2 : Hid (Shs w (c :: r) us) := h2
  have H1 : Hid (Stv w S sl us false) := h1
  obtain ⟨cv, us2, rfl, hcv, h5⟩ := h2.cons
  obtain ⟨af, gf, lf, rv, bt, vs, Cc, I⟩ := iter_of hcv hc
  have n80 := I.as80
  have n86 := I.bs86
  have HI : Hid (Itr w c cv af gf lf rv bt vs Cc) := I
  have HCV : Hid (Sh w c cv) := hcv
  have hzc : (tx false c).size ≤ 30 := hw.2 c (by simp)
  have hkl : (kids c).length ≤ 30 := Nat.le_trans (kids_len c false) hzc
  have HKZ : Hid (∀ t ∈ kids c, (tx false t).size ≤ 30) := fun t ht => by have := (kids_size c).2 t ht; omega
  have HKL : Hid ((kids c).length ≤ 1000) := by show _ ≤ _; omega
  have HK : Hid (kids c = a :: ls) := hk
  have hn0 : ((ls.length + 1 : Nat) : Int) ≤ 30 := by rw [hk] at hkl; simp at hkl; omega
  have HKK : Hid ((kids c).length = ls.length + 1) := by show _ = _; rw [hk]; rfl
  clear hlen hl5 h2 h1 h5 I hcv hw hzc hkl hk
  refine (callsIn_wide (n := 3)).1 ?_
  refine callsIn_of_wp_marks Try.func48 rfl trivial ?_
  simp only [Try.ntmps48, List.size_toArray, List.length_cons, List.length_nil, Nat.reduceAdd, Nat.reduceSub, Array.replicate_succ, Array.replicate_zero, List.push_toArray, List.append_toArray, List.nil_append, List.cons_append]
  have hne : (((ls.length + 1 : Nat) : Int) == 0) = false := by simp; omega
  generalize hnn : ls.length + 1 = nn at hn0 hne HKK
  have HNN : Hid (ls.length + 1 = nn) := hnn
  clear hnn
  gi_wp2_with (first | (refine ⟨trivial, ?_⟩; gi_at_call 62; refine (callsIn_wide.2 (peek_any (H1.out.keep0 ((Fr.refl [] w).alloc _)) HL.out 0 (by omega))).mono ?_; rintro e w1 ⟨rfl, hf1⟩; simp only [List.getElem?_cons_zero, Option.getD]) | ((with_reducible refine at_invIn ?_); refine wpListIn_invoke0 (fun _ => trivial) rfl rfl _ _ rfl cv rfl _ _ (HI.out.cmLen _) _ (callsIn_wide.2 (HI.out.len _ (Sh.kept (((Fr.refl [] w).alloc _).trans hf1).kc0 _ _ HCV.out) HKL.out)) ?_; rintro e w2 ⟨rfl, hf2⟩; refine ⟨_, rfl, ?_⟩; rw [HKK.out]) | ((with_reducible refine at_invIn ?_); refine wpListIn_invoke0 (fun _ => trivial) rfl rfl _ _ rfl cv rfl _ _ (HI.out.cmAll _) _ (callsIn_wide.2 (HI.out.all _)) ?_; rintro e w4 ⟨rfl, rfl⟩; refine ⟨_, rfl, ?_⟩))
  have hG0 : GI w w.heap.size w2.heap.size rv bt Cc a ls 0 ((w2.alloc (.cells #[.nilIface] 65)).alloc (.cells #[rv] bt)) := by
    have g0 := hf2.keep (hf1.keep (blk_new w (.cells #[.int .i64 0] 26)) (by simp)) (by simp)
    have g1 := blk_new w2 (.cells #[.nilIface] 65)
    have g2 := blk_new (w2.alloc (.cells #[.nilIface] 65)) (.cells #[rv] bt)
    simp only [World.size_alloc] at g2
    have hfr : Fr [] w ((w2.alloc (.cells #[.nilIface] 65)).alloc (.cells #[rv] bt)) := ((((((Fr.refl [] w).alloc _).trans hf1).trans hf2).alloc _).alloc _)
    exact ⟨blk_alloc (blk_alloc g0 _) _, ⟨_, blk_alloc g1 _, Or.inl ⟨rfl, rfl⟩⟩, g2, HI.out.keep _ _ hfr.kc0 HI.out.cc, hfr⟩
  have HN : Hid (w.heap.size < w2.heap.size) := by
    have h1 := hf1.size
    have h2 := hf2.size
    rw [World.size_alloc] at h1
    show _ < _; omega
  simp only [World.size_alloc, Nat.add_assoc, Nat.reduceAdd, Act.put, List.setIfInBounds_toArray, List.set_cons_succ, List.set_cons_zero]
  have hsz : ((w2.alloc (.cells #[.nilIface] 65)).alloc (.cells #[rv] bt)).heap.size = w2.heap.size + 2 := by simp
  generalize hW0 : ((w2.alloc (.cells #[.nilIface] 65)).alloc (.cells #[rv] bt)) = W0 at hG0 hsz ⊢
  have HG0 : Hid _ := hG0
  have HSZ : Hid (W0.heap.size = w2.heap.size + 2) := hsz
  clear hW0 hG0 hsz hf1 hf2
  generalize w2.heap.size = N at *
  have hRN : ¬ w.heap.size = N := by have := HN.out; omega
  have hRN2 : ¬ N = w.heap.size := by have := HN.out; omega
  refine wpIn_rangeFunc fun fn _ => range_core fn (gf := gf) (lb := #[.pointer (some ⟨N + 1, 0, none⟩)]) rfl HI.out.ent (HI.out.it (N + 1))
    (GI w w.heap.size N rv bt Cc a ls) (GX w w.heap.size a ls) (fun _ _ => False) (fun _ _ h => h.elim) (fun k W h => ⟨h.bx, h.cc⟩)
    (fun k W r o h hl => h.put HI.out.keep hl rfl (by have := HSZ.out; have := HN.out; omega) o) (fun c' W r o h hl => ⟨h.1, blk_put hl rfl h.2.1, h.2.2.1, h.2.2.2.put (by have := HSZ.out; have := HN.out; omega) o⟩) (fun r => (HG0.out.keep0 HI.out.keep (((Fr.refl [] _).alloc _).alloc _)))
    (fun x' => { tmps := (#[Value.pointer (some { block := S, off := 0 }), undef, Value.pointer (some { block := w.heap.size, off := 0 }), cv, cv, Value.bool true, Value.pointer (some { block := N, off := 0 }), x', undef, undef, Value.pointer (some { block := S, off := 0 }), cv, Value.tuple #[cv, Value.bool true], cv, Value.tuple #[cv, Value.bool true], cv, Value.bool true, Value.bool true, Value.bool false, undef, undef, cv, cv, Value.int IntKind.i64 ↑nn, Value.bool false, cv, .func (.func gf) #[] #[.pointer (some ⟨N + 1, 0, none⟩)], x', undef, undef, undef, undef, undef, undef, undef, undef, undef, undef, undef, undef, undef, undef, undef, undef]), defers := [] })
    ?assign ?body ?done ?stop (fun _ _ h => h.elim)
  case assign =>
    intro l x' W K hK
    gi_wp2
    exact hK
  case body =>
    intro l k x' W hI hx'
    obtain ⟨t, ht, hsh⟩ := HI.out.shs.get hx'
    obtain ⟨T, u, rfl⟩ := hsh.ex
    have hsh' := Sh.kept hI.fr.kc0 _ _ hsh
    have HS : Hid (Sh W t (.iface T u)) := hsh'
    have HT : Hid ((kids c)[k]? = some t) := ht
    have HGI : Hid (GI w w.heap.size N rv bt Cc a ls k W) := hI
    have hmem : t ∈ kids c := List.mem_of_getElem? ht
    have HTZ : Hid ((tx false t).size ≤ 30) := HKZ.out t hmem
    obtain ⟨mv, h1, h2⟩ := hI.cm
    have c1 := blk_cell h1 0
    have f1 := blk_frozen h1 0
    simp at c1
    have HM : Hid (W.heap[N]? = some (.cells #[mv] 65)) := h1
    clear hI hx' ht hsh hsh' hmem h1
    dsimp only
    rcases h2 with ⟨rfl, rfl⟩ | ⟨hk1, acc, hacc, hza, hfo⟩
    · gi_wp2
      refine ⟨KeepsOthers.setCell _ _ _, HGI.out.next HI.out.keep (Nat.le_of_lt HN.out) hRN HS.out HTZ.out ?_⟩
      have h5 := HT.out
      rw [HK.out] at h5
      simp at h5
      rw [h5]; rfl
    · obtain ⟨T2, u2, rfl⟩ := hacc.ex
      have HA : Hid (Sh W acc (.iface T2 u2)) := hacc
      have HZA : Hid ((tx false acc).size ≤ 30) := hza
      have hd : ls.drop (k - 1) = t :: ls.drop k := by
        have h5 := HT.out
        rw [HK.out] at h5
        obtain ⟨k', rfl⟩ : ∃ k', k = k' + 1 := ⟨k - 1, by omega⟩
        simp at h5
        rw [Nat.add_sub_cancel, List.drop_eq_getElem?_toList_append, h5]; rfl
      rw [hd] at hfo
      simp only [foldT] at hfo
      clear hacc hza hd
      by_cases h0 : (plusT acc t).1 = 0
      · rw [if_pos h0] at hfo
        have H0 : Hid ((plusT acc t).1 = 0) := h0
        have HFO : Hid (foldT a ls = foldT (plusT acc t).2 (ls.drop k)) := hfo
        have HZ2 : Hid ((tx false (plusT acc t).2).size ≤ 30) := plusT_fits _ _ h0
        clear h0 hfo
        gi_wp2_with (refine ⟨trivial, ?_⟩; gi_at_call 63; refine (CallsIn.inRound l (callsIn_wide.2 (plus_any HA.out HS.out HZA.out HTZ.out))).mono ?_; rintro e W1 ⟨rv1, rfl, hfa, hs1⟩; rw [H0.out]; obtain ⟨T3, u3, rfl⟩ := (hs1 H0.out).ex; have HS1 : Hid _ := hs1 H0.out; have hM1 := hfa.keep HM.out (by simp); have c2 := blk_cell hM1 0; have f2 := blk_frozen hM1 0; simp at c2; clear hs1 hM1)
        exact ⟨(keeps_fr0 hfa).trans (KeepsOthers.setCell _ _ _), (HGI.out.keep0 HI.out.keep hfa).next HI.out.keep (Nat.le_of_lt HN.out) hRN HS1.out HZ2.out HFO.out⟩
      · rw [if_neg h0] at hfo
        have hne0 : ((plusT acc t).1 != 0) = true := by simpa using h0
        have H0 : Hid (¬ (plusT acc t).1 = 0) := h0
        have HFO : Hid (foldT a ls = ((plusT acc t).1, .skip)) := hfo
        clear h0 hfo
        gi_wp2_with (refine ⟨trivial, ?_⟩; gi_at_call 63; refine (CallsIn.inRound l (callsIn_wide.2 (plus_any HA.out HS.out HZA.out HTZ.out))).mono ?_; rintro e W1 ⟨rv1, rfl, hfa, hs1⟩; have hR1 := (HGI.out.keep0 HI.out.keep hfa).cr; have c2 := blk_cell hR1 0; have f2 := blk_frozen hR1 0; simp at c2; have HR1 : Hid _ := hR1; clear hs1 hR1)
        refine ⟨(keeps_fr0 hfa).trans (KeepsOthers.setCell _ _ _), rfl, ?_, ?_, ?_⟩
        · rw [HFO.out]
          have := blk_set HR1.out 0 (.int .i64 (plusT acc t).1); simpa using this
        · rw [HFO.out]; exact H0.out
        · exact (HGI.out.fr.trans hfa).setCell (Or.inr (Nat.le_refl _)) _
  case stop =>
    rintro c' W ⟨rfl, h1, hne0, hf⟩ hD
    gi_wp2
    refine ⟨by simp, .inl ⟨_, _, rfl, run_takeDeferred hD, ?_⟩⟩
    refine ⟨_, res48 (R := w.heap.size) (n := (foldT a ls).1) (by simp) ?_, ?_⟩
    · have := blk_cell (blk_put (o' := .deferred none) hD rfl h1) 0; simpa using this
    · have e1 : foldR (foldT a ls) c r = ((foldT a ls).1, c :: r) := by unfold foldR; rw [if_neg hne0]
      rw [e1]
      exact Out.same H.out (hf.put (by have := HSZ.out; have := HN.out; omega) _) _
  case done =>
    intro W hI hD
    obtain ⟨mv, h1, h2⟩ := hI.cm
    have hvl : vs.length = ls.length + 1 := by rw [HI.out.shs.len, HK.out]; rfl
    rcases h2 with ⟨h2, _⟩ | ⟨hk1, acc, hacc, hza, hfo⟩
    · omega
    · obtain ⟨T2, u2, rfl⟩ := hacc.ex
      have HA : Hid (Sh W acc (.iface T2 u2)) := hacc
      have hfo' : foldT a ls = (0, acc) := by
        rw [hfo, hvl, Nat.add_sub_cancel, List.drop_length]; rfl
      have e1 : foldR (foldT a ls) c r = (0, acc :: r) := by unfold foldR; rw [hfo']; rfl
      have HE1 : Hid (foldR (foldT a ls) c r = (0, acc :: r)) := e1
      have c1 := blk_cell h1 0
      simp at c1
      have HD : Hid (W.heap[W0.heap.size]? = some (.deferred (some []))) := hD
      have HF : Hid (Fr [] w W) := hI.fr
      have HH1 : Hid (Stv W S sl (cv :: us2) false) := H1.out.keep0 hI.fr
      have HH2 : Hid (Shs W (c :: r) (cv :: us2)) := H2.out.kept hI.fr.kc0
      have HCR : Hid (W.heap[w.heap.size]? = some (.cells #[.int .i64 0] 26)) := hI.cr
      clear hI hD h1 hfo hfo' e1 hacc hvl hza
      gi_wp2_with (refine ⟨trivial, ?_⟩; gi_at_call 64; refine (callsIn_wide.2 (swap_st HH1.out HH2.out HR.out 1 (by simp) HA.out)).mono ?_; rintro e w5 ⟨rfl, sl5, h5, m5⟩; have hD5 := HH1.out.keepo m5 HD.out rfl; have hR5 : w5.heap[w.heap.size]? = some (.cells #[.int .i64 0] 26) := m5.fr.keep HCR.out (fun hm => by
          simp at hm
          rcases hm with e | e
          · have := HH1.out.obj; rw [← e, HCR.out] at this; simp at this
          · obtain ⟨cur, hc5⟩ := owns_block HH1.out.row e; rw [HCR.out] at hc5; simp at hc5); have c5 := blk_cell hR5 0; have f5 := blk_frozen hR5 0; simp at c5; have HR5 : Hid _ := hR5; have HD5 : Hid _ := hD5; clear hR5 hD5)
      have hne5 : W0.heap.size ≠ w.heap.size := by have := HSZ.out; have := HN.out; omega
      have hD6 : (w5.setCell ⟨w.heap.size, 0, none⟩ (.int .i64 0)).heap[W0.heap.size]? = some (.deferred (some [])) := blk_set_far HD5.out _ _ hne5
      refine ⟨by simp, .inl ⟨_, _, rfl, run_takeDeferred hD6, ?_⟩⟩
      refine ⟨_, res48 (R := w.heap.size) (n := 0) (by simp) ?_, ?_⟩
      · have h6 := blk_set HR5.out 0 (.int .i64 0)
        have := blk_cell (blk_put (o' := .deferred none) hD6 rfl h6) 0; simpa using this
      · rw [HE1.out]
        exact ⟨rfl, sl5, (h5.setR HR5.out _).put hD6 rfl _, ⟨((Mv.frl HF.out m5).fr.setCell (Or.inr (Nat.le_refl _)) _).put (by have := HSZ.out; have := HN.out; omega) _, (Mv.frl HF.out m5).own⟩⟩

set_option maxHeartbeats 1600000 in
set_option maxRecDepth 100000 in
theorem fold_any {w : World} {S : Nat} {sl : Value} {rs : List Code} (h : St w S sl rs) (hw : Wf rs) :
    Calls Try.prog 48 #[.pointer (some ⟨S, 0, none⟩)] w (Out w S sl (foldW rs)) := by
  have H : Hid (St w S sl rs) := h
  obtain ⟨us, h1, h2⟩ := h
  have hlen := h2.len
  have hl5 := hw.1
  have H1 : Hid (Stv w S sl us false) := h1
  have HL : Hid (us.length ≤ 5) := by show _ ≤ _; omega
  have n0 := asNil_80
  clear h1
  cases rs with
  | nil =>
    cases h2.nil
    clear h2
    go_enter Try.func48, Try.ntmps48
    go_wp2_with (first | (go_at_call 62; refine (peek_any (H1.out.keep0 ((Fr.refl [] w).alloc _)) HL.out 0 (by omega)).mono ?_; rintro e w1 ⟨rfl, hf1⟩; simp only [List.getElem?_nil, Option.getD]) | (go_at_call 65; refine (lack_any (H1.out.keep0 (((Fr.refl [] w).alloc _).trans hf1)) HL.out 1 (by omega)).mono ?_; rintro e w2 ⟨rfl, hf2⟩; simp; have hR := hf2.keep (hf1.keep (blk_new w (.cells #[.int .i64 0] 26)) (by simp)) (by simp); have c5 := blk_cell hR 0; have f5 := blk_frozen hR 0; simp at c5; have HR : Hid _ := hR; clear hR))
    refine bodyPost_ret (v := .int .i64 4) (res48 (R := w.heap.size) (by simp) (by have := blk_cell (blk_set HR.out 0 (.int .i64 4)) 0; simpa using this)) rfl ?_
    exact Out.same H.out (((((Fr.refl [] w).alloc _).trans hf1).trans hf2).setCell (Or.inr (Nat.le_refl _)) _) 4
  | cons c r =>
    obtain ⟨cv, us1, rfl, hc, h4⟩ := h2.cons
    cases hi : isC c with
    | false =>
      have n1 := (noiter_of hc hi).1
      simp only [foldW, hi, Bool.false_eq_true, ↓reduceIte]
      clear h2 h4 hc hw
      go_enter Try.func48, Try.ntmps48
      go_wp2_with (first | (go_at_call 62; refine (peek_any (H1.out.keep0 ((Fr.refl [] w).alloc _)) HL.out 0 (by omega)).mono ?_; rintro e w1 ⟨rfl, hf1⟩; simp only [List.getElem?_cons_zero, Option.getD]) | (go_at_call 65; refine (lack_any (H1.out.keep0 (((Fr.refl [] w).alloc _).trans hf1)) HL.out 1 (by omega)).mono ?_; rintro e w2 ⟨rfl, hf2⟩; simp; have hR := hf2.keep (hf1.keep (blk_new w (.cells #[.int .i64 0] 26)) (by simp)) (by simp); have c5 := blk_cell hR 0; have f5 := blk_frozen hR 0; simp at c5; have HR : Hid _ := hR; clear hR))
      refine bodyPost_ret (v := .int .i64 5) (res48 (R := w.heap.size) (by simp) (by have := blk_cell (blk_set HR.out 0 (.int .i64 5)) 0; simpa using this)) rfl ?_
      exact Out.same H.out (((((Fr.refl [] w).alloc _).trans hf1).trans hf2).setCell (Or.inr (Nat.le_refl _)) _) 5
    | true =>
      cases hk : kids c with
      | cons a ls =>
        simp only [foldW, hi, hk, ↓reduceIte]
        exact fold_ok H.out hw hi hk
      | nil =>
        simp only [foldW, hi, hk, ↓reduceIte]
        obtain ⟨af, gf, lf, rv, bt, vs, Cc, I⟩ := iter_of hc hi
        have n80 := I.as80
        have n86 := I.bs86
        have HI : Hid (Itr w c cv af gf lf rv bt vs Cc) := I
        have HCV : Hid (Sh w c cv) := hc
        have HK : Hid ((kids c).length = 0) := by show _ = _; rw [hk]; rfl
        clear h2 h4 hc hw I
        go_enter Try.func48, Try.ntmps48
        go_wp2_with (first | (go_at_call 62; refine (peek_any (H1.out.keep0 ((Fr.refl [] w).alloc _)) HL.out 0 (by omega)).mono ?_; rintro e w1 ⟨rfl, hf1⟩; simp only [List.getElem?_cons_zero, Option.getD]) | ((with_reducible refine at_inv ?_); refine wpList_invoke0 rfl _ _ rfl cv rfl _ _ (HI.out.cmLen _) _ (HI.out.len _ (Sh.kept (((Fr.refl [] w).alloc _).trans hf1).kc0 _ _ HCV.out) (by rw [HK.out]; omega)) ?_; rintro e w2 ⟨rfl, hf2⟩; refine ⟨_, rfl, ?_⟩; rw [HK.out]; have hR := hf2.keep (hf1.keep (blk_new w (.cells #[.int .i64 0] 26)) (by simp)) (by simp); have c5 := blk_cell hR 0; have f5 := blk_frozen hR 0; simp at c5; have HR : Hid _ := hR; clear hR))
        refine bodyPost_ret (v := .int .i64 8) (res48 (R := w.heap.size) (by simp) (by have := blk_cell (blk_set HR.out 0 (.int .i64 8)) 0; simpa using this)) rfl ?_
        exact Out.same H.out (((((Fr.refl [] w).alloc _).trans hf1).trans hf2).setCell (Or.inr (Nat.le_refl _)) _) 8
end Go.Proofs.Qxb6500336a
