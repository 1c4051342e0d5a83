import Derived.Test.Qxb6500336aW17
import Derived.OwnWalk
namespace Go.Proofs.Qxb6500336a
open Go.RowKit
set_option linter.unusedVariables false
set_option linter.unusedSimpArgs false

theorem XOut.no {w w' : World} {S : Nat} {sl sl' : Value} {us' : List Value} {n : Int} {rs : List Code} {pv : Value} (hn : n ≠ 0) (hp : PV pv n) (h : Stv w' S sl' us' true) (m : Mv w w' S sl sl') : XOut w S sl (n, rs) (.panicked (pe pv)) w' :=
  Or.inr ⟨hn, ⟨pv, rfl, hp⟩, sl', us', h, m⟩
theorem PV.ta (q : Value) : PV (.iface 15 q) 5 := Or.inr ⟨rfl, Or.inl ⟨q, rfl⟩⟩
theorem PV.rt (q : Value) : PV (.iface 10 q) 5 := Or.inr ⟨rfl, Or.inr ⟨q, rfl⟩⟩

theorem bare_noint {w : World} {t : Code} {v : Value} (h : Sh w t v) (hi : isI t = none) (W : World) : ∃ o, (Instr.typeAssert v 65 84 false).run Try.prog W = .halt (.panic (.iface 15 (.pointer (some ⟨W.heap.size, 0, none⟩)))) (W.alloc o) := by
  rcases h.kinds with ⟨n, e1, e2, e3, e4, rfl, hn⟩ | ⟨s, e1, e2, e3, e4, rfl, e5⟩ | ⟨k, e1, e2, e3, e4, rfl⟩ | ⟨c, a, b, B, av, bv, rfl, rfl, hB, ha, hb⟩
  · rw [hi] at e1; cases e1
  · exact bare99_84 _ W
  · exact bare75_84 _ W
  · exact bare92_84 _ W
theorem bare_int {w : World} {t : Code} {v : Value} {n : Int} (h : Sh w t v) (hi : isI t = some n) : v = .iface 84 (.int .i64 n) ∧ w64 n := by
  rcases h.kinds with ⟨m, e1, e2, e3, e4, rfl, hn⟩ | ⟨s, e1, e2, e3, e4, rfl, e5⟩ | ⟨k, e1, e2, e3, e4, rfl⟩ | ⟨c, a, b, B, av, bv, rfl, rfl, hB, ha, hb⟩
  · rw [hi] at e1; cases e1; exact ⟨rfl, hn⟩
  · rw [hi] at e1; cases e1
  · rw [hi] at e1; cases e1
  · cases hi

set_option maxHeartbeats 1600000 in
set_option maxRecDepth 100000 in
theorem quot_any {w : World} {S : Nat} {sl : Value} {rs : List Code} (h : Sb w S sl rs true) (hw : Wf rs) :
    Calls Try.prog 73 #[.pointer (some ⟨S, 0, none⟩)] w (XOut w S sl (quoX rs)) := by
  obtain ⟨us, h1, h2⟩ := h
  have hlen := h2.len
  have hl5 := hw.1
  have H1 : Hid (Stv w S sl us true) := h1
  have n84 := bs84_84
  clear h1
  cases rs with
  | nil =>
    cases h2.nil
    clear h2
    go_enter Try.func73, Try.ntmps73
    go_wp2_with (go_at_call 80; refine (take_nil H1.out).mono ?_; rintro e w1 ⟨rfl, hf1⟩; obtain ⟨o, ho⟩ := bareNil_84 w1)
    exact ⟨rfl, XOut.no (by simp) (PV.ta _) (H1.out.keep0 (hf1.alloc _)) (Mv.ofFr (hf1.alloc _))⟩
  | cons b rs1 =>
    obtain ⟨bv, us1, rfl, hb, h4⟩ := h2.cons
    obtain ⟨TB, ub, rfl⟩ := hb.ex
    have hl4 : us1.length ≤ 4 := by simp at hlen hl5; omega
    have HL4 : Hid (us1.length ≤ 4) := hl4
    have HB : Hid (Sh w b (.iface TB ub)) := hb
    cases hib : isI b with
    | none =>
      have e5 : quoX (b :: rs1) = (5, b :: rs1) := by cases rs1 <;> simp [quoX, hib]
      rw [e5]
      clear h2 h4 hb hw hlen hl5 e5
      go_enter Try.func73, Try.ntmps73
      go_wp2_with (go_at_call 80; refine (take_cons H1.out HL4.out).mono ?_; rintro e w1 ⟨rfl, sl1, h1, m1⟩; obtain ⟨o, ho⟩ := bare_noint HB.out hib w1)
      exact ⟨rfl, XOut.no (by simp) (PV.ta _) (h1.keep0 ((Fr.refl [] _).alloc _)) (m1.frr ((Fr.refl [] _).alloc _))⟩
    | some m =>
      obtain ⟨e1, hm⟩ := bare_int hb hib
      cases e1
      have HM : Hid (w64 m) := hm
      cases rs1 with
      | nil =>
        cases h4.nil
        have e5 : quoX [b] = (5, [b]) := by simp [quoX]
        rw [e5]
        clear h2 h4 hb hw hlen hl5 e5
        go_enter Try.func73, Try.ntmps73
        go_wp2_with (first | (go_at_call 80; refine (take_nil h1).mono ?_; rintro e w2 ⟨rfl, hf2⟩; obtain ⟨o, ho⟩ := bareNil_84 w2) | (go_at_call 80; refine (take_cons H1.out HL4.out).mono ?_; rintro e w1 ⟨rfl, sl1, h1, m1⟩))
        exact ⟨rfl, XOut.no (by simp) (PV.ta _) (h1.keep0 (hf2.alloc _)) (m1.frr (hf2.alloc _))⟩
      | cons a r =>
        obtain ⟨av, us2, rfl, ha, h5⟩ := h4.cons
        obtain ⟨TA, ua, rfl⟩ := ha.ex
        have HA : Hid (Sh w a (.iface TA ua)) := ha
        have HL3 : Hid (us2.length ≤ 4) := by show _ ≤ _; simp at hl4; omega
        have HRR : Hid (Shs w r us2) := h5
        have HRL : Hid (r.length < 5) := by show _ < _; simp at hl5; omega
        cases hia : isI a with
        | none =>
          have e5 : quoX (b :: a :: r) = (5, b :: a :: r) := by simp [quoX, hib, hia]
          rw [e5]
          clear h2 h4 h5 ha hb hw hlen hl5 e5
          go_enter Try.func73, Try.ntmps73
          go_wp2_with (first | (go_at_call 80; refine (take_cons h1 HL3.out).mono ?_; rintro e w2 ⟨rfl, sl2, h2, m2⟩; obtain ⟨o, ho⟩ := bare_noint HA.out hia w2) | (go_at_call 80; refine (take_cons H1.out HL4.out).mono ?_; rintro e w1 ⟨rfl, sl1, h1, m1⟩))
          exact ⟨rfl, XOut.no (by simp) (PV.ta _) (h2.keep0 ((Fr.refl [] _).alloc _)) ((m1.trans m2).frr ((Fr.refl [] _).alloc _))⟩
        | some n =>
          obtain ⟨e2, hn⟩ := bare_int ha hia
          cases e2
          by_cases hm0 : m = 0
          · subst hm0
            have e5 : quoX (b :: a :: r) = (5, b :: a :: r) := by simp [quoX, hib, hia]
            rw [e5]
            clear h2 h4 h5 ha hb hw hlen hl5 e5
            go_enter Try.func73, Try.ntmps73
            go_wp2_with (first | (go_at_call 80; refine (take_cons h1 HL3.out).mono ?_; rintro e w2 ⟨rfl, sl2, h2, m2⟩) | (go_at_call 80; refine (take_cons H1.out HL4.out).mono ?_; rintro e w1 ⟨rfl, sl1, h1, m1⟩))
            exact ⟨rfl, XOut.no (by simp) (PV.rt _) h2 (m1.trans m2)⟩
          · have e5 : quoX (b :: a :: r) = (0, tI (wrap64 (n.tdiv m)) :: r) := by simp [quoX, hib, hia, hm0]
            rw [e5]
            have hm1 : (m == 0) = false := by simpa using hm0
            clear h2 h4 h5 ha hb hw hlen hl5 e5
            go_enter Try.func73, Try.ntmps73
            go_wp2_with (first | (go_at_call 80; refine (take_cons h1 HL3.out).mono ?_; rintro e w2 ⟨rfl, sl2, h2, m2⟩) | (go_at_call 80; refine (take_cons H1.out HL4.out).mono ?_; rintro e w1 ⟨rfl, sl1, h1, m1⟩))
            have hS2 : Shs w2 r us2 := (HRR.out.kept (H1.out.kc m1)).kept (h1.kc m2)
            refine (give_ok h2 hS2 HRL.out (Sh.tI (w_out _))).mono ?_
            rintro e w3 ⟨rfl, sl3, h3, m3⟩
            go_wp2
            go_end0
            exact Or.inl ⟨rfl, rfl, sl3, h3, (m1.trans m2).trans m3⟩

set_option maxHeartbeats 800000 in
theorem under_full {w : World} {S : Nat} {sl : Value} {us : List Value} {bz : Bool} {v : Value} (h : Stv w S sl us bz) (hl : 5 ≤ us.length) (hl2 : us.length ≤ 100) :
    Calls Try.prog 82 #[.pointer (some ⟨S, 0, none⟩), v] w fun e w' => e = .panicked (pe (.iface 26 (.int .i64 3))) ∧ w' = w := by
  have c0 := blk_cell h.obj 0
  simp at c0
  obtain ⟨p, cap, rfl⟩ := h.len
  clear h
  generalize us.length = n at *
  go_enter Try.func82, Try.ntmps82
  go_wp2
  exact ⟨rfl, rfl, rfl⟩

theorem Shs.one {w : World} {ts : List Code} {vs : List Value} (h : Shs w ts vs) : ∀ v ∈ vs, v.oneCell' = true := by
  intro v hv
  obtain ⟨j, hj⟩ := List.getElem?_of_mem hv
  obtain ⟨T, u, rfl⟩ := h.iface hj
  simp [Value.oneCell']

set_option maxHeartbeats 3200000 in
set_option maxRecDepth 100000 in
theorem under_ok {w : World} {S g cap : Nat} {us : List Value} {bz : Bool} {T : TypeId} {u : Value} (h : Stv w S (.slice (some ⟨g, 0, none⟩) us.length cap) us bz) (hone : ∀ v ∈ us, v.oneCell' = true) (hl : us.length < 5) (h0 : 0 < us.length) :
    Calls Try.prog 82 #[.pointer (some ⟨S, 0, none⟩), .iface T u] w fun e w' => e = .returned (.tuple #[]) ∧ ∃ g' cap', Stv w' S (.slice (some ⟨g', 0, none⟩) (us ++ [Value.iface T u]).length cap') (us ++ [Value.iface T u]) bz ∧ Fr [S] w w' ∧ w.heap.size ≤ g' := by
  obtain ⟨i65, hi65, hz65⟩ := info_parts info65
  have c0 := blk_cell h.obj 0
  simp at c0
  have hS := blk_lt h.obj
  have H : Hid (Stv w S (.slice (some ⟨g, 0, none⟩) us.length cap) us bz) := h
  have HONE : Hid (∀ v ∈ us.reverse, v.oneCell' = true) := fun v hv => hone v (by simpa using hv)
  clear h hone
  go_enter Try.func82, Try.ntmps82
  go_wp2_with (first | (at_make; refine wpList_make_own _ rfl _ _ 53 rfl w.heap.size 65 i65 .nilIface 1 Try.underlying53 hi65 hz65.1 hz65.2.1 _ _ _ (us.length + 1) rfl rfl (by simp) (by rw [hz65.2.2]; omega) (by unfold maxLen; omega) (by omega) ?_))
  intro wA hownA hgrowA
  have FA : Fr [] w wA := Fr.ofGrown hgrowA
  have HOA : Hid (wA.ownsRow w.heap.size 65 1 (.slice (some ⟨w.heap.size, 0, none⟩) 0 (us.length + 1)) 0 []) := hownA
  have HFA : Hid (Fr [] w wA) := FA
  have hszA := FA.size
  clear hownA hgrowA FA
  go_wp2_with (at_builtin; refine wpList_append_lies _ rfl _ _ _ rfl w.heap.size 65 i65 .nilIface 1 16 Try.underlying53 hi65 hz65.1 hz65.2.1 hz65.2.2 rfl (by omega) (.slice (some ⟨w.heap.size, 0, none⟩) 0 (us.length + 1)) 0 [] rfl (HOA.out.alloc _) ⟨wA.heap.size, 0, none⟩ 1 1 [.iface T u] rfl rfl (World.news_of_block (heap_alloc_new _ _)) (by simp [Value.oneCell']) (by omega) (by unfold maxLen; omega) (by omega) (by simp; omega) (wA.heap.size + 1) (by simp) ?_)
  intro g1 cap1 wB hownB hgrowB hatB hltB
  have FB : Fr [] w wB := (HFA.out.alloc _).narrow (Fr.ofGrown hgrowB) (fun i hi => by simp [Value.ownBlock] at hi; subst hi; exact Or.inr (Nat.le_refl _))
  have hg1 : w.heap.size ≤ g1 := owns_base hownB rfl
  have HB1 : Hid (Stv wB S (.slice (some ⟨g, 0, none⟩) us.length cap) us bz) := H.out.keep0 FB
  have HOB : Hid (wB.ownsRow w.heap.size 65 1 (.slice (some ⟨g1, 0, none⟩) 1 cap1) 1 [.iface T u]) := hownB
  have HFB : Hid (Fr [] w wB) := FB
  have hszB := FB.size
  have c1 := blk_cell HB1.out.obj 0
  simp at c1
  have hnews : ∀ j u', us.reverse[j]? = some u' → wB.cell? ((⟨g, 0, none⟩ : Addr).add j) = some u' := HB1.out.row.cells rfl
  have HNW : Hid _ := hnews
  clear hownB hgrowB hatB FB hnews HOA HFA
  go_wp2_with (at_builtin; refine wpList_append_lies _ rfl _ _ _ rfl w.heap.size 65 i65 .nilIface 1 16 Try.underlying53 hi65 hz65.1 hz65.2.1 hz65.2.2 rfl (by omega) (.slice (some ⟨g1, 0, none⟩) 1 cap1) 1 [.iface T u] rfl HOB.out ⟨g, 0, none⟩ us.length cap us.reverse rfl (by simp) HNW.out HONE.out (by omega) (by unfold maxLen; omega) (by omega) (by omega) wB.heap.size rfl ?_)
  intro g2 cap2 wC hownC hgrowC hatC hltC
  have FC : Fr [] w wC := HFB.out.narrow (Fr.ofGrown hgrowC) (fun i hi => by simp [Value.ownBlock] at hi; subst hi; exact Or.inr hg1)
  have hg2 : w.heap.size ≤ g2 := owns_base hownC rfl
  have HC1 : Hid (Stv wC S (.slice (some ⟨g, 0, none⟩) us.length cap) us bz) := H.out.keep0 FC
  have c2 := blk_cell HC1.out.obj 0
  have f2 := blk_frozen HC1.out.obj 0
  simp at c2
  have HOC : Hid (wC.ownsRow w.heap.size 65 1 (.slice (some ⟨g2, 0, none⟩) (1 + us.length) cap2) (1 + us.length) ([.iface T u] ++ us.reverse)) := hownC
  have HFC : Hid (Fr [] w wC) := FC
  clear hownC hgrowC hatC FC c1
  go_wp2
  go_end0
  refine ⟨rfl, g2, cap2, ?_, (HFC.out.widen).setCell (Or.inl (by simp)) _, hg2⟩
  have hlen : (us ++ [Value.iface T u]).length = 1 + us.length := by simp; omega
  have hne : g2 ≠ S := by omega
  refine ⟨?_, ?_⟩
  · rw [hlen]; have := blk_set HC1.out.obj 0 (.slice (some ⟨g2, 0, none⟩) (1 + us.length) cap2); simpa using this
  · have h5 := owns_keep HOC.out (Fr.setCell (S := [S]) (Fr.refl _ _) (p := ⟨S, 0, none⟩) (Or.inl (by simp)) (.slice (some ⟨g2, 0, none⟩) (1 + us.length) cap2)) (fun k hk => by simp [Value.ownBlock] at hk; subst hk; simpa using hne)
    rw [hlen, List.reverse_append]
    obtain ⟨e1, e2⟩ := h5
    refine ⟨e1, ?_⟩
    rcases e2 with ⟨e3, _⟩ | ⟨g', cap', cur, e3, e4, e5⟩
    · simp at e3
    · exact Or.inr ⟨g', cap', cur, e3, by omega, e5⟩

/-- A stack within a range over its own slice. -/
structure EI (w : World) (S : Nat) (sl : Value) (us : List Value) (k : Nat) (W : World) : Prop where
  st : ∃ g cap, Stv W S (.slice (some ⟨g, 0, none⟩) (us ++ us.reverse.take k).length cap) (us ++ us.reverse.take k) true ∧ Own w sl (.slice (some ⟨g, 0, none⟩) (us ++ us.reverse.take k).length cap)
  fr : Fr [S] w W

set_option maxHeartbeats 3200000 in
set_option maxRecDepth 100000 in
theorem echo_any {w : World} {S : Nat} {sl : Value} {rs : List Code} (h : Sb w S sl rs true) (hw : Wf rs) :
    Calls Try.prog 72 #[.pointer (some ⟨S, 0, none⟩)] w (XOut w S sl (echX rs)) := by
  obtain ⟨us, h1, h2⟩ := h
  have hlen := h2.len
  have hl5 := hw.1
  have c0 := blk_cell h1.obj 0
  simp at c0
  have H1 : Hid (Stv w S sl us true) := h1
  have H2 : Hid (Shs w rs us) := h2
  rcases h1.form with ⟨rfl, rfl⟩ | ⟨g, cap, cur, rfl, hg, h5, h6, h7, h8⟩
  · have : rs = [] := by cases rs with | nil => rfl | cons => simp at hlen
    subst this
    clear h1 h2
    go_enter Try.func72, Try.ntmps72
    go_wp2
    refine wp_loop_once ?_
    go_wp2
    go_end0
    exact Or.inl ⟨rfl, rfl, _, ⟨[], H1.out, trivial⟩, Mv.refl _ _ _⟩
  · have hcell : ∀ j v, us.reverse[j]? = some v → w.cell? ⟨g, j, none⟩ = some v := by
      intro j v hj
      have := (List.getElem?_eq_some_iff.1 hj).1
      rw [blk_cell hg]
      have e : (cur.toList.take us.length)[j]? = us.reverse[j]? := by rw [h8]
      rw [List.getElem?_take_of_lt (by simpa using this), hj] at e
      simpa using e
    have HCL : Hid (∀ j v, us.reverse[j]? = some v → w.cell? ⟨g, j, none⟩ = some v) := hcell
    have HG : Hid (w.heap[g]? = some (.cells cur 65)) := hg
    have hgS : g ≠ S := h1.far rfl
    have hn5 : us.length ≤ 5 := by omega
    have HLN : Hid (us.length = rs.length) := hlen
    have HE0 : Hid (EI w S (.slice (some ⟨g, 0, none⟩) us.length cap) us 0 w) := ⟨⟨g, cap, by simpa using h1, Or.inl rfl⟩, Fr.refl _ _⟩
    clear h1 h2 h7 h8 hg hcell
    go_enter Try.func72, Try.ntmps72
    go_wp2
    go_loopw [9] (fun i wr => ∃ k : Nat, i = .int .i64 k ∧ k ≤ us.length ∧ us.length + k ≤ 5 ∧ Hid (EI w S (.slice (some ⟨g, 0, none⟩) us.length cap) us k wr)) (fun i _ => us.length - (intOf i).toNat)
    case atStart => exact ⟨0, rfl, by omega, by omega, HE0⟩
    case round =>
      obtain ⟨k, rfl, hk, hk5, HE⟩ := hrel
      by_cases hkn : k < us.length
      · obtain ⟨v, hv⟩ : ∃ v, us.reverse[k]? = some v := ⟨_, List.getElem?_eq_getElem (by simpa using hkn)⟩
        obtain ⟨T, u, rfl⟩ := H2.out.rev.iface hv
        have c1 : wr.cell? ⟨g, k, none⟩ = some (.iface T u) := by
          rw [blk_cell (HE.out.fr.keep HG.out (by simpa using hgS)), ← blk_cell HG.out]; exact HCL.out k _ hv
        obtain ⟨g', cap', hst, hown⟩ := HE.out.st
        have hll : (us ++ us.reverse.take k).length = us.length + k := by simp; omega
        have HST : Hid (Stv wr S (.slice (some ⟨g', 0, none⟩) (us ++ us.reverse.take k).length cap') (us ++ us.reverse.take k) true) := hst
        have HOW : Hid _ := hown
        have HLL : Hid ((us ++ us.reverse.take k).length = us.length + k) := hll
        have HV : Hid (us.reverse[k]? = some (.iface T u)) := hv
        clear hst hown hll hv
        by_cases hfull : us.length + k < 5
        · have HONE : Hid (∀ v ∈ us ++ us.reverse.take k, v.oneCell' = true) := by
            intro v hv
            rcases List.mem_append.1 hv with hv | hv
            · exact H2.out.one v hv
            · exact H2.out.one v (by simpa using List.mem_of_mem_take hv)
          go_wp2_with (go_at_call 82; refine (under_ok HST.out HONE.out (by have := HLL.out; omega) (by have := HLL.out; omega)).mono ?_; rintro e W1 ⟨rfl, g3, cap3, hst3, hf3, hg3⟩)
          go_roundw
          case rel =>
            refine ⟨k + 1, by go_num, by omega, by omega, ⟨g3, cap3, ?_, Or.inr ⟨g3, rfl, Nat.le_trans HE.out.fr.size hg3⟩⟩, HE.out.fr.trans hf3⟩
            rw [List.append_assoc, take_snoc HV.out] at hst3
            exact hst3
          case measure => simp [intOf]; omega
        · go_wp2_with (go_at_call 82; refine (under_full HST.out (by have := HLL.out; omega) (by have := HLL.out; omega)).mono ?_; rintro e W1 ⟨rfl, rfl⟩)
          refine ⟨rfl, ?_⟩
          have e3 : echX rs = (3, rs) := by unfold echX; rw [if_neg (by have := HLN.out; omega)]
          rw [e3]
          exact XOut.no (by simp) (Or.inl rfl) HST.out ⟨HE.out.fr.mono (fun i hi => by simp at hi; simp [hi]), HOW.out⟩
      · have hkk : k = us.length := by omega
        subst hkk
        obtain ⟨g', cap', hst, hown⟩ := HE.out.st
        have HST : Hid _ := hst
        have HOW : Hid _ := hown
        clear hst hown
        go_wp2
        go_end0
        have e3 : echX rs = (0, rs ++ rs.reverse) := by unfold echX; rw [if_pos (by have := HLN.out; omega)]
        rw [e3]
        have m : Mv w wr S (.slice (some ⟨g, 0, none⟩) us.length cap) (.slice (some ⟨g', 0, none⟩) (us ++ us.reverse.take us.length).length cap') := ⟨HE.out.fr.mono (fun i hi => by simp at hi; simp [hi]), HOW.out⟩
        refine Or.inl ⟨rfl, rfl, _, ⟨_, HST.out, ?_⟩, m⟩
        rw [List.take_of_length_le (by simp)]
        have hS := H2.out.kept (H1.out.kc m)
        exact hS.app hS.rev
end Go.Proofs.Qxb6500336a
