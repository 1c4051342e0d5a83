import Derived.Test.Qxb6500336aW14
namespace Go.Proofs.Qxb6500336a
open Go.RowKit
set_option linter.unusedVariables false
set_option linter.unusedSimpArgs false
attribute [local go_sem] Oper.semAt_some

theorem St.put {W : World} {S : Nat} {sl : Value} {rs : List Code} (h : St W S sl rs) {D : Nat} {o : Obj} (hD : W.heap[D]? = some o) (ho : o.isCells = false) (o' : Obj) : St (W.putObj D o') S sl rs := by
  obtain ⟨us, h1, h2⟩ := h
  exact ⟨us, ⟨blk_put hD ho h1.obj, ownsRow_putObj h1.row o' hD ho⟩, h2.kept (kc_put hD ho)⟩
theorem Mv.put {w W : World} {S : Nat} {sl sl' : Value} (h : Mv w W S sl sl') {D : Nat} (hD : w.heap.size ≤ D) (o' : Obj) : Mv w (W.putObj D o') S sl sl' := ⟨h.fr.put hD o', h.own⟩
theorem Stv.keepo {w w' : World} {S : Nat} {sl sl' : Value} {us : List Value} {bz : Bool} (h : Stv w S sl us bz) (m : Mv w w' S sl sl') {D : Nat} {o : Obj} (hD : w.heap[D]? = some o) (ho : o.isCells = false) : w'.heap[D]? = some o :=
  m.fr.keep hD (fun hm => by
    simp at hm
    rcases hm with rfl | hm
    · rw [h.obj] at hD; cases hD; simp [Obj.isCells] at ho
    · obtain ⟨cur, hc⟩ := owns_block h.row hm
      rw [hc] at hD; cases hD; simp [Obj.isCells] at ho)

/-- Find, between two rounds. -/
structure FI (w : World) (N : Nat) (s : ByteArray) (r : Value) (bt : TypeId) (Cc : World → Prop) (ks : List Code) (k : Nat) (W : World) : Prop where
  cw : W.heap[N]? = some (.cells #[.string s] 9)
  ca : W.heap[N + 1]? = some (.cells #[.int .i64 (-1)] 3)
  ci : W.heap[N + 2]? = some (.cells #[.int .i64 k] 3)
  bx : W.heap[N + 3]? = some (.cells #[r] bt)
  cc : Cc W
  fr : Fr [] w W
  nm : findT s ks 0 = findT s (ks.drop k) k
def FX (w : World) (N : Nat) (s : ByteArray) (ks : List Code) (c : Code) (W : World) : Prop :=
  c = .exit 0 ∧ W.heap[N + 1]? = some (.cells #[.int .i64 (findT s ks 0)] 3) ∧ Fr [] w W
theorem FI.put {w : World} {N : Nat} {s : ByteArray} {r : Value} {bt : TypeId} {Cc : World → Prop} {ks : List Code} {k : Nat} {W : World} (hc : ∀ W W', Kc W W' → Cc W → Cc W') (h : FI w N s r bt Cc ks k W) {l : Nat} {o : Obj} (hl : W.heap[l]? = some o) (ho : o.isCells = false) (hw : w.heap.size ≤ l) (o' : Obj) : FI w N s r bt Cc ks k (W.putObj l o') :=
  ⟨blk_put hl ho h.cw, blk_put hl ho h.ca, blk_put hl ho h.ci, blk_put hl ho h.bx, hc _ _ (kc_put hl ho) h.cc, h.fr.put hw o', h.nm⟩
theorem FI.keep0 {w : World} {N : Nat} {s : ByteArray} {r : Value} {bt : TypeId} {Cc : World → Prop} {ks : List Code} {k : Nat} {W W' : World} (hc : ∀ W W', Kc W W' → Cc W → Cc W') (h : FI w N s r bt Cc ks k W) (hf : Fr [] W W') : FI w N s r bt Cc ks k W' :=
  ⟨hf.keep h.cw (by simp), hf.keep h.ca (by simp), hf.keep h.ci (by simp), hf.keep h.bx (by simp), hc _ _ hf.kc0 h.cc, h.fr.trans hf, h.nm⟩
theorem FI.alloc {w : World} {N : Nat} {s : ByteArray} {r : Value} {bt : TypeId} {Cc : World → Prop} {ks : List Code} {k : Nat} {W : World} (hc : ∀ W W', Kc W W' → Cc W → Cc W') (h : FI w N s r bt Cc ks k W) (o : Obj) : FI w N s r bt Cc ks k (W.alloc o) := h.keep0 hc ((Fr.refl [] _).alloc _)
/-- A round that does not match. -/
theorem FI.next {w : World} {N : Nat} {s : ByteArray} {r : Value} {bt : TypeId} {Cc : World → Prop} {ks : List Code} {k : Nat} {W : World} (hc : ∀ W W', Kc W W' → Cc W → Cc W') (h : FI w N s r bt Cc ks k W) (hN : w.heap.size ≤ N) {t : Code} (ht : ks[k]? = some t) (hne : tx false t ≠ s) :
    FI w N s r bt Cc ks (k + 1) (W.setCell ⟨N + 2, 0, none⟩ (.int .i64 ((k + 1 : Nat) : Int))) := by
  have FS : Fr [N + 2] W (W.setCell ⟨N + 2, 0, none⟩ (.int .i64 ((k + 1 : Nat) : Int))) := Fr.setCell (Fr.refl _ _) (Or.inl (by simp)) _
  refine ⟨FS.keep h.cw (by simp), FS.keep h.ca (by simp), ?_, FS.keep h.bx (by simp), hc _ _ (FS.kc ?_) h.cc, h.fr.setCell (Or.inr (by show w.heap.size ≤ N + 2; omega)) _, ?_⟩
  · have := blk_set h.ci 0 (.int .i64 ((k + 1 : Nat) : Int)); simpa using this
  · intro b hb c t hc'
    simp at hb
    rw [hb, h.ci] at hc'
    simp at hc'
    rw [← hc'.2]; simp
  · rw [h.nm, show ks.drop k = t :: ks.drop (k + 1) from by rw [List.drop_eq_getElem?_toList_append, ht]; rfl]
    simp only [findT]
    rw [if_neg hne]
theorem FI.hit {w : World} {N : Nat} {s : ByteArray} {r : Value} {bt : TypeId} {Cc : World → Prop} {ks : List Code} {k : Nat} {W : World} (h : FI w N s r bt Cc ks k W) (hN : w.heap.size ≤ N) {t : Code} (ht : ks[k]? = some t) (he : tx false t = s) :
    FX w N s ks (.exit 0) (W.setCell ⟨N + 1, 0, none⟩ (.int .i64 (k : Int))) := by
  refine ⟨rfl, ?_, h.fr.setCell (Or.inr (by show w.heap.size ≤ N + 1; omega)) _⟩
  have e : findT s ks 0 = (k : Int) := by
    rw [h.nm, show ks.drop k = t :: ks.drop (k + 1) from by rw [List.drop_eq_getElem?_toList_append, ht]; rfl]
    simp only [findT]
    rw [if_pos he]
  rw [e]
  have := blk_set h.ca 0 (.int .i64 (k : Int)); simpa using this
theorem findT_w64 (s : ByteArray) : ∀ (ks : List Code) (i : Nat), ks.length + i ≤ 100000 → w64 (findT s ks i)
  | [], i, _ => by unfold findT w64; omega
  | a :: r, i, h => by
    unfold findT
    split
    · unfold w64; simp at h; omega
    · exact findT_w64 s r (i + 1) (by simp at h; omega)

theorem neq_list {a b : ByteArray} (h : a ≠ b) : (a.toList == b.toList) = false := by
  rw [ByteArray.toList_eq, ByteArray.toList_eq]
  simp only [beq_eq_false_iff_ne]
  exact fun e => h (WideShapes.bytes_inj e)

set_option maxHeartbeats 3200000 in
set_option maxRecDepth 100000 in
theorem find_ok {w : World} {S : Nat} {sl : Value} {x c : Code} {r : List Code} (h : St w S sl (x :: c :: r)) (hw : Wf (x :: c :: r)) (hc : isC c = true) :
    Calls Try.prog 44 #[.pointer (some ⟨S, 0, none⟩)] w (Out w S sl (0, tI (findT (tx false x) (kids c) 0) :: r)) := by
  obtain ⟨us, h1, h2⟩ := h
  have hlen := h2.len
  have hl5 := hw.1
  have HR : Hid ((x :: c :: r).length ≤ 5) := hl5
  have HL : Hid (us.length ≤ 5) := by show _ ≤ _; omega
  have H2 : Hid (Shs w (x :: c :: r) us) := h2
  have H1 : Hid (Stv w S sl us false) := h1
  obtain ⟨xv, us1, rfl, hx, h4⟩ := h2.cons
  obtain ⟨cv, us2, rfl, hcv, h5⟩ := h4.cons
  obtain ⟨af, gf, lf, rv, bt, vs, Cc, I⟩ := iter_of hcv hc
  have n80 := I.as80
  have HI : Hid (Itr w c cv af gf lf rv bt vs Cc) := I
  have HX : Hid (Sh w x xv) := hx
  have hzx : (tx false x).size ≤ 30 := hw.2 x (by simp)
  have hzc : (tx false c).size ≤ 30 := hw.2 c (by simp)
  have HZX : Hid ((tx false x).size ≤ 1000) := by show _ ≤ _; omega
  have hkl : (kids c).length ≤ 30 := Nat.le_trans (kids_len c false) hzc
  have HKZ : Hid (∀ t ∈ kids c, (tx false t).size ≤ 1000) := fun t ht => by have := (kids_size c).2 t ht; omega
  have HKL : Hid ((kids c).length ≤ 30) := hkl
  have m1 := hx.show
  clear hlen hl5 h2 h1 h4 h5 I hx hcv hw hzx hzc hkl
  generalize hs : tx false x = s at *
  have HSX : Hid (tx false x = s) := hs
  clear hs
  refine (callsIn_wide (n := 3)).1 ?_
  refine callsIn_of_wp_marks Try.func44 rfl trivial ?_
  simp only [Try.ntmps44, List.size_toArray, List.length_cons, List.length_nil, Nat.reduceAdd, Nat.reduceSub, Array.replicate_succ, Array.replicate_zero, List.push_toArray, List.append_toArray, List.nil_append, List.cons_append]
  gi_wp2_with (first | (refine ⟨trivial, ?_⟩; gi_at_call 62; refine (callsIn_wide.2 (peek_any (H1.out.keep0 hf1) HL.out 0 (by omega))).mono ?_; rintro e w2 ⟨rfl, hf2⟩; simp only [List.getElem?_cons_zero, Option.getD]) | (refine ⟨trivial, ?_⟩; gi_at_call 62; refine (callsIn_wide.2 (peek_any H1.out HL.out 1 (by omega))).mono ?_; rintro e w1 ⟨rfl, hf1⟩; simp only [List.getElem?_cons_succ, List.getElem?_cons_zero, Option.getD]) | ((with_reducible refine at_invIn ?_); refine wpListIn_invoke0 (fun _ => trivial) rfl rfl _ _ rfl xv rfl _ _ (m1 _) _ (callsIn_wide.2 ((show_all x).1 xv w2 (Sh.kept (hf1.trans hf2).kc0 _ _ HX.out) (by rw [HSX.out]; exact HZX.out))) ?_; rintro e w3 ⟨rfl, hf3⟩; refine ⟨_, rfl, ?_⟩; rw [HSX.out]) | ((with_reducible refine at_invIn ?_); refine wpListIn_invoke0 (fun _ => trivial) rfl rfl _ _ rfl cv rfl _ _ (HI.out.cmAll _) _ (callsIn_wide.2 (HI.out.all _)) ?_; rintro e w4 ⟨rfl, rfl⟩; refine ⟨_, rfl, ?_⟩))
  have hF0 : FI w w3.heap.size s rv bt Cc (kids c) 0 ((((w3.alloc (.cells #[.string s] 9)).alloc (.cells #[.int .i64 (-1)] 3)).alloc (.cells #[.int .i64 0] 3)).alloc (.cells #[rv] bt)) := by
    have g1 := blk_new w3 (.cells #[.string s] 9)
    have g2 := blk_new (w3.alloc (.cells #[.string s] 9)) (.cells #[.int .i64 (-1)] 3)
    have g3 := blk_new ((w3.alloc (.cells #[.string s] 9)).alloc (.cells #[.int .i64 (-1)] 3)) (.cells #[.int .i64 0] 3)
    have g4 := blk_new (((w3.alloc (.cells #[.string s] 9)).alloc (.cells #[.int .i64 (-1)] 3)).alloc (.cells #[.int .i64 0] 3)) (.cells #[rv] bt)
    simp only [World.size_alloc] at g2 g3 g4
    have hfr : Fr [] w ((((w3.alloc (.cells #[.string s] 9)).alloc (.cells #[.int .i64 (-1)] 3)).alloc (.cells #[.int .i64 0] 3)).alloc (.cells #[rv] bt)) := (((((hf1.trans hf2).trans hf3).alloc _).alloc _).alloc _).alloc _
    exact ⟨blk_alloc (blk_alloc (blk_alloc g1 _) _) _, blk_alloc (blk_alloc g2 _) _, blk_alloc g3 _, g4, HI.out.keep _ _ hfr.kc0 HI.out.cc, hfr, rfl⟩
  have HN : Hid (w.heap.size ≤ w3.heap.size) := ((hf1.trans hf2).trans hf3).size
  simp only [World.size_alloc, Nat.add_assoc, Nat.reduceAdd, Act.put, List.setIfInBounds_toArray, List.set_cons_succ, List.set_cons_zero]
  have hsz : ((((w3.alloc (.cells #[.string s] 9)).alloc (.cells #[.int .i64 (-1)] 3)).alloc (.cells #[.int .i64 0] 3)).alloc (.cells #[rv] bt)).heap.size = w3.heap.size + 4 := by simp
  generalize hW0 : ((((w3.alloc (.cells #[.string s] 9)).alloc (.cells #[.int .i64 (-1)] 3)).alloc (.cells #[.int .i64 0] 3)).alloc (.cells #[rv] bt)) = W0 at hF0 hsz ⊢
  have HF0 : Hid _ := hF0
  have HSZ : Hid (W0.heap.size = w3.heap.size + 4) := hsz
  clear hW0 hF0 hsz hf1 hf2 hf3
  generalize w3.heap.size = N at *
  refine wpIn_rangeFunc fun fn _ => range_core fn (gf := gf) (lb := #[.pointer (some ⟨N + 3, 0, none⟩)]) rfl HI.out.ent (HI.out.it (N + 3))
    (FI w N s rv bt Cc (kids c)) (FX w N s (kids c)) (fun _ _ => False) (fun _ _ h => h.elim) (fun k W h => ⟨h.bx, h.cc⟩)
    (fun k W r o h hl => h.put HI.out.keep hl rfl (by have := HSZ.out; have := HN.out; omega) o) (fun c' W r o h hl => ⟨h.1, blk_put hl rfl h.2.1, h.2.2.put (by have := HSZ.out; have := HN.out; omega) o⟩) (fun r => (HF0.out.alloc HI.out.keep _).alloc HI.out.keep _)
    (fun x' => { tmps := (#[Value.pointer (some { block := S, off := 0 }), undef, Value.int IntKind.i64 0, cv, Value.bool true, xv, Value.pointer (some { block := N, off := 0 }), Value.pointer (some { block := N + 1, off := 0 }), Value.pointer (some { block := N + 2, off := 0 }), x', undef, Value.tuple #[cv, Value.bool true], Value.pointer (some { block := S, off := 0 }), cv, Value.tuple #[cv, Value.bool true], cv, Value.bool true, Value.bool true, Value.bool false, undef, undef, Value.pointer (some { block := S, off := 0 }), xv, xv, Value.string s, cv, .func (.func gf) #[] #[.pointer (some ⟨N + 3, 0, none⟩)], x', undef, undef, undef, undef, undef, undef, undef, undef, undef, undef, undef, undef]), defers := [] })
    ?assign ?body ?done ?stop (fun _ _ h => h.elim)
  case assign =>
    intro l x' W K hK
    gi_wp2
    exact hK
  case body =>
    intro l k x' W hI hx'
    obtain ⟨t, ht, hsh⟩ := HI.out.shs.get hx'
    have hsh' := Sh.kept hI.fr.kc0 _ _ hsh
    have m2 := hsh.show
    have HS : Hid (Sh W t x') := hsh'
    have HT : Hid ((kids c)[k]? = some t) := ht
    have HFI : Hid (FI w N s rv bt Cc (kids c) k W) := hI
    have hmem : t ∈ kids c := List.mem_of_getElem? ht
    have HTZ : Hid ((tx false t).size ≤ 1000) := HKZ.out t hmem
    have hk : k < 30 := by
      have := (List.getElem?_eq_some_iff.1 ht).1
      have := HKL.out
      omega
    clear hI hx' ht hsh hsh' hmem
    dsimp only
    by_cases he : tx false t = s
    · have HE : Hid (tx false t = s) := he
      clear he
      gi_wp2_with ((with_reducible refine at_invIn ?_); refine wpListIn_invoke0 (fun _ => trivial) rfl rfl _ _ rfl x' rfl _ _ (m2 _) _ (CallsIn.inRound l (callsIn_wide.2 ((show_all t).1 x' W HS.out HTZ.out))) ?_; rintro e W1 ⟨rfl, hfa⟩; refine ⟨_, rfl, ?_⟩; rw [HE.out]; have hI1 := HFI.out.keep0 HI.out.keep hfa; have c1 := blk_cell hI1.cw 0; have c2 := blk_cell hI1.ca 0; have c3 := blk_cell hI1.ci 0; have f2 := blk_frozen hI1.ca 0; simp at c1 c2 c3; have HI1 : Hid _ := hI1; clear hI1)
      exact ⟨(keeps_fr0 hfa).trans (KeepsOthers.setCell _ _ _), HI1.out.hit HN.out HT.out HE.out⟩
    · have he' := neq_list he
      have HE : Hid (tx false t ≠ s) := he
      clear he
      gi_wp2_with ((with_reducible refine at_invIn ?_); refine wpListIn_invoke0 (fun _ => trivial) rfl rfl _ _ rfl x' rfl _ _ (m2 _) _ (CallsIn.inRound l (callsIn_wide.2 ((show_all t).1 x' W HS.out HTZ.out))) ?_; rintro e W1 ⟨rfl, hfa⟩; refine ⟨_, rfl, ?_⟩; have hI1 := HFI.out.keep0 HI.out.keep hfa; have c1 := blk_cell hI1.cw 0; have c3 := blk_cell hI1.ci 0; have f3 := blk_frozen hI1.ci 0; simp at c1 c3; have HI1 : Hid _ := hI1; clear hI1)
      have := HI1.out.next HI.out.keep HN.out HT.out HE.out
      exact ⟨(keeps_fr0 hfa).trans (KeepsOthers.setCell _ _ _), by simpa using this⟩
  case stop =>
    rintro c' W ⟨rfl, h1, hf⟩ hD
    generalize hjj : findT s (kids c) 0 = j at h1 ⊢
    have HJ : Hid (findT s (kids c) 0 = j) := hjj
    clear hjj
    have H1W := H1.out.keep0 hf
    have HH1 : Hid (Stv W S sl (xv :: cv :: us2) false) := H1W
    have HH2 : Hid (Shs W (x :: c :: r) (xv :: cv :: us2)) := H2.out.kept hf.kc0
    have HD : Hid (W.heap[W0.heap.size]? = some (.deferred (some []))) := hD
    have HF : Hid (Fr [] w W) := hf
    have hj : w64 j := by have := findT_w64 s (kids c) 0 (by have := HKL.out; omega); rwa [HJ.out] at this
    have c1 := blk_cell h1 0
    simp at c1
    clear hf hD h1 H1W
    gi_wp2_with (refine ⟨trivial, ?_⟩; gi_at_call 64; refine (callsIn_wide.2 (swap_st HH1.out HH2.out HR.out 2 (by simp) (Sh.tI hj))).mono ?_; rintro e w5 ⟨rfl, sl5, h5, m5⟩)
    have hD5 := HH1.out.keepo m5 HD.out rfl
    refine ⟨by simp, .inl ⟨_, _, rfl, run_takeDeferred hD5, ?_⟩⟩
    refine ⟨_, results_tmp rfl _ _ _, rfl, sl5, (by show St _ _ _ (tI (findT s (kids c) 0) :: r); rw [HJ.out]; exact h5.put hD5 rfl _), (Mv.frl HF.out m5).put (by have := HSZ.out; have := HN.out; omega) _⟩
  case done =>
    intro W hI hD
    have hf := hI.fr
    have h1 := hI.ca
    have hjj : findT s (kids c) 0 = -1 := by
      have h5 := hI.nm
      rw [HI.out.shs.len, List.drop_length] at h5
      exact h5
    have HJ : Hid (findT s (kids c) 0 = -1) := hjj
    rw [hjj]
    clear hjj hI
    generalize (-1 : Int) = j at *
    have H1W := H1.out.keep0 hf
    have HH1 : Hid (Stv W S sl (xv :: cv :: us2) false) := H1W
    have HH2 : Hid (Shs W (x :: c :: r) (xv :: cv :: us2)) := H2.out.kept hf.kc0
    have HD : Hid (W.heap[W0.heap.size]? = some (.deferred (some []))) := hD
    have HF : Hid (Fr [] w W) := hf
    have hj : w64 j := by have := findT_w64 s (kids c) 0 (by have := HKL.out; omega); rwa [HJ.out] at this
    have c1 := blk_cell h1 0
    simp at c1
    clear hf hD h1 H1W
    gi_wp2_with (refine ⟨trivial, ?_⟩; gi_at_call 64; refine (callsIn_wide.2 (swap_st HH1.out HH2.out HR.out 2 (by simp) (Sh.tI hj))).mono ?_; rintro e w5 ⟨rfl, sl5, h5, m5⟩)
    have hD5 := HH1.out.keepo m5 HD.out rfl
    refine ⟨by simp, .inl ⟨_, _, rfl, run_takeDeferred hD5, ?_⟩⟩
    refine ⟨_, results_tmp rfl _ _ _, rfl, sl5, (by show St _ _ _ (tI (findT s (kids c) 0) :: r); rw [HJ.out]; exact h5.put hD5 rfl _), (Mv.frl HF.out m5).put (by have := HSZ.out; have := HN.out; omega) _⟩


set_option maxHeartbeats 1600000 in
set_option maxRecDepth 100000 in
theorem find_any {w : World} {S : Nat} {sl : Value} {rs : List Code} (h : St w S sl rs) (hw : Wf rs) :
    Calls Try.prog 44 #[.pointer (some ⟨S, 0, none⟩)] w (Out w S sl (findW rs)) := by
  have H : Hid (St w S sl rs) := h
  obtain ⟨us, h1, h2⟩ := h
  have hlen := h2.len
  have hl5 := hw.1
  have H1 : Hid (Stv w S sl us false) := h1
  have HL : Hid (us.length ≤ 5) := by show _ ≤ _; omega
  have n0 := asNil_80
  clear h1
  cases rs with
  | nil =>
    cases h2.nil
    clear h2
    go_enter Try.func44, Try.ntmps44
    go_wp2_with (first | (go_at_call 62; refine (peek_any H1.out HL.out 1 (by omega)).mono ?_; rintro e w1 ⟨rfl, hf1⟩; simp only [List.getElem?_nil, Option.getD]) | (go_at_call 65; refine (lack_any (H1.out.keep0 hf1) HL.out 2 (by omega)).mono ?_; rintro e w2 ⟨rfl, hf2⟩; simp))
    go_ret
    exact Out.same H.out (hf1.trans hf2) 4
  | cons x rs1 =>
    obtain ⟨xv, us1, rfl, hx, h4⟩ := h2.cons
    cases rs1 with
    | nil =>
      cases h4.nil
      clear h2 h4 hx
      go_enter Try.func44, Try.ntmps44
      go_wp2_with (first | (go_at_call 62; refine (peek_any H1.out HL.out 1 (by omega)).mono ?_; rintro e w1 ⟨rfl, hf1⟩; simp only [List.getElem?_nil, List.getElem?_cons_succ, Option.getD]) | (go_at_call 65; refine (lack_any (H1.out.keep0 hf1) HL.out 2 (by omega)).mono ?_; rintro e w2 ⟨rfl, hf2⟩; simp))
      go_ret
      exact Out.same H.out (hf1.trans hf2) 4
    | cons c r =>
      obtain ⟨cv, us2, rfl, hc, h5⟩ := h4.cons
      cases hi : isC c with
      | true => simp only [findW, hi, ↓reduceIte]; exact find_ok H.out hw hi
      | false =>
        have n1 := (noiter_of hc hi).1
        simp only [findW, hi, Bool.false_eq_true, ↓reduceIte]
        clear h2 h4 h5 hx hc hw
        go_enter Try.func44, Try.ntmps44
        go_wp2_with (first | (go_at_call 62; refine (peek_any H1.out HL.out 1 (by omega)).mono ?_; rintro e w1 ⟨rfl, hf1⟩; simp only [List.getElem?_cons_zero, List.getElem?_cons_succ, Option.getD]) | (go_at_call 65; refine (lack_any (H1.out.keep0 hf1) HL.out 2 (by omega)).mono ?_; rintro e w2 ⟨rfl, hf2⟩; simp))
        go_ret
        exact Out.same H.out (hf1.trans hf2) 5
end Go.Proofs.Qxb6500336a
