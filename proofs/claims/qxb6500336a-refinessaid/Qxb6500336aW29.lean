import Derived.Test.Qxb6500336aW27
namespace Go.Proofs.Qxb6500336a
open Go.RowKit
set_option linter.unusedVariables false
set_option linter.unusedSimpArgs false

def SoundP (t : Code) : Prop := ∀ (v : Value) (w : World), Sh w t v → Calls Try.prog 56 #[v] w fun e w' => e = .returned (.bool true) ∧ Fr [] w w'
def hdsQ : Code → Prop
  | .seq h t => SoundP h ∧ hdsQ t
  | _ => True

set_option maxHeartbeats 1600000 in
set_option maxRecDepth 100000 in
theorem sound_list (t : Code) (hh : hdsQ t) (hl : isL t = true) : SoundP t := by
  intro v w h
  rcases h.kinds with ⟨n, e1, e2, e3, e4, rfl, hn⟩ | ⟨s, e1, e2, e3, e4, rfl, e5⟩ | ⟨k, e1, e2, e3, e4, rfl⟩ | ⟨c, a, b, B, av, bv, rfl, rfl, hB, ha, hb⟩
  · rw [hl] at e3; cases e3
  · rw [hl] at e3; cases e3
  · have n1 := as75_84
    have n2 := as75_99
    have n3 := as75_92
    have n4 := as75_75
    have H : Hid (Sh w t (.iface 75 (ptrO k))) := h
    have HH : Hid (hdsQ t) := hh
    clear h hh
    go_enter Try.func56, Try.ntmps56
    go_wp2
    go_loopw [11] (fun c wr => ∃ (r : Code) (k : Option Nat), c = ptrO k ∧ Hid (Sh wr r (.iface 75 (ptrO k))) ∧ Hid (hdsQ r) ∧ Fr [] w wr) (fun c _ => ptrM c)
    case atStart => exact ⟨t, k, rfl, H, HH, Fr.refl _ _⟩
    case round =>
      obtain ⟨r, k, rfl, HR, HP, hf⟩ := hrel
      rcases HR.out.lst with ⟨rfl, rfl⟩ | ⟨hd', tl', B', hv', k', rfl, rfl, hB', hs1, hs2, hlt⟩
      · unfold ptrO
        go_wp2
        go_ret
        exact ⟨rfl, hf⟩
      · obtain ⟨hp1, hp2⟩ : SoundP hd' ∧ hdsQ tl' := HP.out
        have HP1 : Hid (SoundP hd') := hp1
        have HP2 : Hid (hdsQ tl') := hp2
        have HB1 : Hid (wr.heap[B']? = some (.cells #[hv', ptrO k'] 78)) := hB'
        have HT : Hid (Sh wr tl' (.iface 75 (ptrO k'))) := hs2
        have HD : Hid (Sh wr hd' hv') := hs1
        have HL : Hid (∀ b, k' = some b → b < B') := hlt
        have c0 := blk_cell hB' 0
        simp at c0
        clear hp1 hp2 hB' hs1 hs2 hlt
        unfold ptrO
        simp only [Option.map]
        go_wp2_with (go_at_call 56; refine (HP1.out hv' wr HD.out).mono ?_; rintro e w1 ⟨rfl, hf1⟩; have c2 := blk_cell (hf1.keep HB1.out (by simp)) 1; simp at c2)
        go_roundw
        case rel => exact ⟨tl', k', rfl, Sh.kept hf1.kc0 _ _ HT.out, HP2, hf.trans hf1⟩
        case measure =>
          cases k' with
          | none => show 0 < _; simp [ptrM]
          | some b => have := HL.out b rfl; show b + 1 < B' + 1; omega
  · simp [isL] at hl

set_option maxHeartbeats 1600000 in
set_option maxRecDepth 100000 in
theorem sound_pair (c : Operand) (a b : Code) (ha : SoundP a) (hb : SoundP b) : SoundP (.cond c a b) := by
  intro v w h
  obtain ⟨B, av, bv, rfl, hB, h3, h4⟩ := h
  have n1 := as92_84
  have n2 := as92_99
  have n3 := as92_92
  have c0 := blk_cell hB 0
  simp at c0
  have HB : Hid (w.heap[B]? = some (.cells #[av, bv] 94)) := hB
  have H3 : Hid (Sh w a av) := h3
  have H4 : Hid (Sh w b bv) := h4
  clear hB h3 h4
  go_enter Try.func56, Try.ntmps56
  go_wp2_with (first | (go_at_call 56; refine (hb bv w1 (Sh.kept hf1.kc0 _ _ H4.out)).mono ?_; rintro e w2 ⟨rfl, hf2⟩) | (go_at_call 56; refine (ha av w H3.out).mono ?_; rintro e w1 ⟨rfl, hf1⟩; have c2 := blk_cell (hf1.keep HB.out (by simp)) 1; simp at c2))
  go_ret
  exact ⟨rfl, hf1.trans hf2⟩

theorem sound_leaf (o : Operand) (p : Array Tmp) (a b : Code) : SoundP (.rangeFunc o p a b) := by
  intro v w h
  have h' : leafS o v := h
  have n1 := as84_84
  have n2 := as99_84
  have n3 := as99_99
  unfold leafS at h'
  split at h'
  · obtain ⟨rfl, _⟩ := h'
    clear h
    go_enter Try.func56, Try.ntmps56
    go_wp2
    go_ret
    exact ⟨rfl, Fr.refl _ _⟩
  · subst h'
    clear h
    go_enter Try.func56, Try.ntmps56
    go_wp2
    go_ret
    exact ⟨rfl, Fr.refl _ _⟩
  · exact h'.elim

theorem sound_all (t : Code) : SoundP t ∧ hdsQ t := by
  induction t with
  | skip => exact ⟨sound_list _ trivial rfl, trivial⟩
  | seq a b iha ihb => exact ⟨sound_list _ ⟨iha.1, ihb.2⟩ rfl, iha.1, ihb.2⟩
  | cond c a b iha ihb => exact ⟨sound_pair c a b iha.1 ihb.1, trivial⟩
  | rangeFunc o p a b _ _ => exact ⟨sound_leaf o p a b, trivial⟩
  | _ => exact ⟨fun v w h => h.elim, trivial⟩

set_option maxHeartbeats 3200000 in
set_option maxRecDepth 100000 in
theorem scheck_any {w : World} {S : Nat} {sl : Value} {rs : List Code} (h : St w S sl rs) (hw : Wf rs) :
    Calls Try.prog 36 #[.pointer (some ⟨S, 0, none⟩)] w fun e w' => e = .returned (.bool true) ∧ Fr [] w w' := by
  obtain ⟨us, h1, h2⟩ := h
  have hlen := h2.len
  have hl5 := hw.1
  have c0 := blk_cell h1.obj 0
  have cb := blk_cell h1.obj 1
  simp at c0 cb
  have H1 : Hid (Stv w S sl us false) := h1
  have HS : Hid (Shs w rs.reverse us.reverse) := h2.rev
  have HW : Hid (Wf rs) := hw
  have hcell : ∀ g, sl.ownBlock = some g → ∀ j v, us.reverse[j]? = some v → w.cell? ⟨g, j, none⟩ = some v := by
    intro g hg j v hv
    have := h1.row.cells hg j v hv
    rwa [show (⟨g, 0, none⟩ : Addr).add j = ⟨g, j, none⟩ from by unfold Addr.add; split <;> simp_all] at this
  have hpn : 0 < us.length → ∃ g cap, sl = .slice (some ⟨g, 0, none⟩) us.length cap := by
    intro h0
    rcases h1.form with ⟨e, rfl⟩ | ⟨g, cap', cur, e, _⟩
    · simp at h0
    · exact ⟨g, cap', e⟩
  obtain ⟨p, cap, rfl⟩ := h1.len
  have HCL : Hid _ := hcell
  have HPN : Hid (0 < us.length → ∃ g, p = some ⟨g, 0, none⟩) := by
    intro h0
    obtain ⟨g, cap', e⟩ := hpn h0
    simp at e
    exact ⟨g, e.1⟩
  clear h1 h2 hcell hpn hw
  have hu5 : us.length ≤ 5 := by omega
  clear hlen hl5
  go_enter Try.func36, Try.ntmps36
  go_wp2
  go_loopw [3, 17] (fun n i wr => ∃ (j : Nat), n = .int .i64 0 ∧ i = .int .i64 j ∧ j ≤ us.length ∧ Fr [] w wr) (fun _ i _ => us.length - (intOf i).toNat)
  case atStart => exact ⟨0, rfl, rfl, by omega, Fr.refl _ _⟩
  case round =>
    obtain ⟨j, rfl, rfl, hj, hf⟩ := hrel
    by_cases hlt : j < us.length
    · obtain ⟨v, hv⟩ : ∃ v, us.reverse[j]? = some v := ⟨_, List.getElem?_eq_getElem (by simpa using hlt)⟩
      obtain ⟨t, ht, hsh⟩ := HS.out.get hv
      obtain ⟨g, rfl⟩ := HPN.out (by omega)
      obtain ⟨cur, hcur⟩ := owns_block H1.out.row (k := g) rfl
      have cj := HCL.out g rfl j v hv
      have c2 : wr.cell? ⟨g, j, none⟩ = some v := by
        rw [blk_cell (hf.keep hcur (by simp))]; rw [blk_cell hcur] at cj; exact cj
      have HSH : Hid (Sh wr t v) := Sh.kept hf.kc0 _ _ hsh
      clear hv ht hsh hcur cj
      go_wp2_with (go_at_call 56; refine ((sound_all t).1 v wr HSH.out).mono ?_; rintro e w2 ⟨rfl, hf2⟩)
      go_roundw
      case rel => exact ⟨j + 1, rfl, by go_num, by omega, hf.trans hf2⟩
      case measure => simp [intOf]; omega
    · have hjj : j = us.length := by omega
      have c3 := blk_cell (H1.out.keep0 hf).obj 0
      simp at c3
      subst hjj
      go_wp2
      go_loopw [34] (fun i wq => ∃ (j : Nat), i = .int .i64 j ∧ j ≤ us.length ∧ Fr [] w wq) (fun i _ => us.length - (intOf i).toNat)
      case atStart => exact ⟨0, rfl, by omega, hf⟩
      case round =>
        obtain ⟨j, rfl, hj, hf'⟩ := hrel
        by_cases hlt' : j < us.length
        · obtain ⟨v, hv⟩ : ∃ v, us.reverse[j]? = some v := ⟨_, List.getElem?_eq_getElem (by simpa using hlt')⟩
          obtain ⟨t, ht, hsh⟩ := HS.out.get hv
          obtain ⟨g, rfl⟩ := HPN.out (by omega)
          obtain ⟨cur, hcur⟩ := owns_block H1.out.row (k := g) rfl
          have cj := HCL.out g rfl j v hv
          have c2 := blk_cell (hf'.keep hcur (by simp)) j
          rw [blk_cell hcur] at cj
          rw [cj] at c2
          have HSH := Sh.kept hf'.kc0 _ _ hsh
          have hmem : t ∈ rs := by simpa using List.mem_of_getElem? ht
          have hz : (tx false t).size ≤ 30 := HW.out.2 t hmem
          have HFT : Hid (ft t = true) := by show _ = _; simp [ft, hz]
          have HZ : Hid ((tx false t).size ≤ 1000) := by show _ ≤ _; omega
          have HSH' : Hid _ := HSH
          clear hv ht hsh hcur cj hmem hz HSH
          go_wp2_with (go_at_call 57; refine (fits_any HSH'.out HZ.out).mono ?_; rintro e w2 ⟨rfl, hf2⟩; rw [HFT.out])
          go_roundw
          case rel => exact ⟨j + 1, by go_num, by omega, hf'.trans hf2⟩
          case measure => simp [intOf]; omega
        · have c4 := blk_cell (H1.out.keep0 hf').obj 0
          simp at c4
          have hjj : j = us.length := by omega
          subst hjj
          go_wp2
          go_ret
          exact ⟨by simp; omega, hf'⟩

set_option maxHeartbeats 6400000 in
set_option maxRecDepth 100000 in
theorem mcheck_any {w : World} {M S : Nat} {sl : Value} {acc : Int} {rs : List Code} (h : Mc w M S sl acc rs) (hw : Wf rs) :
    Calls Try.prog 29 #[.pointer (some ⟨M, 0, none⟩)] w fun e w' => e = .returned (.bool true) ∧ Fr [] w w' := by
  have H : Hid (Mc w M S sl acc rs) := h
  have HW : Hid (Wf rs) := hw
  have c0 := blk_cell h.obj 0
  simp [mch] at c0
  have q1 := nqf_nil
  have q2 := nqf_fn
  have q5 : ∀ (f : Nat) (W : World), (binOp .eql 40 (.func (.func f) #[] #[]) .nilFunc).run Try.prog W = .ok (.bool false) W := fun f W => by kernel_rfl
  have d0 := blk_cell h.obj 2
  have d1 := blk_cell h.obj 3
  have d2 := blk_cell h.obj 4
  have d3 := blk_cell h.obj 5
  have d4 := blk_cell h.obj 6
  have d5 := blk_cell h.obj 7
  have d6 := blk_cell h.obj 8
  have d7 := blk_cell h.obj 9
  have d8 := blk_cell h.obj 10
  have d9 := blk_cell h.obj 11
  have d10 := blk_cell h.obj 12
  have d11 := blk_cell h.obj 13
  have d12 := blk_cell h.obj 14
  have d13 := blk_cell h.obj 15
  have d14 := blk_cell h.obj 16
  have d15 := blk_cell h.obj 17
  have d16 := blk_cell h.obj 18
  have d17 := blk_cell h.obj 19
  have d18 := blk_cell h.obj 20
  have d19 := blk_cell h.obj 21
  have d20 := blk_cell h.obj 22
  have d21 := blk_cell h.obj 23
  have d22 := blk_cell h.obj 24
  have d23 := blk_cell h.obj 25
  have d24 := blk_cell h.obj 26
  have d25 := blk_cell h.obj 27
  simp [mch] at d0 d1 d2 d3 d4 d5 d6 d7 d8 d9 d10 d11 d12 d13 d14 d15 d16 d17 d18 d19 d20 d21 d22 d23 d24 d25
  clear h hw
  go_enter Try.func29, Try.ntmps29
  go_wp2
  go_rounds 27
  clear d0 d1 d2 d3 d4 d5 d6 d7 d8 d9 d10 d11 d12 d13 d14 d15 d16 d17 d18 d19 d20 d21 d22 d23 d24 d25
  go_loopw [5] (fun i wr => ∃ (j : Nat), i = .int .i64 j ∧ j ≤ 9 ∧ Fr [] w wr) (fun i _ => 9 - (intOf i).toNat)
  case atStart => exact ⟨0, rfl, by omega, Fr.refl _ _⟩
  case round =>
    obtain ⟨j, rfl, hj, hf⟩ := hrel
    have hM := H.out.keep0 hf
    have HM : Hid (Mc wr M S sl acc rs) := hM
    have hjj : j = 0 ∨ j = 1 ∨ j = 2 ∨ j = 3 ∨ j = 4 ∨ j = 5 ∨ j = 6 ∨ j = 7 ∨ j = 8 ∨ j = 9 := by omega
    clear hj
    rcases hjj with rfl | rfl | rfl | rfl | rfl | rfl | rfl | rfl | rfl | rfl
    · have d := blk_cell hM.obj 2
      simp [mch] at d
      have hx : ((⟨#[97, 99, 100, 102, 108, 110, 112, 115, 120]⟩ : ByteArray)[0]'(by decide)).toNat = 97 := rfl
      clear hM
      go_wp2
      go_region
      go_wp2
      go_roundw
      case rel => exact ⟨1, rfl, by omega, hf.drew⟩
      case measure => simp [intOf]
    · have d := blk_cell hM.obj 4
      simp [mch] at d
      have hx : ((⟨#[97, 99, 100, 102, 108, 110, 112, 115, 120]⟩ : ByteArray)[1]'(by decide)).toNat = 99 := rfl
      clear hM
      go_wp2
      go_region
      go_wp2
      go_roundw
      case rel => exact ⟨2, rfl, by omega, hf.drew⟩
      case measure => simp [intOf]
    · have d := blk_cell hM.obj 5
      simp [mch] at d
      have hx : ((⟨#[97, 99, 100, 102, 108, 110, 112, 115, 120]⟩ : ByteArray)[2]'(by decide)).toNat = 100 := rfl
      clear hM
      go_wp2
      go_region
      go_wp2
      go_roundw
      case rel => exact ⟨3, rfl, by omega, hf.drew⟩
      case measure => simp [intOf]
    · have d := blk_cell hM.obj 7
      simp [mch] at d
      have hx : ((⟨#[97, 99, 100, 102, 108, 110, 112, 115, 120]⟩ : ByteArray)[3]'(by decide)).toNat = 102 := rfl
      clear hM
      go_wp2
      go_region
      go_wp2
      go_roundw
      case rel => exact ⟨4, rfl, by omega, hf.drew⟩
      case measure => simp [intOf]
    · have d := blk_cell hM.obj 13
      simp [mch] at d
      have hx : ((⟨#[97, 99, 100, 102, 108, 110, 112, 115, 120]⟩ : ByteArray)[4]'(by decide)).toNat = 108 := rfl
      clear hM
      go_wp2
      go_region
      go_wp2
      go_roundw
      case rel => exact ⟨5, rfl, by omega, hf.drew⟩
      case measure => simp [intOf]
    · have d := blk_cell hM.obj 15
      simp [mch] at d
      have hx : ((⟨#[97, 99, 100, 102, 108, 110, 112, 115, 120]⟩ : ByteArray)[5]'(by decide)).toNat = 110 := rfl
      clear hM
      go_wp2
      go_region
      go_wp2
      go_roundw
      case rel => exact ⟨6, rfl, by omega, hf.drew⟩
      case measure => simp [intOf]
    · have d := blk_cell hM.obj 17
      simp [mch] at d
      have hx : ((⟨#[97, 99, 100, 102, 108, 110, 112, 115, 120]⟩ : ByteArray)[6]'(by decide)).toNat = 112 := rfl
      clear hM
      go_wp2
      go_region
      go_wp2
      go_roundw
      case rel => exact ⟨7, rfl, by omega, hf.drew⟩
      case measure => simp [intOf]
    · have d := blk_cell hM.obj 20
      simp [mch] at d
      have hx : ((⟨#[97, 99, 100, 102, 108, 110, 112, 115, 120]⟩ : ByteArray)[7]'(by decide)).toNat = 115 := rfl
      clear hM
      go_wp2
      go_region
      go_wp2
      go_roundw
      case rel => exact ⟨8, rfl, by omega, hf.drew⟩
      case measure => simp [intOf]
    · have d := blk_cell hM.obj 25
      simp [mch] at d
      have hx : ((⟨#[97, 99, 100, 102, 108, 110, 112, 115, 120]⟩ : ByteArray)[8]'(by decide)).toNat = 120 := rfl
      clear hM
      go_wp2
      go_region
      go_wp2
      go_roundw
      case rel => exact ⟨9, rfl, by omega, hf.drew⟩
      case measure => simp [intOf]
    · have d := blk_cell hM.obj 0
      simp [mch] at d
      clear hM
      go_wp2_with (go_at_call 36; refine (scheck_any HM.out.st HW.out).mono ?_; rintro e w2 ⟨rfl, hf2⟩)
      go_ret
      exact ⟨rfl, hf.trans hf2⟩
end Go.Proofs.Qxb6500336a
