import Derived.Test.Qxb6500336aW9
namespace Go.Proofs.Qxb6500336a
open Go.RowKit
set_option linter.unusedVariables false
attribute [local go_sem] Oper.semAt_some

/-- The cells of a list: their blocks, their heads. -/
def LC (W : World) : List Nat → List Value → Prop
  | [], [] => True
  | b :: bs, v :: vs => W.heap[b]? = some (.cells #[v, ptrO bs.head?] 78) ∧ (∀ c, bs.head? = some c → c < b) ∧ (∃ T u, v = .iface T u) ∧ LC W bs vs
  | _, _ => False

theorem LC.len {W : World} : ∀ {bs : List Nat} {vs : List Value}, LC W bs vs → bs.length = vs.length
  | [], [], _ => rfl
  | b :: bs, v :: vs, h => by simp [LC.len h.2.2.2]
theorem LC.kept {W W' : World} (hk : Kc W W') : ∀ {bs : List Nat} {vs : List Value}, LC W bs vs → LC W' bs vs
  | [], [], _ => trivial
  | b :: bs, v :: vs, h => ⟨hk _ _ _ (Or.inl rfl) h.1, h.2.1, h.2.2.1, LC.kept hk h.2.2.2⟩
theorem LC.drop {W : World} : ∀ (k : Nat) {bs : List Nat} {vs : List Value}, LC W bs vs → LC W (bs.drop k) (vs.drop k)
  | 0, _, _, h => h
  | k + 1, [], [], _ => trivial
  | k + 1, b :: bs, v :: vs, h => LC.drop k h.2.2.2

theorem Sh.cells {w : World} : ∀ {t : Code} {k : Option Nat}, Sh w t (.iface 75 (ptrO k)) → ∃ bs vs, k = bs.head? ∧ LC w bs vs ∧ Shs w (kids t) vs := by
  intro t
  induction t with
  | skip =>
    intro k h
    rcases h.lst with ⟨_, rfl⟩ | ⟨_, _, _, _, _, e, _⟩
    · exact ⟨[], [], rfl, trivial, trivial⟩
    · cases e
  | seq a b _ ihb =>
    intro k h
    rcases h.lst with ⟨e, _⟩ | ⟨hd, tl, B, hv, k', e, rfl, h2, h3, h4, h5⟩
    · cases e
    · cases e
      obtain ⟨bs, vs, rfl, h6, h7⟩ := ihb h4
      exact ⟨B :: bs, hv :: vs, rfl, ⟨h2, h5, h3.ex, h6⟩, h3, h7⟩
  | _ => intro k h; rcases h.lst with ⟨e, _⟩ | ⟨_, _, _, _, _, e, _⟩ <;> cases e

theorem all_list (w : World) (k : Option Nat) : Calls Try.prog 120 #[ptrO k] w fun e w' => e = .returned (.func (.func 123) #[] #[.pointer (some ⟨w.heap.size, 0, none⟩)]) ∧ w' = w.alloc (.cells #[ptrO k] 75) := by
  unfold ptrO
  go_enter Try.func120, Try.ntmps120
  go_wp2
  go_ret
  exact ⟨rfl, rfl⟩
theorem all_pair (w : World) (B : Nat) : Calls Try.prog 127 #[.pointer (some ⟨B, 0, none⟩)] w fun e w' => e = .returned (.func (.func 131) #[] #[.pointer (some ⟨w.heap.size, 0, none⟩)]) ∧ w' = w.alloc (.cells #[.pointer (some ⟨B, 0, none⟩)] 92) := by
  go_enter Try.func127, Try.ntmps127
  go_wp2
  go_ret
  exact ⟨rfl, rfl⟩

set_option maxHeartbeats 1600000 in
set_option maxRecDepth 100000 in
theorem it_list (Bx : Nat) (bs : List Nat) (vs : List Value) : ItOk 123 #[.pointer (some ⟨Bx, 0, none⟩)] vs (fun W => W.heap[Bx]? = some (.cells #[ptrO bs.head?] 75) ∧ LC W bs vs) := by
  intro m l J X Y W hC hY h0
  refine callsIn_of_wp Try.func123 rfl trivial ?_ rfl
  have c0 := blk_cell (hC 0 W h0).1 0
  simp at c0
  simp only [Try.ntmps123, List.size_toArray, List.length_cons, List.length_nil, Nat.reduceAdd, Nat.reduceSub, Array.replicate_succ, Array.replicate_zero, List.push_toArray, List.append_toArray, List.nil_append, List.cons_append]
  have HC : Hid (∀ k W', J k W' → W'.heap[Bx]? = some (.cells #[ptrO bs.head?] 75) ∧ LC W' bs vs) := hC
  have HY : Hid _ := hY
  have H0 : Hid (J 0 W) := h0
  clear hC hY h0
  generalize hp0 : ptrO bs.head? = p0 at c0
  have HP : Hid (ptrO bs.head? = p0) := hp0
  clear hp0
  gi_wp2
  gi_loopw [3] (fun p wr => ∃ (k : Nat), p = ptrO (bs.drop k).head? ∧ k ≤ vs.length ∧ Hid (J k wr)) (fun p _ => ptrM p)
  case atStart => exact ⟨0, by rw [← HP.out]; rfl, by omega, H0⟩
  case round =>
    obtain ⟨k, rfl, hk, HJ⟩ := hrel
    have hlc := (HC.out k wr HJ.out).2.drop k
    have hlen := (HC.out k wr HJ.out).2.len
    cases hd : bs.drop k with
    | nil =>
      have hkk : k = vs.length := by
        have := congrArg List.length hd
        simp at this; omega
      have HK : Hid (k = vs.length) := hkk
      clear hkk hlc
      simp only [List.head?_nil]
      unfold ptrO
      simp only [Option.map]
      gi_wp2
      go_end0
      exact Or.inl ⟨_, rfl, Or.inl (by rw [← HK.out]; exact HJ.out)⟩
    | cons b rs =>
      cases hv : vs.drop k with
      | nil => rw [hd, hv] at hlc; exact hlc.elim
      | cons v us =>
        rw [hd, hv] at hlc
        obtain ⟨h1, h2, ⟨T, u, rfl⟩, h4⟩ := hlc
        have hkk : vs[k]? = some (.iface T u) := by
          have := congrArg (·[0]?) hv
          simpa using this
        have hkl : k + 1 ≤ vs.length := by
          have := congrArg List.length hv
          simp at this; omega
        have hrs : rs = bs.drop (k + 1) := by
          have : (bs.drop k).tail = rs := by rw [hd]; rfl
          rw [← this, List.tail_drop]
        obtain ⟨fn, tmps, assign, body, hy, hR⟩ := HY.out k (.iface T u) wr HJ.out hkk
        have hc0 := blk_cell h1 0
        simp at hc0
        have HL : Hid (∀ c, rs.head? = some c → c < b) := h2
        have HRS : Hid (rs = bs.drop (k + 1)) := hrs
        have HR : Hid _ := hR
        have HDR : Hid (bs.drop k = b :: rs) := hd
        have HVR : Hid (vs.drop k = .iface T u :: us) := hv
        clear h1 h2 h4 hkk hrs hR hlen hd hv
        simp only [List.head?_cons]
        unfold ptrO
        simp only [Option.map]
        gi_wp2
        refine ⟨fun h => by simp [Fence.wide] at h, RoundIn.mono HR.out ?_⟩
        rintro e W3 (⟨rfl, hJ3⟩ | ⟨rfl, hX3⟩ | ⟨ch, rfl, hY3⟩)
        · have h5 := (HC.out (k + 1) W3 hJ3).2.drop k
          rw [HDR.out, HVR.out] at h5
          have c1 := blk_cell h5.1 1
          simp at c1
          clear h5
          gi_wp2
          go_roundw
          case rel => exact ⟨k + 1, by rw [HRS.out]; rfl, hkl, hJ3⟩
          case measure =>
            cases hq : rs.head? with
            | none => show 0 < _; simp [ptrM]
            | some c => have := HL.out c hq; show c + 1 < b + 1; omega
        · gi_wp2
          refine bodyPost_ret (results_none rfl _ _ _) rfl ?_
          exact Or.inl ⟨_, rfl, Or.inr hX3⟩
        · exact ⟨rfl, Or.inr ⟨ch, rfl, hY3⟩⟩

set_option maxHeartbeats 1600000 in
set_option maxRecDepth 100000 in
theorem it_pair (Bx B : Nat) (T1 T2 : TypeId) (u1 u2 : Value) : ItOk 131 #[.pointer (some ⟨Bx, 0, none⟩)] [.iface T1 u1, .iface T2 u2] (fun W => W.heap[Bx]? = some (.cells #[.pointer (some ⟨B, 0, none⟩)] 92) ∧ W.heap[B]? = some (.cells #[.iface T1 u1, .iface T2 u2] 94)) := by
  intro m l J X Y W hC hY h0
  refine callsIn_of_wp Try.func131 rfl trivial ?_ rfl
  have c0 := blk_cell (hC 0 W h0).1 0
  have c1 := blk_cell (hC 0 W h0).2 0
  simp at c0 c1
  simp only [Try.ntmps131, List.size_toArray, List.length_cons, List.length_nil, Nat.reduceAdd, Nat.reduceSub, Array.replicate_succ, Array.replicate_zero, List.push_toArray, List.append_toArray, List.nil_append, List.cons_append]
  obtain ⟨fn, tmps, assign, body, hy, hR⟩ := hY 0 (.iface T1 u1) W h0 rfl
  have HC : Hid (∀ k W', J k W' → W'.heap[Bx]? = some (.cells #[.pointer (some ⟨B, 0, none⟩)] 92) ∧ W'.heap[B]? = some (.cells #[.iface T1 u1, .iface T2 u2] 94)) := hC
  have HY : Hid _ := hY
  have HR : Hid _ := hR
  clear hC hY h0 hR
  gi_wp2
  refine ⟨fun h => by simp [Fence.wide] at h, RoundIn.mono HR.out ?_⟩
  rintro e W3 (⟨rfl, hJ3⟩ | ⟨rfl, hX3⟩ | ⟨ch, rfl, hY3⟩)
  · obtain ⟨fn2, tmps2, assign2, body2, hy2, hR2⟩ := HY.out 1 (.iface T2 u2) W3 hJ3 rfl
    have c2 := blk_cell (HC.out 1 W3 hJ3).1 0
    have c3 := blk_cell (HC.out 1 W3 hJ3).2 1
    simp at c2 c3
    have HR2 : Hid _ := hR2
    clear hR2
    gi_wp2
    refine ⟨fun h => by simp [Fence.wide] at h, RoundIn.mono HR2.out ?_⟩
    rintro e W4 (⟨rfl, hJ4⟩ | ⟨rfl, hX4⟩ | ⟨ch, rfl, hY4⟩)
    · gi_wp2
      go_end0
      exact Or.inl ⟨_, rfl, Or.inl hJ4⟩
    · gi_wp2
      go_end0
      exact Or.inl ⟨_, rfl, Or.inr hX4⟩
    · exact ⟨rfl, Or.inr ⟨ch, rfl, hY4⟩⟩
  · gi_wp2
    refine bodyPost_ret (results_none rfl _ _ _) rfl ?_
    exact Or.inl ⟨_, rfl, Or.inr hX3⟩
  · exact ⟨rfl, Or.inr ⟨ch, rfl, hY3⟩⟩
end Go.Proofs.Qxb6500336a
