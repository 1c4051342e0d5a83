import Derived.Test.Qxb6500340aW8
namespace Go.Proofs.Qxb6500340a
open Go.RowKit
set_option linter.unusedVariables false
set_option linter.unusedSimpArgs false

def initS : St := ⟨totV, fun _ => false, fun _ => zeroV, fun _ => zeroV⟩

set_option maxHeartbeats 1600000 in
set_option maxRecDepth 100000 in
theorem new_any (w : World) : Calls Try.prog 13 #[] w fun e w' => ∃ b, w.heap.size ≤ b ∧ e = .returned (.pointer (some ⟨b, 0, none⟩)) ∧ BkI w' b initS ∧ Fr [] w w' := by
  go_enter Try.func13, Try.ntmps13
  go_wp2_with fail
  go_at_call 17
  refine (total_any _).mono ?_
  rintro e w1 ⟨rfl, hf1⟩
  go_wp2
  go_ret
  exact ⟨w1.heap.size, hf1.size, rfl, blk_new _ _, hf1.alloc _⟩

set_option maxHeartbeats 1600000 in
theorem order_any (w : World) (b : Nat) (s : St) (cert : ByteArray) (hb : Bk w b s cert) :
    Calls Try.prog 20 #[.pointer (some ⟨b, 0, none⟩)] w fun e w' => e = .returned (.tuple #[.string cert, .int .i64 0]) ∧ Fr [] w w' := by
  have ce := hb.ce
  clear hb
  go_enter Try.func20, Try.ntmps20
  go_wp2
  go_ret2
  exact ⟨rfl, Fr.refl _ _⟩

set_option maxHeartbeats 1600000 in
theorem avail_any (w : World) (b : Nat) (s : St) (cert : ByteArray) (hb : Bk w b s cert) :
    Calls Try.prog 18 #[.pointer (some ⟨b, 0, none⟩)] w fun e w' => e = .returned (.agg #[.int .i64 s.av.a, .int .i64 s.av.b]) ∧ Fr [] w w' := by
  have ca := hb.aa
  have cb := hb.ab
  have hl := blk_lt hb
  clear hb
  go_enter Try.func18, Try.ntmps18
  go_wp2
  exact bodyPost_ret (v := .agg #[.int .i64 s.av.a, .int .i64 s.av.b]) (by simp [results, Try.results18, go_sem, ca, cb]) rfl ⟨rfl, (Fr.refl _ _).alloc _⟩

/-- The claim of slot p. -/
def clm (s : St) (p : Nat) : Vc := (s.need p).add (s.held p)
/-- Show, up to slot n. -/
def shw (s : St) : Nat → ByteArray
  | 0 => txt s.av
  | n + 1 => shw s n ++ rowT (s.live n) (clm s n) (s.held n)

theorem Inv.okc {s : St} (h : Inv s) {p : Nat} (hp : p < 4) : okV (clm s p) ∧ okV (s.held p) := by
  have := h.slot p hp
  unfold okV clm
  simp only [Vc.add]
  omega
theorem Inv.oka {s : St} (h : Inv s) : okV s.av := by
  have h0 := h.slot 0 (by omega)
  have h1 := h.slot 1 (by omega)
  have h2 := h.slot 2 (by omega)
  have h3 := h.slot 3 (by omega)
  have ha := h.ava; have hb := h.avb; have hc := h.suma; have hd := h.sumb
  unfold okV; omega
theorem dgT_size (x : Int) : (dgT x).size = 1 := rfl
theorem txt_size (v : Vc) : (txt v).size = 3 := by simp [txt, dgT_size]; rfl
theorem row_size (l : Bool) (c h : Vc) : (rowT l c h).size ≤ 8 := by
  cases l
  · show 2 ≤ 8; omega
  · simp [rowT, txt_size]; decide
theorem shw_size (s : St) (n : Nat) : (shw s n).size ≤ 3 + 8 * n := by
  induction n with
  | zero => simp [shw, txt_size]
  | succ n ih => have := row_size (s.live n) (clm s n) (s.held n); simp only [shw, ByteArray.size_append]; omega

set_option maxHeartbeats 3200000 in
set_option maxRecDepth 100000 in
theorem show_any (w : World) (b : Nat) (s : St) (cert : ByteArray) (hb : Bk w b s cert) (hi : Inv s) :
    Calls Try.prog 24 #[.pointer (some ⟨b, 0, none⟩)] w fun e w' => e = .returned (.string (shw s 4)) ∧ Fr [] w w' := by
  have ca := hb.aa
  have cb := hb.ab
  have hl := blk_lt hb
  have HB : Hid (Bk w b s cert) := hb
  have HI : Hid (Inv s) := hi
  clear hb hi
  go_enter Try.func24, Try.ntmps24
  go_wp2_with fail
  go_at_call 11
  refine (text_any _ s.av HI.out.oka).mono ?_
  rintro e w1 ⟨rfl, hf1⟩
  have HB1 : Hid (Bk w1 b s cert) := hf1.keep HB.out (by simp)
  clear HB ca cb
  go_wp2
  go_loopg [3, 13] 4 (fun g s3 s13 wx => ∃ k : Nat, k + g = 4 ∧ s13 = .int .i64 k ∧ s3 = .string (shw s k) ∧ Hid (Bk wx b s cert) ∧ Fr [] w wx)
  case atStart => exact ⟨0, by omega, rfl, rfl, HB1, hf1⟩
  case round =>
    obtain ⟨k, hkg, rfl, rfl, HG, hfr⟩ := hrel
    clear HB1 hf1
    cases gk with
    | zero =>
      have hk4 : ¬ ((k : Int) < 4) := by omega
      have hk : k = 4 := by omega
      go_wp2
      go_ret
      exact ⟨by rw [← hk]; rfl, hfr⟩
    | succ g1 =>
      have hk4 : (k : Int) < 4 := by omega
      have hk : k < 4 := by omega
      have hl1 := blk_lt HG.out
      have na := HG.out.na hk
      have nb := HG.out.nb hk
      have ha := HG.out.ha hk
      have hb := HG.out.hb hk
      have lv := HG.out.li hk
      have ix0 := fun W => ix_vec0 W (s.held k).a (s.held k).b
      have ix1 := fun W => ix_vec1 W (s.held k).a (s.held k).b
      have bn := HI.out.bd.need k hk
      have bh := HI.out.bd.held k hk
      have z1 := shw_size s k
      have z2 := row_size (s.live k) (clm s k) (s.held k)
      go_wp2
      go_rounds 3
      have XC : (wr.alloc (.cells #[.int .i64 ((s.need k).a + (s.held k).a), .int .i64 ((s.need k).b + (s.held k).b)] 27)).heap[wr.heap.size]? = some (.cells #[.int .i64 ((s.need k).a + (s.held k).a), .int .i64 ((s.need k).b + (s.held k).b)] 27) := blk_new _ _
      have HG2 : Hid (Bk (wr.alloc (.cells #[.int .i64 ((s.need k).a + (s.held k).a), .int .i64 ((s.need k).b + (s.held k).b)] 27)) b s cert) := blk_alloc HG.out _
      have fr2 : Fr [] w (wr.alloc (.cells #[.int .i64 ((s.need k).a + (s.held k).a), .int .i64 ((s.need k).b + (s.held k).b)] 27)) := hfr.alloc _
      generalize wr.alloc (.cells #[.int .i64 ((s.need k).a + (s.held k).a), .int .i64 ((s.need k).b + (s.held k).b)] 27) = W at XC HG2 fr2 ⊢
      clear na nb ha hb lv HG hfr
      have x0 : W.cell? ⟨wr.heap.size, 0, none⟩ = some (.int .i64 ((s.need k).a + (s.held k).a)) := blk_cell XC 0
      have x1 : W.cell? ⟨wr.heap.size, 1, none⟩ = some (.int .i64 ((s.need k).b + (s.held k).b)) := blk_cell XC 1
      have ha := HG2.out.ha hk
      have hb := HG2.out.hb hk
      have lv := HG2.out.li hk
      clear XC
      go_region_with (go_at_call 10; refine (row_any _ (s.live k) (clm s k) (s.held k) (HI.out.okc hk).1 (HI.out.okc hk).2).mono ?_; rintro e w2 ⟨rfl, hf2⟩)
      all_goals (go_wp2; go_roundg g1)
      all_goals first
        | omega
        | exact ⟨k + 1, by omega, by go_num, rfl, hf2.keep (blk_drew HG2.out) (by simp), fr2.drew.trans hf2⟩
end Go.Proofs.Qxb6500340a
