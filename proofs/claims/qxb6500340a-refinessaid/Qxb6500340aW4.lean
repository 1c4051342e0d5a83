import Derived.Test.Qxb6500340aW3
import Derived.ChangeKeysEq
import Derived.BigQuiet
import Derived.WalkMore
import Derived.Handy
import Derived.Deep.LoopGhost
namespace Go.Proofs.Qxb6500340a
open Go.RowKit
set_option linter.unusedVariables false

theorem info_at {t : TypeId} (h : (Try.prog.info? t).isSome = true) : ∃ i, Try.prog.info? t = some i := Option.isSome_iff_exists.1 h
theorem eq_vec (W : World) (x y u v : Int) :
    (Op.equalIn 10000 27 (.agg #[.int .i64 x, .int .i64 y]) (.agg #[.int .i64 u, .int .i64 v])).run Try.prog W = .ok (x == u && y == v) W := by
  obtain ⟨i, hi⟩ := info_at (t := 3) (by kernel_rfl)
  have hc : Try.prog.cellsOf 3 = 1 := by kernel_rfl
  rw [run_equalIn_array W 9999 _ _ Try.underlying27 hi, hc]
  simp only [List.range, List.range.loop, Op.eqItems, Sem.run_bind]
  simp [go_sem]
  by_cases h1 : x = u <;> by_cases h2 : y = v <;> simp [h1, h2]
theorem eq_live (W : World) (a b c d e f g h : Bool) :
    (Op.equalIn 10000 34 (.agg #[.bool a, .bool b, .bool c, .bool d]) (.agg #[.bool e, .bool f, .bool g, .bool h])).run Try.prog W = .ok (a == e && b == f && c == g && d == h) W := by
  obtain ⟨i, hi⟩ := info_at (t := 4) (by kernel_rfl)
  have hc : Try.prog.cellsOf 4 = 1 := by kernel_rfl
  rw [run_equalIn_array W 9999 _ _ Try.underlying34 hi, hc]
  simp only [List.range, List.range.loop, Op.eqItems, Sem.run_bind]
  simp [go_sem]
  by_cases h1 : a = e <;> by_cases h2 : b = f <;> by_cases h3 : c = g <;> by_cases h4 : d = h <;> simp [h1, h2, h3, h4]
theorem ix_vec0 (W : World) (x y : Int) : (Instr.index 27 (.agg #[.int .i64 x, .int .i64 y]) (.int .i64 0)).run Try.prog W = .ok (.int .i64 x) W := by
  simp [Instr.index, run_underlying Try.underlying27, go_sem]
theorem ix_vec1 (W : World) (x y : Int) : (Instr.index 27 (.agg #[.int .i64 x, .int .i64 y]) (.int .i64 1)).run Try.prog W = .ok (.int .i64 y) W := by
  simp [Instr.index, run_underlying Try.underlying27, go_sem]

section
variable {w : World} {b B : Nat} {s : St} {cert : ByteArray} {r : Rn}
theorem Gr.wa (h : Gr w b B s cert r) : w.cell? ⟨B, 0, none⟩ = some (.int .i64 r.wk.a) := blk_cell h.wk 0
theorem Gr.wb (h : Gr w b B s cert r) : w.cell? ⟨B, 1, none⟩ = some (.int .i64 r.wk.b) := blk_cell h.wk 1
theorem Gr.dp (h : Gr w b B s cert r) {p : Nat} (hp : p < 4) : w.cell? ⟨B + 1, p, none⟩ = some (.bool (r.done p)) := by
  rcases lt4 hp with rfl | rfl | rfl | rfl <;> exact blk_cell h.dn _
theorem Gr.keep {w' : World} {S : List Nat} (h : Gr w b B s cert r) (hf : Fr S w w') (h1 : b ∉ S) (h2 : B ∉ S) (h3 : B + 1 ∉ S) : Gr w' b B s cert r :=
  ⟨hf.keep h.bk h1, hf.keep h.wk h2, hf.keep h.dn h3⟩
end
theorem cd_le (d : Nat → Bool) : cd d ≤ 4 := by
  have h0 := b1_le (d 0); have h1 := b1_le (d 1); have h2 := b1_le (d 2); have h3 := b1_le (d 3)
  unfold cd; omega
theorem ord_size (s : St) (k : Nat) : (ordT (run s k).ord).size ≤ 4 := by
  have h := run_len s k
  have h2 := cd_le (run s k).done
  show (dgs (run s k).ord).toArray.size ≤ 4
  simp [dgs]; omega
theorem dig_size {p : Nat} (hp : p < 4) : ((⟨#[48, 49, 50, 51]⟩ : ByteArray).extract p (p + 1)).size = 1 := by
  rcases lt4 hp with rfl | rfl | rfl | rfl <;> rfl
theorem dig_ord {s : St} {k p : Nat} (h : pick s (run s k).done (run s k).wk = some p) : ordT (run s k).ord ++ (⟨#[48, 49, 50, 51]⟩ : ByteArray).extract p (p + 1) = ordT (run s (k + 1)).ord := by
  have hrs : run s (k + 1) = ⟨(run s k).wk.add (s.held p), upd (run s k).done p true, (run s k).ord ++ [p]⟩ := rstep_some h
  rw [hrs]
  have hx : (⟨#[48, 49, 50, 51]⟩ : ByteArray).extract p (p + 1) = ⟨#[UInt8.ofNat (48 + p)]⟩ := by
    rcases lt4 (pick_some h).1 with rfl | rfl | rfl | rfl <;> rfl
  rw [hx]
  apply ByteArray.ext
  simp [ordT, dgs]
theorem done_set {w : World} {B : Nat} {d : Nat → Bool} (h : w.heap[B]? = some (.cells (bvC d) 34)) {p : Nat} (hp : p < 4) :
    (w.setCell ⟨B, p, none⟩ (.bool true)).heap[B]? = some (.cells (bvC (upd d p true)) 34) := by
  rw [blk_set h]
  rcases lt4 hp with rfl | rfl | rfl | rfl <;> rfl

set_option maxHeartbeats 1600000 in
set_option maxRecDepth 100000 in
theorem greedy_any (w : World) (b : Nat) (s : St) (cert : ByteArray) (hb : Bk w b s cert) (hd : Bd s) :
    Calls Try.prog 49 #[.pointer (some ⟨b, 0, none⟩)] w fun e w' => (e = .returned (.tuple #[.string (if gOkB s then ordT (run s 4).ord else ⟨#[]⟩), .bool (gOkB s)])) ∧ Fr [] w w' := by
  have HB : Hid (Bk w b s cert) := hb
  have HD : Hid (Bd s) := hd
  have c0 := hb.aa
  have c1 := hb.ab
  have hl := blk_lt hb
  clear hb hd
  go_enter Try.func49, Try.ntmps49
  go_wp2
  go_step3
  go_wp2
  go_step3
  go_wp2
  go_loopg [6, 15] 4 (fun g s6 s15 wx => ∃ k : Nat, k + g = 4 ∧ s15 = .int .i64 k ∧ s6 = .string (ordT (run s k).ord) ∧ Gr wx b w.heap.size s cert (run s k) ∧ Fr [] w wx)
  case atStart => exact ⟨0, by omega, rfl, rfl, ⟨blk_alloc (blk_alloc HB.out _) _, blk_alloc (blk_new _ _) _, blk_new1 _ _ _⟩, ((Fr.refl _ _).alloc _).alloc _⟩
  case round =>
    obtain ⟨k, hkg, rfl, rfl, hgr, hfr⟩ := hrel
    have HG : Hid (Gr wr b w.heap.size s cert (run s k)) := hgr
    clear hgr
    cases gk with
    | zero =>
      have hk4 : ¬ ((k : Int) < 4) := by omega
      have HR : Hid (run s 4 = run s k) := by rw [show k = 4 from by omega]; exact rfl
      have d0 := HG.out.dp (p := 0) (by omega)
      have d1 := HG.out.dp (p := 1) (by omega)
      have d2 := HG.out.dp (p := 2) (by omega)
      have d3 := HG.out.dp (p := 3) (by omega)
      have l0 := HG.out.bk.li (p := 0) (by omega)
      have l1 := HG.out.bk.li (p := 1) (by omega)
      have l2 := HG.out.bk.li (p := 2) (by omega)
      have l3 := HG.out.bk.li (p := 3) (by omega)
      simp only [Nat.reduceAdd] at l0 l1 l2 l3
      have he := fun W => eq_live W ((run s k).done 0) ((run s k).done 1) ((run s k).done 2) ((run s k).done 3) (s.live 0) (s.live 1) (s.live 2) (s.live 3)
      have hg : Hid (gOkB s = ((run s k).done 0 == s.live 0 && (run s k).done 1 == s.live 1 && (run s k).done 2 == s.live 2 && (run s k).done 3 == s.live 3)) := by
        show gOkB s = _
        unfold gOkB; rw [HR.out]
      generalize ((run s k).done 0 == s.live 0 && (run s k).done 1 == s.live 1 && (run s k).done 2 == s.live 2 && (run s k).done 3 == s.live 3) = G at he hg
      cases G
      · go_wp2
        go_quiet (fail)
        go_wp2
        rw [Exit.noGoto_ret]
        go_ret2
        exact ⟨by rw [hg.out]; rfl, hfr.drewN _⟩
      · go_wp2
        go_quiet (fail)
        go_wp2
        rw [Exit.noGoto_ret]
        go_ret2
        exact ⟨by rw [hg.out, HR.out]; rfl, hfr.drewN _⟩
    | succ g1 =>
      have hk4 : (k : Int) < 4 := by omega
      go_wp2
      go_step3
      go_wp2
      go_step3
      go_wp2
      go_loopg [6, 17] 4 (fun g s6 s17 wx => ∃ p : Nat, p + g = 4 ∧ s17 = .int .i64 p ∧ s6 = .string (ordT (run s k).ord) ∧ Hid (∀ q, q < p → elig s (run s k).done (run s k).wk q = false) ∧ Hid (Gr wx b w.heap.size s cert (run s k)) ∧ Fr [] w wx)
      case atStart => exact ⟨0, by omega, rfl, rfl, fun q hq => by omega, HG, hfr⟩
      case round =>
        clear HG hfr
        obtain ⟨p, hpg, rfl, rfl, HE, HG, hfr⟩ := hrel
        cases gk with
        | zero =>
          have hp4 : ¬ ((p : Int) < 4) := by omega
          have HR : Hid (run s 4 = run s k) := by
            have h := run_stay (s := s) (k := k) (pick_all (fun q hq => HE.out q (by omega))) (4 - k)
            rw [show k + (4 - k) = 4 from by omega] at h; exact h
          have d0 := HG.out.dp (p := 0) (by omega)
          have d1 := HG.out.dp (p := 1) (by omega)
          have d2 := HG.out.dp (p := 2) (by omega)
          have d3 := HG.out.dp (p := 3) (by omega)
          have l0 := HG.out.bk.li (p := 0) (by omega)
          have l1 := HG.out.bk.li (p := 1) (by omega)
          have l2 := HG.out.bk.li (p := 2) (by omega)
          have l3 := HG.out.bk.li (p := 3) (by omega)
          simp only [Nat.reduceAdd] at l0 l1 l2 l3
          have he := fun W => eq_live W ((run s k).done 0) ((run s k).done 1) ((run s k).done 2) ((run s k).done 3) (s.live 0) (s.live 1) (s.live 2) (s.live 3)
          have hg : Hid (gOkB s = ((run s k).done 0 == s.live 0 && (run s k).done 1 == s.live 1 && (run s k).done 2 == s.live 2 && (run s k).done 3 == s.live 3)) := by
            show gOkB s = _
            unfold gOkB; rw [HR.out]
          generalize ((run s k).done 0 == s.live 0 && (run s k).done 1 == s.live 1 && (run s k).done 2 == s.live 2 && (run s k).done 3 == s.live 3) = G at he hg
          cases G
          · go_wp2
            go_quiet (fail)
            go_wp2
            rw [Exit.noGoto_ret]
            go_ret2
            exact ⟨by rw [hg.out]; rfl, hfr.drewN _⟩
          · go_wp2
            go_quiet (fail)
            go_wp2
            rw [Exit.noGoto_ret]
            go_ret2
            exact ⟨by rw [hg.out, HR.out]; rfl, hfr.drewN _⟩
        | succ g2 =>
          have hp4 : (p : Int) < 4 := by omega
          have hp : p < 4 := by omega
          have dp := HG.out.dp hp
          have lp := HG.out.bk.li hp
          have n0 := HG.out.bk.na hp
          have n1 := HG.out.bk.nb hp
          have ix0 := fun W => ix_vec0 W (s.need p).a (s.need p).b
          have ix1 := fun W => ix_vec1 W (s.need p).a (s.need p).b
          have k0 := HG.out.wa
          have k1 := HG.out.wb
          have hnx : ∀ (h : elig s (run s k).done (run s k).wk p = false), Hid (∀ q, q < p + 1 → elig s (run s k).done (run s k).wk q = false) := fun h q hq => by
            by_cases e : q = p
            · rw [e]; exact h
            · exact HE.out q (by omega)
          have HX : Hid (∀ (h : elig s (run s k).done (run s k).wk p = false), Hid (∀ q, q < p + 1 → elig s (run s k).done (run s k).wk q = false)) := hnx
          clear hnx
          cases hdp : (run s k).done p
          · cases hlp : s.live p
            · rw [hdp] at dp; rw [hlp] at lp
              go_wp2
              go_roundg g2
              case rel => exact ⟨p + 1, by omega, by go_num, rfl, HX.out (by simp [elig, hlp]), HG, hfr⟩
              case measure => omega
            · rw [hdp] at dp; rw [hlp] at lp
              by_cases ha : (s.need p).a ≤ (run s k).wk.a
              · by_cases hb : (s.need p).b ≤ (run s k).wk.b
                · have da : decide ((run s k).wk.a < (s.need p).a) = false := decide_eq_false (by omega)
                  have db : decide ((run s k).wk.b < (s.need p).b) = false := decide_eq_false (by omega)
                  go_wp2
                  go_rounds 3
                  have h0 := HG.out.bk.ha hp
                  have h1 := HG.out.bk.hb hp
                  have f0 := blk_frozen HG.out.wk 0
                  have f1 := blk_frozen HG.out.wk 1
                  have bw := run_wk HD.out k
                  have bh := HD.out.held p hp
                  refine wp_loop_rounds 3 ?_
                  rw [rounds_succ]
                  go_wp2
                  go_region
                  go_wp2
                  rw [rounds_succ]
                  have HG1 : Hid (Gr ((wr.setCell ⟨w.heap.size, 0, none⟩ (.int .i64 ((run s k).wk.a + (s.held p).a))).drew) b w.heap.size s cert ⟨⟨(run s k).wk.a + (s.held p).a, (run s k).wk.b⟩, (run s k).done, (run s k).ord⟩) :=
                    ⟨blk_set_far HG.out.bk _ _ (by show b ≠ w.heap.size; omega), blk_set HG.out.wk 0 _, blk_set_far HG.out.dn _ _ (by show w.heap.size + 1 ≠ w.heap.size; omega)⟩
                  have hfr1 : Fr [] w ((wr.setCell ⟨w.heap.size, 0, none⟩ (.int .i64 ((run s k).wk.a + (s.held p).a))).drew) := (hfr.setCell (Or.inr (Nat.le_refl _)) _).drew
                  generalize (wr.setCell ⟨w.heap.size, 0, none⟩ (.int .i64 ((run s k).wk.a + (s.held p).a))).drew = W1 at HG1 hfr1 ⊢
                  clear h0 h1 f0 f1 k0 k1 dp lp n0 n1 HG hfr
                  have h1 := HG1.out.bk.hb hp
                  have k1 := HG1.out.wb
                  have f1 := blk_frozen HG1.out.wk 1
                  dsimp only at k1
                  go_wp2
                  go_region
                  go_wp2
                  rw [rounds_succ]
                  have HG2 : Hid (Gr ((W1.setCell ⟨w.heap.size, 1, none⟩ (.int .i64 ((run s k).wk.b + (s.held p).b))).drew) b w.heap.size s cert ⟨⟨(run s k).wk.a + (s.held p).a, (run s k).wk.b + (s.held p).b⟩, (run s k).done, (run s k).ord⟩) :=
                    ⟨blk_set_far HG1.out.bk _ _ (by show b ≠ w.heap.size; omega), blk_set HG1.out.wk 1 _, blk_set_far HG1.out.dn _ _ (by show w.heap.size + 1 ≠ w.heap.size; omega)⟩
                  have hfr2 : Fr [] w ((W1.setCell ⟨w.heap.size, 1, none⟩ (.int .i64 ((run s k).wk.b + (s.held p).b))).drew) := (hfr1.setCell (Or.inr (Nat.le_refl _)) _).drew
                  generalize (W1.setCell ⟨w.heap.size, 1, none⟩ (.int .i64 ((run s k).wk.b + (s.held p).b))).drew = W2 at HG2 hfr2 ⊢
                  clear h1 k1 f1 HG1 hfr1
                  have dp := HG2.out.dp hp
                  have fp := blk_frozen HG2.out.dn p
                  have z1 : (ordT (run s k).ord).size ≤ 4 := ord_size s k
                  have z2 : ((⟨#[48, 49, 50, 51]⟩ : ByteArray).extract p (p + 1)).size = 1 := dig_size hp
                  have HO : Hid (ordT (run s k).ord ++ (⟨#[48, 49, 50, 51]⟩ : ByteArray).extract p (p + 1) = ordT (run s (k + 1)).ord) := dig_ord (pick_at hp (elig_iff.2 ⟨hdp, hlp, leB_iff.2 ⟨ha, hb⟩⟩) HE.out)
                  go_wp2
                  go_roundg g1
                  case measure => omega
                  case rel =>
                    have hpk := pick_at hp (elig_iff.2 ⟨hdp, hlp, leB_iff.2 ⟨ha, hb⟩⟩) HE.out
                    have hrs : run s (k + 1) = ⟨(run s k).wk.add (s.held p), upd (run s k).done p true, (run s k).ord ++ [p]⟩ := rstep_some hpk
                    refine ⟨k + 1, by omega, by go_num, by rw [HO.out], ?_, hfr2.setCell (Or.inr (by show w.heap.size ≤ w.heap.size + 1; omega)) _⟩
                    rw [hrs]
                    exact ⟨blk_set_far HG2.out.bk _ _ (by show b ≠ w.heap.size + 1; omega), blk_set_far HG2.out.wk _ _ (by show w.heap.size ≠ w.heap.size + 1; omega), done_set HG2.out.dn hp⟩
                · have da : decide ((run s k).wk.a < (s.need p).a) = false := decide_eq_false (by omega)
                  have db : (run s k).wk.b < (s.need p).b := by omega
                  go_wp2
                  go_rounds 2
                  go_roundg g2
                  case rel => exact ⟨p + 1, by omega, by go_num, rfl, HX.out (by simp [elig, hdp, hlp, leB]; omega), HG, hfr⟩
                  case measure => omega
              · have da : (run s k).wk.a < (s.need p).a := by omega
                go_wp2
                go_rounds 1
                go_roundg g2
                case rel => exact ⟨p + 1, by omega, by go_num, rfl, HX.out (by simp [elig, hdp, hlp, leB]; omega), HG, hfr⟩
                case measure => omega
          · rw [hdp] at dp
            go_wp2
            go_roundg g2
            case rel => exact ⟨p + 1, by omega, by go_num, rfl, HX.out (by simp [elig, hdp]), HG, hfr⟩
            case measure => omega
end Go.Proofs.Qxb6500340a
