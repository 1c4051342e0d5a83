import Derived.Test.Qxb6500340aR3
import Derived.BigRegion
namespace Go.Proofs.Qxb6500340a
open Go.RowKit
set_option linter.unusedVariables false
set_option linter.unusedSimpArgs false

set_option maxHeartbeats 3200000 in
set_option maxRecDepth 100000 in
theorem mclone_any (w : World) (b : Nat) (g : Gs) (hb : Mh w b g) :
    Calls Try.prog 53 #[.pointer (some ⟨b, 0, none⟩)] w fun e w' => e = .returned (.pointer (some ⟨w.heap.size, 0, none⟩)) ∧ Mh w' w.heap.size g ∧ Fr [] w w' := by
  have l0 := hb.li (p := 0) (by omega)
  have l1 := hb.li (p := 1) (by omega)
  have l2 := hb.li (p := 2) (by omega)
  have l3 := hb.li (p := 3) (by omega)
  have c0 := hb.ca (p := 0) (by omega)
  have c1 := hb.cb (p := 0) (by omega)
  have c2 := hb.ca (p := 1) (by omega)
  have c3 := hb.cb (p := 1) (by omega)
  have c4 := hb.ca (p := 2) (by omega)
  have c5 := hb.cb (p := 2) (by omega)
  have c6 := hb.ca (p := 3) (by omega)
  have c7 := hb.cb (p := 3) (by omega)
  have h0 := hb.ha (p := 0) (by omega)
  have h1 := hb.hb (p := 0) (by omega)
  have h2 := hb.ha (p := 1) (by omega)
  have h3 := hb.hb (p := 1) (by omega)
  have h4 := hb.ha (p := 2) (by omega)
  have h5 := hb.hb (p := 2) (by omega)
  have h6 := hb.ha (p := 3) (by omega)
  have h7 := hb.hb (p := 3) (by omega)
  simp only [Nat.zero_mul, Nat.one_mul, Nat.reduceMul, Nat.reduceAdd] at c0 c1 c2 c3 c4 c5 c6 c7 h0 h1 h2 h3 h4 h5 h6 h7
  have hl := blk_lt hb
  clear hb
  go_enter Try.func53, Try.ntmps53
  go_wp2
  go_region
  go_wp2
  go_ret
  exact ⟨rfl, blk_new _ _, ((Fr.refl _ _).alloc _).drew⟩
end Go.Proofs.Qxb6500340a
