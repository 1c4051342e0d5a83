/-
  No cell of these rows narrows 'for every input' (looked for: loops, veiled, ifaces, maps, wideKeys, modest, calm, conditions, laid).
  DERIVED. THE GIVEN ROWS OF THIS SEAT. 20 by the template 'for every input the law returns true; each argument reads behind the call as it read before'; 0 by the template 'total and deterministic' (their statements: Qxb6500336aTotals.lean).
  GIVEN WITH THE SEED: the statements are not yours to turn. If you find one false, say at which input.
  Laid BY PROGRAM, IN A SANDBOX (cutbox-rows.mjs): the forced cells as the released guide's own fill.sh prints them over the translation a71043a328fc6a84… (all of the seat's roots in one cut). By AI agents, Wed Nov 11 2026. No macro, syntax, notation, axiom, sorry.
-/
import Derived.Test.Qxb6500336aChecked
import GoSem.Claim
import GoSem.ClaimJoined
import GoSem.ClaimMapViews
import Derived.JoinedTies
import Derived.KernelRfl
namespace Go.Proofs.Qxb6500336a
/- THE CELL 'sum', in the pinned program and in every row, IS THE sha256 OF THE DUMP (.gsa) THAT Qxb6500336aProg.lean LOADS. Nothing in Lean hashes anything: it is a label: what it is worth is what the hold of that sum in a sandbox is worth. -/
noncomputable def Try.pinned : Pinned := { name := "qxb6500336a", sum := "a71043a328fc6a847996303d1a9e995eca2473a58da8fe14638ddbdfaae29c45", checked := Try.checked }
namespace Rows
def none {H : Type} : Left H := { results := [], args := [] }

/-- 'towerlaw.Refines': WHATEVER THE INPUT: true; the input reads as it did. -/
def refinesSpec : ChangeSpec := { name := "refines", fn := fun _ => fun
  | [d] => { results := [.lit (.bool true)], args := [d] }
  | _ => none }
def refinesRow : OpenClaim := { program := "qxb6500336a", sum := "a71043a328fc6a847996303d1a9e995eca2473a58da8fe14638ddbdfaae29c45", func := "e2e/towerlaw.Refines", spec := "refines", unfollowed := true, recurses := true, apart := false }
def RefinesSaid : Prop := refinesRow.holds Try.pinned (OpenSpec.ofChange refinesSpec)

/-- ITS FALSE NEIGHBOUR: 'it returns false'. Refute it at one input. -/
def refinesWrong : ChangeSpec := { name := "refines", fn := fun _ => fun
  | [d] => { results := [.lit (.bool false)], args := [d] }
  | _ => none }
def RefinesWrongFalsely : Prop := refinesRow.holds Try.pinned (OpenSpec.ofChange refinesWrong)

/-- 'towerlaw.RefinesQuiet': WHATEVER THE INPUT: true; the input reads as it did. -/
def refinesQuietSpec : ChangeSpec := { name := "refinesQuiet", fn := fun _ => fun
  | [d] => { results := [.lit (.bool true)], args := [d] }
  | _ => none }
def refinesQuietRow : OpenClaim := { program := "qxb6500336a", sum := "a71043a328fc6a847996303d1a9e995eca2473a58da8fe14638ddbdfaae29c45", func := "e2e/towerlaw.RefinesQuiet", spec := "refinesQuiet", unfollowed := true, recurses := true, apart := false }
def RefinesQuietSaid : Prop := refinesQuietRow.holds Try.pinned (OpenSpec.ofChange refinesQuietSpec)

/-- ITS FALSE NEIGHBOUR: 'it returns false'. Refute it at one input. -/
def refinesQuietWrong : ChangeSpec := { name := "refinesQuiet", fn := fun _ => fun
  | [d] => { results := [.lit (.bool false)], args := [d] }
  | _ => none }
def RefinesQuietWrongFalsely : Prop := refinesQuietRow.holds Try.pinned (OpenSpec.ofChange refinesQuietWrong)

/-- 'towerlaw.EdgeBareNil': WHATEVER THE INPUT: true; the input reads as it did. -/
def edgeBareNilSpec : ChangeSpec := { name := "edgeBareNil", fn := fun _ => fun
  | [] => { results := [.lit (.bool true)], args := [] }
  | _ => none }
def edgeBareNilRow : OpenClaim := { program := "qxb6500336a", sum := "a71043a328fc6a847996303d1a9e995eca2473a58da8fe14638ddbdfaae29c45", func := "e2e/towerlaw.EdgeBareNil", spec := "edgeBareNil", unfollowed := true, recurses := true, apart := false }
def EdgeBareNilSaid : Prop := edgeBareNilRow.holds Try.pinned (OpenSpec.ofChange edgeBareNilSpec)

/-- ITS FALSE NEIGHBOUR: 'it returns false'. Refute it at one input. -/
def edgeBareNilWrong : ChangeSpec := { name := "edgeBareNil", fn := fun _ => fun
  | [] => { results := [.lit (.bool false)], args := [] }
  | _ => none }
def EdgeBareNilWrongFalsely : Prop := edgeBareNilRow.holds Try.pinned (OpenSpec.ofChange edgeBareNilWrong)

/-- 'towerlaw.EdgeBareLacks': WHATEVER THE INPUT: true; the input reads as it did. -/
def edgeBareLacksSpec : ChangeSpec := { name := "edgeBareLacks", fn := fun _ => fun
  | [] => { results := [.lit (.bool true)], args := [] }
  | _ => none }
def edgeBareLacksRow : OpenClaim := { program := "qxb6500336a", sum := "a71043a328fc6a847996303d1a9e995eca2473a58da8fe14638ddbdfaae29c45", func := "e2e/towerlaw.EdgeBareLacks", spec := "edgeBareLacks", unfollowed := true, recurses := true, apart := false }
def EdgeBareLacksSaid : Prop := edgeBareLacksRow.holds Try.pinned (OpenSpec.ofChange edgeBareLacksSpec)

/-- ITS FALSE NEIGHBOUR: 'it returns false'. Refute it at one input. -/
def edgeBareLacksWrong : ChangeSpec := { name := "edgeBareLacks", fn := fun _ => fun
  | [] => { results := [.lit (.bool false)], args := [] }
  | _ => none }
def EdgeBareLacksWrongFalsely : Prop := edgeBareLacksRow.holds Try.pinned (OpenSpec.ofChange edgeBareLacksWrong)

/-- 'towerlaw.EdgeBareHolds': WHATEVER THE INPUT: true; the input reads as it did. -/
def edgeBareHoldsSpec : ChangeSpec := { name := "edgeBareHolds", fn := fun _ => fun
  | [] => { results := [.lit (.bool true)], args := [] }
  | _ => none }
def edgeBareHoldsRow : OpenClaim := { program := "qxb6500336a", sum := "a71043a328fc6a847996303d1a9e995eca2473a58da8fe14638ddbdfaae29c45", func := "e2e/towerlaw.EdgeBareHolds", spec := "edgeBareHolds", unfollowed := true, recurses := true, apart := false }
def EdgeBareHoldsSaid : Prop := edgeBareHoldsRow.holds Try.pinned (OpenSpec.ofChange edgeBareHoldsSpec)

/-- ITS FALSE NEIGHBOUR: 'it returns false'. Refute it at one input. -/
def edgeBareHoldsWrong : ChangeSpec := { name := "edgeBareHolds", fn := fun _ => fun
  | [] => { results := [.lit (.bool false)], args := [] }
  | _ => none }
def EdgeBareHoldsWrongFalsely : Prop := edgeBareHoldsRow.holds Try.pinned (OpenSpec.ofChange edgeBareHoldsWrong)

/-- 'towerlaw.EdgeOkNil': WHATEVER THE INPUT: true; the input reads as it did. -/
def edgeOkNilSpec : ChangeSpec := { name := "edgeOkNil", fn := fun _ => fun
  | [] => { results := [.lit (.bool true)], args := [] }
  | _ => none }
def edgeOkNilRow : OpenClaim := { program := "qxb6500336a", sum := "a71043a328fc6a847996303d1a9e995eca2473a58da8fe14638ddbdfaae29c45", func := "e2e/towerlaw.EdgeOkNil", spec := "edgeOkNil", unfollowed := true, recurses := true, apart := false }
def EdgeOkNilSaid : Prop := edgeOkNilRow.holds Try.pinned (OpenSpec.ofChange edgeOkNilSpec)

/-- ITS FALSE NEIGHBOUR: 'it returns false'. Refute it at one input. -/
def edgeOkNilWrong : ChangeSpec := { name := "edgeOkNil", fn := fun _ => fun
  | [] => { results := [.lit (.bool false)], args := [] }
  | _ => none }
def EdgeOkNilWrongFalsely : Prop := edgeOkNilRow.holds Try.pinned (OpenSpec.ofChange edgeOkNilWrong)

/-- 'towerlaw.EdgeOkLacks': WHATEVER THE INPUT: true; the input reads as it did. -/
def edgeOkLacksSpec : ChangeSpec := { name := "edgeOkLacks", fn := fun _ => fun
  | [] => { results := [.lit (.bool true)], args := [] }
  | _ => none }
def edgeOkLacksRow : OpenClaim := { program := "qxb6500336a", sum := "a71043a328fc6a847996303d1a9e995eca2473a58da8fe14638ddbdfaae29c45", func := "e2e/towerlaw.EdgeOkLacks", spec := "edgeOkLacks", unfollowed := true, recurses := true, apart := false }
def EdgeOkLacksSaid : Prop := edgeOkLacksRow.holds Try.pinned (OpenSpec.ofChange edgeOkLacksSpec)

/-- ITS FALSE NEIGHBOUR: 'it returns false'. Refute it at one input. -/
def edgeOkLacksWrong : ChangeSpec := { name := "edgeOkLacks", fn := fun _ => fun
  | [] => { results := [.lit (.bool false)], args := [] }
  | _ => none }
def EdgeOkLacksWrongFalsely : Prop := edgeOkLacksRow.holds Try.pinned (OpenSpec.ofChange edgeOkLacksWrong)

/-- 'towerlaw.EdgeTypedNil': WHATEVER THE INPUT: true; the input reads as it did. -/
def edgeTypedNilSpec : ChangeSpec := { name := "edgeTypedNil", fn := fun _ => fun
  | [] => { results := [.lit (.bool true)], args := [] }
  | _ => none }
def edgeTypedNilRow : OpenClaim := { program := "qxb6500336a", sum := "a71043a328fc6a847996303d1a9e995eca2473a58da8fe14638ddbdfaae29c45", func := "e2e/towerlaw.EdgeTypedNil", spec := "edgeTypedNil", unfollowed := true, recurses := true, apart := false }
def EdgeTypedNilSaid : Prop := edgeTypedNilRow.holds Try.pinned (OpenSpec.ofChange edgeTypedNilSpec)

/-- ITS FALSE NEIGHBOUR: 'it returns false'. Refute it at one input. -/
def edgeTypedNilWrong : ChangeSpec := { name := "edgeTypedNil", fn := fun _ => fun
  | [] => { results := [.lit (.bool false)], args := [] }
  | _ => none }
def EdgeTypedNilWrongFalsely : Prop := edgeTypedNilRow.holds Try.pinned (OpenSpec.ofChange edgeTypedNilWrong)

/-- 'towerlaw.EdgeBreak': WHATEVER THE INPUT: true; the input reads as it did. -/
def edgeBreakSpec : ChangeSpec := { name := "edgeBreak", fn := fun _ => fun
  | [] => { results := [.lit (.bool true)], args := [] }
  | _ => none }
def edgeBreakRow : OpenClaim := { program := "qxb6500336a", sum := "a71043a328fc6a847996303d1a9e995eca2473a58da8fe14638ddbdfaae29c45", func := "e2e/towerlaw.EdgeBreak", spec := "edgeBreak", unfollowed := true, recurses := true, apart := false }
def EdgeBreakSaid : Prop := edgeBreakRow.holds Try.pinned (OpenSpec.ofChange edgeBreakSpec)

/-- ITS FALSE NEIGHBOUR: 'it returns false'. Refute it at one input. -/
def edgeBreakWrong : ChangeSpec := { name := "edgeBreak", fn := fun _ => fun
  | [] => { results := [.lit (.bool false)], args := [] }
  | _ => none }
def EdgeBreakWrongFalsely : Prop := edgeBreakRow.holds Try.pinned (OpenSpec.ofChange edgeBreakWrong)

/-- 'towerlaw.EdgeReturnWithin': WHATEVER THE INPUT: true; the input reads as it did. -/
def edgeReturnWithinSpec : ChangeSpec := { name := "edgeReturnWithin", fn := fun _ => fun
  | [] => { results := [.lit (.bool true)], args := [] }
  | _ => none }
def edgeReturnWithinRow : OpenClaim := { program := "qxb6500336a", sum := "a71043a328fc6a847996303d1a9e995eca2473a58da8fe14638ddbdfaae29c45", func := "e2e/towerlaw.EdgeReturnWithin", spec := "edgeReturnWithin", unfollowed := true, recurses := true, apart := false }
def EdgeReturnWithinSaid : Prop := edgeReturnWithinRow.holds Try.pinned (OpenSpec.ofChange edgeReturnWithinSpec)

/-- ITS FALSE NEIGHBOUR: 'it returns false'. Refute it at one input. -/
def edgeReturnWithinWrong : ChangeSpec := { name := "edgeReturnWithin", fn := fun _ => fun
  | [] => { results := [.lit (.bool false)], args := [] }
  | _ => none }
def EdgeReturnWithinWrongFalsely : Prop := edgeReturnWithinRow.holds Try.pinned (OpenSpec.ofChange edgeReturnWithinWrong)

/-- 'towerlaw.EdgePanicThroughRange': WHATEVER THE INPUT: true; the input reads as it did. -/
def edgePanicThroughRangeSpec : ChangeSpec := { name := "edgePanicThroughRange", fn := fun _ => fun
  | [] => { results := [.lit (.bool true)], args := [] }
  | _ => none }
def edgePanicThroughRangeRow : OpenClaim := { program := "qxb6500336a", sum := "a71043a328fc6a847996303d1a9e995eca2473a58da8fe14638ddbdfaae29c45", func := "e2e/towerlaw.EdgePanicThroughRange", spec := "edgePanicThroughRange", unfollowed := true, recurses := true, apart := false }
def EdgePanicThroughRangeSaid : Prop := edgePanicThroughRangeRow.holds Try.pinned (OpenSpec.ofChange edgePanicThroughRangeSpec)

/-- ITS FALSE NEIGHBOUR: 'it returns false'. Refute it at one input. -/
def edgePanicThroughRangeWrong : ChangeSpec := { name := "edgePanicThroughRange", fn := fun _ => fun
  | [] => { results := [.lit (.bool false)], args := [] }
  | _ => none }
def EdgePanicThroughRangeWrongFalsely : Prop := edgePanicThroughRangeRow.holds Try.pinned (OpenSpec.ofChange edgePanicThroughRangeWrong)

/-- 'towerlaw.EdgeOwnPanic': WHATEVER THE INPUT: true; the input reads as it did. -/
def edgeOwnPanicSpec : ChangeSpec := { name := "edgeOwnPanic", fn := fun _ => fun
  | [] => { results := [.lit (.bool true)], args := [] }
  | _ => none }
def edgeOwnPanicRow : OpenClaim := { program := "qxb6500336a", sum := "a71043a328fc6a847996303d1a9e995eca2473a58da8fe14638ddbdfaae29c45", func := "e2e/towerlaw.EdgeOwnPanic", spec := "edgeOwnPanic", unfollowed := true, recurses := true, apart := false }
def EdgeOwnPanicSaid : Prop := edgeOwnPanicRow.holds Try.pinned (OpenSpec.ofChange edgeOwnPanicSpec)

/-- ITS FALSE NEIGHBOUR: 'it returns false'. Refute it at one input. -/
def edgeOwnPanicWrong : ChangeSpec := { name := "edgeOwnPanic", fn := fun _ => fun
  | [] => { results := [.lit (.bool false)], args := [] }
  | _ => none }
def EdgeOwnPanicWrongFalsely : Prop := edgeOwnPanicRow.holds Try.pinned (OpenSpec.ofChange edgeOwnPanicWrong)

/-- 'towerlaw.EdgeNilCell': WHATEVER THE INPUT: true; the input reads as it did. -/
def edgeNilCellSpec : ChangeSpec := { name := "edgeNilCell", fn := fun _ => fun
  | [] => { results := [.lit (.bool true)], args := [] }
  | _ => none }
def edgeNilCellRow : OpenClaim := { program := "qxb6500336a", sum := "a71043a328fc6a847996303d1a9e995eca2473a58da8fe14638ddbdfaae29c45", func := "e2e/towerlaw.EdgeNilCell", spec := "edgeNilCell", unfollowed := true, recurses := true, apart := false }
def EdgeNilCellSaid : Prop := edgeNilCellRow.holds Try.pinned (OpenSpec.ofChange edgeNilCellSpec)

/-- ITS FALSE NEIGHBOUR: 'it returns false'. Refute it at one input. -/
def edgeNilCellWrong : ChangeSpec := { name := "edgeNilCell", fn := fun _ => fun
  | [] => { results := [.lit (.bool false)], args := [] }
  | _ => none }
def EdgeNilCellWrongFalsely : Prop := edgeNilCellRow.holds Try.pinned (OpenSpec.ofChange edgeNilCellWrong)

/-- 'towerlaw.EdgeNewApart': WHATEVER THE INPUT: true; the input reads as it did. -/
def edgeNewApartSpec : ChangeSpec := { name := "edgeNewApart", fn := fun _ => fun
  | [] => { results := [.lit (.bool true)], args := [] }
  | _ => none }
def edgeNewApartRow : OpenClaim := { program := "qxb6500336a", sum := "a71043a328fc6a847996303d1a9e995eca2473a58da8fe14638ddbdfaae29c45", func := "e2e/towerlaw.EdgeNewApart", spec := "edgeNewApart", unfollowed := true, recurses := true, apart := false }
def EdgeNewApartSaid : Prop := edgeNewApartRow.holds Try.pinned (OpenSpec.ofChange edgeNewApartSpec)

/-- ITS FALSE NEIGHBOUR: 'it returns false'. Refute it at one input. -/
def edgeNewApartWrong : ChangeSpec := { name := "edgeNewApart", fn := fun _ => fun
  | [] => { results := [.lit (.bool false)], args := [] }
  | _ => none }
def EdgeNewApartWrongFalsely : Prop := edgeNewApartRow.holds Try.pinned (OpenSpec.ofChange edgeNewApartWrong)

/-- 'towerlaw.EdgeApart': WHATEVER THE INPUT: true; the input reads as it did. -/
def edgeApartSpec : ChangeSpec := { name := "edgeApart", fn := fun _ => fun
  | [] => { results := [.lit (.bool true)], args := [] }
  | _ => none }
def edgeApartRow : OpenClaim := { program := "qxb6500336a", sum := "a71043a328fc6a847996303d1a9e995eca2473a58da8fe14638ddbdfaae29c45", func := "e2e/towerlaw.EdgeApart", spec := "edgeApart", unfollowed := true, recurses := true, apart := false }
def EdgeApartSaid : Prop := edgeApartRow.holds Try.pinned (OpenSpec.ofChange edgeApartSpec)

/-- ITS FALSE NEIGHBOUR: 'it returns false'. Refute it at one input. -/
def edgeApartWrong : ChangeSpec := { name := "edgeApart", fn := fun _ => fun
  | [] => { results := [.lit (.bool false)], args := [] }
  | _ => none }
def EdgeApartWrongFalsely : Prop := edgeApartRow.holds Try.pinned (OpenSpec.ofChange edgeApartWrong)

/-- 'towerlaw.EdgeDeferQuiet': WHATEVER THE INPUT: true; the input reads as it did. -/
def edgeDeferQuietSpec : ChangeSpec := { name := "edgeDeferQuiet", fn := fun _ => fun
  | [] => { results := [.lit (.bool true)], args := [] }
  | _ => none }
def edgeDeferQuietRow : OpenClaim := { program := "qxb6500336a", sum := "a71043a328fc6a847996303d1a9e995eca2473a58da8fe14638ddbdfaae29c45", func := "e2e/towerlaw.EdgeDeferQuiet", spec := "edgeDeferQuiet", unfollowed := true, recurses := true, apart := false }
def EdgeDeferQuietSaid : Prop := edgeDeferQuietRow.holds Try.pinned (OpenSpec.ofChange edgeDeferQuietSpec)

/-- ITS FALSE NEIGHBOUR: 'it returns false'. Refute it at one input. -/
def edgeDeferQuietWrong : ChangeSpec := { name := "edgeDeferQuiet", fn := fun _ => fun
  | [] => { results := [.lit (.bool false)], args := [] }
  | _ => none }
def EdgeDeferQuietWrongFalsely : Prop := edgeDeferQuietRow.holds Try.pinned (OpenSpec.ofChange edgeDeferQuietWrong)

/-- 'towerlaw.EdgeRangeOnce': WHATEVER THE INPUT: true; the input reads as it did. -/
def edgeRangeOnceSpec : ChangeSpec := { name := "edgeRangeOnce", fn := fun _ => fun
  | [] => { results := [.lit (.bool true)], args := [] }
  | _ => none }
def edgeRangeOnceRow : OpenClaim := { program := "qxb6500336a", sum := "a71043a328fc6a847996303d1a9e995eca2473a58da8fe14638ddbdfaae29c45", func := "e2e/towerlaw.EdgeRangeOnce", spec := "edgeRangeOnce", unfollowed := true, recurses := true, apart := false }
def EdgeRangeOnceSaid : Prop := edgeRangeOnceRow.holds Try.pinned (OpenSpec.ofChange edgeRangeOnceSpec)

/-- ITS FALSE NEIGHBOUR: 'it returns false'. Refute it at one input. -/
def edgeRangeOnceWrong : ChangeSpec := { name := "edgeRangeOnce", fn := fun _ => fun
  | [] => { results := [.lit (.bool false)], args := [] }
  | _ => none }
def EdgeRangeOnceWrongFalsely : Prop := edgeRangeOnceRow.holds Try.pinned (OpenSpec.ofChange edgeRangeOnceWrong)

/-- 'towerlaw.EdgeDivPanics': WHATEVER THE INPUT: true; the input reads as it did. -/
def edgeDivPanicsSpec : ChangeSpec := { name := "edgeDivPanics", fn := fun _ => fun
  | [] => { results := [.lit (.bool true)], args := [] }
  | _ => none }
def edgeDivPanicsRow : OpenClaim := { program := "qxb6500336a", sum := "a71043a328fc6a847996303d1a9e995eca2473a58da8fe14638ddbdfaae29c45", func := "e2e/towerlaw.EdgeDivPanics", spec := "edgeDivPanics", unfollowed := true, recurses := true, apart := false }
def EdgeDivPanicsSaid : Prop := edgeDivPanicsRow.holds Try.pinned (OpenSpec.ofChange edgeDivPanicsSpec)

/-- ITS FALSE NEIGHBOUR: 'it returns false'. Refute it at one input. -/
def edgeDivPanicsWrong : ChangeSpec := { name := "edgeDivPanics", fn := fun _ => fun
  | [] => { results := [.lit (.bool false)], args := [] }
  | _ => none }
def EdgeDivPanicsWrongFalsely : Prop := edgeDivPanicsRow.holds Try.pinned (OpenSpec.ofChange edgeDivPanicsWrong)

/-- 'towerlaw.EdgeUnlooked': WHATEVER THE INPUT: true; the input reads as it did. -/
def edgeUnlookedSpec : ChangeSpec := { name := "edgeUnlooked", fn := fun _ => fun
  | [] => { results := [.lit (.bool true)], args := [] }
  | _ => none }
def edgeUnlookedRow : OpenClaim := { program := "qxb6500336a", sum := "a71043a328fc6a847996303d1a9e995eca2473a58da8fe14638ddbdfaae29c45", func := "e2e/towerlaw.EdgeUnlooked", spec := "edgeUnlooked", unfollowed := true, recurses := true, apart := false }
def EdgeUnlookedSaid : Prop := edgeUnlookedRow.holds Try.pinned (OpenSpec.ofChange edgeUnlookedSpec)

/-- ITS FALSE NEIGHBOUR: 'it returns false'. Refute it at one input. -/
def edgeUnlookedWrong : ChangeSpec := { name := "edgeUnlooked", fn := fun _ => fun
  | [] => { results := [.lit (.bool false)], args := [] }
  | _ => none }
def EdgeUnlookedWrongFalsely : Prop := edgeUnlookedRow.holds Try.pinned (OpenSpec.ofChange edgeUnlookedWrong)

/-- 'towerlaw.Edges': WHATEVER THE INPUT: true; the input reads as it did. -/
def edgesSpec : ChangeSpec := { name := "edges", fn := fun _ => fun
  | [] => { results := [.lit (.bool true)], args := [] }
  | _ => none }
def edgesRow : OpenClaim := { program := "qxb6500336a", sum := "a71043a328fc6a847996303d1a9e995eca2473a58da8fe14638ddbdfaae29c45", func := "e2e/towerlaw.Edges", spec := "edges", unfollowed := true, recurses := true, apart := false }
def EdgesSaid : Prop := edgesRow.holds Try.pinned (OpenSpec.ofChange edgesSpec)

/-- ITS FALSE NEIGHBOUR: 'it returns false'. Refute it at one input. -/
def edgesWrong : ChangeSpec := { name := "edges", fn := fun _ => fun
  | [] => { results := [.lit (.bool false)], args := [] }
  | _ => none }
def EdgesWrongFalsely : Prop := edgesRow.holds Try.pinned (OpenSpec.ofChange edgesWrong)

end Rows
end Go.Proofs.Qxb6500336a
