/-
  No cell of these rows narrows 'for every input' (looked for: loops, veiled, ifaces, maps, wideKeys, modest, calm, conditions, laid).
  DERIVED. THE GIVEN ROWS OF THIS SEAT. 10 by the template 'for every input the law returns true; each argument reads behind the call as it read before'; 0 by the template 'total and deterministic' (their statements: YtkdbkddlbahceaaTotals.lean).
  GIVEN WITH THE SEED: the statements are not yours to turn. If you find one false, say at which input.
  Laid BY PROGRAM, IN A SANDBOX (cutbox-rows.mjs): the forced cells as the released guide's own fill.sh prints them over the translation ad52e74bde72c0dc… (all of the seat's roots in one cut). By AI agents, Wed Nov 11 2026. No macro, syntax, notation, axiom, sorry.
-/
import Derived.Test.YtkdbkddlbahceaaChecked
import GoSem.Claim
import GoSem.ClaimJoined
import GoSem.ClaimMapViews
import Derived.JoinedTies
import Derived.KernelRfl
namespace Go.Proofs.Ytkdbkddlbahceaa
/- THE CELL 'sum', in the pinned program and in every row, IS THE sha256 OF THE DUMP (.gsa) THAT YtkdbkddlbahceaaProg.lean LOADS. Nothing in Lean hashes anything: it is a label: what it is worth is what the hold of that sum in a sandbox is worth. -/
noncomputable def Try.pinned : Pinned := { name := "ytkdbkddlbahceaa", sum := "ad52e74bde72c0dc204225f445ebde5f55389146ae41ab215b92f8fc08abfc31", checked := Try.checked }
namespace Rows
def none {H : Type} : Left H := { results := [], args := [] }

/-- 'laws.FnExactIsValidWaterway': WHATEVER THE INPUT: true; the input reads as it did. -/
def fnExactIsValidWaterwaySpec : ChangeSpec := { name := "fnExactIsValidWaterway", fn := fun _ => fun
  | [d] => { results := [.lit (.bool true)], args := [d] }
  | _ => none }
def fnExactIsValidWaterwayRow : OpenClaim := { program := "ytkdbkddlbahceaa", sum := "ad52e74bde72c0dc204225f445ebde5f55389146ae41ab215b92f8fc08abfc31", func := "loop.example/g00924/laws.FnExactIsValidWaterway", spec := "fnExactIsValidWaterway", apart := false }
def FnExactIsValidWaterwaySaid : Prop := fnExactIsValidWaterwayRow.holds Try.pinned (OpenSpec.ofChange fnExactIsValidWaterwaySpec)

/-- ITS FALSE NEIGHBOUR: 'it returns false'. Refute it at one input. -/
def fnExactIsValidWaterwayWrong : ChangeSpec := { name := "fnExactIsValidWaterway", fn := fun _ => fun
  | [d] => { results := [.lit (.bool false)], args := [d] }
  | _ => none }
def FnExactIsValidWaterwayWrongFalsely : Prop := fnExactIsValidWaterwayRow.holds Try.pinned (OpenSpec.ofChange fnExactIsValidWaterwayWrong)

/-- 'laws.FnExactLevelOf': WHATEVER THE INPUT: true; the input reads as it did. -/
def fnExactLevelOfSpec : ChangeSpec := { name := "fnExactLevelOf", fn := fun _ => fun
  | [d1, d2] => { results := [.lit (.bool true)], args := [d1, d2] }
  | _ => none }
def fnExactLevelOfRow : OpenClaim := { program := "ytkdbkddlbahceaa", sum := "ad52e74bde72c0dc204225f445ebde5f55389146ae41ab215b92f8fc08abfc31", func := "loop.example/g00924/laws.FnExactLevelOf", spec := "fnExactLevelOf", apart := false }
def FnExactLevelOfSaid : Prop := fnExactLevelOfRow.holds Try.pinned (OpenSpec.ofChange fnExactLevelOfSpec)

/-- ITS FALSE NEIGHBOUR: 'it returns false'. Refute it at one input. -/
def fnExactLevelOfWrong : ChangeSpec := { name := "fnExactLevelOf", fn := fun _ => fun
  | [d1, d2] => { results := [.lit (.bool false)], args := [d1, d2] }
  | _ => none }
def FnExactLevelOfWrongFalsely : Prop := fnExactLevelOfRow.holds Try.pinned (OpenSpec.ofChange fnExactLevelOfWrong)

/-- 'laws.FnExactTotalLength': WHATEVER THE INPUT: true; the input reads as it did. -/
def fnExactTotalLengthSpec : ChangeSpec := { name := "fnExactTotalLength", fn := fun _ => fun
  | [d] => { results := [.lit (.bool true)], args := [d] }
  | _ => none }
def fnExactTotalLengthRow : OpenClaim := { program := "ytkdbkddlbahceaa", sum := "ad52e74bde72c0dc204225f445ebde5f55389146ae41ab215b92f8fc08abfc31", func := "loop.example/g00924/laws.FnExactTotalLength", spec := "fnExactTotalLength", apart := false }
def FnExactTotalLengthSaid : Prop := fnExactTotalLengthRow.holds Try.pinned (OpenSpec.ofChange fnExactTotalLengthSpec)

/-- ITS FALSE NEIGHBOUR: 'it returns false'. Refute it at one input. -/
def fnExactTotalLengthWrong : ChangeSpec := { name := "fnExactTotalLength", fn := fun _ => fun
  | [d] => { results := [.lit (.bool false)], args := [d] }
  | _ => none }
def FnExactTotalLengthWrongFalsely : Prop := fnExactTotalLengthRow.holds Try.pinned (OpenSpec.ofChange fnExactTotalLengthWrong)

/-- 'laws.FnExactShallowestDepth': WHATEVER THE INPUT: true; the input reads as it did. -/
def fnExactShallowestDepthSpec : ChangeSpec := { name := "fnExactShallowestDepth", fn := fun _ => fun
  | [d1, d2, d3] => { results := [.lit (.bool true)], args := [d1, d2, d3] }
  | _ => none }
def fnExactShallowestDepthRow : OpenClaim := { program := "ytkdbkddlbahceaa", sum := "ad52e74bde72c0dc204225f445ebde5f55389146ae41ab215b92f8fc08abfc31", func := "loop.example/g00924/laws.FnExactShallowestDepth", spec := "fnExactShallowestDepth", apart := false }
def FnExactShallowestDepthSaid : Prop := fnExactShallowestDepthRow.holds Try.pinned (OpenSpec.ofChange fnExactShallowestDepthSpec)

/-- ITS FALSE NEIGHBOUR: 'it returns false'. Refute it at one input. -/
def fnExactShallowestDepthWrong : ChangeSpec := { name := "fnExactShallowestDepth", fn := fun _ => fun
  | [d1, d2, d3] => { results := [.lit (.bool false)], args := [d1, d2, d3] }
  | _ => none }
def FnExactShallowestDepthWrongFalsely : Prop := fnExactShallowestDepthRow.holds Try.pinned (OpenSpec.ofChange fnExactShallowestDepthWrong)

/-- 'laws.FnExactReachAt': WHATEVER THE INPUT: true; the input reads as it did. -/
def fnExactReachAtSpec : ChangeSpec := { name := "fnExactReachAt", fn := fun _ => fun
  | [d1, d2] => { results := [.lit (.bool true)], args := [d1, d2] }
  | _ => none }
def fnExactReachAtRow : OpenClaim := { program := "ytkdbkddlbahceaa", sum := "ad52e74bde72c0dc204225f445ebde5f55389146ae41ab215b92f8fc08abfc31", func := "loop.example/g00924/laws.FnExactReachAt", spec := "fnExactReachAt", apart := false }
def FnExactReachAtSaid : Prop := fnExactReachAtRow.holds Try.pinned (OpenSpec.ofChange fnExactReachAtSpec)

/-- ITS FALSE NEIGHBOUR: 'it returns false'. Refute it at one input. -/
def fnExactReachAtWrong : ChangeSpec := { name := "fnExactReachAt", fn := fun _ => fun
  | [d1, d2] => { results := [.lit (.bool false)], args := [d1, d2] }
  | _ => none }
def FnExactReachAtWrongFalsely : Prop := fnExactReachAtRow.holds Try.pinned (OpenSpec.ofChange fnExactReachAtWrong)

/-- 'laws.FnExactSplitWaterway': WHATEVER THE INPUT: true; the input reads as it did. -/
def fnExactSplitWaterwaySpec : ChangeSpec := { name := "fnExactSplitWaterway", fn := fun _ => fun
  | [d1, d2] => { results := [.lit (.bool true)], args := [d1, d2] }
  | _ => none }
def fnExactSplitWaterwayRow : OpenClaim := { program := "ytkdbkddlbahceaa", sum := "ad52e74bde72c0dc204225f445ebde5f55389146ae41ab215b92f8fc08abfc31", func := "loop.example/g00924/laws.FnExactSplitWaterway", spec := "fnExactSplitWaterway", apart := false }
def FnExactSplitWaterwaySaid : Prop := fnExactSplitWaterwayRow.holds Try.pinned (OpenSpec.ofChange fnExactSplitWaterwaySpec)

/-- ITS FALSE NEIGHBOUR: 'it returns false'. Refute it at one input. -/
def fnExactSplitWaterwayWrong : ChangeSpec := { name := "fnExactSplitWaterway", fn := fun _ => fun
  | [d1, d2] => { results := [.lit (.bool false)], args := [d1, d2] }
  | _ => none }
def FnExactSplitWaterwayWrongFalsely : Prop := fnExactSplitWaterwayRow.holds Try.pinned (OpenSpec.ofChange fnExactSplitWaterwayWrong)

/-- 'laws.FnExactJoinWaterways': WHATEVER THE INPUT: true; the input reads as it did. -/
def fnExactJoinWaterwaysSpec : ChangeSpec := { name := "fnExactJoinWaterways", fn := fun _ => fun
  | [d1, d2, d3] => { results := [.lit (.bool true)], args := [d1, d2, d3] }
  | _ => none }
def fnExactJoinWaterwaysRow : OpenClaim := { program := "ytkdbkddlbahceaa", sum := "ad52e74bde72c0dc204225f445ebde5f55389146ae41ab215b92f8fc08abfc31", func := "loop.example/g00924/laws.FnExactJoinWaterways", spec := "fnExactJoinWaterways", apart := false }
def FnExactJoinWaterwaysSaid : Prop := fnExactJoinWaterwaysRow.holds Try.pinned (OpenSpec.ofChange fnExactJoinWaterwaysSpec)

/-- ITS FALSE NEIGHBOUR: 'it returns false'. Refute it at one input. -/
def fnExactJoinWaterwaysWrong : ChangeSpec := { name := "fnExactJoinWaterways", fn := fun _ => fun
  | [d1, d2, d3] => { results := [.lit (.bool false)], args := [d1, d2, d3] }
  | _ => none }
def FnExactJoinWaterwaysWrongFalsely : Prop := fnExactJoinWaterwaysRow.holds Try.pinned (OpenSpec.ofChange fnExactJoinWaterwaysWrong)

/-- 'laws.FnExactMinutesOnWay': WHATEVER THE INPUT: true; the input reads as it did. -/
def fnExactMinutesOnWaySpec : ChangeSpec := { name := "fnExactMinutesOnWay", fn := fun _ => fun
  | [d1, d2, d3, d4] => { results := [.lit (.bool true)], args := [d1, d2, d3, d4] }
  | _ => none }
def fnExactMinutesOnWayRow : OpenClaim := { program := "ytkdbkddlbahceaa", sum := "ad52e74bde72c0dc204225f445ebde5f55389146ae41ab215b92f8fc08abfc31", func := "loop.example/g00924/laws.FnExactMinutesOnWay", spec := "fnExactMinutesOnWay", apart := false }
def FnExactMinutesOnWaySaid : Prop := fnExactMinutesOnWayRow.holds Try.pinned (OpenSpec.ofChange fnExactMinutesOnWaySpec)

/-- ITS FALSE NEIGHBOUR: 'it returns false'. Refute it at one input. -/
def fnExactMinutesOnWayWrong : ChangeSpec := { name := "fnExactMinutesOnWay", fn := fun _ => fun
  | [d1, d2, d3, d4] => { results := [.lit (.bool false)], args := [d1, d2, d3, d4] }
  | _ => none }
def FnExactMinutesOnWayWrongFalsely : Prop := fnExactMinutesOnWayRow.holds Try.pinned (OpenSpec.ofChange fnExactMinutesOnWayWrong)

/-- 'laws.FnExactLocksBetween': WHATEVER THE INPUT: true; the input reads as it did. -/
def fnExactLocksBetweenSpec : ChangeSpec := { name := "fnExactLocksBetween", fn := fun _ => fun
  | [d1, d2, d3] => { results := [.lit (.bool true)], args := [d1, d2, d3] }
  | _ => none }
def fnExactLocksBetweenRow : OpenClaim := { program := "ytkdbkddlbahceaa", sum := "ad52e74bde72c0dc204225f445ebde5f55389146ae41ab215b92f8fc08abfc31", func := "loop.example/g00924/laws.FnExactLocksBetween", spec := "fnExactLocksBetween", apart := false }
def FnExactLocksBetweenSaid : Prop := fnExactLocksBetweenRow.holds Try.pinned (OpenSpec.ofChange fnExactLocksBetweenSpec)

/-- ITS FALSE NEIGHBOUR: 'it returns false'. Refute it at one input. -/
def fnExactLocksBetweenWrong : ChangeSpec := { name := "fnExactLocksBetween", fn := fun _ => fun
  | [d1, d2, d3] => { results := [.lit (.bool false)], args := [d1, d2, d3] }
  | _ => none }
def FnExactLocksBetweenWrongFalsely : Prop := fnExactLocksBetweenRow.holds Try.pinned (OpenSpec.ofChange fnExactLocksBetweenWrong)

/-- 'laws.FnPlaces': WHATEVER THE INPUT: true; the input reads as it did. -/
def fnPlacesSpec : ChangeSpec := { name := "fnPlaces", fn := fun _ => fun
  | [d] => { results := [.lit (.bool true)], args := [d] }
  | _ => none }
def fnPlacesRow : OpenClaim := { program := "ytkdbkddlbahceaa", sum := "ad52e74bde72c0dc204225f445ebde5f55389146ae41ab215b92f8fc08abfc31", func := "loop.example/g00924/laws.FnPlaces", spec := "fnPlaces", apart := false }
def FnPlacesSaid : Prop := fnPlacesRow.holds Try.pinned (OpenSpec.ofChange fnPlacesSpec)

/-- ITS FALSE NEIGHBOUR: 'it returns false'. Refute it at one input. -/
def fnPlacesWrong : ChangeSpec := { name := "fnPlaces", fn := fun _ => fun
  | [d] => { results := [.lit (.bool false)], args := [d] }
  | _ => none }
def FnPlacesWrongFalsely : Prop := fnPlacesRow.holds Try.pinned (OpenSpec.ofChange fnPlacesWrong)

/- THE SECOND FORM. 'bulk': how many values and letters a reading holds, each counted each time it is reached (what is shared counts as often as it is met; a slice's spare places count too). A statement '..UptoSaid' is the law's where the arguments, and the package variables that the reading takes, are together of bulk at most 1048576: NARROWER than '..Said'. Prove '..Said' where nothing that the law and all that it calls make is longer than what came in: it says more and counts as full. Else prove '..UptoSaid'. A law counts once. -/
mutual
def uptoBulk {H : Type} : DataW H → Nat
  | .lit (.string bytes) => bytes.length + 1
  | .lit _ => 1
  | .nil => 1
  | .ptr d => uptoBulk d + 1
  | .slice elems spare => uptoBulkAll elems + uptoBulkAll spare + 1
  | .agg parts => uptoBulkAll parts + 1
  | .iface _ d => uptoBulk d + 1
  | .map entries => uptoBulkEntries entries + 1
  | .held _ => 1
def uptoBulkAll {H : Type} : List (DataW H) → Nat
  | [] => 0
  | d :: r => uptoBulk d + uptoBulkAll r
def uptoBulkEntries {H : Type} : List (Lit × DataW H) → Nat
  | [] => 0
  | x :: r => uptoBulkEntry x + uptoBulkEntries r
def uptoBulkEntry {H : Type} : Lit × DataW H → Nat
  | (.string bytes, d) => bytes.length + uptoBulk d + 1
  | (_, d) => uptoBulk d + 1
 end
def uptoSmall : (H : Type) → List (DataW H) → Bool := fun _ ds => decide (uptoBulkAll ds ≤ 1048576)
def OpenSpec.upto (s : _root_.Go.ChangeSpec) : _root_.Go.OpenSpec := { _root_.Go.OpenSpec.ofChange s with cond := some uptoSmall }

/-- 'laws.FnExactIsValidWaterway', WHERE WHAT IT READS IS OF BULK AT MOST 1048576: true; the input reads as it did. -/
def fnExactIsValidWaterwayUptoRow : OpenClaim := { program := "ytkdbkddlbahceaa", sum := "ad52e74bde72c0dc204225f445ebde5f55389146ae41ab215b92f8fc08abfc31", func := "loop.example/g00924/laws.FnExactIsValidWaterway", spec := "fnExactIsValidWaterway", apart := false, narrowed := true }
def FnExactIsValidWaterwayUptoSaid : Prop := fnExactIsValidWaterwayUptoRow.holds Try.pinned (OpenSpec.upto fnExactIsValidWaterwaySpec)

/-- 'laws.FnExactLevelOf', WHERE WHAT IT READS IS OF BULK AT MOST 1048576: true; the input reads as it did. -/
def fnExactLevelOfUptoRow : OpenClaim := { program := "ytkdbkddlbahceaa", sum := "ad52e74bde72c0dc204225f445ebde5f55389146ae41ab215b92f8fc08abfc31", func := "loop.example/g00924/laws.FnExactLevelOf", spec := "fnExactLevelOf", apart := false, narrowed := true }
def FnExactLevelOfUptoSaid : Prop := fnExactLevelOfUptoRow.holds Try.pinned (OpenSpec.upto fnExactLevelOfSpec)

/-- 'laws.FnExactTotalLength', WHERE WHAT IT READS IS OF BULK AT MOST 1048576: true; the input reads as it did. -/
def fnExactTotalLengthUptoRow : OpenClaim := { program := "ytkdbkddlbahceaa", sum := "ad52e74bde72c0dc204225f445ebde5f55389146ae41ab215b92f8fc08abfc31", func := "loop.example/g00924/laws.FnExactTotalLength", spec := "fnExactTotalLength", apart := false, narrowed := true }
def FnExactTotalLengthUptoSaid : Prop := fnExactTotalLengthUptoRow.holds Try.pinned (OpenSpec.upto fnExactTotalLengthSpec)

/-- 'laws.FnExactShallowestDepth', WHERE WHAT IT READS IS OF BULK AT MOST 1048576: true; the input reads as it did. -/
def fnExactShallowestDepthUptoRow : OpenClaim := { program := "ytkdbkddlbahceaa", sum := "ad52e74bde72c0dc204225f445ebde5f55389146ae41ab215b92f8fc08abfc31", func := "loop.example/g00924/laws.FnExactShallowestDepth", spec := "fnExactShallowestDepth", apart := false, narrowed := true }
def FnExactShallowestDepthUptoSaid : Prop := fnExactShallowestDepthUptoRow.holds Try.pinned (OpenSpec.upto fnExactShallowestDepthSpec)

/-- 'laws.FnExactReachAt', WHERE WHAT IT READS IS OF BULK AT MOST 1048576: true; the input reads as it did. -/
def fnExactReachAtUptoRow : OpenClaim := { program := "ytkdbkddlbahceaa", sum := "ad52e74bde72c0dc204225f445ebde5f55389146ae41ab215b92f8fc08abfc31", func := "loop.example/g00924/laws.FnExactReachAt", spec := "fnExactReachAt", apart := false, narrowed := true }
def FnExactReachAtUptoSaid : Prop := fnExactReachAtUptoRow.holds Try.pinned (OpenSpec.upto fnExactReachAtSpec)

/-- 'laws.FnExactSplitWaterway', WHERE WHAT IT READS IS OF BULK AT MOST 1048576: true; the input reads as it did. -/
def fnExactSplitWaterwayUptoRow : OpenClaim := { program := "ytkdbkddlbahceaa", sum := "ad52e74bde72c0dc204225f445ebde5f55389146ae41ab215b92f8fc08abfc31", func := "loop.example/g00924/laws.FnExactSplitWaterway", spec := "fnExactSplitWaterway", apart := false, narrowed := true }
def FnExactSplitWaterwayUptoSaid : Prop := fnExactSplitWaterwayUptoRow.holds Try.pinned (OpenSpec.upto fnExactSplitWaterwaySpec)

/-- 'laws.FnExactJoinWaterways', WHERE WHAT IT READS IS OF BULK AT MOST 1048576: true; the input reads as it did. -/
def fnExactJoinWaterwaysUptoRow : OpenClaim := { program := "ytkdbkddlbahceaa", sum := "ad52e74bde72c0dc204225f445ebde5f55389146ae41ab215b92f8fc08abfc31", func := "loop.example/g00924/laws.FnExactJoinWaterways", spec := "fnExactJoinWaterways", apart := false, narrowed := true }
def FnExactJoinWaterwaysUptoSaid : Prop := fnExactJoinWaterwaysUptoRow.holds Try.pinned (OpenSpec.upto fnExactJoinWaterwaysSpec)

/-- 'laws.FnExactMinutesOnWay', WHERE WHAT IT READS IS OF BULK AT MOST 1048576: true; the input reads as it did. -/
def fnExactMinutesOnWayUptoRow : OpenClaim := { program := "ytkdbkddlbahceaa", sum := "ad52e74bde72c0dc204225f445ebde5f55389146ae41ab215b92f8fc08abfc31", func := "loop.example/g00924/laws.FnExactMinutesOnWay", spec := "fnExactMinutesOnWay", apart := false, narrowed := true }
def FnExactMinutesOnWayUptoSaid : Prop := fnExactMinutesOnWayUptoRow.holds Try.pinned (OpenSpec.upto fnExactMinutesOnWaySpec)

/-- 'laws.FnExactLocksBetween', WHERE WHAT IT READS IS OF BULK AT MOST 1048576: true; the input reads as it did. -/
def fnExactLocksBetweenUptoRow : OpenClaim := { program := "ytkdbkddlbahceaa", sum := "ad52e74bde72c0dc204225f445ebde5f55389146ae41ab215b92f8fc08abfc31", func := "loop.example/g00924/laws.FnExactLocksBetween", spec := "fnExactLocksBetween", apart := false, narrowed := true }
def FnExactLocksBetweenUptoSaid : Prop := fnExactLocksBetweenUptoRow.holds Try.pinned (OpenSpec.upto fnExactLocksBetweenSpec)

/-- 'laws.FnPlaces', WHERE WHAT IT READS IS OF BULK AT MOST 1048576: true; the input reads as it did. -/
def fnPlacesUptoRow : OpenClaim := { program := "ytkdbkddlbahceaa", sum := "ad52e74bde72c0dc204225f445ebde5f55389146ae41ab215b92f8fc08abfc31", func := "loop.example/g00924/laws.FnPlaces", spec := "fnPlaces", apart := false, narrowed := true }
def FnPlacesUptoSaid : Prop := fnPlacesUptoRow.holds Try.pinned (OpenSpec.upto fnPlacesSpec)

end Rows
end Go.Proofs.Ytkdbkddlbahceaa
