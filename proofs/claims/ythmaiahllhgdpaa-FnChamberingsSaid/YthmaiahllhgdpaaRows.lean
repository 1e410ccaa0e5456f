/-
  No cell of these rows narrows 'for every input' (looked for: loops, veiled, ifaces, maps, wideKeys, modest, calm, conditions, laid).
  DERIVED. THE GIVEN ROWS OF THIS SEAT. 11 by the template 'for every input the law returns true; each argument reads behind the call as it read before'; 0 by the template 'total and deterministic' (their statements: YthmaiahllhgdpaaTotals.lean).
  GIVEN WITH THE SEED: the statements are not yours to turn. If you find one false, say at which input.
  Laid BY PROGRAM, IN A SANDBOX (cutbox-rows.mjs): the forced cells as the released guide's own fill.sh prints them over the translation 5b9ac4897270bf65… (all of the seat's roots in one cut). By AI agents, Wed Nov 11 2026. No macro, syntax, notation, axiom, sorry.
-/
import Derived.Test.YthmaiahllhgdpaaChecked
import GoSem.Claim
import GoSem.ClaimJoined
import GoSem.ClaimMapViews
import Derived.JoinedTies
import Derived.KernelRfl
namespace Go.Proofs.Ythmaiahllhgdpaa
/- THE CELL 'sum', in the pinned program and in every row, IS THE sha256 OF THE DUMP (.gsa) THAT YthmaiahllhgdpaaProg.lean LOADS. Nothing in Lean hashes anything: it is a label: what it is worth is what the hold of that sum in a sandbox is worth. -/
noncomputable def Try.pinned : Pinned := { name := "ythmaiahllhgdpaa", sum := "5b9ac4897270bf65a34ee47c3e2f74ec5bb0c43accc59c31a5442a746faa9d3d", checked := Try.checked }
namespace Rows
def none {H : Type} : Left H := { results := [], args := [] }

/-- 'laws.FnPackings': WHATEVER THE INPUT: true; the input reads as it did. -/
def fnPackingsSpec : ChangeSpec := { name := "fnPackings", fn := fun _ => fun
  | [d] => { results := [.lit (.bool true)], args := [d] }
  | _ => none }
def fnPackingsRow : OpenClaim := { program := "ythmaiahllhgdpaa", sum := "5b9ac4897270bf65a34ee47c3e2f74ec5bb0c43accc59c31a5442a746faa9d3d", func := "loop.example/g00924/laws.FnPackings", spec := "fnPackings", recurses := true, apart := false }
def FnPackingsSaid : Prop := fnPackingsRow.holds Try.pinned (OpenSpec.ofChange fnPackingsSpec)

/-- ITS FALSE NEIGHBOUR: 'it returns false'. Refute it at one input. -/
def fnPackingsWrong : ChangeSpec := { name := "fnPackings", fn := fun _ => fun
  | [d] => { results := [.lit (.bool false)], args := [d] }
  | _ => none }
def FnPackingsWrongFalsely : Prop := fnPackingsRow.holds Try.pinned (OpenSpec.ofChange fnPackingsWrong)

/-- 'laws.FnExactAreHulls': WHATEVER THE INPUT: true; the input reads as it did. -/
def fnExactAreHullsSpec : ChangeSpec := { name := "fnExactAreHulls", fn := fun _ => fun
  | [d] => { results := [.lit (.bool true)], args := [d] }
  | _ => none }
def fnExactAreHullsRow : OpenClaim := { program := "ythmaiahllhgdpaa", sum := "5b9ac4897270bf65a34ee47c3e2f74ec5bb0c43accc59c31a5442a746faa9d3d", func := "loop.example/g00924/laws.FnExactAreHulls", spec := "fnExactAreHulls", apart := false }
def FnExactAreHullsSaid : Prop := fnExactAreHullsRow.holds Try.pinned (OpenSpec.ofChange fnExactAreHullsSpec)

/-- ITS FALSE NEIGHBOUR: 'it returns false'. Refute it at one input. -/
def fnExactAreHullsWrong : ChangeSpec := { name := "fnExactAreHulls", fn := fun _ => fun
  | [d] => { results := [.lit (.bool false)], args := [d] }
  | _ => none }
def FnExactAreHullsWrongFalsely : Prop := fnExactAreHullsRow.holds Try.pinned (OpenSpec.ofChange fnExactAreHullsWrong)

/-- 'laws.FnExactIsPacking': WHATEVER THE INPUT: true; the input reads as it did. -/
def fnExactIsPackingSpec : ChangeSpec := { name := "fnExactIsPacking", fn := fun _ => fun
  | [d1, d2, d3] => { results := [.lit (.bool true)], args := [d1, d2, d3] }
  | _ => none }
def fnExactIsPackingRow : OpenClaim := { program := "ythmaiahllhgdpaa", sum := "5b9ac4897270bf65a34ee47c3e2f74ec5bb0c43accc59c31a5442a746faa9d3d", func := "loop.example/g00924/laws.FnExactIsPacking", spec := "fnExactIsPacking", apart := false }
def FnExactIsPackingSaid : Prop := fnExactIsPackingRow.holds Try.pinned (OpenSpec.ofChange fnExactIsPackingSpec)

/-- ITS FALSE NEIGHBOUR: 'it returns false'. Refute it at one input. -/
def fnExactIsPackingWrong : ChangeSpec := { name := "fnExactIsPacking", fn := fun _ => fun
  | [d1, d2, d3] => { results := [.lit (.bool false)], args := [d1, d2, d3] }
  | _ => none }
def FnExactIsPackingWrongFalsely : Prop := fnExactIsPackingRow.holds Try.pinned (OpenSpec.ofChange fnExactIsPackingWrong)

/-- 'laws.FnExactCoveredCells': WHATEVER THE INPUT: true; the input reads as it did. -/
def fnExactCoveredCellsSpec : ChangeSpec := { name := "fnExactCoveredCells", fn := fun _ => fun
  | [d1, d2, d3] => { results := [.lit (.bool true)], args := [d1, d2, d3] }
  | _ => none }
def fnExactCoveredCellsRow : OpenClaim := { program := "ythmaiahllhgdpaa", sum := "5b9ac4897270bf65a34ee47c3e2f74ec5bb0c43accc59c31a5442a746faa9d3d", func := "loop.example/g00924/laws.FnExactCoveredCells", spec := "fnExactCoveredCells", apart := false }
def FnExactCoveredCellsSaid : Prop := fnExactCoveredCellsRow.holds Try.pinned (OpenSpec.ofChange fnExactCoveredCellsSpec)

/-- ITS FALSE NEIGHBOUR: 'it returns false'. Refute it at one input. -/
def fnExactCoveredCellsWrong : ChangeSpec := { name := "fnExactCoveredCells", fn := fun _ => fun
  | [d1, d2, d3] => { results := [.lit (.bool false)], args := [d1, d2, d3] }
  | _ => none }
def FnExactCoveredCellsWrongFalsely : Prop := fnExactCoveredCellsRow.holds Try.pinned (OpenSpec.ofChange fnExactCoveredCellsWrong)

/-- 'laws.FnExactChamberPicture': WHATEVER THE INPUT: true; the input reads as it did. -/
def fnExactChamberPictureSpec : ChangeSpec := { name := "fnExactChamberPicture", fn := fun _ => fun
  | [d1, d2, d3] => { results := [.lit (.bool true)], args := [d1, d2, d3] }
  | _ => none }
def fnExactChamberPictureRow : OpenClaim := { program := "ythmaiahllhgdpaa", sum := "5b9ac4897270bf65a34ee47c3e2f74ec5bb0c43accc59c31a5442a746faa9d3d", func := "loop.example/g00924/laws.FnExactChamberPicture", spec := "fnExactChamberPicture", apart := false }
def FnExactChamberPictureSaid : Prop := fnExactChamberPictureRow.holds Try.pinned (OpenSpec.ofChange fnExactChamberPictureSpec)

/-- ITS FALSE NEIGHBOUR: 'it returns false'. Refute it at one input. -/
def fnExactChamberPictureWrong : ChangeSpec := { name := "fnExactChamberPicture", fn := fun _ => fun
  | [d1, d2, d3] => { results := [.lit (.bool false)], args := [d1, d2, d3] }
  | _ => none }
def FnExactChamberPictureWrongFalsely : Prop := fnExactChamberPictureRow.holds Try.pinned (OpenSpec.ofChange fnExactChamberPictureWrong)

/-- 'laws.FnExactFirstPacking': WHATEVER THE INPUT: true; the input reads as it did. -/
def fnExactFirstPackingSpec : ChangeSpec := { name := "fnExactFirstPacking", fn := fun _ => fun
  | [d1, d2] => { results := [.lit (.bool true)], args := [d1, d2] }
  | _ => none }
def fnExactFirstPackingRow : OpenClaim := { program := "ythmaiahllhgdpaa", sum := "5b9ac4897270bf65a34ee47c3e2f74ec5bb0c43accc59c31a5442a746faa9d3d", func := "loop.example/g00924/laws.FnExactFirstPacking", spec := "fnExactFirstPacking", recurses := true, apart := false }
def FnExactFirstPackingSaid : Prop := fnExactFirstPackingRow.holds Try.pinned (OpenSpec.ofChange fnExactFirstPackingSpec)

/-- ITS FALSE NEIGHBOUR: 'it returns false'. Refute it at one input. -/
def fnExactFirstPackingWrong : ChangeSpec := { name := "fnExactFirstPacking", fn := fun _ => fun
  | [d1, d2] => { results := [.lit (.bool false)], args := [d1, d2] }
  | _ => none }
def FnExactFirstPackingWrongFalsely : Prop := fnExactFirstPackingRow.holds Try.pinned (OpenSpec.ofChange fnExactFirstPackingWrong)

/-- 'laws.FnExactShiftSpots': WHATEVER THE INPUT: true; the input reads as it did. -/
def fnExactShiftSpotsSpec : ChangeSpec := { name := "fnExactShiftSpots", fn := fun _ => fun
  | [d1, d2, d3, d4] => { results := [.lit (.bool true)], args := [d1, d2, d3, d4] }
  | _ => none }
def fnExactShiftSpotsRow : OpenClaim := { program := "ythmaiahllhgdpaa", sum := "5b9ac4897270bf65a34ee47c3e2f74ec5bb0c43accc59c31a5442a746faa9d3d", func := "loop.example/g00924/laws.FnExactShiftSpots", spec := "fnExactShiftSpots", apart := false }
def FnExactShiftSpotsSaid : Prop := fnExactShiftSpotsRow.holds Try.pinned (OpenSpec.ofChange fnExactShiftSpotsSpec)

/-- ITS FALSE NEIGHBOUR: 'it returns false'. Refute it at one input. -/
def fnExactShiftSpotsWrong : ChangeSpec := { name := "fnExactShiftSpots", fn := fun _ => fun
  | [d1, d2, d3, d4] => { results := [.lit (.bool false)], args := [d1, d2, d3, d4] }
  | _ => none }
def FnExactShiftSpotsWrongFalsely : Prop := fnExactShiftSpotsRow.holds Try.pinned (OpenSpec.ofChange fnExactShiftSpotsWrong)

/-- 'laws.FnExactFewestLockages': WHATEVER THE INPUT: true; the input reads as it did. -/
def fnExactFewestLockagesSpec : ChangeSpec := { name := "fnExactFewestLockages", fn := fun _ => fun
  | [d1, d2] => { results := [.lit (.bool true)], args := [d1, d2] }
  | _ => none }
def fnExactFewestLockagesRow : OpenClaim := { program := "ythmaiahllhgdpaa", sum := "5b9ac4897270bf65a34ee47c3e2f74ec5bb0c43accc59c31a5442a746faa9d3d", func := "loop.example/g00924/laws.FnExactFewestLockages", spec := "fnExactFewestLockages", recurses := true, apart := false }
def FnExactFewestLockagesSaid : Prop := fnExactFewestLockagesRow.holds Try.pinned (OpenSpec.ofChange fnExactFewestLockagesSpec)

/-- ITS FALSE NEIGHBOUR: 'it returns false'. Refute it at one input. -/
def fnExactFewestLockagesWrong : ChangeSpec := { name := "fnExactFewestLockages", fn := fun _ => fun
  | [d1, d2] => { results := [.lit (.bool false)], args := [d1, d2] }
  | _ => none }
def FnExactFewestLockagesWrongFalsely : Prop := fnExactFewestLockagesRow.holds Try.pinned (OpenSpec.ofChange fnExactFewestLockagesWrong)

/-- 'laws.FnExactLockagesInOrder': WHATEVER THE INPUT: true; the input reads as it did. -/
def fnExactLockagesInOrderSpec : ChangeSpec := { name := "fnExactLockagesInOrder", fn := fun _ => fun
  | [d1, d2] => { results := [.lit (.bool true)], args := [d1, d2] }
  | _ => none }
def fnExactLockagesInOrderRow : OpenClaim := { program := "ythmaiahllhgdpaa", sum := "5b9ac4897270bf65a34ee47c3e2f74ec5bb0c43accc59c31a5442a746faa9d3d", func := "loop.example/g00924/laws.FnExactLockagesInOrder", spec := "fnExactLockagesInOrder", recurses := true, apart := false }
def FnExactLockagesInOrderSaid : Prop := fnExactLockagesInOrderRow.holds Try.pinned (OpenSpec.ofChange fnExactLockagesInOrderSpec)

/-- ITS FALSE NEIGHBOUR: 'it returns false'. Refute it at one input. -/
def fnExactLockagesInOrderWrong : ChangeSpec := { name := "fnExactLockagesInOrder", fn := fun _ => fun
  | [d1, d2] => { results := [.lit (.bool false)], args := [d1, d2] }
  | _ => none }
def FnExactLockagesInOrderWrongFalsely : Prop := fnExactLockagesInOrderRow.holds Try.pinned (OpenSpec.ofChange fnExactLockagesInOrderWrong)

/-- 'laws.FnExactMostHulls': WHATEVER THE INPUT: true; the input reads as it did. -/
def fnExactMostHullsSpec : ChangeSpec := { name := "fnExactMostHulls", fn := fun _ => fun
  | [d1, d2] => { results := [.lit (.bool true)], args := [d1, d2] }
  | _ => none }
def fnExactMostHullsRow : OpenClaim := { program := "ythmaiahllhgdpaa", sum := "5b9ac4897270bf65a34ee47c3e2f74ec5bb0c43accc59c31a5442a746faa9d3d", func := "loop.example/g00924/laws.FnExactMostHulls", spec := "fnExactMostHulls", recurses := true, apart := false }
def FnExactMostHullsSaid : Prop := fnExactMostHullsRow.holds Try.pinned (OpenSpec.ofChange fnExactMostHullsSpec)

/-- ITS FALSE NEIGHBOUR: 'it returns false'. Refute it at one input. -/
def fnExactMostHullsWrong : ChangeSpec := { name := "fnExactMostHulls", fn := fun _ => fun
  | [d1, d2] => { results := [.lit (.bool false)], args := [d1, d2] }
  | _ => none }
def FnExactMostHullsWrongFalsely : Prop := fnExactMostHullsRow.holds Try.pinned (OpenSpec.ofChange fnExactMostHullsWrong)

/-- 'laws.FnChamberings': WHATEVER THE INPUT: true; the input reads as it did. -/
def fnChamberingsSpec : ChangeSpec := { name := "fnChamberings", fn := fun _ => fun
  | [d] => { results := [.lit (.bool true)], args := [d] }
  | _ => none }
def fnChamberingsRow : OpenClaim := { program := "ythmaiahllhgdpaa", sum := "5b9ac4897270bf65a34ee47c3e2f74ec5bb0c43accc59c31a5442a746faa9d3d", func := "loop.example/g00924/laws.FnChamberings", spec := "fnChamberings", recurses := true, apart := false }
def FnChamberingsSaid : Prop := fnChamberingsRow.holds Try.pinned (OpenSpec.ofChange fnChamberingsSpec)

/-- ITS FALSE NEIGHBOUR: 'it returns false'. Refute it at one input. -/
def fnChamberingsWrong : ChangeSpec := { name := "fnChamberings", fn := fun _ => fun
  | [d] => { results := [.lit (.bool false)], args := [d] }
  | _ => none }
def FnChamberingsWrongFalsely : Prop := fnChamberingsRow.holds Try.pinned (OpenSpec.ofChange fnChamberingsWrong)

/- THE SECOND FORM. 'bulk': how many values and letters a reading holds, each counted each time it is reached (what is shared counts as often as it is met; a slice's spare places count too). A statement '..UptoSaid' is the law's where the arguments, and the package variables that the reading takes, are together of bulk at most 1048576: NARROWER than '..Said'. Prove '..Said' where nothing that the law and all that it calls make is longer than what came in: it says more and counts as full. Else prove '..UptoSaid'. A law counts once. -/
mutual
def uptoBulk {H : Type} : DataW H → Nat
  | .lit (.string bytes) => bytes.length + 1
  | .lit _ => 1
  | .nil => 1
  | .ptr d => uptoBulk d + 1
  | .slice elems spare => uptoBulkAll elems + uptoBulkAll spare + 1
  | .agg parts => uptoBulkAll parts + 1
  | .iface _ d => uptoBulk d + 1
  | .map entries => uptoBulkEntries entries + 1
  | .held _ => 1
def uptoBulkAll {H : Type} : List (DataW H) → Nat
  | [] => 0
  | d :: r => uptoBulk d + uptoBulkAll r
def uptoBulkEntries {H : Type} : List (Lit × DataW H) → Nat
  | [] => 0
  | x :: r => uptoBulkEntry x + uptoBulkEntries r
def uptoBulkEntry {H : Type} : Lit × DataW H → Nat
  | (.string bytes, d) => bytes.length + uptoBulk d + 1
  | (_, d) => uptoBulk d + 1
 end
def uptoSmall : (H : Type) → List (DataW H) → Bool := fun _ ds => decide (uptoBulkAll ds ≤ 1048576)
def OpenSpec.upto (s : _root_.Go.ChangeSpec) : _root_.Go.OpenSpec := { _root_.Go.OpenSpec.ofChange s with cond := some uptoSmall }

/-- 'laws.FnPackings', WHERE WHAT IT READS IS OF BULK AT MOST 1048576: true; the input reads as it did. -/
def fnPackingsUptoRow : OpenClaim := { program := "ythmaiahllhgdpaa", sum := "5b9ac4897270bf65a34ee47c3e2f74ec5bb0c43accc59c31a5442a746faa9d3d", func := "loop.example/g00924/laws.FnPackings", spec := "fnPackings", recurses := true, apart := false, narrowed := true }
def FnPackingsUptoSaid : Prop := fnPackingsUptoRow.holds Try.pinned (OpenSpec.upto fnPackingsSpec)

/-- 'laws.FnExactAreHulls', WHERE WHAT IT READS IS OF BULK AT MOST 1048576: true; the input reads as it did. -/
def fnExactAreHullsUptoRow : OpenClaim := { program := "ythmaiahllhgdpaa", sum := "5b9ac4897270bf65a34ee47c3e2f74ec5bb0c43accc59c31a5442a746faa9d3d", func := "loop.example/g00924/laws.FnExactAreHulls", spec := "fnExactAreHulls", apart := false, narrowed := true }
def FnExactAreHullsUptoSaid : Prop := fnExactAreHullsUptoRow.holds Try.pinned (OpenSpec.upto fnExactAreHullsSpec)

/-- 'laws.FnExactIsPacking', WHERE WHAT IT READS IS OF BULK AT MOST 1048576: true; the input reads as it did. -/
def fnExactIsPackingUptoRow : OpenClaim := { program := "ythmaiahllhgdpaa", sum := "5b9ac4897270bf65a34ee47c3e2f74ec5bb0c43accc59c31a5442a746faa9d3d", func := "loop.example/g00924/laws.FnExactIsPacking", spec := "fnExactIsPacking", apart := false, narrowed := true }
def FnExactIsPackingUptoSaid : Prop := fnExactIsPackingUptoRow.holds Try.pinned (OpenSpec.upto fnExactIsPackingSpec)

/-- 'laws.FnExactCoveredCells', WHERE WHAT IT READS IS OF BULK AT MOST 1048576: true; the input reads as it did. -/
def fnExactCoveredCellsUptoRow : OpenClaim := { program := "ythmaiahllhgdpaa", sum := "5b9ac4897270bf65a34ee47c3e2f74ec5bb0c43accc59c31a5442a746faa9d3d", func := "loop.example/g00924/laws.FnExactCoveredCells", spec := "fnExactCoveredCells", apart := false, narrowed := true }
def FnExactCoveredCellsUptoSaid : Prop := fnExactCoveredCellsUptoRow.holds Try.pinned (OpenSpec.upto fnExactCoveredCellsSpec)

/-- 'laws.FnExactChamberPicture', WHERE WHAT IT READS IS OF BULK AT MOST 1048576: true; the input reads as it did. -/
def fnExactChamberPictureUptoRow : OpenClaim := { program := "ythmaiahllhgdpaa", sum := "5b9ac4897270bf65a34ee47c3e2f74ec5bb0c43accc59c31a5442a746faa9d3d", func := "loop.example/g00924/laws.FnExactChamberPicture", spec := "fnExactChamberPicture", apart := false, narrowed := true }
def FnExactChamberPictureUptoSaid : Prop := fnExactChamberPictureUptoRow.holds Try.pinned (OpenSpec.upto fnExactChamberPictureSpec)

/-- 'laws.FnExactFirstPacking', WHERE WHAT IT READS IS OF BULK AT MOST 1048576: true; the input reads as it did. -/
def fnExactFirstPackingUptoRow : OpenClaim := { program := "ythmaiahllhgdpaa", sum := "5b9ac4897270bf65a34ee47c3e2f74ec5bb0c43accc59c31a5442a746faa9d3d", func := "loop.example/g00924/laws.FnExactFirstPacking", spec := "fnExactFirstPacking", recurses := true, apart := false, narrowed := true }
def FnExactFirstPackingUptoSaid : Prop := fnExactFirstPackingUptoRow.holds Try.pinned (OpenSpec.upto fnExactFirstPackingSpec)

/-- 'laws.FnExactShiftSpots', WHERE WHAT IT READS IS OF BULK AT MOST 1048576: true; the input reads as it did. -/
def fnExactShiftSpotsUptoRow : OpenClaim := { program := "ythmaiahllhgdpaa", sum := "5b9ac4897270bf65a34ee47c3e2f74ec5bb0c43accc59c31a5442a746faa9d3d", func := "loop.example/g00924/laws.FnExactShiftSpots", spec := "fnExactShiftSpots", apart := false, narrowed := true }
def FnExactShiftSpotsUptoSaid : Prop := fnExactShiftSpotsUptoRow.holds Try.pinned (OpenSpec.upto fnExactShiftSpotsSpec)

/-- 'laws.FnExactFewestLockages', WHERE WHAT IT READS IS OF BULK AT MOST 1048576: true; the input reads as it did. -/
def fnExactFewestLockagesUptoRow : OpenClaim := { program := "ythmaiahllhgdpaa", sum := "5b9ac4897270bf65a34ee47c3e2f74ec5bb0c43accc59c31a5442a746faa9d3d", func := "loop.example/g00924/laws.FnExactFewestLockages", spec := "fnExactFewestLockages", recurses := true, apart := false, narrowed := true }
def FnExactFewestLockagesUptoSaid : Prop := fnExactFewestLockagesUptoRow.holds Try.pinned (OpenSpec.upto fnExactFewestLockagesSpec)

/-- 'laws.FnExactLockagesInOrder', WHERE WHAT IT READS IS OF BULK AT MOST 1048576: true; the input reads as it did. -/
def fnExactLockagesInOrderUptoRow : OpenClaim := { program := "ythmaiahllhgdpaa", sum := "5b9ac4897270bf65a34ee47c3e2f74ec5bb0c43accc59c31a5442a746faa9d3d", func := "loop.example/g00924/laws.FnExactLockagesInOrder", spec := "fnExactLockagesInOrder", recurses := true, apart := false, narrowed := true }
def FnExactLockagesInOrderUptoSaid : Prop := fnExactLockagesInOrderUptoRow.holds Try.pinned (OpenSpec.upto fnExactLockagesInOrderSpec)

/-- 'laws.FnExactMostHulls', WHERE WHAT IT READS IS OF BULK AT MOST 1048576: true; the input reads as it did. -/
def fnExactMostHullsUptoRow : OpenClaim := { program := "ythmaiahllhgdpaa", sum := "5b9ac4897270bf65a34ee47c3e2f74ec5bb0c43accc59c31a5442a746faa9d3d", func := "loop.example/g00924/laws.FnExactMostHulls", spec := "fnExactMostHulls", recurses := true, apart := false, narrowed := true }
def FnExactMostHullsUptoSaid : Prop := fnExactMostHullsUptoRow.holds Try.pinned (OpenSpec.upto fnExactMostHullsSpec)

/-- 'laws.FnChamberings', WHERE WHAT IT READS IS OF BULK AT MOST 1048576: true; the input reads as it did. -/
def fnChamberingsUptoRow : OpenClaim := { program := "ythmaiahllhgdpaa", sum := "5b9ac4897270bf65a34ee47c3e2f74ec5bb0c43accc59c31a5442a746faa9d3d", func := "loop.example/g00924/laws.FnChamberings", spec := "fnChamberings", recurses := true, apart := false, narrowed := true }
def FnChamberingsUptoSaid : Prop := fnChamberingsUptoRow.holds Try.pinned (OpenSpec.upto fnChamberingsSpec)

end Rows
end Go.Proofs.Ythmaiahllhgdpaa
