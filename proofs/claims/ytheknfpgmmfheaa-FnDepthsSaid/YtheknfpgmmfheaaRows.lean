/-
  No cell of these rows narrows 'for every input' (looked for: loops, veiled, ifaces, maps, wideKeys, modest, calm, conditions, laid).
  DERIVED. THE GIVEN ROWS OF THIS SEAT. 9 by the template 'for every input the law returns true; each argument reads behind the call as it read before'; 0 by the template 'total and deterministic' (their statements: YtheknfpgmmfheaaTotals.lean).
  GIVEN WITH THE SEED: the statements are not yours to turn. If you find one false, say at which input.
  Laid BY PROGRAM, IN A SANDBOX (cutbox-rows.mjs): the forced cells as the released guide's own fill.sh prints them over the translation b4c038d86ee52bef… (all of the seat's roots in one cut). By AI agents, Wed Nov 11 2026. No macro, syntax, notation, axiom, sorry.
-/
import Derived.Test.YtheknfpgmmfheaaChecked
import GoSem.Claim
import GoSem.ClaimJoined
import GoSem.ClaimMapViews
import Derived.JoinedTies
import Derived.KernelRfl
namespace Go.Proofs.Ytheknfpgmmfheaa
/- THE CELL 'sum', in the pinned program and in every row, IS THE sha256 OF THE DUMP (.gsa) THAT YtheknfpgmmfheaaProg.lean LOADS. Nothing in Lean hashes anything: it is a label: what it is worth is what the hold of that sum in a sandbox is worth. -/
noncomputable def Try.pinned : Pinned := { name := "ytheknfpgmmfheaa", sum := "b4c038d86ee52befd22d6b1c6bec7515a490fd35031a5e43675f4bd6eedf4202", checked := Try.checked }
namespace Rows
def none {H : Type} : Left H := { results := [], args := [] }

/-- 'laws.FnExactIsValidVessel': WHATEVER THE INPUT: true; the input reads as it did. -/
def fnExactIsValidVesselSpec : ChangeSpec := { name := "fnExactIsValidVessel", fn := fun _ => fun
  | [d] => { results := [.lit (.bool true)], args := [d] }
  | _ => none }
def fnExactIsValidVesselRow : OpenClaim := { program := "ytheknfpgmmfheaa", sum := "b4c038d86ee52befd22d6b1c6bec7515a490fd35031a5e43675f4bd6eedf4202", func := "loop.example/g00924/laws.FnExactIsValidVessel", spec := "fnExactIsValidVessel", apart := false }
def FnExactIsValidVesselSaid : Prop := fnExactIsValidVesselRow.holds Try.pinned (OpenSpec.ofChange fnExactIsValidVesselSpec)

/-- ITS FALSE NEIGHBOUR: 'it returns false'. Refute it at one input. -/
def fnExactIsValidVesselWrong : ChangeSpec := { name := "fnExactIsValidVessel", fn := fun _ => fun
  | [d] => { results := [.lit (.bool false)], args := [d] }
  | _ => none }
def FnExactIsValidVesselWrongFalsely : Prop := fnExactIsValidVesselRow.holds Try.pinned (OpenSpec.ofChange fnExactIsValidVesselWrong)

/-- 'laws.FnExactIsFleet': WHATEVER THE INPUT: true; the input reads as it did. -/
def fnExactIsFleetSpec : ChangeSpec := { name := "fnExactIsFleet", fn := fun _ => fun
  | [d] => { results := [.lit (.bool true)], args := [d] }
  | _ => none }
def fnExactIsFleetRow : OpenClaim := { program := "ytheknfpgmmfheaa", sum := "b4c038d86ee52befd22d6b1c6bec7515a490fd35031a5e43675f4bd6eedf4202", func := "loop.example/g00924/laws.FnExactIsFleet", spec := "fnExactIsFleet", unfollowed := true, recurses := true, apart := false }
def FnExactIsFleetSaid : Prop := fnExactIsFleetRow.holds Try.pinned (OpenSpec.ofChange fnExactIsFleetSpec)

/-- ITS FALSE NEIGHBOUR: 'it returns false'. Refute it at one input. -/
def fnExactIsFleetWrong : ChangeSpec := { name := "fnExactIsFleet", fn := fun _ => fun
  | [d] => { results := [.lit (.bool false)], args := [d] }
  | _ => none }
def FnExactIsFleetWrongFalsely : Prop := fnExactIsFleetRow.holds Try.pinned (OpenSpec.ofChange fnExactIsFleetWrong)

/-- 'laws.FnExactVesselNamed': WHATEVER THE INPUT: true; the input reads as it did. -/
def fnExactVesselNamedSpec : ChangeSpec := { name := "fnExactVesselNamed", fn := fun _ => fun
  | [d1, d2] => { results := [.lit (.bool true)], args := [d1, d2] }
  | _ => none }
def fnExactVesselNamedRow : OpenClaim := { program := "ytheknfpgmmfheaa", sum := "b4c038d86ee52befd22d6b1c6bec7515a490fd35031a5e43675f4bd6eedf4202", func := "loop.example/g00924/laws.FnExactVesselNamed", spec := "fnExactVesselNamed", unfollowed := true, recurses := true, apart := false }
def FnExactVesselNamedSaid : Prop := fnExactVesselNamedRow.holds Try.pinned (OpenSpec.ofChange fnExactVesselNamedSpec)

/-- ITS FALSE NEIGHBOUR: 'it returns false'. Refute it at one input. -/
def fnExactVesselNamedWrong : ChangeSpec := { name := "fnExactVesselNamed", fn := fun _ => fun
  | [d1, d2] => { results := [.lit (.bool false)], args := [d1, d2] }
  | _ => none }
def FnExactVesselNamedWrongFalsely : Prop := fnExactVesselNamedRow.holds Try.pinned (OpenSpec.ofChange fnExactVesselNamedWrong)

/-- 'laws.FnExactCellsOf': WHATEVER THE INPUT: true; the input reads as it did. -/
def fnExactCellsOfSpec : ChangeSpec := { name := "fnExactCellsOf", fn := fun _ => fun
  | [d] => { results := [.lit (.bool true)], args := [d] }
  | _ => none }
def fnExactCellsOfRow : OpenClaim := { program := "ytheknfpgmmfheaa", sum := "b4c038d86ee52befd22d6b1c6bec7515a490fd35031a5e43675f4bd6eedf4202", func := "loop.example/g00924/laws.FnExactCellsOf", spec := "fnExactCellsOf", unfollowed := true, recurses := true, apart := false }
def FnExactCellsOfSaid : Prop := fnExactCellsOfRow.holds Try.pinned (OpenSpec.ofChange fnExactCellsOfSpec)

/-- ITS FALSE NEIGHBOUR: 'it returns false'. Refute it at one input. -/
def fnExactCellsOfWrong : ChangeSpec := { name := "fnExactCellsOf", fn := fun _ => fun
  | [d] => { results := [.lit (.bool false)], args := [d] }
  | _ => none }
def FnExactCellsOfWrongFalsely : Prop := fnExactCellsOfRow.holds Try.pinned (OpenSpec.ofChange fnExactCellsOfWrong)

/-- 'laws.FnExactPassDepth': WHATEVER THE INPUT: true; the input reads as it did. -/
def fnExactPassDepthSpec : ChangeSpec := { name := "fnExactPassDepth", fn := fun _ => fun
  | [d1, d2, d3] => { results := [.lit (.bool true)], args := [d1, d2, d3] }
  | _ => none }
def fnExactPassDepthRow : OpenClaim := { program := "ytheknfpgmmfheaa", sum := "b4c038d86ee52befd22d6b1c6bec7515a490fd35031a5e43675f4bd6eedf4202", func := "loop.example/g00924/laws.FnExactPassDepth", spec := "fnExactPassDepth", unfollowed := true, recurses := true, apart := false }
def FnExactPassDepthSaid : Prop := fnExactPassDepthRow.holds Try.pinned (OpenSpec.ofChange fnExactPassDepthSpec)

/-- ITS FALSE NEIGHBOUR: 'it returns false'. Refute it at one input. -/
def fnExactPassDepthWrong : ChangeSpec := { name := "fnExactPassDepth", fn := fun _ => fun
  | [d1, d2, d3] => { results := [.lit (.bool false)], args := [d1, d2, d3] }
  | _ => none }
def FnExactPassDepthWrongFalsely : Prop := fnExactPassDepthRow.holds Try.pinned (OpenSpec.ofChange fnExactPassDepthWrong)

/-- 'laws.FnExactLightenVessel': WHATEVER THE INPUT: true; the input reads as it did. -/
def fnExactLightenVesselSpec : ChangeSpec := { name := "fnExactLightenVessel", fn := fun _ => fun
  | [d1, d2, d3] => { results := [.lit (.bool true)], args := [d1, d2, d3] }
  | _ => none }
def fnExactLightenVesselRow : OpenClaim := { program := "ytheknfpgmmfheaa", sum := "b4c038d86ee52befd22d6b1c6bec7515a490fd35031a5e43675f4bd6eedf4202", func := "loop.example/g00924/laws.FnExactLightenVessel", spec := "fnExactLightenVessel", unfollowed := true, recurses := true, apart := false }
def FnExactLightenVesselSaid : Prop := fnExactLightenVesselRow.holds Try.pinned (OpenSpec.ofChange fnExactLightenVesselSpec)

/-- ITS FALSE NEIGHBOUR: 'it returns false'. Refute it at one input. -/
def fnExactLightenVesselWrong : ChangeSpec := { name := "fnExactLightenVessel", fn := fun _ => fun
  | [d1, d2, d3] => { results := [.lit (.bool false)], args := [d1, d2, d3] }
  | _ => none }
def FnExactLightenVesselWrongFalsely : Prop := fnExactLightenVesselRow.holds Try.pinned (OpenSpec.ofChange fnExactLightenVesselWrong)

/-- 'laws.FnExactAddVessel': WHATEVER THE INPUT: true; the input reads as it did. -/
def fnExactAddVesselSpec : ChangeSpec := { name := "fnExactAddVessel", fn := fun _ => fun
  | [d1, d2] => { results := [.lit (.bool true)], args := [d1, d2] }
  | _ => none }
def fnExactAddVesselRow : OpenClaim := { program := "ytheknfpgmmfheaa", sum := "b4c038d86ee52befd22d6b1c6bec7515a490fd35031a5e43675f4bd6eedf4202", func := "loop.example/g00924/laws.FnExactAddVessel", spec := "fnExactAddVessel", inPlace := ["slices.overlaps[loop.example/g00924/impl.Vessel]"], unfollowed := true, recurses := true, apart := false }
def FnExactAddVesselSaid : Prop := fnExactAddVesselRow.holds Try.pinned (OpenSpec.ofChange fnExactAddVesselSpec)

/-- ITS FALSE NEIGHBOUR: 'it returns false'. Refute it at one input. -/
def fnExactAddVesselWrong : ChangeSpec := { name := "fnExactAddVessel", fn := fun _ => fun
  | [d1, d2] => { results := [.lit (.bool false)], args := [d1, d2] }
  | _ => none }
def FnExactAddVesselWrongFalsely : Prop := fnExactAddVesselRow.holds Try.pinned (OpenSpec.ofChange fnExactAddVesselWrong)

/-- 'laws.FnExactOrderVessels': WHATEVER THE INPUT: true; the input reads as it did. -/
def fnExactOrderVesselsSpec : ChangeSpec := { name := "fnExactOrderVessels", fn := fun _ => fun
  | [d] => { results := [.lit (.bool true)], args := [d] }
  | _ => none }
def fnExactOrderVesselsRow : OpenClaim := { program := "ytheknfpgmmfheaa", sum := "b4c038d86ee52befd22d6b1c6bec7515a490fd35031a5e43675f4bd6eedf4202", func := "loop.example/g00924/laws.FnExactOrderVessels", spec := "fnExactOrderVessels", unfollowed := true, recurses := true, apart := false }
def FnExactOrderVesselsSaid : Prop := fnExactOrderVesselsRow.holds Try.pinned (OpenSpec.ofChange fnExactOrderVesselsSpec)

/-- ITS FALSE NEIGHBOUR: 'it returns false'. Refute it at one input. -/
def fnExactOrderVesselsWrong : ChangeSpec := { name := "fnExactOrderVessels", fn := fun _ => fun
  | [d] => { results := [.lit (.bool false)], args := [d] }
  | _ => none }
def FnExactOrderVesselsWrongFalsely : Prop := fnExactOrderVesselsRow.holds Try.pinned (OpenSpec.ofChange fnExactOrderVesselsWrong)

/-- 'laws.FnDepths': WHATEVER THE INPUT: true; the input reads as it did. -/
def fnDepthsSpec : ChangeSpec := { name := "fnDepths", fn := fun _ => fun
  | [d] => { results := [.lit (.bool true)], args := [d] }
  | _ => none }
def fnDepthsRow : OpenClaim := { program := "ytheknfpgmmfheaa", sum := "b4c038d86ee52befd22d6b1c6bec7515a490fd35031a5e43675f4bd6eedf4202", func := "loop.example/g00924/laws.FnDepths", spec := "fnDepths", unfollowed := true, recurses := true, apart := false }
def FnDepthsSaid : Prop := fnDepthsRow.holds Try.pinned (OpenSpec.ofChange fnDepthsSpec)

/-- ITS FALSE NEIGHBOUR: 'it returns false'. Refute it at one input. -/
def fnDepthsWrong : ChangeSpec := { name := "fnDepths", fn := fun _ => fun
  | [d] => { results := [.lit (.bool false)], args := [d] }
  | _ => none }
def FnDepthsWrongFalsely : Prop := fnDepthsRow.holds Try.pinned (OpenSpec.ofChange fnDepthsWrong)

/- THE SECOND FORM. 'bulk': how many values and letters a reading holds, each counted each time it is reached (what is shared counts as often as it is met; a slice's spare places count too). A statement '..UptoSaid' is the law's where the arguments, and the package variables that the reading takes, are together of bulk at most 1048576: NARROWER than '..Said'. Prove '..Said' where nothing that the law and all that it calls make is longer than what came in: it says more and counts as full. Else prove '..UptoSaid'. A law counts once. -/
mutual
def uptoBulk {H : Type} : DataW H → Nat
  | .lit (.string bytes) => bytes.length + 1
  | .lit _ => 1
  | .nil => 1
  | .ptr d => uptoBulk d + 1
  | .slice elems spare => uptoBulkAll elems + uptoBulkAll spare + 1
  | .agg parts => uptoBulkAll parts + 1
  | .iface _ d => uptoBulk d + 1
  | .map entries => uptoBulkEntries entries + 1
  | .held _ => 1
def uptoBulkAll {H : Type} : List (DataW H) → Nat
  | [] => 0
  | d :: r => uptoBulk d + uptoBulkAll r
def uptoBulkEntries {H : Type} : List (Lit × DataW H) → Nat
  | [] => 0
  | x :: r => uptoBulkEntry x + uptoBulkEntries r
def uptoBulkEntry {H : Type} : Lit × DataW H → Nat
  | (.string bytes, d) => bytes.length + uptoBulk d + 1
  | (_, d) => uptoBulk d + 1
 end
def uptoSmall : (H : Type) → List (DataW H) → Bool := fun _ ds => decide (uptoBulkAll ds ≤ 1048576)
def OpenSpec.upto (s : _root_.Go.ChangeSpec) : _root_.Go.OpenSpec := { _root_.Go.OpenSpec.ofChange s with cond := some uptoSmall }

/-- 'laws.FnExactIsValidVessel', WHERE WHAT IT READS IS OF BULK AT MOST 1048576: true; the input reads as it did. -/
def fnExactIsValidVesselUptoRow : OpenClaim := { program := "ytheknfpgmmfheaa", sum := "b4c038d86ee52befd22d6b1c6bec7515a490fd35031a5e43675f4bd6eedf4202", func := "loop.example/g00924/laws.FnExactIsValidVessel", spec := "fnExactIsValidVessel", apart := false, narrowed := true }
def FnExactIsValidVesselUptoSaid : Prop := fnExactIsValidVesselUptoRow.holds Try.pinned (OpenSpec.upto fnExactIsValidVesselSpec)

/-- 'laws.FnExactIsFleet', WHERE WHAT IT READS IS OF BULK AT MOST 1048576: true; the input reads as it did. -/
def fnExactIsFleetUptoRow : OpenClaim := { program := "ytheknfpgmmfheaa", sum := "b4c038d86ee52befd22d6b1c6bec7515a490fd35031a5e43675f4bd6eedf4202", func := "loop.example/g00924/laws.FnExactIsFleet", spec := "fnExactIsFleet", unfollowed := true, recurses := true, apart := false, narrowed := true }
def FnExactIsFleetUptoSaid : Prop := fnExactIsFleetUptoRow.holds Try.pinned (OpenSpec.upto fnExactIsFleetSpec)

/-- 'laws.FnExactVesselNamed', WHERE WHAT IT READS IS OF BULK AT MOST 1048576: true; the input reads as it did. -/
def fnExactVesselNamedUptoRow : OpenClaim := { program := "ytheknfpgmmfheaa", sum := "b4c038d86ee52befd22d6b1c6bec7515a490fd35031a5e43675f4bd6eedf4202", func := "loop.example/g00924/laws.FnExactVesselNamed", spec := "fnExactVesselNamed", unfollowed := true, recurses := true, apart := false, narrowed := true }
def FnExactVesselNamedUptoSaid : Prop := fnExactVesselNamedUptoRow.holds Try.pinned (OpenSpec.upto fnExactVesselNamedSpec)

/-- 'laws.FnExactCellsOf', WHERE WHAT IT READS IS OF BULK AT MOST 1048576: true; the input reads as it did. -/
def fnExactCellsOfUptoRow : OpenClaim := { program := "ytheknfpgmmfheaa", sum := "b4c038d86ee52befd22d6b1c6bec7515a490fd35031a5e43675f4bd6eedf4202", func := "loop.example/g00924/laws.FnExactCellsOf", spec := "fnExactCellsOf", unfollowed := true, recurses := true, apart := false, narrowed := true }
def FnExactCellsOfUptoSaid : Prop := fnExactCellsOfUptoRow.holds Try.pinned (OpenSpec.upto fnExactCellsOfSpec)

/-- 'laws.FnExactPassDepth', WHERE WHAT IT READS IS OF BULK AT MOST 1048576: true; the input reads as it did. -/
def fnExactPassDepthUptoRow : OpenClaim := { program := "ytheknfpgmmfheaa", sum := "b4c038d86ee52befd22d6b1c6bec7515a490fd35031a5e43675f4bd6eedf4202", func := "loop.example/g00924/laws.FnExactPassDepth", spec := "fnExactPassDepth", unfollowed := true, recurses := true, apart := false, narrowed := true }
def FnExactPassDepthUptoSaid : Prop := fnExactPassDepthUptoRow.holds Try.pinned (OpenSpec.upto fnExactPassDepthSpec)

/-- 'laws.FnExactLightenVessel', WHERE WHAT IT READS IS OF BULK AT MOST 1048576: true; the input reads as it did. -/
def fnExactLightenVesselUptoRow : OpenClaim := { program := "ytheknfpgmmfheaa", sum := "b4c038d86ee52befd22d6b1c6bec7515a490fd35031a5e43675f4bd6eedf4202", func := "loop.example/g00924/laws.FnExactLightenVessel", spec := "fnExactLightenVessel", unfollowed := true, recurses := true, apart := false, narrowed := true }
def FnExactLightenVesselUptoSaid : Prop := fnExactLightenVesselUptoRow.holds Try.pinned (OpenSpec.upto fnExactLightenVesselSpec)

/-- 'laws.FnExactAddVessel', WHERE WHAT IT READS IS OF BULK AT MOST 1048576: true; the input reads as it did. -/
def fnExactAddVesselUptoRow : OpenClaim := { program := "ytheknfpgmmfheaa", sum := "b4c038d86ee52befd22d6b1c6bec7515a490fd35031a5e43675f4bd6eedf4202", func := "loop.example/g00924/laws.FnExactAddVessel", spec := "fnExactAddVessel", inPlace := ["slices.overlaps[loop.example/g00924/impl.Vessel]"], unfollowed := true, recurses := true, apart := false, narrowed := true }
def FnExactAddVesselUptoSaid : Prop := fnExactAddVesselUptoRow.holds Try.pinned (OpenSpec.upto fnExactAddVesselSpec)

/-- 'laws.FnExactOrderVessels', WHERE WHAT IT READS IS OF BULK AT MOST 1048576: true; the input reads as it did. -/
def fnExactOrderVesselsUptoRow : OpenClaim := { program := "ytheknfpgmmfheaa", sum := "b4c038d86ee52befd22d6b1c6bec7515a490fd35031a5e43675f4bd6eedf4202", func := "loop.example/g00924/laws.FnExactOrderVessels", spec := "fnExactOrderVessels", unfollowed := true, recurses := true, apart := false, narrowed := true }
def FnExactOrderVesselsUptoSaid : Prop := fnExactOrderVesselsUptoRow.holds Try.pinned (OpenSpec.upto fnExactOrderVesselsSpec)

/-- 'laws.FnDepths', WHERE WHAT IT READS IS OF BULK AT MOST 1048576: true; the input reads as it did. -/
def fnDepthsUptoRow : OpenClaim := { program := "ytheknfpgmmfheaa", sum := "b4c038d86ee52befd22d6b1c6bec7515a490fd35031a5e43675f4bd6eedf4202", func := "loop.example/g00924/laws.FnDepths", spec := "fnDepths", unfollowed := true, recurses := true, apart := false, narrowed := true }
def FnDepthsUptoSaid : Prop := fnDepthsUptoRow.holds Try.pinned (OpenSpec.upto fnDepthsSpec)

end Rows
end Go.Proofs.Ytheknfpgmmfheaa
