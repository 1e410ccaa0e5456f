/-
  No cell of these rows narrows 'for every input' (looked for: loops, veiled, ifaces, maps, wideKeys, modest, calm, conditions, laid).
  DERIVED. THE GIVEN ROWS OF THIS SEAT. 5 by the template 'for every input the law returns true; each argument reads behind the call as it read before'; 0 by the template 'total and deterministic' (their statements: YtliinokcglgndaaTotals.lean).
  GIVEN WITH THE SEED: the statements are not yours to turn. If you find one false, say at which input.
  Laid BY PROGRAM, IN A SANDBOX (cutbox-rows.mjs): the forced cells as the released guide's own fill.sh prints them over the translation db85ea316570c718… (all of the seat's roots in one cut). By AI agents, Wed Nov 11 2026. No macro, syntax, notation, axiom, sorry.
-/
import Derived.Test.YtliinokcglgndaaChecked
import GoSem.Claim
import GoSem.ClaimJoined
import GoSem.ClaimMapViews
import Derived.JoinedTies
import Derived.KernelRfl
namespace Go.Proofs.Ytliinokcglgndaa
/- THE CELL 'sum', in the pinned program and in every row, IS THE sha256 OF THE DUMP (.gsa) THAT YtliinokcglgndaaProg.lean LOADS. Nothing in Lean hashes anything: it is a label: what it is worth is what the hold of that sum in a sandbox is worth. -/
noncomputable def Try.pinned : Pinned := { name := "ytliinokcglgndaa", sum := "db85ea316570c71896538e9614bcc69d5c43e3dba708845f0ea4ab88e0e59143", checked := Try.checked }
namespace Rows
def none {H : Type} : Left H := { results := [], args := [] }

/-- 'laws.FnExactJumpIn': WHATEVER THE INPUT: true; the input reads as it did. -/
def fnExactJumpInSpec : ChangeSpec := { name := "fnExactJumpIn", fn := fun _ => fun
  | [d1, d2] => { results := [.lit (.bool true)], args := [d1, d2] }
  | _ => none }
def fnExactJumpInRow : OpenClaim := { program := "ytliinokcglgndaa", sum := "db85ea316570c71896538e9614bcc69d5c43e3dba708845f0ea4ab88e0e59143", func := "loop.example/g00924/laws.FnExactJumpIn", spec := "fnExactJumpIn", unfollowed := true, recurses := true, apart := false }
def FnExactJumpInSaid : Prop := fnExactJumpInRow.holds Try.pinned (OpenSpec.ofChange fnExactJumpInSpec)

/-- ITS FALSE NEIGHBOUR: 'it returns false'. Refute it at one input. -/
def fnExactJumpInWrong : ChangeSpec := { name := "fnExactJumpIn", fn := fun _ => fun
  | [d1, d2] => { results := [.lit (.bool false)], args := [d1, d2] }
  | _ => none }
def FnExactJumpInWrongFalsely : Prop := fnExactJumpInRow.holds Try.pinned (OpenSpec.ofChange fnExactJumpInWrong)

/-- 'laws.FnExactIsStuck': WHATEVER THE INPUT: true; the input reads as it did. -/
def fnExactIsStuckSpec : ChangeSpec := { name := "fnExactIsStuck", fn := fun _ => fun
  | [d1, d2] => { results := [.lit (.bool true)], args := [d1, d2] }
  | _ => none }
def fnExactIsStuckRow : OpenClaim := { program := "ytliinokcglgndaa", sum := "db85ea316570c71896538e9614bcc69d5c43e3dba708845f0ea4ab88e0e59143", func := "loop.example/g00924/laws.FnExactIsStuck", spec := "fnExactIsStuck", unfollowed := true, recurses := true, apart := false }
def FnExactIsStuckSaid : Prop := fnExactIsStuckRow.holds Try.pinned (OpenSpec.ofChange fnExactIsStuckSpec)

/-- ITS FALSE NEIGHBOUR: 'it returns false'. Refute it at one input. -/
def fnExactIsStuckWrong : ChangeSpec := { name := "fnExactIsStuck", fn := fun _ => fun
  | [d1, d2] => { results := [.lit (.bool false)], args := [d1, d2] }
  | _ => none }
def FnExactIsStuckWrongFalsely : Prop := fnExactIsStuckRow.holds Try.pinned (OpenSpec.ofChange fnExactIsStuckWrong)

/-- 'laws.FnExactLongestCalm': WHATEVER THE INPUT: true; the input reads as it did. -/
def fnExactLongestCalmSpec : ChangeSpec := { name := "fnExactLongestCalm", fn := fun _ => fun
  | [d1, d2] => { results := [.lit (.bool true)], args := [d1, d2] }
  | _ => none }
def fnExactLongestCalmRow : OpenClaim := { program := "ytliinokcglgndaa", sum := "db85ea316570c71896538e9614bcc69d5c43e3dba708845f0ea4ab88e0e59143", func := "loop.example/g00924/laws.FnExactLongestCalm", spec := "fnExactLongestCalm", unfollowed := true, recurses := true, apart := false }
def FnExactLongestCalmSaid : Prop := fnExactLongestCalmRow.holds Try.pinned (OpenSpec.ofChange fnExactLongestCalmSpec)

/-- ITS FALSE NEIGHBOUR: 'it returns false'. Refute it at one input. -/
def fnExactLongestCalmWrong : ChangeSpec := { name := "fnExactLongestCalm", fn := fun _ => fun
  | [d1, d2] => { results := [.lit (.bool false)], args := [d1, d2] }
  | _ => none }
def FnExactLongestCalmWrongFalsely : Prop := fnExactLongestCalmRow.holds Try.pinned (OpenSpec.ofChange fnExactLongestCalmWrong)

/-- 'laws.FnExactFewestFaults': WHATEVER THE INPUT: true; the input reads as it did. -/
def fnExactFewestFaultsSpec : ChangeSpec := { name := "fnExactFewestFaults", fn := fun _ => fun
  | [d] => { results := [.lit (.bool true)], args := [d] }
  | _ => none }
def fnExactFewestFaultsRow : OpenClaim := { program := "ytliinokcglgndaa", sum := "db85ea316570c71896538e9614bcc69d5c43e3dba708845f0ea4ab88e0e59143", func := "loop.example/g00924/laws.FnExactFewestFaults", spec := "fnExactFewestFaults", unfollowed := true, recurses := true, apart := false }
def FnExactFewestFaultsSaid : Prop := fnExactFewestFaultsRow.holds Try.pinned (OpenSpec.ofChange fnExactFewestFaultsSpec)

/-- ITS FALSE NEIGHBOUR: 'it returns false'. Refute it at one input. -/
def fnExactFewestFaultsWrong : ChangeSpec := { name := "fnExactFewestFaults", fn := fun _ => fun
  | [d] => { results := [.lit (.bool false)], args := [d] }
  | _ => none }
def FnExactFewestFaultsWrongFalsely : Prop := fnExactFewestFaultsRow.holds Try.pinned (OpenSpec.ofChange fnExactFewestFaultsWrong)

/-- 'laws.FnExactTrustedBound': WHATEVER THE INPUT: true; the input reads as it did. -/
def fnExactTrustedBoundSpec : ChangeSpec := { name := "fnExactTrustedBound", fn := fun _ => fun
  | [d1, d2] => { results := [.lit (.bool true)], args := [d1, d2] }
  | _ => none }
def fnExactTrustedBoundRow : OpenClaim := { program := "ytliinokcglgndaa", sum := "db85ea316570c71896538e9614bcc69d5c43e3dba708845f0ea4ab88e0e59143", func := "loop.example/g00924/laws.FnExactTrustedBound", spec := "fnExactTrustedBound", unfollowed := true, recurses := true, apart := false }
def FnExactTrustedBoundSaid : Prop := fnExactTrustedBoundRow.holds Try.pinned (OpenSpec.ofChange fnExactTrustedBoundSpec)

/-- ITS FALSE NEIGHBOUR: 'it returns false'. Refute it at one input. -/
def fnExactTrustedBoundWrong : ChangeSpec := { name := "fnExactTrustedBound", fn := fun _ => fun
  | [d1, d2] => { results := [.lit (.bool false)], args := [d1, d2] }
  | _ => none }
def FnExactTrustedBoundWrongFalsely : Prop := fnExactTrustedBoundRow.holds Try.pinned (OpenSpec.ofChange fnExactTrustedBoundWrong)

/- THE SECOND FORM. 'bulk': how many values and letters a reading holds, each counted each time it is reached (what is shared counts as often as it is met; a slice's spare places count too). A statement '..UptoSaid' is the law's where the arguments, and the package variables that the reading takes, are together of bulk at most 1048576: NARROWER than '..Said'. Prove '..Said' where nothing that the law and all that it calls make is longer than what came in: it says more and counts as full. Else prove '..UptoSaid'. A law counts once. -/
mutual
def uptoBulk {H : Type} : DataW H → Nat
  | .lit (.string bytes) => bytes.length + 1
  | .lit _ => 1
  | .nil => 1
  | .ptr d => uptoBulk d + 1
  | .slice elems spare => uptoBulkAll elems + uptoBulkAll spare + 1
  | .agg parts => uptoBulkAll parts + 1
  | .iface _ d => uptoBulk d + 1
  | .map entries => uptoBulkEntries entries + 1
  | .held _ => 1
def uptoBulkAll {H : Type} : List (DataW H) → Nat
  | [] => 0
  | d :: r => uptoBulk d + uptoBulkAll r
def uptoBulkEntries {H : Type} : List (Lit × DataW H) → Nat
  | [] => 0
  | x :: r => uptoBulkEntry x + uptoBulkEntries r
def uptoBulkEntry {H : Type} : Lit × DataW H → Nat
  | (.string bytes, d) => bytes.length + uptoBulk d + 1
  | (_, d) => uptoBulk d + 1
 end
def uptoSmall : (H : Type) → List (DataW H) → Bool := fun _ ds => decide (uptoBulkAll ds ≤ 1048576)
def OpenSpec.upto (s : _root_.Go.ChangeSpec) : _root_.Go.OpenSpec := { _root_.Go.OpenSpec.ofChange s with cond := some uptoSmall }

/-- 'laws.FnExactJumpIn', WHERE WHAT IT READS IS OF BULK AT MOST 1048576: true; the input reads as it did. -/
def fnExactJumpInUptoRow : OpenClaim := { program := "ytliinokcglgndaa", sum := "db85ea316570c71896538e9614bcc69d5c43e3dba708845f0ea4ab88e0e59143", func := "loop.example/g00924/laws.FnExactJumpIn", spec := "fnExactJumpIn", unfollowed := true, recurses := true, apart := false, narrowed := true }
def FnExactJumpInUptoSaid : Prop := fnExactJumpInUptoRow.holds Try.pinned (OpenSpec.upto fnExactJumpInSpec)

/-- 'laws.FnExactIsStuck', WHERE WHAT IT READS IS OF BULK AT MOST 1048576: true; the input reads as it did. -/
def fnExactIsStuckUptoRow : OpenClaim := { program := "ytliinokcglgndaa", sum := "db85ea316570c71896538e9614bcc69d5c43e3dba708845f0ea4ab88e0e59143", func := "loop.example/g00924/laws.FnExactIsStuck", spec := "fnExactIsStuck", unfollowed := true, recurses := true, apart := false, narrowed := true }
def FnExactIsStuckUptoSaid : Prop := fnExactIsStuckUptoRow.holds Try.pinned (OpenSpec.upto fnExactIsStuckSpec)

/-- 'laws.FnExactLongestCalm', WHERE WHAT IT READS IS OF BULK AT MOST 1048576: true; the input reads as it did. -/
def fnExactLongestCalmUptoRow : OpenClaim := { program := "ytliinokcglgndaa", sum := "db85ea316570c71896538e9614bcc69d5c43e3dba708845f0ea4ab88e0e59143", func := "loop.example/g00924/laws.FnExactLongestCalm", spec := "fnExactLongestCalm", unfollowed := true, recurses := true, apart := false, narrowed := true }
def FnExactLongestCalmUptoSaid : Prop := fnExactLongestCalmUptoRow.holds Try.pinned (OpenSpec.upto fnExactLongestCalmSpec)

/-- 'laws.FnExactFewestFaults', WHERE WHAT IT READS IS OF BULK AT MOST 1048576: true; the input reads as it did. -/
def fnExactFewestFaultsUptoRow : OpenClaim := { program := "ytliinokcglgndaa", sum := "db85ea316570c71896538e9614bcc69d5c43e3dba708845f0ea4ab88e0e59143", func := "loop.example/g00924/laws.FnExactFewestFaults", spec := "fnExactFewestFaults", unfollowed := true, recurses := true, apart := false, narrowed := true }
def FnExactFewestFaultsUptoSaid : Prop := fnExactFewestFaultsUptoRow.holds Try.pinned (OpenSpec.upto fnExactFewestFaultsSpec)

/-- 'laws.FnExactTrustedBound', WHERE WHAT IT READS IS OF BULK AT MOST 1048576: true; the input reads as it did. -/
def fnExactTrustedBoundUptoRow : OpenClaim := { program := "ytliinokcglgndaa", sum := "db85ea316570c71896538e9614bcc69d5c43e3dba708845f0ea4ab88e0e59143", func := "loop.example/g00924/laws.FnExactTrustedBound", spec := "fnExactTrustedBound", unfollowed := true, recurses := true, apart := false, narrowed := true }
def FnExactTrustedBoundUptoSaid : Prop := fnExactTrustedBoundUptoRow.holds Try.pinned (OpenSpec.upto fnExactTrustedBoundSpec)

end Rows
end Go.Proofs.Ytliinokcglgndaa
