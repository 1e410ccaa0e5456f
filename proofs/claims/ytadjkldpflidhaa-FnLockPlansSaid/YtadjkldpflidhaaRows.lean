/-
  No cell of these rows narrows 'for every input' (looked for: loops, veiled, ifaces, maps, wideKeys, modest, calm, conditions, laid).
  DERIVED. THE GIVEN ROWS OF THIS SEAT. 10 by the template 'for every input the law returns true; each argument reads behind the call as it read before'; 0 by the template 'total and deterministic' (their statements: YtadjkldpflidhaaTotals.lean).
  GIVEN WITH THE SEED: the statements are not yours to turn. If you find one false, say at which input.
  Laid BY PROGRAM, IN A SANDBOX (cutbox-rows.mjs): the forced cells as the released guide's own fill.sh prints them over the translation 1c4f701145930e33… (all of the seat's roots in one cut). By AI agents, Wed Nov 11 2026. No macro, syntax, notation, axiom, sorry.
-/
import Derived.Test.YtadjkldpflidhaaChecked
import GoSem.Claim
import GoSem.ClaimJoined
import GoSem.ClaimMapViews
import Derived.JoinedTies
import Derived.KernelRfl
namespace Go.Proofs.Ytadjkldpflidhaa
/- THE CELL 'sum', in the pinned program and in every row, IS THE sha256 OF THE DUMP (.gsa) THAT YtadjkldpflidhaaProg.lean LOADS. Nothing in Lean hashes anything: it is a label: what it is worth is what the hold of that sum in a sandbox is worth. -/
noncomputable def Try.pinned : Pinned := { name := "ytadjkldpflidhaa", sum := "1c4f701145930e33ae6f2fa747008aaa5e4392ffe23f10414a8b1586c52559c2", checked := Try.checked }
namespace Rows
def none {H : Type} : Left H := { results := [], args := [] }

/-- 'laws.FnExactIsSafeLock': WHATEVER THE INPUT: true; the input reads as it did. -/
def fnExactIsSafeLockSpec : ChangeSpec := { name := "fnExactIsSafeLock", fn := fun _ => fun
  | [d] => { results := [.lit (.bool true)], args := [d] }
  | _ => none }
def fnExactIsSafeLockRow : OpenClaim := { program := "ytadjkldpflidhaa", sum := "1c4f701145930e33ae6f2fa747008aaa5e4392ffe23f10414a8b1586c52559c2", func := "loop.example/g00924/laws.FnExactIsSafeLock", spec := "fnExactIsSafeLock", apart := false }
def FnExactIsSafeLockSaid : Prop := fnExactIsSafeLockRow.holds Try.pinned (OpenSpec.ofChange fnExactIsSafeLockSpec)

/-- ITS FALSE NEIGHBOUR: 'it returns false'. Refute it at one input. -/
def fnExactIsSafeLockWrong : ChangeSpec := { name := "fnExactIsSafeLock", fn := fun _ => fun
  | [d] => { results := [.lit (.bool false)], args := [d] }
  | _ => none }
def FnExactIsSafeLockWrongFalsely : Prop := fnExactIsSafeLockRow.holds Try.pinned (OpenSpec.ofChange fnExactIsSafeLockWrong)

/-- 'laws.FnExactHeadAt': WHATEVER THE INPUT: true; the input reads as it did. -/
def fnExactHeadAtSpec : ChangeSpec := { name := "fnExactHeadAt", fn := fun _ => fun
  | [d1, d2] => { results := [.lit (.bool true)], args := [d1, d2] }
  | _ => none }
def fnExactHeadAtRow : OpenClaim := { program := "ytadjkldpflidhaa", sum := "1c4f701145930e33ae6f2fa747008aaa5e4392ffe23f10414a8b1586c52559c2", func := "loop.example/g00924/laws.FnExactHeadAt", spec := "fnExactHeadAt", apart := false }
def FnExactHeadAtSaid : Prop := fnExactHeadAtRow.holds Try.pinned (OpenSpec.ofChange fnExactHeadAtSpec)

/-- ITS FALSE NEIGHBOUR: 'it returns false'. Refute it at one input. -/
def fnExactHeadAtWrong : ChangeSpec := { name := "fnExactHeadAt", fn := fun _ => fun
  | [d1, d2] => { results := [.lit (.bool false)], args := [d1, d2] }
  | _ => none }
def FnExactHeadAtWrongFalsely : Prop := fnExactHeadAtRow.holds Try.pinned (OpenSpec.ofChange fnExactHeadAtWrong)

/-- 'laws.FnExactNewLock': WHATEVER THE INPUT: true; the input reads as it did. -/
def fnExactNewLockSpec : ChangeSpec := { name := "fnExactNewLock", fn := fun _ => fun
  | [d1, d2] => { results := [.lit (.bool true)], args := [d1, d2] }
  | _ => none }
def fnExactNewLockRow : OpenClaim := { program := "ytadjkldpflidhaa", sum := "1c4f701145930e33ae6f2fa747008aaa5e4392ffe23f10414a8b1586c52559c2", func := "loop.example/g00924/laws.FnExactNewLock", spec := "fnExactNewLock", apart := false }
def FnExactNewLockSaid : Prop := fnExactNewLockRow.holds Try.pinned (OpenSpec.ofChange fnExactNewLockSpec)

/-- ITS FALSE NEIGHBOUR: 'it returns false'. Refute it at one input. -/
def fnExactNewLockWrong : ChangeSpec := { name := "fnExactNewLock", fn := fun _ => fun
  | [d1, d2] => { results := [.lit (.bool false)], args := [d1, d2] }
  | _ => none }
def FnExactNewLockWrongFalsely : Prop := fnExactNewLockRow.holds Try.pinned (OpenSpec.ofChange fnExactNewLockWrong)

/-- 'laws.FnExactMinutesTo': WHATEVER THE INPUT: true; the input reads as it did. -/
def fnExactMinutesToSpec : ChangeSpec := { name := "fnExactMinutesTo", fn := fun _ => fun
  | [d1, d2] => { results := [.lit (.bool true)], args := [d1, d2] }
  | _ => none }
def fnExactMinutesToRow : OpenClaim := { program := "ytadjkldpflidhaa", sum := "1c4f701145930e33ae6f2fa747008aaa5e4392ffe23f10414a8b1586c52559c2", func := "loop.example/g00924/laws.FnExactMinutesTo", spec := "fnExactMinutesTo", apart := false }
def FnExactMinutesToSaid : Prop := fnExactMinutesToRow.holds Try.pinned (OpenSpec.ofChange fnExactMinutesToSpec)

/-- ITS FALSE NEIGHBOUR: 'it returns false'. Refute it at one input. -/
def fnExactMinutesToWrong : ChangeSpec := { name := "fnExactMinutesTo", fn := fun _ => fun
  | [d1, d2] => { results := [.lit (.bool false)], args := [d1, d2] }
  | _ => none }
def FnExactMinutesToWrongFalsely : Prop := fnExactMinutesToRow.holds Try.pinned (OpenSpec.ofChange fnExactMinutesToWrong)

/-- 'laws.FnInterlocks': WHATEVER THE INPUT: true; the input reads as it did. -/
def fnInterlocksSpec : ChangeSpec := { name := "fnInterlocks", fn := fun _ => fun
  | [d] => { results := [.lit (.bool true)], args := [d] }
  | _ => none }
def fnInterlocksRow : OpenClaim := { program := "ytadjkldpflidhaa", sum := "1c4f701145930e33ae6f2fa747008aaa5e4392ffe23f10414a8b1586c52559c2", func := "loop.example/g00924/laws.FnInterlocks", spec := "fnInterlocks", apart := false }
def FnInterlocksSaid : Prop := fnInterlocksRow.holds Try.pinned (OpenSpec.ofChange fnInterlocksSpec)

/-- ITS FALSE NEIGHBOUR: 'it returns false'. Refute it at one input. -/
def fnInterlocksWrong : ChangeSpec := { name := "fnInterlocks", fn := fun _ => fun
  | [d] => { results := [.lit (.bool false)], args := [d] }
  | _ => none }
def FnInterlocksWrongFalsely : Prop := fnInterlocksRow.holds Try.pinned (OpenSpec.ofChange fnInterlocksWrong)

/-- 'laws.FnExactStepLock': WHATEVER THE INPUT: true; the input reads as it did. -/
def fnExactStepLockSpec : ChangeSpec := { name := "fnExactStepLock", fn := fun _ => fun
  | [d1, d2] => { results := [.lit (.bool true)], args := [d1, d2] }
  | _ => none }
def fnExactStepLockRow : OpenClaim := { program := "ytadjkldpflidhaa", sum := "1c4f701145930e33ae6f2fa747008aaa5e4392ffe23f10414a8b1586c52559c2", func := "loop.example/g00924/laws.FnExactStepLock", spec := "fnExactStepLock", apart := false }
def FnExactStepLockSaid : Prop := fnExactStepLockRow.holds Try.pinned (OpenSpec.ofChange fnExactStepLockSpec)

/-- ITS FALSE NEIGHBOUR: 'it returns false'. Refute it at one input. -/
def fnExactStepLockWrong : ChangeSpec := { name := "fnExactStepLock", fn := fun _ => fun
  | [d1, d2] => { results := [.lit (.bool false)], args := [d1, d2] }
  | _ => none }
def FnExactStepLockWrongFalsely : Prop := fnExactStepLockRow.holds Try.pinned (OpenSpec.ofChange fnExactStepLockWrong)

/-- 'laws.FnExactPlanTo': WHATEVER THE INPUT: true; the input reads as it did. -/
def fnExactPlanToSpec : ChangeSpec := { name := "fnExactPlanTo", fn := fun _ => fun
  | [d1, d2] => { results := [.lit (.bool true)], args := [d1, d2] }
  | _ => none }
def fnExactPlanToRow : OpenClaim := { program := "ytadjkldpflidhaa", sum := "1c4f701145930e33ae6f2fa747008aaa5e4392ffe23f10414a8b1586c52559c2", func := "loop.example/g00924/laws.FnExactPlanTo", spec := "fnExactPlanTo", apart := false }
def FnExactPlanToSaid : Prop := fnExactPlanToRow.holds Try.pinned (OpenSpec.ofChange fnExactPlanToSpec)

/-- ITS FALSE NEIGHBOUR: 'it returns false'. Refute it at one input. -/
def fnExactPlanToWrong : ChangeSpec := { name := "fnExactPlanTo", fn := fun _ => fun
  | [d1, d2] => { results := [.lit (.bool false)], args := [d1, d2] }
  | _ => none }
def FnExactPlanToWrongFalsely : Prop := fnExactPlanToRow.holds Try.pinned (OpenSpec.ofChange fnExactPlanToWrong)

/-- 'laws.FnExactWaterDrawn': WHATEVER THE INPUT: true; the input reads as it did. -/
def fnExactWaterDrawnSpec : ChangeSpec := { name := "fnExactWaterDrawn", fn := fun _ => fun
  | [d1, d2] => { results := [.lit (.bool true)], args := [d1, d2] }
  | _ => none }
def fnExactWaterDrawnRow : OpenClaim := { program := "ytadjkldpflidhaa", sum := "1c4f701145930e33ae6f2fa747008aaa5e4392ffe23f10414a8b1586c52559c2", func := "loop.example/g00924/laws.FnExactWaterDrawn", spec := "fnExactWaterDrawn", apart := false }
def FnExactWaterDrawnSaid : Prop := fnExactWaterDrawnRow.holds Try.pinned (OpenSpec.ofChange fnExactWaterDrawnSpec)

/-- ITS FALSE NEIGHBOUR: 'it returns false'. Refute it at one input. -/
def fnExactWaterDrawnWrong : ChangeSpec := { name := "fnExactWaterDrawn", fn := fun _ => fun
  | [d1, d2] => { results := [.lit (.bool false)], args := [d1, d2] }
  | _ => none }
def FnExactWaterDrawnWrongFalsely : Prop := fnExactWaterDrawnRow.holds Try.pinned (OpenSpec.ofChange fnExactWaterDrawnWrong)

/-- 'laws.FnExactRunLock': WHATEVER THE INPUT: true; the input reads as it did. -/
def fnExactRunLockSpec : ChangeSpec := { name := "fnExactRunLock", fn := fun _ => fun
  | [d1, d2] => { results := [.lit (.bool true)], args := [d1, d2] }
  | _ => none }
def fnExactRunLockRow : OpenClaim := { program := "ytadjkldpflidhaa", sum := "1c4f701145930e33ae6f2fa747008aaa5e4392ffe23f10414a8b1586c52559c2", func := "loop.example/g00924/laws.FnExactRunLock", spec := "fnExactRunLock", apart := false }
def FnExactRunLockSaid : Prop := fnExactRunLockRow.holds Try.pinned (OpenSpec.ofChange fnExactRunLockSpec)

/-- ITS FALSE NEIGHBOUR: 'it returns false'. Refute it at one input. -/
def fnExactRunLockWrong : ChangeSpec := { name := "fnExactRunLock", fn := fun _ => fun
  | [d1, d2] => { results := [.lit (.bool false)], args := [d1, d2] }
  | _ => none }
def FnExactRunLockWrongFalsely : Prop := fnExactRunLockRow.holds Try.pinned (OpenSpec.ofChange fnExactRunLockWrong)

/-- 'laws.FnLockPlans': WHATEVER THE INPUT: true; the input reads as it did. -/
def fnLockPlansSpec : ChangeSpec := { name := "fnLockPlans", fn := fun _ => fun
  | [d] => { results := [.lit (.bool true)], args := [d] }
  | _ => none }
def fnLockPlansRow : OpenClaim := { program := "ytadjkldpflidhaa", sum := "1c4f701145930e33ae6f2fa747008aaa5e4392ffe23f10414a8b1586c52559c2", func := "loop.example/g00924/laws.FnLockPlans", spec := "fnLockPlans", apart := false }
def FnLockPlansSaid : Prop := fnLockPlansRow.holds Try.pinned (OpenSpec.ofChange fnLockPlansSpec)

/-- ITS FALSE NEIGHBOUR: 'it returns false'. Refute it at one input. -/
def fnLockPlansWrong : ChangeSpec := { name := "fnLockPlans", fn := fun _ => fun
  | [d] => { results := [.lit (.bool false)], args := [d] }
  | _ => none }
def FnLockPlansWrongFalsely : Prop := fnLockPlansRow.holds Try.pinned (OpenSpec.ofChange fnLockPlansWrong)

/- THE SECOND FORM. 'bulk': how many values and letters a reading holds, each counted each time it is reached (what is shared counts as often as it is met; a slice's spare places count too). A statement '..UptoSaid' is the law's where the arguments, and the package variables that the reading takes, are together of bulk at most 1048576: NARROWER than '..Said'. Prove '..Said' where nothing that the law and all that it calls make is longer than what came in: it says more and counts as full. Else prove '..UptoSaid'. A law counts once. -/
mutual
def uptoBulk {H : Type} : DataW H → Nat
  | .lit (.string bytes) => bytes.length + 1
  | .lit _ => 1
  | .nil => 1
  | .ptr d => uptoBulk d + 1
  | .slice elems spare => uptoBulkAll elems + uptoBulkAll spare + 1
  | .agg parts => uptoBulkAll parts + 1
  | .iface _ d => uptoBulk d + 1
  | .map entries => uptoBulkEntries entries + 1
  | .held _ => 1
def uptoBulkAll {H : Type} : List (DataW H) → Nat
  | [] => 0
  | d :: r => uptoBulk d + uptoBulkAll r
def uptoBulkEntries {H : Type} : List (Lit × DataW H) → Nat
  | [] => 0
  | x :: r => uptoBulkEntry x + uptoBulkEntries r
def uptoBulkEntry {H : Type} : Lit × DataW H → Nat
  | (.string bytes, d) => bytes.length + uptoBulk d + 1
  | (_, d) => uptoBulk d + 1
 end
def uptoSmall : (H : Type) → List (DataW H) → Bool := fun _ ds => decide (uptoBulkAll ds ≤ 1048576)
def OpenSpec.upto (s : _root_.Go.ChangeSpec) : _root_.Go.OpenSpec := { _root_.Go.OpenSpec.ofChange s with cond := some uptoSmall }

/-- 'laws.FnExactIsSafeLock', WHERE WHAT IT READS IS OF BULK AT MOST 1048576: true; the input reads as it did. -/
def fnExactIsSafeLockUptoRow : OpenClaim := { program := "ytadjkldpflidhaa", sum := "1c4f701145930e33ae6f2fa747008aaa5e4392ffe23f10414a8b1586c52559c2", func := "loop.example/g00924/laws.FnExactIsSafeLock", spec := "fnExactIsSafeLock", apart := false, narrowed := true }
def FnExactIsSafeLockUptoSaid : Prop := fnExactIsSafeLockUptoRow.holds Try.pinned (OpenSpec.upto fnExactIsSafeLockSpec)

/-- 'laws.FnExactHeadAt', WHERE WHAT IT READS IS OF BULK AT MOST 1048576: true; the input reads as it did. -/
def fnExactHeadAtUptoRow : OpenClaim := { program := "ytadjkldpflidhaa", sum := "1c4f701145930e33ae6f2fa747008aaa5e4392ffe23f10414a8b1586c52559c2", func := "loop.example/g00924/laws.FnExactHeadAt", spec := "fnExactHeadAt", apart := false, narrowed := true }
def FnExactHeadAtUptoSaid : Prop := fnExactHeadAtUptoRow.holds Try.pinned (OpenSpec.upto fnExactHeadAtSpec)

/-- 'laws.FnExactNewLock', WHERE WHAT IT READS IS OF BULK AT MOST 1048576: true; the input reads as it did. -/
def fnExactNewLockUptoRow : OpenClaim := { program := "ytadjkldpflidhaa", sum := "1c4f701145930e33ae6f2fa747008aaa5e4392ffe23f10414a8b1586c52559c2", func := "loop.example/g00924/laws.FnExactNewLock", spec := "fnExactNewLock", apart := false, narrowed := true }
def FnExactNewLockUptoSaid : Prop := fnExactNewLockUptoRow.holds Try.pinned (OpenSpec.upto fnExactNewLockSpec)

/-- 'laws.FnExactMinutesTo', WHERE WHAT IT READS IS OF BULK AT MOST 1048576: true; the input reads as it did. -/
def fnExactMinutesToUptoRow : OpenClaim := { program := "ytadjkldpflidhaa", sum := "1c4f701145930e33ae6f2fa747008aaa5e4392ffe23f10414a8b1586c52559c2", func := "loop.example/g00924/laws.FnExactMinutesTo", spec := "fnExactMinutesTo", apart := false, narrowed := true }
def FnExactMinutesToUptoSaid : Prop := fnExactMinutesToUptoRow.holds Try.pinned (OpenSpec.upto fnExactMinutesToSpec)

/-- 'laws.FnInterlocks', WHERE WHAT IT READS IS OF BULK AT MOST 1048576: true; the input reads as it did. -/
def fnInterlocksUptoRow : OpenClaim := { program := "ytadjkldpflidhaa", sum := "1c4f701145930e33ae6f2fa747008aaa5e4392ffe23f10414a8b1586c52559c2", func := "loop.example/g00924/laws.FnInterlocks", spec := "fnInterlocks", apart := false, narrowed := true }
def FnInterlocksUptoSaid : Prop := fnInterlocksUptoRow.holds Try.pinned (OpenSpec.upto fnInterlocksSpec)

/-- 'laws.FnExactStepLock', WHERE WHAT IT READS IS OF BULK AT MOST 1048576: true; the input reads as it did. -/
def fnExactStepLockUptoRow : OpenClaim := { program := "ytadjkldpflidhaa", sum := "1c4f701145930e33ae6f2fa747008aaa5e4392ffe23f10414a8b1586c52559c2", func := "loop.example/g00924/laws.FnExactStepLock", spec := "fnExactStepLock", apart := false, narrowed := true }
def FnExactStepLockUptoSaid : Prop := fnExactStepLockUptoRow.holds Try.pinned (OpenSpec.upto fnExactStepLockSpec)

/-- 'laws.FnExactPlanTo', WHERE WHAT IT READS IS OF BULK AT MOST 1048576: true; the input reads as it did. -/
def fnExactPlanToUptoRow : OpenClaim := { program := "ytadjkldpflidhaa", sum := "1c4f701145930e33ae6f2fa747008aaa5e4392ffe23f10414a8b1586c52559c2", func := "loop.example/g00924/laws.FnExactPlanTo", spec := "fnExactPlanTo", apart := false, narrowed := true }
def FnExactPlanToUptoSaid : Prop := fnExactPlanToUptoRow.holds Try.pinned (OpenSpec.upto fnExactPlanToSpec)

/-- 'laws.FnExactWaterDrawn', WHERE WHAT IT READS IS OF BULK AT MOST 1048576: true; the input reads as it did. -/
def fnExactWaterDrawnUptoRow : OpenClaim := { program := "ytadjkldpflidhaa", sum := "1c4f701145930e33ae6f2fa747008aaa5e4392ffe23f10414a8b1586c52559c2", func := "loop.example/g00924/laws.FnExactWaterDrawn", spec := "fnExactWaterDrawn", apart := false, narrowed := true }
def FnExactWaterDrawnUptoSaid : Prop := fnExactWaterDrawnUptoRow.holds Try.pinned (OpenSpec.upto fnExactWaterDrawnSpec)

/-- 'laws.FnExactRunLock', WHERE WHAT IT READS IS OF BULK AT MOST 1048576: true; the input reads as it did. -/
def fnExactRunLockUptoRow : OpenClaim := { program := "ytadjkldpflidhaa", sum := "1c4f701145930e33ae6f2fa747008aaa5e4392ffe23f10414a8b1586c52559c2", func := "loop.example/g00924/laws.FnExactRunLock", spec := "fnExactRunLock", apart := false, narrowed := true }
def FnExactRunLockUptoSaid : Prop := fnExactRunLockUptoRow.holds Try.pinned (OpenSpec.upto fnExactRunLockSpec)

/-- 'laws.FnLockPlans', WHERE WHAT IT READS IS OF BULK AT MOST 1048576: true; the input reads as it did. -/
def fnLockPlansUptoRow : OpenClaim := { program := "ytadjkldpflidhaa", sum := "1c4f701145930e33ae6f2fa747008aaa5e4392ffe23f10414a8b1586c52559c2", func := "loop.example/g00924/laws.FnLockPlans", spec := "fnLockPlans", apart := false, narrowed := true }
def FnLockPlansUptoSaid : Prop := fnLockPlansUptoRow.holds Try.pinned (OpenSpec.upto fnLockPlansSpec)

end Rows
end Go.Proofs.Ytadjkldpflidhaa
