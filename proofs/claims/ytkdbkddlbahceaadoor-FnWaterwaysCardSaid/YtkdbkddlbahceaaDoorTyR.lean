/- The laws' arguments of this seat, opened. -/
import Derived.Test.YtkdbkddlbahceaaDoorTy
import Derived.Test.YtkdbkddlbahceaaDoorTdR
namespace Go.Proofs.YtkdbkddlbahceaaDoor
open Go.ChangeShapes Go.WideShapes Go.ChangeAt Go.RowKit Go.Deep
open Go.ChangeMaps (open_string shut_string)
set_option linter.unusedVariables false
section
variable {H : Type} {enc : TypeId × Value → H} {W : World} {base : Nat} {spare : Nat → Bool} {held : Bool}
def Reach_.ok (x : Reach_) : Prop := True ∧ (Lit.int .i64 x.ln).wf = true ∧ (Lit.int .i64 x.dp).wf = true ∧ (Lit.int .i64 x.sp).wf = true
end
end Go.Proofs.YtkdbkddlbahceaaDoor
