/- The laws' arguments, opened: a struct's field that is a slice; waterways. -/
import Derived.Test.YtkdbkddlbahceaaDoorTy
import Derived.Test.YtkdbkddlbahceaaDoorTdR
import Derived.Test.YtkdbkddlbahceaaDoorTyR
import Derived.Test.YtkdbkddlbahceaaDoorProg
import Derived.ShutString
import Derived.ChangeOld
import Derived.OpenShut
import Derived.Deep.Slices
import Derived.Deep.Fields
import Derived.ChangeSame
namespace Go.Proofs.YtkdbkddlbahceaaDoor
open Go.ChangeShapes Go.WideShapes Go.ChangeAt Go.RowKit Go.Deep
open Go.ChangeMaps (open_string shut_string)
set_option linter.unusedVariables false
section
variable {H : Type} {enc : TypeId × Value → H} {W : World} {base : Nat} {spare : Nat → Bool} {held : Bool}
structure Way_ where
  rs : List Reach_
  is : List Int
def Way_.ok (x : Way_) : Prop := (∀ r ∈ x.rs, r.ok) ∧ (∀ i ∈ x.is, (Lit.int .i64 i).wf = true) ∧ x.rs.length ≤ 9223372036854775807 ∧ x.is.length ≤ 9223372036854775807
end
end Go.Proofs.YtkdbkddlbahceaaDoor
