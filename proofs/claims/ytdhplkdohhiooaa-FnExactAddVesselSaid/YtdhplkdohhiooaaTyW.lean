/- The laws' arguments of this seat, opened. -/
import Derived.Test.YtdhplkdohhiooaaTy
import Derived.Test.YtdhplkdohhiooaaTdV
import Derived.Test.YtdhplkdohhiooaaTyV
namespace Go.Proofs.Ytdhplkdohhiooaa
open Go.ChangeShapes Go.WideShapes Go.ChangeAt Go.RowKit Go.Deep
open Go.ChangeMaps (open_string shut_string)
set_option linter.unusedVariables false
section
variable {H : Type} {enc : TypeId × Value → H} {W : World} {base : Nat} {spare : Nat → Bool} {held : Bool}
theorem open_sVessel {r : Reach} {b0 : Nat} {v : Value} {d : DataW H} {p : List MemPlace} (hv : Value.okWide Try.prog W r b0 22 v) (h : DataW.Trod enc Try.prog W 0 spare held 22 v d p) :
    ∃ xs : List Vessel_, (∀ x ∈ xs, Vessel_.ok x) ∧ xs.length ≤ 9223372036854775807 ∧ ∀ B, RepC Try.prog (E0 B []) W (.sl 24 .ro (xs.map Vessel_.cells)) v :=
  open_sl Try.underlying22 Vessel_.cells Vessel_.ok (of_decide_eq_true (by kernel_rfl)) el_Vessel hv h
end
end Go.Proofs.Ytdhplkdohhiooaa
