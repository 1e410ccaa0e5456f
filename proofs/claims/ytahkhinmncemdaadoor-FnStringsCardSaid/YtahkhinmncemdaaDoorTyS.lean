/- The laws' arguments of this seat, opened. -/
import Derived.Test.YtahkhinmncemdaaDoorTy
import Derived.Test.YtahkhinmncemdaaDoorTdS
namespace Go.Proofs.YtahkhinmncemdaaDoor
open Go.ChangeShapes Go.WideShapes Go.ChangeAt Go.RowKit Go.Deep
open Go.ChangeMaps (open_string shut_string)
set_option linter.unusedVariables false
section
variable {H : Type} {enc : TypeId × Value → H} {W : World} {base : Nat} {spare : Nat → Bool} {held : Bool}
theorem open_strs {r : Reach} {b0 : Nat} {v : Value} {d : DataW H} {p : List MemPlace} (hv : Value.okWide Tryd.prog W r b0 40 v) (h : DataW.Trod enc Tryd.prog W 0 spare held 40 v d p) :
    ∃ xs : List ByteArray, (∀ x ∈ xs, (fun x => x.size ≤ maxLen) x) ∧ xs.length ≤ 9223372036854775807 ∧ ∀ B, RepC Tryd.prog (E0 B []) W (.sl 9 .ro (xs.map (fun x => [Value.string x]))) v :=
  open_sl Tryd.underlying40 (fun x => [Value.string x]) (fun x => x.size ≤ maxLen) (of_decide_eq_true (by kernel_rfl)) (el_str Tryd.underlying9) hv h
theorem open_bytes {r : Reach} {b0 : Nat} {v : Value} {d : DataW H} {p : List MemPlace} (hv : Value.okWide Tryd.prog W r b0 29 v) (h : DataW.Trod enc Tryd.prog W 0 spare held 29 v d p) :
    ∃ xs : List Int, (∀ x ∈ xs, (fun x => (Lit.int .u8 x).wf = true) x) ∧ xs.length ≤ 9223372036854775807 ∧ ∀ B, RepC Tryd.prog (E0 B []) W (.sl 5 .ro (xs.map (fun x => [Value.int .u8 x]))) v :=
  open_sl Tryd.underlying29 (fun x => [Value.int .u8 x]) (fun x => (Lit.int .u8 x).wf = true) (of_decide_eq_true (by kernel_rfl)) (el_int Tryd.underlying5) hv h
end
end Go.Proofs.YtahkhinmncemdaaDoor
