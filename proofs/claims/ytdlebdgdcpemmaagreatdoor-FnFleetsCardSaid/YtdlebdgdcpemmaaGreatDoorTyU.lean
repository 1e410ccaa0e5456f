/- The laws' argument that is a list of bytes, opened. -/
import Derived.Test.YtdlebdgdcpemmaaGreatDoorTy
namespace Go.Proofs.YtdlebdgdcpemmaaGreatDoor
open Go.ChangeShapes Go.WideShapes Go.ChangeAt Go.RowKit Go.Deep
open Go.ChangeMaps (open_string shut_string)
set_option linter.unusedVariables false
section
variable {H : Type} {enc : TypeId × Value → H} {W : World} {base : Nat} {spare : Nat → Bool} {held : Bool}
set_option maxRecDepth 100000 in
theorem open_bytes {r : Reach} {b0 : Nat} {v : Value} {d : DataW H} {p : List MemPlace} (hv : Value.okWide Tryz.prog W r b0 22 v) (h : DataW.Trod enc Tryz.prog W 0 spare held 22 v d p) :
    ∃ xs : List Int, (∀ x ∈ xs, (fun x => (Lit.int .u8 x).wf = true) x) ∧ xs.length ≤ 9223372036854775807 ∧ ∀ B, RepC Tryz.prog (E0 B []) W (.sl 5 .ro (xs.map (fun x => [Value.int .u8 x]))) v :=
  open_sl Tryz.underlying22 (fun x => [Value.int .u8 x]) (fun x => (Lit.int .u8 x).wf = true) (of_decide_eq_true (by kernel_rfl)) (el_int Tryz.underlying5) hv h
end
end Go.Proofs.YtdlebdgdcpemmaaGreatDoor
