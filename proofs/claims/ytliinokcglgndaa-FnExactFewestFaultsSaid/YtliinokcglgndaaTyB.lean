/- The laws' arguments of this seat, opened. -/
import Derived.Test.YtliinokcglgndaaTy
import Derived.Test.YtliinokcglgndaaTdB
namespace Go.Proofs.Ytliinokcglgndaa
open Go.ChangeShapes Go.WideShapes Go.ChangeAt Go.RowKit Go.Deep
open Go.ChangeMaps (open_string shut_string)
set_option linter.unusedVariables false
section
variable {H : Type} {enc : TypeId × Value → H} {W : World} {base : Nat} {spare : Nat → Bool} {held : Bool}
def Bound_.ok (x : Bound_) : Prop := True ∧ (Lit.int .i64 x.lw).wf = true ∧ (Lit.int .i64 x.hi).wf = true
theorem el_Bound (n : Nat) (cs : List Value) (y : DataW H × List MemPlace) (h : DataW.trod enc Try.prog W base spare held n 54 cs = some y) : ∃ x : Bound_, cs = x.cells ∧ x.ok := by
  obtain ⟨hsz, hf⟩ := trod_flat Try.underlying54 (by kernel_rfl) h (by kernel_rfl)
  match cs, hsz with
  | [c0, c1], _ =>
    obtain ⟨v0, y0, n0, e0, t0⟩ := hf 0 _ rfl
    simp at e0; subst e0
    obtain ⟨lw, h0, _, w0⟩ := DataW.trod_int Try.underlying3 t0
    simp at h0; subst h0
    obtain ⟨v1, y1, n1, e1, t1⟩ := hf 1 _ rfl
    simp at e1; subst e1
    obtain ⟨hi, h1, _, w1⟩ := DataW.trod_int Try.underlying3 t1
    simp at h1; subst h1
    exact ⟨⟨lw, hi⟩, rfl, trivial, w0, w1⟩
theorem open_Bound {r : Reach} {b0 : Nat} {v : Value} {d : DataW H} {p : List MemPlace} (hv : Value.okWide Try.prog W r b0 54 v) (h : DataW.Trod enc Try.prog W base spare held 54 v d p) : ∃ x : Bound_, v = .agg x.cells.toArray ∧ x.ok := by
  obtain ⟨cs, n, y, rfl, h1⟩ := open_st Try.underlying54 (by kernel_rfl) (by kernel_rfl) rfl hv h
  obtain ⟨x, rfl, h2⟩ := el_Bound n cs y h1
  exact ⟨x, rfl, h2⟩
theorem open_sBound {r : Reach} {b0 : Nat} {v : Value} {d : DataW H} {p : List MemPlace} (hv : Value.okWide Try.prog W r b0 32 v) (h : DataW.Trod enc Try.prog W 0 spare held 32 v d p) :
    ∃ xs : List Bound_, (∀ x ∈ xs, Bound_.ok x) ∧ xs.length ≤ 9223372036854775807 ∧ ∀ B, RepC Try.prog (E0 B []) W (.sl 54 .ro (xs.map Bound_.cells)) v :=
  open_sl Try.underlying32 Bound_.cells Bound_.ok (of_decide_eq_true (by kernel_rfl)) el_Bound hv h
theorem open_ints {r : Reach} {b0 : Nat} {v : Value} {d : DataW H} {p : List MemPlace} (hv : Value.okWide Try.prog W r b0 22 v) (h : DataW.Trod enc Try.prog W 0 spare held 22 v d p) :
    ∃ xs : List Int, (∀ x ∈ xs, (fun x => (Lit.int .i64 x).wf = true) x) ∧ xs.length ≤ 9223372036854775807 ∧ ∀ B, RepC Try.prog (E0 B []) W (.sl 3 .ro (xs.map (fun x => [Value.int .i64 x]))) v :=
  open_sl Try.underlying22 (fun x => [Value.int .i64 x]) (fun x => (Lit.int .i64 x).wf = true) (of_decide_eq_true (by kernel_rfl)) (el_int Try.underlying3) hv h
end
end Go.Proofs.Ytliinokcglgndaa
