/- The laws' arguments of this seat, opened. -/
import Derived.Test.YtkdbkddlbahceaaTy
import Derived.Test.YtkdbkddlbahceaaTdR
namespace Go.Proofs.Ytkdbkddlbahceaa
open Go.ChangeShapes Go.WideShapes Go.ChangeAt Go.RowKit Go.Deep
open Go.ChangeMaps (open_string shut_string)
set_option linter.unusedVariables false
section
variable {H : Type} {enc : TypeId × Value → H} {W : World} {base : Nat} {spare : Nat → Bool} {held : Bool}
def Reach_.ok (x : Reach_) : Prop := True ∧ (Lit.int .i64 x.ln).wf = true ∧ (Lit.int .i64 x.dp).wf = true ∧ (Lit.int .i64 x.sp).wf = true
theorem el_Reach (n : Nat) (cs : List Value) (y : DataW H × List MemPlace) (h : DataW.trod enc Try.prog W base spare held n 86 cs = some y) : ∃ x : Reach_, cs = x.cells ∧ x.ok := by
  obtain ⟨hsz, hf⟩ := trod_flat Try.underlying86 (by kernel_rfl) h (by kernel_rfl)
  match cs, hsz with
  | [c0, c1, c2], _ =>
    obtain ⟨v0, y0, n0, e0, t0⟩ := hf 0 _ rfl
    simp at e0; subst e0
    obtain ⟨ln, h0, _, w0⟩ := DataW.trod_int Try.underlying3 t0
    simp at h0; subst h0
    obtain ⟨v1, y1, n1, e1, t1⟩ := hf 1 _ rfl
    simp at e1; subst e1
    obtain ⟨dp, h1, _, w1⟩ := DataW.trod_int Try.underlying3 t1
    simp at h1; subst h1
    obtain ⟨v2, y2, n2, e2, t2⟩ := hf 2 _ rfl
    simp at e2; subst e2
    obtain ⟨sp, h2, _, w2⟩ := DataW.trod_int Try.underlying3 t2
    simp at h2; subst h2
    exact ⟨⟨ln, dp, sp⟩, rfl, trivial, w0, w1, w2⟩
set_option maxRecDepth 100000 in
theorem open_Reach {r : Reach} {b0 : Nat} {v : Value} {d : DataW H} {p : List MemPlace} (hv : Value.okWide Try.prog W r b0 86 v) (h : DataW.Trod enc Try.prog W base spare held 86 v d p) : ∃ x : Reach_, v = .agg x.cells.toArray ∧ x.ok := by
  obtain ⟨cs, n, y, rfl, h1⟩ := open_st Try.underlying86 (by kernel_rfl) (by kernel_rfl) rfl hv h
  obtain ⟨x, rfl, h2⟩ := el_Reach n cs y h1
  exact ⟨x, rfl, h2⟩
end
end Go.Proofs.Ytkdbkddlbahceaa
