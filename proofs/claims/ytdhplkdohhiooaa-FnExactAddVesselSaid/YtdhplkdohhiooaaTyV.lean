/- The laws' arguments of this seat, opened. -/
import Derived.Test.YtdhplkdohhiooaaTy
import Derived.Test.YtdhplkdohhiooaaTdV
namespace Go.Proofs.Ytdhplkdohhiooaa
open Go.ChangeShapes Go.WideShapes Go.ChangeAt Go.RowKit Go.Deep
open Go.ChangeMaps (open_string shut_string)
set_option linter.unusedVariables false
section
variable {H : Type} {enc : TypeId × Value → H} {W : World} {base : Nat} {spare : Nat → Bool} {held : Bool}
def Vessel_.ok (x : Vessel_) : Prop := True ∧ (Lit.int .i64 x.id).wf = true ∧ x.nm.size ≤ maxLen ∧ (Lit.int .i64 x.ln).wf = true ∧ (Lit.int .i64 x.wd).wf = true ∧ (Lit.int .i64 x.dr).wf = true ∧ (Lit.int .i64 x.kd).wf = true
theorem el_Vessel (n : Nat) (cs : List Value) (y : DataW H × List MemPlace) (h : DataW.trod enc Try.prog W base spare held n 24 cs = some y) : ∃ x : Vessel_, cs = x.cells ∧ x.ok := by
  obtain ⟨hsz, hf⟩ := trod_flat Try.underlying24 (by kernel_rfl) h (by kernel_rfl)
  match cs, hsz with
  | [c0, c1, c2, c3, c4, c5], _ =>
    obtain ⟨v0, y0, n0, e0, t0⟩ := hf 0 _ rfl
    simp at e0; subst e0
    obtain ⟨id, h0, _, w0⟩ := DataW.trod_int Try.underlying3 t0
    simp at h0; subst h0
    obtain ⟨v1, y1, n1, e1, t1⟩ := hf 1 _ rfl
    simp at e1; subst e1
    obtain ⟨nm, h1, _, w1⟩ := DataW.trod_string Try.underlying9 t1
    simp at h1; subst h1
    obtain ⟨v2, y2, n2, e2, t2⟩ := hf 2 _ rfl
    simp at e2; subst e2
    obtain ⟨ln, h2, _, w2⟩ := DataW.trod_int Try.underlying3 t2
    simp at h2; subst h2
    obtain ⟨v3, y3, n3, e3, t3⟩ := hf 3 _ rfl
    simp at e3; subst e3
    obtain ⟨wd, h3, _, w3⟩ := DataW.trod_int Try.underlying3 t3
    simp at h3; subst h3
    obtain ⟨v4, y4, n4, e4, t4⟩ := hf 4 _ rfl
    simp at e4; subst e4
    obtain ⟨dr, h4, _, w4⟩ := DataW.trod_int Try.underlying3 t4
    simp at h4; subst h4
    obtain ⟨v5, y5, n5, e5, t5⟩ := hf 5 _ rfl
    simp at e5; subst e5
    obtain ⟨kd, h5, _, w5⟩ := DataW.trod_int Try.underlying3 t5
    simp at h5; subst h5
    exact ⟨⟨id, nm, ln, wd, dr, kd⟩, rfl, trivial, w0, w1, w2, w3, w4, w5⟩
theorem open_Vessel {r : Reach} {b0 : Nat} {v : Value} {d : DataW H} {p : List MemPlace} (hv : Value.okWide Try.prog W r b0 24 v) (h : DataW.Trod enc Try.prog W base spare held 24 v d p) : ∃ x : Vessel_, v = .agg x.cells.toArray ∧ x.ok := by
  obtain ⟨cs, n, y, rfl, h1⟩ := open_st Try.underlying24 (by kernel_rfl) (by kernel_rfl) rfl hv h
  obtain ⟨x, rfl, h2⟩ := el_Vessel n cs y h1
  exact ⟨x, rfl, h2⟩
end
end Go.Proofs.Ytdhplkdohhiooaa
