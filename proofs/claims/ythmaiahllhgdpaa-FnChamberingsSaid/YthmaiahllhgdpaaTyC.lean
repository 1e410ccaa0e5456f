/- The laws' arguments of this seat, opened. -/
import Derived.Test.YthmaiahllhgdpaaTy
import Derived.Test.YthmaiahllhgdpaaTdC
namespace Go.Proofs.Ythmaiahllhgdpaa
open Go.ChangeShapes Go.WideShapes Go.ChangeAt Go.RowKit Go.Deep
open Go.ChangeMaps (open_string shut_string)
set_option linter.unusedVariables false
section
variable {H : Type} {enc : TypeId × Value → H} {W : World} {base : Nat} {spare : Nat → Bool} {held : Bool}
def Hull_.ok (x : Hull_) : Prop := True ∧ (Lit.int .i64 x.id).wf = true ∧ (Lit.int .i64 x.ln).wf = true ∧ (Lit.int .i64 x.wd).wf = true
theorem el_Hull (n : Nat) (cs : List Value) (y : DataW H × List MemPlace) (h : DataW.trod enc Try.prog W base spare held n 83 cs = some y) : ∃ x : Hull_, cs = x.cells ∧ x.ok := by
  obtain ⟨hsz, hf⟩ := trod_flat Try.underlying83 (by kernel_rfl) h (by kernel_rfl)
  match cs, hsz with
  | [c0, c1, c2], _ =>
    obtain ⟨v0, y0, n0, e0, t0⟩ := hf 0 _ rfl
    simp at e0; subst e0
    obtain ⟨id, h0, _, w0⟩ := DataW.trod_int Try.underlying3 t0
    simp at h0; subst h0
    obtain ⟨v1, y1, n1, e1, t1⟩ := hf 1 _ rfl
    simp at e1; subst e1
    obtain ⟨ln, h1, _, w1⟩ := DataW.trod_int Try.underlying3 t1
    simp at h1; subst h1
    obtain ⟨v2, y2, n2, e2, t2⟩ := hf 2 _ rfl
    simp at e2; subst e2
    obtain ⟨wd, h2, _, w2⟩ := DataW.trod_int Try.underlying3 t2
    simp at h2; subst h2
    exact ⟨⟨id, ln, wd⟩, rfl, trivial, w0, w1, w2⟩
set_option maxRecDepth 100000 in
theorem open_Hull {r : Reach} {b0 : Nat} {v : Value} {d : DataW H} {p : List MemPlace} (hv : Value.okWide Try.prog W r b0 83 v) (h : DataW.Trod enc Try.prog W base spare held 83 v d p) : ∃ x : Hull_, v = .agg x.cells.toArray ∧ x.ok := by
  obtain ⟨cs, n, y, rfl, h1⟩ := open_st Try.underlying83 (by kernel_rfl) (by kernel_rfl) rfl hv h
  obtain ⟨x, rfl, h2⟩ := el_Hull n cs y h1
  exact ⟨x, rfl, h2⟩
def Spot_.ok (x : Spot_) : Prop := True ∧ (Lit.int .i64 x.at_).wf = true ∧ (Lit.int .i64 x.sd).wf = true
theorem el_Spot (n : Nat) (cs : List Value) (y : DataW H × List MemPlace) (h : DataW.trod enc Try.prog W base spare held n 86 cs = some y) : ∃ x : Spot_, cs = x.cells ∧ x.ok := by
  obtain ⟨hsz, hf⟩ := trod_flat Try.underlying86 (by kernel_rfl) h (by kernel_rfl)
  match cs, hsz with
  | [c0, c1], _ =>
    obtain ⟨v0, y0, n0, e0, t0⟩ := hf 0 _ rfl
    simp at e0; subst e0
    obtain ⟨at_, h0, _, w0⟩ := DataW.trod_int Try.underlying3 t0
    simp at h0; subst h0
    obtain ⟨v1, y1, n1, e1, t1⟩ := hf 1 _ rfl
    simp at e1; subst e1
    obtain ⟨sd, h1, _, w1⟩ := DataW.trod_int Try.underlying3 t1
    simp at h1; subst h1
    exact ⟨⟨at_, sd⟩, rfl, trivial, w0, w1⟩
set_option maxRecDepth 100000 in
theorem open_Spot {r : Reach} {b0 : Nat} {v : Value} {d : DataW H} {p : List MemPlace} (hv : Value.okWide Try.prog W r b0 86 v) (h : DataW.Trod enc Try.prog W base spare held 86 v d p) : ∃ x : Spot_, v = .agg x.cells.toArray ∧ x.ok := by
  obtain ⟨cs, n, y, rfl, h1⟩ := open_st Try.underlying86 (by kernel_rfl) (by kernel_rfl) rfl hv h
  obtain ⟨x, rfl, h2⟩ := el_Spot n cs y h1
  exact ⟨x, rfl, h2⟩
def Chamber_.ok (x : Chamber_) : Prop := True ∧ (Lit.int .i64 x.ln).wf = true ∧ (Lit.int .i64 x.wd).wf = true
theorem el_Chamber (n : Nat) (cs : List Value) (y : DataW H × List MemPlace) (h : DataW.trod enc Try.prog W base spare held n 50 cs = some y) : ∃ x : Chamber_, cs = x.cells ∧ x.ok := by
  obtain ⟨hsz, hf⟩ := trod_flat Try.underlying50 (by kernel_rfl) h (by kernel_rfl)
  match cs, hsz with
  | [c0, c1], _ =>
    obtain ⟨v0, y0, n0, e0, t0⟩ := hf 0 _ rfl
    simp at e0; subst e0
    obtain ⟨ln, h0, _, w0⟩ := DataW.trod_int Try.underlying3 t0
    simp at h0; subst h0
    obtain ⟨v1, y1, n1, e1, t1⟩ := hf 1 _ rfl
    simp at e1; subst e1
    obtain ⟨wd, h1, _, w1⟩ := DataW.trod_int Try.underlying3 t1
    simp at h1; subst h1
    exact ⟨⟨ln, wd⟩, rfl, trivial, w0, w1⟩
set_option maxRecDepth 100000 in
theorem open_Chamber {r : Reach} {b0 : Nat} {v : Value} {d : DataW H} {p : List MemPlace} (hv : Value.okWide Try.prog W r b0 50 v) (h : DataW.Trod enc Try.prog W base spare held 50 v d p) : ∃ x : Chamber_, v = .agg x.cells.toArray ∧ x.ok := by
  obtain ⟨cs, n, y, rfl, h1⟩ := open_st Try.underlying50 (by kernel_rfl) (by kernel_rfl) rfl hv h
  obtain ⟨x, rfl, h2⟩ := el_Chamber n cs y h1
  exact ⟨x, rfl, h2⟩
theorem open_sHull {r : Reach} {b0 : Nat} {v : Value} {d : DataW H} {p : List MemPlace} (hv : Value.okWide Try.prog W r b0 45 v) (h : DataW.Trod enc Try.prog W 0 spare held 45 v d p) :
    ∃ xs : List Hull_, (∀ x ∈ xs, Hull_.ok x) ∧ xs.length ≤ 9223372036854775807 ∧ ∀ B, RepC Try.prog (E0 B []) W (.sl 83 .ro (xs.map Hull_.cells)) v :=
  open_sl Try.underlying45 Hull_.cells Hull_.ok (of_decide_eq_true (by kernel_rfl)) el_Hull hv h
theorem open_sSpot {r : Reach} {b0 : Nat} {v : Value} {d : DataW H} {p : List MemPlace} (hv : Value.okWide Try.prog W r b0 51 v) (h : DataW.Trod enc Try.prog W 0 spare held 51 v d p) :
    ∃ xs : List Spot_, (∀ x ∈ xs, Spot_.ok x) ∧ xs.length ≤ 9223372036854775807 ∧ ∀ B, RepC Try.prog (E0 B []) W (.sl 86 .ro (xs.map Spot_.cells)) v :=
  open_sl Try.underlying51 Spot_.cells Spot_.ok (of_decide_eq_true (by kernel_rfl)) el_Spot hv h
end
end Go.Proofs.Ythmaiahllhgdpaa
