/- The laws' arguments of this seat, opened. -/
import Derived.Test.YtadjkldpflidhaaTy
import Derived.Test.YtadjkldpflidhaaTdL
namespace Go.Proofs.Ytadjkldpflidhaa
open Go.ChangeShapes Go.WideShapes Go.ChangeAt Go.RowKit Go.Deep
open Go.ChangeMaps (open_string shut_string)
set_option linter.unusedVariables false
section
variable {H : Type} {enc : TypeId × Value → H} {W : World} {base : Nat} {spare : Nat → Bool} {held : Bool}
def LockState_.ok (x : LockState_) : Prop := True ∧ (Lit.int .i64 x.lo).wf = true ∧ (Lit.int .i64 x.up).wf = true ∧ (Lit.int .i64 x.le).wf = true
theorem el_LockState (n : Nat) (cs : List Value) (y : DataW H × List MemPlace) (h : DataW.trod enc Try.prog W base spare held n 23 cs = some y) : ∃ x : LockState_, cs = x.cells ∧ x.ok := by
  obtain ⟨hsz, hf⟩ := trod_flat Try.underlying23 (by kernel_rfl) h (by kernel_rfl)
  match cs, hsz with
  | [c0, c1, c2, c3, c4, c5, c6], _ =>
    obtain ⟨v0, y0, n0, e0, t0⟩ := hf 0 _ rfl
    simp at e0; subst e0
    obtain ⟨lo, h0, _, w0⟩ := DataW.trod_int Try.underlying3 t0
    simp at h0; subst h0
    obtain ⟨v1, y1, n1, e1, t1⟩ := hf 1 _ rfl
    simp at e1; subst e1
    obtain ⟨up, h1, _, w1⟩ := DataW.trod_int Try.underlying3 t1
    simp at h1; subst h1
    obtain ⟨v2, y2, n2, e2, t2⟩ := hf 2 _ rfl
    simp at e2; subst e2
    obtain ⟨le, h2, _, w2⟩ := DataW.trod_int Try.underlying3 t2
    simp at h2; subst h2
    obtain ⟨v3, y3, n3, e3, t3⟩ := hf 3 _ rfl
    simp at e3; subst e3
    obtain ⟨lg, h3, _⟩ := DataW.trod_bool Try.underlying4 t3
    simp at h3; subst h3
    obtain ⟨v4, y4, n4, e4, t4⟩ := hf 4 _ rfl
    simp at e4; subst e4
    obtain ⟨hg, h4, _⟩ := DataW.trod_bool Try.underlying4 t4
    simp at h4; subst h4
    obtain ⟨v5, y5, n5, e5, t5⟩ := hf 5 _ rfl
    simp at e5; subst e5
    obtain ⟨lp, h5, _⟩ := DataW.trod_bool Try.underlying4 t5
    simp at h5; subst h5
    obtain ⟨v6, y6, n6, e6, t6⟩ := hf 6 _ rfl
    simp at e6; subst e6
    obtain ⟨hp, h6, _⟩ := DataW.trod_bool Try.underlying4 t6
    simp at h6; subst h6
    exact ⟨⟨lo, up, le, lg, hg, lp, hp⟩, rfl, trivial, w0, w1, w2⟩
set_option maxRecDepth 100000 in
theorem open_LockState {r : Reach} {b0 : Nat} {v : Value} {d : DataW H} {p : List MemPlace} (hv : Value.okWide Try.prog W r b0 23 v) (h : DataW.Trod enc Try.prog W base spare held 23 v d p) : ∃ x : LockState_, v = .agg x.cells.toArray ∧ x.ok := by
  obtain ⟨cs, n, y, rfl, h1⟩ := open_st Try.underlying23 (by kernel_rfl) (by kernel_rfl) rfl hv h
  obtain ⟨x, rfl, h2⟩ := el_LockState n cs y h1
  exact ⟨x, rfl, h2⟩
theorem open_bytes {r : Reach} {b0 : Nat} {v : Value} {d : DataW H} {p : List MemPlace} (hv : Value.okWide Try.prog W r b0 35 v) (h : DataW.Trod enc Try.prog W 0 spare held 35 v d p) :
    ∃ xs : List Int, (∀ x ∈ xs, (fun x => (Lit.int .u8 x).wf = true) x) ∧ xs.length ≤ 9223372036854775807 ∧ ∀ B, RepC Try.prog (E0 B []) W (.sl 5 .ro (xs.map (fun x => [Value.int .u8 x]))) v :=
  open_sl Try.underlying35 (fun x => [Value.int .u8 x]) (fun x => (Lit.int .u8 x).wf = true) (of_decide_eq_true (by kernel_rfl)) (el_int Try.underlying5) hv h
end
end Go.Proofs.Ytadjkldpflidhaa
