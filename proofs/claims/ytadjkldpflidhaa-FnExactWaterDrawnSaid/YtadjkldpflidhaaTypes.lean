/- The laws' arguments, opened: structs by value, slices. -/
import Derived.Test.YtadjkldpflidhaaBase
import Derived.ShutString
import Derived.ChangeOld
import Derived.OpenShut
import Derived.Deep.Slices
import Derived.Deep.Fields
import Derived.ChangeSame
namespace Go.Proofs.Ytadjkldpflidhaa
open Go.ChangeShapes Go.WideShapes Go.ChangeAt Go.RowKit Go.Deep
open Go.ChangeMaps (open_string shut_string)
set_option linter.unusedVariables false
section
variable {H : Type} {enc : TypeId × Value → H} {W : World} {base : Nat} {spare : Nat → Bool} {held : Bool}
theorem open_struct {P : Program} {r : Reach} {b0 : Nat} {t : TypeId} {fs : Array Field} {n : Nat} {v : Value} {d : DataW H} {p : List MemPlace} (hs : P.underlying t = some (.struct fs)) (hone : oneCellFields P fs = true) (hC : P.cellsOf t = n) (hn : fs.size = n)
    (hv : Value.okWide P W r b0 t v) (h : DataW.Trod enc P W base spare held t v d p) :
    ∃ cs : Array Value, v = .agg cs ∧ cs.size = n ∧ ∀ (j : Nat) (f : Field), fs[j]? = some f → ∃ (c : Value) (y : DataW H × List MemPlace) (m : Nat), cs[j]? = some c ∧ DataW.trod enc P W base spare held m f.type [c] = some y := by
  obtain ⟨cs, rfl, hsz⟩ := okWide_struct hs hv
  obtain ⟨fuel, hf⟩ := h
  obtain ⟨xs, m, _, _, hcl, hlen, hg⟩ := DataW.trod_struct hs hf
  refine ⟨cs, rfl, hsz.trans hC, fun j f hj => ?_⟩
  obtain ⟨ho, hk⟩ := hone_of hone j f hj
  have hjl : j < fs.size := (Array.getElem?_eq_some_iff.1 hj).1
  have h1 := hg j f hj
  have hx : xs[j]? = some (xs[j]'(by omega)) := List.getElem?_eq_getElem (by omega)
  rw [ho, hk, hx] at h1
  have hjc : j < (Value.agg cs).cells.toList.length := by omega
  rw [List.drop_eq_getElem_cons hjc] at h1
  rw [List.take_succ_cons, List.take_zero] at h1
  refine ⟨_, _, m, ?_, h1⟩
  simp [Value.cells]
theorem open_LockState {r : Reach} {b0 : Nat} {v : Value} {d : DataW H} {p : List MemPlace} (hv : Value.okWide Try.prog W r b0 23 v) (h : DataW.Trod enc Try.prog W base spare held 23 v d p) :
    ∃ (lo : Int) (up : Int) (le : Int) (lg : Bool) (hg : Bool) (lp : Bool) (hp : Bool), v = .agg #[.int .i64 lo, .int .i64 up, .int .i64 le, .bool lg, .bool hg, .bool lp, .bool hp] ∧ True ∧ (Lit.int .i64 lo).wf = true ∧ (Lit.int .i64 up).wf = true ∧ (Lit.int .i64 le).wf = true := by
  obtain ⟨cs, rfl, hsz, hf⟩ := open_struct Try.underlying23 (by kernel_rfl) (by kernel_rfl) rfl hv h
  obtain ⟨l⟩ := cs
  match l, hsz with
  | [c0, c1, c2, c3, c4, c5, c6], _ =>
    obtain ⟨v0, y0, n0, e0, t0⟩ := hf 0 _ rfl
    simp at e0; subst e0
    obtain ⟨lo, h0, _, w0⟩ := DataW.trod_int Try.underlying3 t0
    simp at h0; subst h0
    obtain ⟨v1, y1, n1, e1, t1⟩ := hf 1 _ rfl
    simp at e1; subst e1
    obtain ⟨up, h1, _, w1⟩ := DataW.trod_int Try.underlying3 t1
    simp at h1; subst h1
    obtain ⟨v2, y2, n2, e2, t2⟩ := hf 2 _ rfl
    simp at e2; subst e2
    obtain ⟨le, h2, _, w2⟩ := DataW.trod_int Try.underlying3 t2
    simp at h2; subst h2
    obtain ⟨v3, y3, n3, e3, t3⟩ := hf 3 _ rfl
    simp at e3; subst e3
    obtain ⟨lg, h3, _⟩ := DataW.trod_bool Try.underlying4 t3
    simp at h3; subst h3
    obtain ⟨v4, y4, n4, e4, t4⟩ := hf 4 _ rfl
    simp at e4; subst e4
    obtain ⟨hg, h4, _⟩ := DataW.trod_bool Try.underlying4 t4
    simp at h4; subst h4
    obtain ⟨v5, y5, n5, e5, t5⟩ := hf 5 _ rfl
    simp at e5; subst e5
    obtain ⟨lp, h5, _⟩ := DataW.trod_bool Try.underlying4 t5
    simp at h5; subst h5
    obtain ⟨v6, y6, n6, e6, t6⟩ := hf 6 _ rfl
    simp at e6; subst e6
    obtain ⟨hp, h6, _⟩ := DataW.trod_bool Try.underlying4 t6
    simp at h6; subst h6
    exact ⟨lo, up, le, lg, hg, lp, hp, rfl, trivial, w0, w1, w2⟩
theorem open_rdI {r : Reach} {b0 : Nat} {v : Value} {d : DataW H} {p : List MemPlace} (hv : Value.okWide Try.prog W r b0 40 v) (h : DataW.Trod enc Try.prog W 0 spare held 40 v d p) :
    ∃ (A : Option Addr) (n c : Nat) (xs : List Int), v = .slice A n c ∧ RdI W A n xs := by
  obtain ⟨A, n, c, rfl⟩ := okWide_slice Try.underlying40 hv
  obtain ⟨fuel, hf⟩ := h
  rcases open_ints Try.underlying40 Try.underlying3 (by kernel_rfl) hf with ⟨hcs, _⟩ | ⟨x, l, c', zs, hcs, _, hl, hm, hz, _, hcell, hwz⟩
  · simp [Value.cells] at hcs
    obtain ⟨rfl, rfl, rfl⟩ := hcs
    exact ⟨none, 0, 0, [], rfl, by simp, by omega, fun h => by omega⟩
  · simp [Value.cells] at hcs
    obtain ⟨rfl, rfl, rfl⟩ := hcs
    have hzl : n ≤ zs.length := by rw [hz]; split <;> omega
    have hl2 : (zs.take n).length = n := by rw [List.length_take]; omega
    refine ⟨_, _, _, zs.take n, rfl, by rw [List.length_map]; exact hl2, by unfold maxLen at hm; omega, fun hn => ?_⟩
    have h0 := hcell 0 (by omega)
    obtain ⟨b, off, spot⟩ := x
    have hspot : spot = none := by simpa [Addr.add] using World.cell?_spot h0
    subst hspot
    have hadd : ∀ i, (⟨b, off, none⟩ : Addr).add i = ⟨b, off + i, none⟩ := by intro i; unfold Addr.add; split <;> simp_all
    refine ⟨b, off, rfl, World.block_lt_of_cell? W _ h0, fun i v hv => ?_⟩
    have hi : i < ((zs.take n).map (Value.int .i64)).length := (List.getElem?_eq_some_iff.1 hv).1
    rw [List.length_map, hl2] at hi
    have := hcell i (by omega)
    rw [hadd] at this
    rw [this, ← hv, List.getElem?_map, List.getElem?_take, if_pos hi]
    simp [show i < zs.length by omega]
end
end Go.Proofs.Ytadjkldpflidhaa
