/- The laws' arguments, opened: a struct's field that is a slice; waterways. -/
import Derived.Test.YtkdbkddlbahceaaTy
import Derived.Test.YtkdbkddlbahceaaTdR
import Derived.Test.YtkdbkddlbahceaaTyR
import Derived.Test.YtkdbkddlbahceaaProg
import Derived.ShutString
import Derived.ChangeOld
import Derived.OpenShut
import Derived.Deep.Slices
import Derived.Deep.Fields
import Derived.ChangeSame
namespace Go.Proofs.Ytkdbkddlbahceaa
open Go.ChangeShapes Go.WideShapes Go.ChangeAt Go.RowKit Go.Deep
open Go.ChangeMaps (open_string shut_string)
set_option linter.unusedVariables false
section
variable {H : Type} {enc : TypeId × Value → H} {W : World} {base : Nat} {spare : Nat → Bool} {held : Bool}
/-- A field that is a slice, its elements are C x, x of α. -/
theorem open_slc {P : Program} {t e : TypeId} {v : Value} {fuel : Nat} {yy : DataW H × List MemPlace} (ht : P.underlying t = some (.slice e)) {α : Type} [Inhabited α] (C : α → List Value) (K : α → Prop)
    (hp : 0 < P.cellsOf e) (hel : ∀ (n : Nat) (cs : List Value) (y : DataW H × List MemPlace), DataW.trod enc P W 0 spare held n e cs = some y → ∃ x : α, cs = C x ∧ K x)
    (hf : DataW.trod enc P W 0 spare held fuel t [v] = some yy) :
    ∃ xs : List α, (∀ x ∈ xs, K x) ∧ xs.length ≤ 9223372036854775807 ∧ ∀ B, RepC P (E0 B []) W (.sl e .ro (xs.map C)) v := by
  rcases open_slice ht hf with ⟨hcs, _⟩ | ⟨a, n, c, m, k, D, Pl, hcs, hb, hl, hm, hmm, _, hx⟩
  · injection hcs with hcs _
    subst hcs
    exact ⟨[], by simp, by simp, fun B => ⟨by simp, .inl ⟨rfl, none, 0, rfl⟩⟩⟩
  · injection hcs with hcs _
    subst hcs
    have hle : n ≤ m := by rw [hmm]; split <;> omega
    obtain ⟨F, hF⟩ := choose_lt (α := α) (p := fun i x => W.cells? 0 (a.add (i * P.cellsOf e)) (P.cellsOf e) = some (C x) ∧ K x) (n := n) (fun i hi => by
      obtain ⟨cs', h1, h2⟩ := hx i (by omega)
      obtain ⟨x, rfl, hk⟩ := hel _ _ _ h2
      exact ⟨x, h1, hk⟩)
    refine ⟨(List.range n).map F, fun x hx => ?_, by simp; unfold maxLen at hm; omega, fun B => ⟨by simp; unfold maxLen at hm; omega, ?_⟩⟩
    · obtain ⟨i, hi, rfl⟩ := List.mem_map.1 hx
      exact (hF i (by simpa using hi)).2
    · by_cases hn : n = 0
      · subst hn
        exact .inl ⟨rfl, _, _, rfl⟩
      · obtain ⟨b, off, spot⟩ := a
        have h0 := World.cells?_some (hF 0 (by omega)).1
        · have hc0 := h0.2.2 0 (by omega)
          have hlt : (0 : Nat) < (C (F 0)).length := by rw [h0.2.1]; omega
          rw [List.getElem?_eq_getElem hlt] at hc0
          have hc0' : W.cell? ⟨b, off, spot⟩ = some (C (F 0))[0] := by simpa [Addr.add] using hc0
          have hspot : spot = none := World.cell?_spot hc0'
          subst hspot
          refine .inr ⟨b, off, c, by simp, by simpa using hl, World.block_lt_of_cell? W _ hc0', ⟨by simp [E0], by simp [E0]⟩, fun i x hi => ?_⟩
          simp only [List.map_map, List.getElem?_map] at hi
          obtain ⟨j, hj, rfl⟩ := Option.map_eq_some_iff.1 hi
          have hjn : i < n ∧ j = i := by
            have := (List.getElem?_eq_some_iff.1 hj)
            obtain ⟨h1, h2⟩ := this
            simp at h1 h2
            exact ⟨h1, h2.symm⟩
          obtain ⟨hin, rfl⟩ := hjn
          obtain ⟨_, h2, h3⟩ := World.cells?_some (hF j hin).1
          refine ⟨h2, fun q u hu => ?_⟩
          have hq := (List.getElem?_eq_some_iff.1 hu).1
          have hq' : q < P.cellsOf e := by rw [← h2]; exact hq
          have := h3 q hq'
          have hu : (C (F j))[q]? = some u := hu
          rw [addr_add, addr_add, hu] at this
          rw [← Nat.add_assoc]; exact this
structure Way_ where
  rs : List Reach_
  is : List Int
def Way_.ok (x : Way_) : Prop := (∀ r ∈ x.rs, r.ok) ∧ (∀ i ∈ x.is, (Lit.int .i64 i).wf = true) ∧ x.rs.length ≤ 9223372036854775807 ∧ x.is.length ≤ 9223372036854775807
set_option maxRecDepth 100000 in
theorem open_Waterway {r : Reach} {b0 : Nat} {v : Value} {d : DataW H} {p : List MemPlace} (hv : Value.okWide Try.prog W r b0 25 v) (h : DataW.Trod enc Try.prog W 0 spare held 25 v d p) :
    ∃ x : Way_, x.ok ∧ ∀ B, RepV Try.prog (E0 B []) W (.agg [.sl 86 .ro (x.rs.map Reach_.cells), .sl 3 .ro (x.is.map fun i => [Value.int .i64 i])]) v := by
  obtain ⟨cs, n, y, rfl, h1⟩ := open_st Try.underlying25 (by kernel_rfl) (by kernel_rfl) rfl hv h
  obtain ⟨hsz, hf⟩ := trod_flat Try.underlying25 (by kernel_rfl) h1 (by kernel_rfl)
  match cs, hsz with
  | [c0, c1], _ =>
    obtain ⟨v0, y0, n0, e0, t0⟩ := hf 0 _ rfl
    simp at e0; subst e0
    obtain ⟨v1, y1, n1, e1, t1⟩ := hf 1 _ rfl
    simp at e1; subst e1
    obtain ⟨rs, hr, hrl, hrr⟩ := open_slc Try.underlying22 Reach_.cells Reach_.ok (of_decide_eq_true (by kernel_rfl)) el_Reach t0
    obtain ⟨is, hi, hil, hir⟩ := open_slc Try.underlying23 (fun x => [Value.int .i64 x]) (fun x => (Lit.int .i64 x).wf = true) (of_decide_eq_true (by kernel_rfl)) (el_int Try.underlying3) t1
    exact ⟨⟨rs, is⟩, ⟨hr, hi, hrl, hil⟩, fun B => ⟨#[c0, c1], rfl, hrr B, hir B, trivial⟩⟩
end
end Go.Proofs.Ytkdbkddlbahceaa
