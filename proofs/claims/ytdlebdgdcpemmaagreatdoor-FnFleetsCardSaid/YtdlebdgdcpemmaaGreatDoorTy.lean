/- The laws' arguments, opened: slices of whatever elements, structs by value. -/
import Derived.Test.YtdlebdgdcpemmaaGreatDoorE9
import Derived.Test.YtdlebdgdcpemmaaGreatDoorProg
import Derived.ShutString
import Derived.ChangeOld
import Derived.OpenShut
import Derived.Deep.Slices
import Derived.Deep.Fields
import Derived.ChangeSame
namespace Go.Proofs.YtdlebdgdcpemmaaGreatDoor
open Go.ChangeShapes Go.WideShapes Go.ChangeAt Go.RowKit Go.Deep
open Go.ChangeMaps (open_string shut_string)
set_option linter.unusedVariables false
theorem own : ownKnob Tryz.prog.godebug = none := by kernel_rfl
theorem laidOut : laidOutB Tryz.prog = true := by kernel_rfl
section
variable {H : Type} {enc : TypeId × Value → H} {W : World} {base : Nat} {spare : Nat → Bool} {held : Bool}
/-- A slice whose elements are C x, x of α. -/
theorem open_sl {P : Program} {r : Reach} {b0 : Nat} {t e : TypeId} {v : Value} {d : DataW H} {p : List MemPlace} (ht : P.underlying t = some (.slice e)) {α : Type} [Inhabited α] (C : α → List Value) (K : α → Prop)
    (hp : 0 < P.cellsOf e) (hel : ∀ (n : Nat) (cs : List Value) (y : DataW H × List MemPlace), DataW.trod enc P W 0 spare held n e cs = some y → ∃ x : α, cs = C x ∧ K x)
    (hv : Value.okWide P W r b0 t v) (h : DataW.Trod enc P W 0 spare held t v d p) :
    ∃ xs : List α, (∀ x ∈ xs, K x) ∧ xs.length ≤ 9223372036854775807 ∧ ∀ B, RepC P (E0 B []) W (.sl e .ro (xs.map C)) v := by
  obtain ⟨A, n, c, rfl⟩ := okWide_slice ht hv
  obtain ⟨fuel, hf⟩ := h
  rcases open_slice ht hf with ⟨hcs, _⟩ | ⟨a, len, cap, m, k, D, Pl, hcs, hb, hl, hm, hmm, _, hx⟩
  · simp [Value.cells] at hcs
    obtain ⟨rfl, rfl, rfl⟩ := hcs
    exact ⟨[], by simp, by simp, fun B => ⟨by simp, .inl ⟨rfl, none, 0, rfl⟩⟩⟩
  · simp [Value.cells] at hcs
    obtain ⟨rfl, rfl, rfl⟩ := hcs
    have hle : n ≤ m := by rw [hmm]; split <;> omega
    obtain ⟨F, hF⟩ := choose_lt (α := α) (p := fun i x => W.cells? 0 (a.add (i * P.cellsOf e)) (P.cellsOf e) = some (C x) ∧ K x) (n := n) (fun i hi => by
      obtain ⟨cs', h1, h2⟩ := hx i (by omega)
      obtain ⟨x, rfl, hk⟩ := hel _ _ _ h2
      exact ⟨x, h1, hk⟩)
    refine ⟨(List.range n).map F, fun x hx => ?_, by simp; unfold maxLen at hm; omega, fun B => ⟨by simp; unfold maxLen at hm; omega, ?_⟩⟩
    · obtain ⟨i, hi, rfl⟩ := List.mem_map.1 hx
      exact (hF i (by simpa using hi)).2
    · by_cases hn : n = 0
      · subst hn
        exact .inl ⟨rfl, _, _, rfl⟩
      · obtain ⟨b, off, spot⟩ := a
        have h0 := World.cells?_some (hF 0 (by omega)).1
        · have hc0 := h0.2.2 0 (by omega)
          have hlt : (0 : Nat) < (C (F 0)).length := by rw [h0.2.1]; omega
          rw [List.getElem?_eq_getElem hlt] at hc0
          have hc0' : W.cell? ⟨b, off, spot⟩ = some (C (F 0))[0] := by simpa [Addr.add] using hc0
          have hspot : spot = none := World.cell?_spot hc0'
          subst hspot
          refine .inr ⟨b, off, c, by simp, by simpa using hl, World.block_lt_of_cell? W _ hc0', ⟨by simp [E0], by simp [E0]⟩, fun i x hi => ?_⟩
          simp only [List.map_map, List.getElem?_map] at hi
          obtain ⟨j, hj, rfl⟩ := Option.map_eq_some_iff.1 hi
          have hjn : i < n ∧ j = i := by
            have := (List.getElem?_eq_some_iff.1 hj)
            obtain ⟨h1, h2⟩ := this
            simp at h1 h2
            exact ⟨h1, h2.symm⟩
          obtain ⟨hin, rfl⟩ := hjn
          obtain ⟨_, h2, h3⟩ := World.cells?_some (hF j hin).1
          refine ⟨h2, fun q u hu => ?_⟩
          have hq := (List.getElem?_eq_some_iff.1 hu).1
          have hq' : q < P.cellsOf e := by rw [← h2]; exact hq
          have := h3 q hq'
          have hu : (C (F j))[q]? = some u := hu
          rw [addr_add, addr_add, hu] at this
          rw [← Nat.add_assoc]; exact this
theorem el_int {P : Program} {e : TypeId} {k : IntKind} (he : P.underlying e = some (.int k)) (n : Nat) (cs : List Value) (y : DataW H × List MemPlace) (h : DataW.trod enc P W base spare held n e cs = some y) : ∃ x : Int, cs = [.int k x] ∧ (Lit.int k x).wf = true := by
  obtain ⟨x, h1, _, h2⟩ := DataW.trod_int he h
  exact ⟨x, h1, h2⟩
end
end Go.Proofs.YtdlebdgdcpemmaaGreatDoor
