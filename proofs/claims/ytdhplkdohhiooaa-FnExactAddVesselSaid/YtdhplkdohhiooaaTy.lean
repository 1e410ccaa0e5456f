/- The laws' arguments, opened: slices of whatever elements, structs by value. -/
import Derived.Test.YtdhplkdohhiooaaE4
import Derived.Test.YtdhplkdohhiooaaProg
import Derived.ShutString
import Derived.ChangeOld
import Derived.OpenShut
import Derived.Deep.Slices
import Derived.Deep.Fields
import Derived.ChangeSame
namespace Go.Proofs.Ytdhplkdohhiooaa
open Go.ChangeShapes Go.WideShapes Go.ChangeAt Go.RowKit Go.Deep
open Go.ChangeMaps (open_string shut_string)
set_option linter.unusedVariables false
theorem own : ownKnob Try.prog.godebug = none := by kernel_rfl
theorem laidOut : laidOutB Try.prog = true := by kernel_rfl
section
variable {H : Type} {enc : TypeId × Value → H} {W : World} {base : Nat} {spare : Nat → Bool} {held : Bool}
theorem trod_flat {P : Program} {t : TypeId} {fs : Array Field} {fuel : Nat} {cs : List Value} {y : DataW H × List MemPlace} (hs : P.underlying t = some (.struct fs)) (hone : oneCellFields P fs = true) (h : DataW.trod enc P W base spare held fuel t cs = some y) (hn : P.cellsOf t = fs.size) :
    cs.length = fs.size ∧ ∀ (j : Nat) (f : Field), fs[j]? = some f → ∃ (c : Value) (y : DataW H × List MemPlace) (m : Nat), cs[j]? = some c ∧ DataW.trod enc P W base spare held m f.type [c] = some y := by
  obtain ⟨xs, m, _, _, hcl, hlen, hg⟩ := DataW.trod_struct hs h
  refine ⟨by rw [hcl, hn], fun j f hj => ?_⟩
  obtain ⟨ho, hk⟩ := hone_of hone j f hj
  have hjl : j < fs.size := (Array.getElem?_eq_some_iff.1 hj).1
  have h1 := hg j f hj
  have hx : xs[j]? = some (xs[j]'(by omega)) := List.getElem?_eq_getElem (by omega)
  rw [ho, hk, hx] at h1
  have hjc : j < cs.length := by omega
  rw [List.drop_eq_getElem_cons hjc] at h1
  rw [List.take_succ_cons, List.take_zero] at h1
  exact ⟨_, _, m, List.getElem?_eq_getElem hjc, h1⟩
/-- A struct of one-cell fields by value. -/
theorem open_st {P : Program} {r : Reach} {b0 : Nat} {t : TypeId} {fs : Array Field} {n : Nat} {v : Value} {d : DataW H} {p : List MemPlace} (hs : P.underlying t = some (.struct fs)) (hone : oneCellFields P fs = true) (hC : P.cellsOf t = n) (hn : fs.size = n)
    (hv : Value.okWide P W r b0 t v) (h : DataW.Trod enc P W base spare held t v d p) :
    ∃ (cs : List Value) (fuel : Nat) (y : DataW H × List MemPlace), v = .agg cs.toArray ∧ DataW.trod enc P W base spare held fuel t cs = some y := by
  obtain ⟨cs, rfl, hsz⟩ := okWide_struct hs hv
  obtain ⟨fuel, hf⟩ := h
  exact ⟨cs.toList, fuel, _, by simp, by simpa [Value.cells] using hf⟩
/-- A slice whose elements are C x, x of α. -/
theorem open_sl {P : Program} {r : Reach} {b0 : Nat} {t e : TypeId} {v : Value} {d : DataW H} {p : List MemPlace} (ht : P.underlying t = some (.slice e)) {α : Type} [Inhabited α] (C : α → List Value) (K : α → Prop)
    (hp : 0 < P.cellsOf e) (hel : ∀ (n : Nat) (cs : List Value) (y : DataW H × List MemPlace), DataW.trod enc P W 0 spare held n e cs = some y → ∃ x : α, cs = C x ∧ K x)
    (hv : Value.okWide P W r b0 t v) (h : DataW.Trod enc P W 0 spare held t v d p) :
    ∃ xs : List α, (∀ x ∈ xs, K x) ∧ xs.length ≤ 9223372036854775807 ∧ ∀ B, RepC P (E0 B []) W (.sl e .ro (xs.map C)) v := by
  obtain ⟨A, n, c, rfl⟩ := okWide_slice ht hv
  obtain ⟨fuel, hf⟩ := h
  rcases open_slice ht hf with ⟨hcs, _⟩ | ⟨a, len, cap, m, k, D, Pl, hcs, hb, hl, hm, hmm, _, hx⟩
  · simp [Value.cells] at hcs
    obtain ⟨rfl, rfl, rfl⟩ := hcs
    exact ⟨[], by simp, by simp, fun B => ⟨by simp, .inl ⟨rfl, none, 0, rfl⟩⟩⟩
  · simp [Value.cells] at hcs
    obtain ⟨rfl, rfl, rfl⟩ := hcs
    have hle : n ≤ m := by rw [hmm]; split <;> omega
    obtain ⟨F, hF⟩ := choose_lt (α := α) (p := fun i x => W.cells? 0 (a.add (i * P.cellsOf e)) (P.cellsOf e) = some (C x) ∧ K x) (n := n) (fun i hi => by
      obtain ⟨cs', h1, h2⟩ := hx i (by omega)
      obtain ⟨x, rfl, hk⟩ := hel _ _ _ h2
      exact ⟨x, h1, hk⟩)
    refine ⟨(List.range n).map F, fun x hx => ?_, by simp; unfold maxLen at hm; omega, fun B => ⟨by simp; unfold maxLen at hm; omega, ?_⟩⟩
    · obtain ⟨i, hi, rfl⟩ := List.mem_map.1 hx
      exact (hF i (by simpa using hi)).2
    · by_cases hn : n = 0
      · subst hn
        exact .inl ⟨rfl, _, _, rfl⟩
      · obtain ⟨b, off, spot⟩ := a
        have h0 := World.cells?_some (hF 0 (by omega)).1
        · have hc0 := h0.2.2 0 (by omega)
          have hlt : (0 : Nat) < (C (F 0)).length := by rw [h0.2.1]; omega
          rw [List.getElem?_eq_getElem hlt] at hc0
          have hc0' : W.cell? ⟨b, off, spot⟩ = some (C (F 0))[0] := by simpa [Addr.add] using hc0
          have hspot : spot = none := World.cell?_spot hc0'
          subst hspot
          refine .inr ⟨b, off, c, by simp, by simpa using hl, World.block_lt_of_cell? W _ hc0', ⟨by simp [E0], by simp [E0]⟩, fun i x hi => ?_⟩
          simp only [List.map_map, List.getElem?_map] at hi
          obtain ⟨j, hj, rfl⟩ := Option.map_eq_some_iff.1 hi
          have hjn : i < n ∧ j = i := by
            have := (List.getElem?_eq_some_iff.1 hj)
            obtain ⟨h1, h2⟩ := this
            simp at h1 h2
            exact ⟨h1, h2.symm⟩
          obtain ⟨hin, rfl⟩ := hjn
          obtain ⟨_, h2, h3⟩ := World.cells?_some (hF j hin).1
          refine ⟨h2, fun q u hu => ?_⟩
          have hq := (List.getElem?_eq_some_iff.1 hu).1
          have hq' : q < P.cellsOf e := by rw [← h2]; exact hq
          have := h3 q hq'
          have hu : (C (F j))[q]? = some u := hu
          rw [addr_add, addr_add, hu] at this
          rw [← Nat.add_assoc]; exact this
theorem el_int {P : Program} {e : TypeId} {k : IntKind} (he : P.underlying e = some (.int k)) (n : Nat) (cs : List Value) (y : DataW H × List MemPlace) (h : DataW.trod enc P W base spare held n e cs = some y) : ∃ x : Int, cs = [.int k x] ∧ (Lit.int k x).wf = true := by
  obtain ⟨x, h1, _, h2⟩ := DataW.trod_int he h
  exact ⟨x, h1, h2⟩
theorem el_str {P : Program} {e : TypeId} (he : P.underlying e = some .string) (n : Nat) (cs : List Value) (y : DataW H × List MemPlace) (h : DataW.trod enc P W base spare held n e cs = some y) : ∃ x : ByteArray, cs = [.string x] ∧ x.size ≤ maxLen := by
  obtain ⟨x, h1, _, h2⟩ := DataW.trod_string he h
  exact ⟨x, h1, h2⟩
end
end Go.Proofs.Ytdhplkdohhiooaa
