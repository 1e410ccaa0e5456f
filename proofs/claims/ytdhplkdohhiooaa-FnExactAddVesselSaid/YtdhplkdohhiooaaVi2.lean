/- A block behind a run of writes. -/
import Derived.Test.YtdhplkdohhiooaaVi1
namespace Go.Proofs.Ytdhplkdohhiooaa
open Go.Lib Go.RowKit Go.Shelf
set_option linter.unusedVariables false
set_option linter.unusedSimpArgs false
theorem set_mid {α : Type} (l : List α) (o : Nat) (v : α) (h : o < l.length) : l.set o v = l.take o ++ v :: l.drop (o + 1) := by
  rw [List.set_eq_take_append_cons_drop, if_pos h]
/-- The cells of a block behind setCells. -/
theorem block_setCells (b : Nat) (t : TypeId) (z : Nat × Nat) : ∀ (vs : List Value) (o : Nat) (w : World) (cur : Array Value), w.heap[b]? = some (.cells cur t z) → o + vs.length ≤ cur.size →
    ∃ cur' : Array Value, (w.setCells b o vs).heap[b]? = some (.cells cur' t z) ∧ cur'.toList = cur.toList.take o ++ vs ++ cur.toList.drop (o + vs.length)
  | [], o, w, cur, h, _ => ⟨cur, h, by simp⟩
  | v :: vs, o, w, cur, h, hl => by
    simp only [List.length_cons] at hl
    have hb : b < w.heap.size := (Array.getElem?_eq_some_iff.1 h).1
    have h1 : (w.setCell ⟨b, o, none⟩ v).heap[b]? = some (.cells (cur.setIfInBounds o v) t z) := by
      simp only [World.setCell, Array.getElem?_modify, if_true, h, Option.map_some]
      rfl
    obtain ⟨cur', h2, h3⟩ := block_setCells b t z vs (o + 1) (w.setCell ⟨b, o, none⟩ v) (cur.setIfInBounds o v) h1 (by rw [Array.size_setIfInBounds]; omega)
    refine ⟨cur', h2, ?_⟩
    have hlen : o < cur.toList.length := by rw [Array.length_toList]; omega
    rw [h3, Array.toList_setIfInBounds, set_mid _ _ _ hlen]
    have e1 : (cur.toList.take o ++ v :: cur.toList.drop (o + 1)).take (o + 1) = cur.toList.take o ++ [v] := by
      rw [List.take_append, List.take_of_length_le (by simp; omega), List.length_take, Nat.min_eq_left (by omega), show o + 1 - o = 1 by omega]
      rfl
    have e2 : (cur.toList.take o ++ v :: cur.toList.drop (o + 1)).drop (o + 1 + vs.length) = cur.toList.drop (o + 1 + vs.length) := by
      rw [List.drop_append, List.drop_of_length_le (by simp; omega), List.length_take, Nat.min_eq_left (by omega), List.nil_append, show o + 1 + vs.length - o = vs.length + 1 by omega, List.drop_succ_cons, List.drop_drop]
    rw [e1, e2, List.length_cons, show o + (vs.length + 1) = o + 1 + vs.length by omega]
    simp
theorem heap_size_setCells (b : Nat) : ∀ (vs : List Value) (o : Nat) (w : World), (w.setCells b o vs).heap.size = w.heap.size
  | [], _, _ => rfl
  | v :: vs, o, w => by rw [World.setCells, heap_size_setCells b vs]; simp [World.setCell]
theorem block_other_setCells (b : Nat) {g : Nat} (hg : g ≠ b) : ∀ (vs : List Value) (o : Nat) (w : World), (w.setCells b o vs).heap[g]? = w.heap[g]?
  | [], _, _ => rfl
  | v :: vs, o, w => by
    rw [World.setCells, block_other_setCells b hg vs]
    simp only [World.setCell, Array.getElem?_modify]
    rw [if_neg (fun e => hg e.symm)]
theorem frame_setCells (b : Nat) : ∀ (vs : List Value) (o : Nat) (w : World), (w.setCells b o vs).os = w.os ∧ (w.setCells b o vs).tape = w.tape ∧ (w.setCells b o vs).output = w.output
  | [], _, _ => ⟨rfl, rfl, rfl⟩
  | v :: vs, o, w => by
    have h := frame_setCells b vs (o + 1) (w.setCell ⟨b, o, none⟩ v)
    exact h
end Go.Proofs.Ytdhplkdohhiooaa
