/- Marks: lists of integers, in any seat. -/
import Derived.Test.YtdhplkdohhiooaaEW
import Derived.Test.YtdhplkdohhiooaaMi
import Derived.Test.YtdhplkdohhiooaaProg


namespace Go.Proofs.Ytdhplkdohhiooaa
open Go.RowKit
set_option linter.unusedVariables false
set_option linter.unusedSimpArgs false
attribute [local irreducible] AR DR AWp QOp Qt ACalls ARes Exit.thenA Exit.inBlockA
def marksI (k : Nat) : Nat → List Int
  | 0 => []
  | n + 1 => marksI k n ++ [((k + n : Nat) : Int)]
@[simp] theorem marksI_len (k n : Nat) : (marksI k n).length = n := by
  induction n with
  | zero => rfl
  | succ n ih => simp [marksI, ih]
theorem marksI_at {k n i : Nat} (h : i < n) : (marksI k n)[i]? = some ((k + i : Nat) : Int) := by
  induction n with
  | zero => omega
  | succ n ih =>
    rw [marksI]
    by_cases hi : i < n
    · rw [List.getElem?_append_left (by rw [marksI_len]; exact hi)]; exact ih hi
    · obtain rfl : i = n := by omega
      rw [List.getElem?_append_right (by rw [marksI_len]; exact Nat.le_refl _)]; simp [marksI_len]
theorem marksI_set (k i : Nat) (l : List Int) (h : i < l.length) : (its (marksI k i ++ l.drop i)).set i [Value.int .i64 ((k + i : Nat) : Int)] = its (marksI k (i + 1) ++ l.drop (i + 1)) := by
  simp only [its, List.map_append, marksI]
  rw [List.set_append_right _ _ (by simp), ← List.getElem_cons_drop h]
  simp only [List.map_cons, List.length_map, marksI_len, Nat.sub_self, List.set_cons_zero, List.map_nil, List.append_assoc, List.cons_append, List.nil_append]
end Go.Proofs.Ytdhplkdohhiooaa
