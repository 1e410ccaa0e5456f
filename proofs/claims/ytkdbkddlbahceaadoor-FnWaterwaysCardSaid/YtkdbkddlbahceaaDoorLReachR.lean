/- Structs Reach and lists of them in the laws: measured, copied, compared. -/
import Derived.Test.YtkdbkddlbahceaaDoorEE
import Derived.Test.YtkdbkddlbahceaaDoorTdR
import Derived.Test.YtkdbkddlbahceaaDoorMi
namespace Go.Proofs.YtkdbkddlbahceaaDoor
open Go.RowKit
set_option linter.unusedVariables false
set_option linter.unusedSimpArgs false
attribute [local irreducible] AR DR AWp QOp Qt ACalls ARes Exit.thenA Exit.inBlockA
abbrev reachs (l : List Reach_) : List (List Value) := l.map Reach_.cells
theorem reachs_at {l : List Reach_} {i : Nat} (h : i < l.length) : (reachs l)[i]? = some ([.int .i64 (l[i]).ln, .int .i64 (l[i]).dp, .int .i64 (l[i]).sp] : List Value) := by simp [reachs, h, Reach_.cells]
theorem reachs_ok (l : List Reach_) : okE (reachs l) := by
  intro y hy v hv
  obtain ⟨x, _, rfl⟩ := List.mem_map.1 hy
  simp [Reach_.cells] at hv
  rcases hv with hv | hv | hv <;> subst hv <;> rfl
def mark1Reach (j : Nat) : Reach_ := ⟨(j : Int), (j : Int) + 1, (j : Int) + 1 + 1⟩
def marksReach (k : Nat) : Nat → List Reach_
  | 0 => []
  | n + 1 => marksReach k n ++ [mark1Reach (k + 3 * n)]
end Go.Proofs.YtkdbkddlbahceaaDoor
