/- Lists of integers in the laws: compared, in any seat. -/
import Derived.Test.YtdlebdgdcpemmaaGreatDoorE9
import Derived.Test.YtdlebdgdcpemmaaGreatDoorProg
namespace Go.Proofs.YtdlebdgdcpemmaaGreatDoor
open Go.RowKit
set_option linter.unusedVariables false
set_option linter.unusedSimpArgs false
attribute [local irreducible] AR DR AWp QOp Qt ACalls ARes Exit.thenA Exit.inBlockA
abbrev its (l : List Int) : List (List Value) := l.map fun x => [Value.int .i64 x]
theorem its_ok (l : List Int) : okE (its l) := by
  intro y hy v hv
  obtain ⟨x, _, rfl⟩ := List.mem_map.1 hy
  simp at hv; subst hv; rfl
theorem its_one (x : Int) : okE [[Value.int .i64 x]] := its_ok [x]
theorem its_at {l : List Int} {i : Nat} (h : i < l.length) : (its l)[i]? = some [Value.int .i64 l[i]] := by simp [its, h]
end Go.Proofs.YtdlebdgdcpemmaaGreatDoor
