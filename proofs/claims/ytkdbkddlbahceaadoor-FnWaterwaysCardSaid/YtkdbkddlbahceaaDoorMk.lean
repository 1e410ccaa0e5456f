/- Marks: lists of integers, in any seat. -/
import Derived.Test.YtkdbkddlbahceaaDoorEE
import Derived.Test.YtkdbkddlbahceaaDoorMi
import Derived.Test.YtkdbkddlbahceaaDoorProg
namespace Go.Proofs.YtkdbkddlbahceaaDoor
open Go.RowKit
set_option linter.unusedVariables false
set_option linter.unusedSimpArgs false
attribute [local irreducible] AR DR AWp QOp Qt ACalls ARes Exit.thenA Exit.inBlockA
def marksI (k : Nat) : Nat → List Int
  | 0 => []
  | n + 1 => marksI k n ++ [((k + n : Nat) : Int)]
end Go.Proofs.YtkdbkddlbahceaaDoor
