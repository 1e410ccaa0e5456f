/- Lists of integers in the laws: copied. -/
import Derived.Test.YtkdbkddlbahceaaDoorMi
import Derived.Test.YtkdbkddlbahceaaDoorProg
namespace Go.Proofs.YtkdbkddlbahceaaDoor
open Go.RowKit
set_option linter.unusedVariables false
set_option linter.unusedSimpArgs false
attribute [local irreducible] AR DR AWp QOp Qt ACalls ARes Exit.thenA Exit.inBlockA
end Go.Proofs.YtkdbkddlbahceaaDoor
