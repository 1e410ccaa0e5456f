/- Waterways marked and held. -/
import Derived.Test.YtkdbkddlbahceaaDoorWb
import Derived.Test.YtkdbkddlbahceaaDoorEE
import Derived.Test.YtkdbkddlbahceaaDoorMk
namespace Go.Proofs.YtkdbkddlbahceaaDoor
open Go.RowKit
set_option linter.unusedVariables false
set_option linter.unusedSimpArgs false
attribute [local irreducible] AR DR AWp QOp Qt ACalls ARes Exit.thenA Exit.inBlockA
attribute [local irreducible] AG0 AG AGs
def marksWay (k a b : Nat) : Way_ := ⟨marksReach k a, marksI (k + 3 * a) b⟩
end Go.Proofs.YtkdbkddlbahceaaDoor
