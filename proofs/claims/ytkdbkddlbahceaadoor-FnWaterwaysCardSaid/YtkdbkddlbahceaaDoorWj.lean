/- JoinWaterways: the joined waterway, plain; where nothing is joined. -/
import Derived.Test.YtkdbkddlbahceaaDoorWi
import Derived.Test.YtkdbkddlbahceaaDoorEE
namespace Go.Proofs.YtkdbkddlbahceaaDoor
open Go.RowKit
set_option linter.unusedVariables false
set_option linter.unusedSimpArgs false
attribute [local irreducible] AR DR AWp QOp Qt ACalls ARes Exit.thenA Exit.inBlockA
attribute [local irreducible] AG0 AG AGs
def joinW (x y : Way_) (k : Int) : Way_ := ⟨x.rs ++ y.rs, x.is ++ [k] ++ y.is⟩
def joinR (x y : Way_) (k : Int) : Option Way_ := if wayF x = true ∧ wayF y = true ∧ wayF (joinW x y k) = true then some (joinW x y k) else none
theorem joinR_a {x y : Way_} {k : Int} (h : wayF x = false) : joinR x y k = none := if_neg fun e => by rw [h] at e; cases e.1
theorem joinR_b {x y : Way_} {k : Int} (h : wayF y = false) : joinR x y k = none := if_neg fun e => by rw [h] at e; cases e.2.1
theorem joinR_c {x y : Way_} {k : Int} (h : wayF (joinW x y k) = false) : joinR x y k = none := if_neg fun e => by rw [h] at e; cases e.2.2
theorem joinR_y {x y : Way_} {k : Int} (h1 : wayF x = true) (h2 : wayF y = true) (h3 : wayF (joinW x y k) = true) : joinR x y k = some (joinW x y k) := if_pos ⟨h1, h2, h3⟩
def wsJ : Option Way_ → List AW
  | some x => [.agg [.sl 65 (.own 0) (reachs (x).rs), .sl 3 (.own 1) (its (x).is)], .c (.p (.bool true))]
  | none => [.agg [.nl, .nl], .c (.p (.bool false))]
def kJ : Option Way_ → Nat
  | some _ => 2
  | none => 0
theorem one_wsJ (o : Option Way_) : one (wsJ o) = .tup (wsJ o) := by cases o <;> rfl
end Go.Proofs.YtkdbkddlbahceaaDoor
