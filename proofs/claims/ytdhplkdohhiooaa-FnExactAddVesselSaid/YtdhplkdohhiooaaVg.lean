/- PassDepth. -/
import Derived.Test.YtdhplkdohhiooaaEF
import Derived.Test.YtdhplkdohhiooaaVd
import Derived.Test.YtdhplkdohhiooaaMk

namespace Go.Proofs.Ytdhplkdohhiooaa
open Go.RowKit
set_option linter.unusedVariables false
set_option linter.unusedSimpArgs false
attribute [local irreducible] AR DR AWp QOp Qt ACalls ARes Exit.thenA Exit.inBlockA
theorem fleet_len' {l : List Vessel_} (h : fleetF l = true) : l.length ≤ 8 := by
  unfold fleetF at h
  simp only [Bool.and_eq_true, decide_eq_true_eq] at h
  exact h.1
theorem fleet_at' {l : List Vessel_} (h : fleetF l = true) {i : Nat} (hi : i < l.length) : 50 ≤ l[i].dr ∧ l[i].dr ≤ 500 := by
  have hv : vesF l[i] = true := by
    cases hv : vesF l[i] with
    | true => rfl
    | false => rw [fleet_no hi (okAt_bad hi hv)] at h; cases h
  simp only [vesF, inB, Bool.and_eq_true, decide_eq_true_eq] at hv
  exact hv.1.2
def passL (l : List Vessel_) (d k : Int) (n : Nat) : List Int := ((l.take n).filter fun x => decide (x.dr + k ≤ d)).map Vessel_.id
theorem passL_len (l : List Vessel_) (d k : Int) (n : Nat) : (its (passL l d k n)).length ≤ n := by
  simp only [passL, its, List.length_map]
  exact Nat.le_trans (List.length_filter_le _ _) (by simp; omega)
theorem passL_yes {l : List Vessel_} {d k : Int} {i : Nat} (hi : i < l.length) (h : l[i].dr + k ≤ d) : its (passL l d k i) ++ [[Value.int .i64 l[i].id]] = its (passL l d k (i + 1)) := by
  simp only [passL, its, List.take_succ_eq_append_getElem hi, List.filter_append, List.filter_cons, decide_eq_true h, List.filter_nil, reduceIte, List.map_append, List.map_cons, List.map_nil]
theorem passL_no {l : List Vessel_} {d k : Int} {i : Nat} (hi : i < l.length) (h : ¬ l[i].dr + k ≤ d) : its (passL l d k i) = its (passL l d k (i + 1)) := by
  simp only [passL, its, List.take_succ_eq_append_getElem hi, List.filter_append, List.filter_cons, decide_eq_false h, List.filter_nil, Bool.false_eq_true, reduceIte, List.append_nil]
end Go.Proofs.Ytdhplkdohhiooaa
