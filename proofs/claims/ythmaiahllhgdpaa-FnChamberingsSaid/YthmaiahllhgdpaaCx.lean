/- Packings: areas, what is asked. -/
import Derived.Test.YthmaiahllhgdpaaCc
import Derived.Test.YthmaiahllhgdpaaCe



namespace Go.Proofs.Ythmaiahllhgdpaa
open Go.RowKit
set_option linter.unusedVariables false
set_option linter.unusedSimpArgs false
theorem area_succ {hs : List Hull_} (hh : hullsF hs = true) {i : Nat} (hi : i < hs.length) : ((areaM hs (i + 1) : Nat) : Int) = (areaM hs i : Int) + (hAt hs i).ln * (hAt hs i).wd := by
  have k := (hAt_ok hh hi).2
  rw [areaM, Int.natCast_add, Int.natCast_mul, Int.toNat_of_nonneg (by omega), Int.toNat_of_nonneg (by omega)]
theorem mul_bd {x y : Int} (hx : 1 ≤ x ∧ x ≤ 6) (hy : 1 ≤ y ∧ y ≤ 3) : 0 ≤ x * y ∧ x * y ≤ 18 := by
  have hx' : x = 1 ∨ x = 2 ∨ x = 3 ∨ x = 4 ∨ x = 5 ∨ x = 6 := by omega
  rcases hx' with rfl | rfl | rfl | rfl | rfl | rfl <;> omega
theorem area_bd {hs : List Hull_} (hh : hullsF hs = true) : ∀ i, i ≤ hs.length → areaM hs i ≤ 18 * i
  | 0, _ => by simp [areaM]
  | i + 1, h => by
    have := area_bd hh i (by omega)
    have k := (hAt_ok hh (i := i) (by omega)).2
    have := mul_bd k.1 k.2
    have := area_succ hh (i := i) (by omega)
    omega
theorem askB_iff {c : Chamber_} {hs : List Hull_} {ss : List Spot_} : askB c hs ss = true ↔ chF c = true ∧ hullsF hs = true ∧ ss.length = hs.length ∧ packB c hs ss = true := by simp [askB, and_assoc]
end Go.Proofs.Ythmaiahllhgdpaa
