/- Steps of the lock: commands 5 to 8. -/
import Derived.Test.YtadjkldpflidhaaLkD


namespace Go.Proofs.Ytadjkldpflidhaa
open Go.RowKit

theorem spec_turn5 (lo up le : Int) (lg hg lp hp : Bool) (w : World) :
    Calls Try.prog 54 #[.agg #[.int .i64 lo, .int .i64 up, .int .i64 le, .bool lg, .bool hg, .bool lp, .bool hp], .int .i64 5] w fun e w' => e = .returned (.tuple #[.agg #[.int .i64 (turnR ⟨lo, up, le, lg, hg, lp, hp⟩ 5).1.lo, .int .i64 (turnR ⟨lo, up, le, lg, hg, lp, hp⟩ 5).1.up, .int .i64 (turnR ⟨lo, up, le, lg, hg, lp, hp⟩ 5).1.le, .bool (turnR ⟨lo, up, le, lg, hg, lp, hp⟩ 5).1.lg, .bool (turnR ⟨lo, up, le, lg, hg, lp, hp⟩ 5).1.hg, .bool (turnR ⟨lo, up, le, lg, hg, lp, hp⟩ 5).1.lp, .bool (turnR ⟨lo, up, le, lg, hg, lp, hp⟩ 5).1.hp], .bool (turnR ⟨lo, up, le, lg, hg, lp, hp⟩ 5).2]) ∧ Below w.heap.size w w' := by
  cases lp
  all_goals
    go_enter Try.func54, Try.ntmps54
    go_wp2
    go_region
    go_wp2
    refine bodyPost_ret (by simp [results, Try.results54, go_sem]; try rfl) rfl ?_
    exact ⟨by simp [turnR, turnF], by (repeat' (first | (with_reducible exact Below.refl _ _) | (with_reducible assumption) | (with_reducible refine Below.alloc ?_ ?_ _) | (with_reducible refine Below.drew ?_) | (with_reducible refine below_drewN ?_ _) | (with_reducible refine Below.setCell ?_ ?_ _) | (first | (with_reducible exact Nat.le_refl _) | (with_reducible assumption) | omega | (simp; omega) | (simp; done))))⟩

theorem spec_turn6 (lo up le : Int) (lg hg lp hp : Bool) (w : World) :
    Calls Try.prog 54 #[.agg #[.int .i64 lo, .int .i64 up, .int .i64 le, .bool lg, .bool hg, .bool lp, .bool hp], .int .i64 6] w fun e w' => e = .returned (.tuple #[.agg #[.int .i64 (turnR ⟨lo, up, le, lg, hg, lp, hp⟩ 6).1.lo, .int .i64 (turnR ⟨lo, up, le, lg, hg, lp, hp⟩ 6).1.up, .int .i64 (turnR ⟨lo, up, le, lg, hg, lp, hp⟩ 6).1.le, .bool (turnR ⟨lo, up, le, lg, hg, lp, hp⟩ 6).1.lg, .bool (turnR ⟨lo, up, le, lg, hg, lp, hp⟩ 6).1.hg, .bool (turnR ⟨lo, up, le, lg, hg, lp, hp⟩ 6).1.lp, .bool (turnR ⟨lo, up, le, lg, hg, lp, hp⟩ 6).1.hp], .bool (turnR ⟨lo, up, le, lg, hg, lp, hp⟩ 6).2]) ∧ Below w.heap.size w w' := by
  cases lp
  all_goals
    go_enter Try.func54, Try.ntmps54
    go_wp2
    go_region
    go_wp2
    refine bodyPost_ret (by simp [results, Try.results54, go_sem]; try rfl) rfl ?_
    exact ⟨by simp [turnR, turnF], by (repeat' (first | (with_reducible exact Below.refl _ _) | (with_reducible assumption) | (with_reducible refine Below.alloc ?_ ?_ _) | (with_reducible refine Below.drew ?_) | (with_reducible refine below_drewN ?_ _) | (with_reducible refine Below.setCell ?_ ?_ _) | (first | (with_reducible exact Nat.le_refl _) | (with_reducible assumption) | omega | (simp; omega) | (simp; done))))⟩

theorem spec_turn7 (lo up le : Int) (lg hg lp hp : Bool) (w : World) :
    Calls Try.prog 54 #[.agg #[.int .i64 lo, .int .i64 up, .int .i64 le, .bool lg, .bool hg, .bool lp, .bool hp], .int .i64 7] w fun e w' => e = .returned (.tuple #[.agg #[.int .i64 (turnR ⟨lo, up, le, lg, hg, lp, hp⟩ 7).1.lo, .int .i64 (turnR ⟨lo, up, le, lg, hg, lp, hp⟩ 7).1.up, .int .i64 (turnR ⟨lo, up, le, lg, hg, lp, hp⟩ 7).1.le, .bool (turnR ⟨lo, up, le, lg, hg, lp, hp⟩ 7).1.lg, .bool (turnR ⟨lo, up, le, lg, hg, lp, hp⟩ 7).1.hg, .bool (turnR ⟨lo, up, le, lg, hg, lp, hp⟩ 7).1.lp, .bool (turnR ⟨lo, up, le, lg, hg, lp, hp⟩ 7).1.hp], .bool (turnR ⟨lo, up, le, lg, hg, lp, hp⟩ 7).2]) ∧ Below w.heap.size w w' := by
  cases hp
  all_goals
    go_enter Try.func54, Try.ntmps54
    go_wp2
    go_region
    go_wp2
    refine bodyPost_ret (by simp [results, Try.results54, go_sem]; try rfl) rfl ?_
    exact ⟨by simp [turnR, turnF], by (repeat' (first | (with_reducible exact Below.refl _ _) | (with_reducible assumption) | (with_reducible refine Below.alloc ?_ ?_ _) | (with_reducible refine Below.drew ?_) | (with_reducible refine below_drewN ?_ _) | (with_reducible refine Below.setCell ?_ ?_ _) | (first | (with_reducible exact Nat.le_refl _) | (with_reducible assumption) | omega | (simp; omega) | (simp; done))))⟩

theorem spec_turn8 (lo up le : Int) (lg hg lp hp : Bool) (w : World) :
    Calls Try.prog 54 #[.agg #[.int .i64 lo, .int .i64 up, .int .i64 le, .bool lg, .bool hg, .bool lp, .bool hp], .int .i64 8] w fun e w' => e = .returned (.tuple #[.agg #[.int .i64 (turnR ⟨lo, up, le, lg, hg, lp, hp⟩ 8).1.lo, .int .i64 (turnR ⟨lo, up, le, lg, hg, lp, hp⟩ 8).1.up, .int .i64 (turnR ⟨lo, up, le, lg, hg, lp, hp⟩ 8).1.le, .bool (turnR ⟨lo, up, le, lg, hg, lp, hp⟩ 8).1.lg, .bool (turnR ⟨lo, up, le, lg, hg, lp, hp⟩ 8).1.hg, .bool (turnR ⟨lo, up, le, lg, hg, lp, hp⟩ 8).1.lp, .bool (turnR ⟨lo, up, le, lg, hg, lp, hp⟩ 8).1.hp], .bool (turnR ⟨lo, up, le, lg, hg, lp, hp⟩ 8).2]) ∧ Below w.heap.size w w' := by
  cases hp
  all_goals
    go_enter Try.func54, Try.ntmps54
    go_wp2
    go_region
    go_wp2
    refine bodyPost_ret (by simp [results, Try.results54, go_sem]; try rfl) rfl ?_
    exact ⟨by simp [turnR, turnF], by (repeat' (first | (with_reducible exact Below.refl _ _) | (with_reducible assumption) | (with_reducible refine Below.alloc ?_ ?_ _) | (with_reducible refine Below.drew ?_) | (with_reducible refine below_drewN ?_ _) | (with_reducible refine Below.setCell ?_ ?_ _) | (first | (with_reducible exact Nat.le_refl _) | (with_reducible assumption) | omega | (simp; omega) | (simp; done))))⟩

theorem spec_turn (lo up le : Int) (lg hg lp hp : Bool) (c : Int) (hc : 1 ≤ c ∧ c ≤ 8) (w : World) :
    Calls Try.prog 54 #[.agg #[.int .i64 lo, .int .i64 up, .int .i64 le, .bool lg, .bool hg, .bool lp, .bool hp], .int .i64 c] w fun e w' => e = .returned (.tuple #[.agg #[.int .i64 (turnR ⟨lo, up, le, lg, hg, lp, hp⟩ c).1.lo, .int .i64 (turnR ⟨lo, up, le, lg, hg, lp, hp⟩ c).1.up, .int .i64 (turnR ⟨lo, up, le, lg, hg, lp, hp⟩ c).1.le, .bool (turnR ⟨lo, up, le, lg, hg, lp, hp⟩ c).1.lg, .bool (turnR ⟨lo, up, le, lg, hg, lp, hp⟩ c).1.hg, .bool (turnR ⟨lo, up, le, lg, hg, lp, hp⟩ c).1.lp, .bool (turnR ⟨lo, up, le, lg, hg, lp, hp⟩ c).1.hp], .bool (turnR ⟨lo, up, le, lg, hg, lp, hp⟩ c).2]) ∧ Below w.heap.size w w' := by
  have h : c = 1 ∨ c = 2 ∨ c = 3 ∨ c = 4 ∨ c = 5 ∨ c = 6 ∨ c = 7 ∨ c = 8 := by omega
  rcases h with rfl | rfl | rfl | rfl | rfl | rfl | rfl | rfl
  · exact spec_turn1 _ _ _ _ _ _ _ w
  · exact spec_turn2 _ _ _ _ _ _ _ w
  · exact spec_turn3 _ _ _ _ _ _ _ w
  · exact spec_turn4 _ _ _ _ _ _ _ w
  · exact spec_turn5 _ _ _ _ _ _ _ w
  · exact spec_turn6 _ _ _ _ _ _ _ w
  · exact spec_turn7 _ _ _ _ _ _ _ w
  · exact spec_turn8 _ _ _ _ _ _ _ w
end Go.Proofs.Ytadjkldpflidhaa
