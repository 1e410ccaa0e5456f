/- Steps of the lock. -/
import Derived.Test.YtadjkldpflidhaaLkC


namespace Go.Proofs.Ytadjkldpflidhaa
open Go.RowKit

theorem spec_wait (lo up le : Int) (lg hg lp hp : Bool) (w : World) (h : safeB lo up le lg hg lp hp = true) :
    Calls Try.prog 53 #[.agg #[.int .i64 lo, .int .i64 up, .int .i64 le, .bool lg, .bool hg, .bool lp, .bool hp]] w fun e w' => e = .returned (.agg #[.int .i64 (waitF ⟨lo, up, le, lg, hg, lp, hp⟩).lo, .int .i64 (waitF ⟨lo, up, le, lg, hg, lp, hp⟩).up, .int .i64 (waitF ⟨lo, up, le, lg, hg, lp, hp⟩).le, .bool (waitF ⟨lo, up, le, lg, hg, lp, hp⟩).lg, .bool (waitF ⟨lo, up, le, lg, hg, lp, hp⟩).hg, .bool (waitF ⟨lo, up, le, lg, hg, lp, hp⟩).lp, .bool (waitF ⟨lo, up, le, lg, hg, lp, hp⟩).hp]) ∧ Below w.heap.size w w' := by
  obtain ⟨h1, h2, h3, h4⟩ := safe_bd h
  have h5 := safe_p h
  clear h
  cases lp <;> cases hp
  all_goals first | (exact absurd ⟨rfl, rfl⟩ h5) | skip
  all_goals
    clear h5
    go_enter Try.func53, Try.ntmps53
    go_wp2_with (first | (go_at_call 60; refine (spec_most _ _ _).mono ?_; rintro e wq ⟨rfl, rfl⟩; (try dsimp only)) | (go_at_call 64; refine (spec_least _ _ _).mono ?_; rintro e wq ⟨rfl, rfl⟩; (try dsimp only)))
    refine bodyPost_ret (by simp [results, Try.results53, go_sem]; try rfl) rfl ?_
    exact ⟨by simp [waitF] <;> omega, by (repeat' (first | (with_reducible exact Below.refl _ _) | (with_reducible assumption) | (with_reducible refine Below.alloc ?_ ?_ _) | (with_reducible refine Below.drew ?_) | (with_reducible refine below_drewN ?_ _) | (with_reducible refine Below.setCell ?_ ?_ _) | (first | (with_reducible exact Nat.le_refl _) | (with_reducible assumption) | omega | (simp; omega) | (simp; done))))⟩

theorem turn_c {s t : LS} {c : Int} (h : turnF s c = some t) : c = 1 ∨ c = 2 ∨ c = 3 ∨ c = 4 ∨ c = 5 ∨ c = 6 ∨ c = 7 ∨ c = 8 := by
  by_cases h0 : c = 1 ∨ c = 2 ∨ c = 3 ∨ c = 4 ∨ c = 5 ∨ c = 6 ∨ c = 7 ∨ c = 8
  · exact h0
  · rw [turnF, if_neg (by omega), if_neg (by omega), if_neg (by omega), if_neg (by omega), if_neg (by omega), if_neg (by omega), if_neg (by omega), if_neg (by omega)] at h
    cases h

def turnR (s : LS) (c : Int) : LS × Bool := ((turnF s c).getD s, (turnF s c).isSome)

theorem spec_turn1 (lo up le : Int) (lg hg lp hp : Bool) (w : World) :
    Calls Try.prog 54 #[.agg #[.int .i64 lo, .int .i64 up, .int .i64 le, .bool lg, .bool hg, .bool lp, .bool hp], .int .i64 1] w fun e w' => e = .returned (.tuple #[.agg #[.int .i64 (turnR ⟨lo, up, le, lg, hg, lp, hp⟩ 1).1.lo, .int .i64 (turnR ⟨lo, up, le, lg, hg, lp, hp⟩ 1).1.up, .int .i64 (turnR ⟨lo, up, le, lg, hg, lp, hp⟩ 1).1.le, .bool (turnR ⟨lo, up, le, lg, hg, lp, hp⟩ 1).1.lg, .bool (turnR ⟨lo, up, le, lg, hg, lp, hp⟩ 1).1.hg, .bool (turnR ⟨lo, up, le, lg, hg, lp, hp⟩ 1).1.lp, .bool (turnR ⟨lo, up, le, lg, hg, lp, hp⟩ 1).1.hp], .bool (turnR ⟨lo, up, le, lg, hg, lp, hp⟩ 1).2]) ∧ Below w.heap.size w w' := by
  cases lg
  all_goals
    go_enter Try.func54, Try.ntmps54
    go_wp2
    go_region
    go_wp2
    refine bodyPost_ret (by simp [results, Try.results54, go_sem]; try rfl) rfl ?_
    exact ⟨by simp [turnR, turnF], by (repeat' (first | (with_reducible exact Below.refl _ _) | (with_reducible assumption) | (with_reducible refine Below.alloc ?_ ?_ _) | (with_reducible refine Below.drew ?_) | (with_reducible refine below_drewN ?_ _) | (with_reducible refine Below.setCell ?_ ?_ _) | (first | (with_reducible exact Nat.le_refl _) | (with_reducible assumption) | omega | (simp; omega) | (simp; done))))⟩

theorem spec_turn2 (lo up le : Int) (lg hg lp hp : Bool) (w : World) :
    Calls Try.prog 54 #[.agg #[.int .i64 lo, .int .i64 up, .int .i64 le, .bool lg, .bool hg, .bool lp, .bool hp], .int .i64 2] w fun e w' => e = .returned (.tuple #[.agg #[.int .i64 (turnR ⟨lo, up, le, lg, hg, lp, hp⟩ 2).1.lo, .int .i64 (turnR ⟨lo, up, le, lg, hg, lp, hp⟩ 2).1.up, .int .i64 (turnR ⟨lo, up, le, lg, hg, lp, hp⟩ 2).1.le, .bool (turnR ⟨lo, up, le, lg, hg, lp, hp⟩ 2).1.lg, .bool (turnR ⟨lo, up, le, lg, hg, lp, hp⟩ 2).1.hg, .bool (turnR ⟨lo, up, le, lg, hg, lp, hp⟩ 2).1.lp, .bool (turnR ⟨lo, up, le, lg, hg, lp, hp⟩ 2).1.hp], .bool (turnR ⟨lo, up, le, lg, hg, lp, hp⟩ 2).2]) ∧ Below w.heap.size w w' := by
  cases lg
  all_goals
    go_enter Try.func54, Try.ntmps54
    go_wp2
    go_region
    go_wp2
    refine bodyPost_ret (by simp [results, Try.results54, go_sem]; try rfl) rfl ?_
    exact ⟨by simp [turnR, turnF], by (repeat' (first | (with_reducible exact Below.refl _ _) | (with_reducible assumption) | (with_reducible refine Below.alloc ?_ ?_ _) | (with_reducible refine Below.drew ?_) | (with_reducible refine below_drewN ?_ _) | (with_reducible refine Below.setCell ?_ ?_ _) | (first | (with_reducible exact Nat.le_refl _) | (with_reducible assumption) | omega | (simp; omega) | (simp; done))))⟩

theorem spec_turn3 (lo up le : Int) (lg hg lp hp : Bool) (w : World) :
    Calls Try.prog 54 #[.agg #[.int .i64 lo, .int .i64 up, .int .i64 le, .bool lg, .bool hg, .bool lp, .bool hp], .int .i64 3] w fun e w' => e = .returned (.tuple #[.agg #[.int .i64 (turnR ⟨lo, up, le, lg, hg, lp, hp⟩ 3).1.lo, .int .i64 (turnR ⟨lo, up, le, lg, hg, lp, hp⟩ 3).1.up, .int .i64 (turnR ⟨lo, up, le, lg, hg, lp, hp⟩ 3).1.le, .bool (turnR ⟨lo, up, le, lg, hg, lp, hp⟩ 3).1.lg, .bool (turnR ⟨lo, up, le, lg, hg, lp, hp⟩ 3).1.hg, .bool (turnR ⟨lo, up, le, lg, hg, lp, hp⟩ 3).1.lp, .bool (turnR ⟨lo, up, le, lg, hg, lp, hp⟩ 3).1.hp], .bool (turnR ⟨lo, up, le, lg, hg, lp, hp⟩ 3).2]) ∧ Below w.heap.size w w' := by
  cases hg
  all_goals
    go_enter Try.func54, Try.ntmps54
    go_wp2
    go_region
    go_wp2
    refine bodyPost_ret (by simp [results, Try.results54, go_sem]; try rfl) rfl ?_
    exact ⟨by simp [turnR, turnF], by (repeat' (first | (with_reducible exact Below.refl _ _) | (with_reducible assumption) | (with_reducible refine Below.alloc ?_ ?_ _) | (with_reducible refine Below.drew ?_) | (with_reducible refine below_drewN ?_ _) | (with_reducible refine Below.setCell ?_ ?_ _) | (first | (with_reducible exact Nat.le_refl _) | (with_reducible assumption) | omega | (simp; omega) | (simp; done))))⟩

theorem spec_turn4 (lo up le : Int) (lg hg lp hp : Bool) (w : World) :
    Calls Try.prog 54 #[.agg #[.int .i64 lo, .int .i64 up, .int .i64 le, .bool lg, .bool hg, .bool lp, .bool hp], .int .i64 4] w fun e w' => e = .returned (.tuple #[.agg #[.int .i64 (turnR ⟨lo, up, le, lg, hg, lp, hp⟩ 4).1.lo, .int .i64 (turnR ⟨lo, up, le, lg, hg, lp, hp⟩ 4).1.up, .int .i64 (turnR ⟨lo, up, le, lg, hg, lp, hp⟩ 4).1.le, .bool (turnR ⟨lo, up, le, lg, hg, lp, hp⟩ 4).1.lg, .bool (turnR ⟨lo, up, le, lg, hg, lp, hp⟩ 4).1.hg, .bool (turnR ⟨lo, up, le, lg, hg, lp, hp⟩ 4).1.lp, .bool (turnR ⟨lo, up, le, lg, hg, lp, hp⟩ 4).1.hp], .bool (turnR ⟨lo, up, le, lg, hg, lp, hp⟩ 4).2]) ∧ Below w.heap.size w w' := by
  cases hg
  all_goals
    go_enter Try.func54, Try.ntmps54
    go_wp2
    go_region
    go_wp2
    refine bodyPost_ret (by simp [results, Try.results54, go_sem]; try rfl) rfl ?_
    exact ⟨by simp [turnR, turnF], by (repeat' (first | (with_reducible exact Below.refl _ _) | (with_reducible assumption) | (with_reducible refine Below.alloc ?_ ?_ _) | (with_reducible refine Below.drew ?_) | (with_reducible refine below_drewN ?_ _) | (with_reducible refine Below.setCell ?_ ?_ _) | (first | (with_reducible exact Nat.le_refl _) | (with_reducible assumption) | omega | (simp; omega) | (simp; done))))⟩

end Go.Proofs.Ytadjkldpflidhaa
