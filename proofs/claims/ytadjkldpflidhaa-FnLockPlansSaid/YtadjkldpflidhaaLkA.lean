/- The small functions of the lock: what each returns; memory that was there is as it was. -/
import Derived.Test.YtadjkldpflidhaaBase
import Derived.Test.YtadjkldpflidhaaLkPlain

namespace Go.Proofs.Ytadjkldpflidhaa
open Go.RowKit

theorem impl_inside (n lo hi : Int) (w : World) :
    Calls Try.prog 44 #[.int .i64 n, .int .i64 lo, .int .i64 hi] w fun e w' => e = .returned (.bool (inB n lo hi)) ∧ w = w' := by
  go_enter Try.func44, Try.ntmps44
  go_wp2
  all_goals (go_ret; exact ⟨ret_bool (by simp [inB, *]; try omega), rfl⟩)

theorem spec_in (n lo hi : Int) (w : World) :
    Calls Try.prog 52 #[.int .i64 n, .int .i64 lo, .int .i64 hi] w fun e w' => e = .returned (.bool (inB n lo hi)) ∧ w = w' := by
  go_enter Try.func52, Try.ntmps52
  go_wp2
  all_goals (go_ret; exact ⟨ret_bool (by simp [inB, *]; try omega), rfl⟩)

theorem spec_most (a b : Int) (w : World) :
    Calls Try.prog 60 #[.int .i64 a, .int .i64 b] w fun e w' => e = .returned (.int .i64 (max a b)) ∧ w = w' := by
  go_enter Try.func60, Try.ntmps60
  go_wp2
  all_goals (go_ret; exact ⟨ret_int (by omega), rfl⟩)

theorem spec_least (a b : Int) (w : World) :
    Calls Try.prog 64 #[.int .i64 a, .int .i64 b] w fun e w' => e = .returned (.int .i64 (min a b)) ∧ w = w' := by
  go_enter Try.func64, Try.ntmps64
  go_wp2
  all_goals (go_ret; exact ⟨ret_int (by omega), rfl⟩)

set_option maxHeartbeats 400000 in
theorem spec_good (lo up le : Int) (lg hg lp hp : Bool) (w : World) :
    Calls Try.prog 43 #[.agg #[.int .i64 lo, .int .i64 up, .int .i64 le, .bool lg, .bool hg, .bool lp, .bool hp]] w fun e w' => e = .returned (.bool (safeB lo up le lg hg lp hp)) ∧ Below w.heap.size w w' := by
  go_enter Try.func43, Try.ntmps43
  go_wp2
  all_goals (go_ret; exact ⟨ret_bool (by rw [Bool.eq_iff_iff]; simp [safeB, *]; try omega), by (repeat' (first | (with_reducible exact Below.refl _ _) | (with_reducible assumption) | (with_reducible refine Below.alloc ?_ ?_ _) | (with_reducible refine Below.drew ?_) | (with_reducible refine below_drewN ?_ _) | (with_reducible refine Below.setCell ?_ ?_ _) | (first | (with_reducible exact Nat.le_refl _) | (with_reducible assumption) | omega | (simp; omega) | (simp; done))))⟩)

theorem spec_IsSafeLock (lo up le : Int) (lg hg lp hp : Bool) (w : World) :
    Calls Try.prog 13 #[.agg #[.int .i64 lo, .int .i64 up, .int .i64 le, .bool lg, .bool hg, .bool lp, .bool hp]] w fun e w' => e = .returned (.bool (safeB lo up le lg hg lp hp)) ∧ Below w.heap.size w w' := by
  go_enter Try.func13, Try.ntmps13
  go_wp2_with (go_at_call 43; refine (spec_good lo up le lg hg lp hp _).mono ?_; rintro e w1 ⟨rfl, hb⟩)
  go_ret
  exact ⟨rfl, ((Below.refl _ _).alloc (Nat.le_refl _) _).trans (hb.mono (by simp))⟩

set_option maxHeartbeats 800000 in
theorem impl_IsSafeLock (lo up le : Int) (lg hg lp hp : Bool) (w : World) :
    Calls Try.prog 15 #[.agg #[.int .i64 lo, .int .i64 up, .int .i64 le, .bool lg, .bool hg, .bool lp, .bool hp]] w fun e w' => e = .returned (.bool (safeB lo up le lg hg lp hp)) ∧ Below w.heap.size w w' := by
  by_cases hin : inB le lo up = true
  · obtain ⟨h1, h2⟩ := inB_true hin
    go_enter Try.func15, Try.ntmps15
    go_wp2_with (go_at_call 44; refine (impl_inside _ _ _ _).mono ?_; rintro e w1 ⟨rfl, rfl⟩)
    all_goals (go_ret; exact ⟨ret_bool (by rw [Bool.eq_iff_iff]; simp [safeB, *]; try omega), by (repeat' (first | (with_reducible exact Below.refl _ _) | (with_reducible assumption) | (with_reducible refine Below.alloc ?_ ?_ _) | (with_reducible refine Below.drew ?_) | (with_reducible refine below_drewN ?_ _) | (with_reducible refine Below.setCell ?_ ?_ _) | (first | (with_reducible exact Nat.le_refl _) | (with_reducible assumption) | omega | (simp; omega) | (simp; done))))⟩)
  · have hf : inB le lo up = false := by simpa using hin
    have h3 := Lib.hid (inB_false hf)
    clear hin
    go_enter Try.func15, Try.ntmps15
    go_wp2_with (go_at_call 44; refine (impl_inside _ _ _ _).mono ?_; rintro e w1 ⟨rfl, rfl⟩)
    all_goals (go_ret; have h3 := h3.out; exact ⟨ret_bool (by simp [safeB]; omega), by (repeat' (first | (with_reducible exact Below.refl _ _) | (with_reducible assumption) | (with_reducible refine Below.alloc ?_ ?_ _) | (with_reducible refine Below.drew ?_) | (with_reducible refine below_drewN ?_ _) | (with_reducible refine Below.setCell ?_ ?_ _) | (first | (with_reducible exact Nat.le_refl _) | (with_reducible assumption) | omega | (simp; omega) | (simp; done))))⟩)
end Go.Proofs.Ytadjkldpflidhaa
