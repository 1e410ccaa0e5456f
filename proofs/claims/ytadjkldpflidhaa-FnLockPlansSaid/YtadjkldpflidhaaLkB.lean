/- The lock's functions without loops: heads, minutes, new locks, steps. -/
import Derived.Test.YtadjkldpflidhaaLkA


namespace Go.Proofs.Ytadjkldpflidhaa
open Go.RowKit

theorem law_to (lo up le : Int) (lg hg lp hp : Bool) (w : World) :
    Calls Try.prog 14 #[.agg #[.int .i64 lo, .int .i64 up, .int .i64 le, .bool lg, .bool hg, .bool lp, .bool hp]] w fun e w' => e = .returned (.agg #[.int .i64 lo, .int .i64 up, .int .i64 le, .bool lg, .bool hg, .bool lp, .bool hp]) ∧ Below w.heap.size w w' := by
  go_enter Try.func14, Try.ntmps14
  go_wp2
  refine bodyPost_ret (by simp [results, Try.results14, go_sem]; try rfl) rfl ?_
  exact ⟨rfl, by (repeat' (first | (with_reducible exact Below.refl _ _) | (with_reducible assumption) | (with_reducible refine Below.alloc ?_ ?_ _) | (with_reducible refine Below.drew ?_) | (with_reducible refine below_drewN ?_ _) | (with_reducible refine Below.setCell ?_ ?_ _) | (first | (with_reducible exact Nat.le_refl _) | (with_reducible assumption) | omega | (simp; omega) | (simp; done))))⟩

theorem law_eq (lo up le : Int) (lg hg lp hp : Bool) (w : World) :
    Calls Try.prog 20 #[.agg #[.int .i64 lo, .int .i64 up, .int .i64 le, .bool lg, .bool hg, .bool lp, .bool hp], .agg #[.int .i64 lo, .int .i64 up, .int .i64 le, .bool lg, .bool hg, .bool lp, .bool hp]] w fun e w' => e = .returned (.bool true) ∧ Below w.heap.size w w' := by
  have hb : ∀ b : Bool, (b != b) = false := by simp
  go_enter Try.func20, Try.ntmps20
  go_wp2
  go_ret
  exact ⟨rfl, by (repeat' (first | (with_reducible exact Below.refl _ _) | (with_reducible assumption) | (with_reducible refine Below.alloc ?_ ?_ _) | (with_reducible refine Below.drew ?_) | (with_reducible refine below_drewN ?_ _) | (with_reducible refine Below.setCell ?_ ?_ _) | (first | (with_reducible exact Nat.le_refl _) | (with_reducible assumption) | omega | (simp; omega) | (simp; done))))⟩

theorem spec_head (lo up le : Int) (lg hg lp hp : Bool) (high : Bool) (w : World) (h : safeB lo up le lg hg lp hp = true) :
    Calls Try.prog 45 #[.agg #[.int .i64 lo, .int .i64 up, .int .i64 le, .bool lg, .bool hg, .bool lp, .bool hp], .bool high] w fun e w' => e = .returned (.int .i64 (headF lo up le high)) ∧ Below w.heap.size w w' := by
  obtain ⟨h1, h2, h3, h4⟩ := safe_bd h
  clear h
  cases high
  all_goals
    go_enter Try.func45, Try.ntmps45
    go_wp2
    go_ret
    exact ⟨by simp [headF], by (repeat' (first | (with_reducible exact Below.refl _ _) | (with_reducible assumption) | (with_reducible refine Below.alloc ?_ ?_ _) | (with_reducible refine Below.drew ?_) | (with_reducible refine below_drewN ?_ _) | (with_reducible refine Below.setCell ?_ ?_ _) | (first | (with_reducible exact Nat.le_refl _) | (with_reducible assumption) | omega | (simp; omega) | (simp; done))))⟩

theorem impl_head (lo up le : Int) (lg hg lp hp : Bool) (high : Bool) (w : World) (h : safeB lo up le lg hg lp hp = true) :
    Calls Try.prog 46 #[.agg #[.int .i64 lo, .int .i64 up, .int .i64 le, .bool lg, .bool hg, .bool lp, .bool hp], .bool high] w fun e w' => e = .returned (.int .i64 (headF lo up le high)) ∧ Below w.heap.size w w' := by
  obtain ⟨h1, h2, h3, h4⟩ := safe_bd h
  clear h
  cases high
  all_goals
    go_enter Try.func46, Try.ntmps46
    go_wp2
    go_ret
    exact ⟨by simp [headF], by (repeat' (first | (with_reducible exact Below.refl _ _) | (with_reducible assumption) | (with_reducible refine Below.alloc ?_ ?_ _) | (with_reducible refine Below.drew ?_) | (with_reducible refine below_drewN ?_ _) | (with_reducible refine Below.setCell ?_ ?_ _) | (first | (with_reducible exact Nat.le_refl _) | (with_reducible assumption) | omega | (simp; omega) | (simp; done))))⟩

theorem headF_bd {lo up le : Int} {high : Bool} (h : 0 ≤ lo ∧ lo ≤ le ∧ le ≤ up ∧ up ≤ 2000) : 0 ≤ headF lo up le high ∧ headF lo up le high ≤ 2000 := by
  unfold headF; split <;> omega

theorem spec_minutes (lo up le : Int) (lg hg lp hp : Bool) (high : Bool) (w : World) (h : safeB lo up le lg hg lp hp = true) :
    Calls Try.prog 47 #[.agg #[.int .i64 lo, .int .i64 up, .int .i64 le, .bool lg, .bool hg, .bool lp, .bool hp], .bool high] w fun e w' => e = .returned (.int .i64 (minF (headF lo up le high))) ∧ Below w.heap.size w w' := by
  obtain ⟨g1, g2⟩ := headF_bd (high := high) (safe_bd h)
  go_enter Try.func47, Try.ntmps47
  go_wp2_with (first | (go_at_call 45; refine (spec_head lo up le lg hg lp hp high _ h).mono ?_; rintro e w1 ⟨rfl, hb⟩) | (go_at_call 60; refine (spec_most _ _ _).mono ?_; rintro e w2 ⟨rfl, rfl⟩))
  go_ret
  exact ⟨ret_int (by unfold minF; omega), ((Below.refl _ _).alloc (Nat.le_refl _) _).trans (hb.mono (by simp))⟩

theorem impl_minutes (lo up le : Int) (lg hg lp hp : Bool) (high : Bool) (w : World) (h : safeB lo up le lg hg lp hp = true) :
    Calls Try.prog 48 #[.agg #[.int .i64 lo, .int .i64 up, .int .i64 le, .bool lg, .bool hg, .bool lp, .bool hp], .bool high] w fun e w' => e = .returned (.int .i64 (minF (headF lo up le high))) ∧ Below w.heap.size w w' := by
  obtain ⟨g1, g2⟩ := headF_bd (high := high) (safe_bd h)
  go_enter Try.func48, Try.ntmps48
  go_wp2_with (first | (go_at_call 46; refine (impl_head lo up le lg hg lp hp high _ h).mono ?_; rintro e w1 ⟨rfl, hb⟩))
  go_ret
  exact ⟨ret_int (by unfold minF; omega), ((Below.refl _ _).alloc (Nat.le_refl _) _).trans (hb.mono (by simp))⟩
end Go.Proofs.Ytadjkldpflidhaa
