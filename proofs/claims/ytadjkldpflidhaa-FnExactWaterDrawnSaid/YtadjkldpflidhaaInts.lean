/- Slices of integers in the laws: equal, marked, held, copied. -/
import Derived.Test.YtadjkldpflidhaaBase
namespace Go.Proofs.Ytadjkldpflidhaa
open Go.RowKit
set_option maxHeartbeats 400000 in
theorem eqIntS_any (A A' : Option Addr) (n n' c c' : Nat) (xs ys : List Int) (w : World) (hA : RdI w A n xs) (hA' : RdI w A' n' ys) :
    Calls Try.prog 33 #[.slice A n c, .slice A' n' c'] w fun e w' => e = .returned (.bool (decide (xs = ys))) ∧ Below w.heap.size w w' := by
  have h63 := hA.le
  have hx := Lib.hid hA.len
  have hy := Lib.hid hA'.len
  by_cases hn : n = n'
  · subst hn
    go_enter Try.func33, Try.ntmps33
    go_wp2
    go_loopw [5] (fun i wr => ∃ k : Nat, k ≤ n ∧ i = .int .i64 k ∧ xs.take k = ys.take k ∧ Below w.heap.size w wr) (fun i _ => n - (intOf i).toNat)
    case atStart => exact ⟨0, Nat.zero_le _, rfl, by simp, Below.refl _ _⟩
    case round => 
      obtain ⟨k, hk, rfl, ht, hb⟩ := hrel
      have ht := Lib.hid ht
      by_cases hlt : k < n
      · obtain ⟨b, off, x, rfl, e1, c1⟩ := (hA.below hb).at_ hlt
        obtain ⟨b', off', y, rfl, e2, c2⟩ := (hA'.below hb).at_ hlt
        have e1 := Lib.hid e1
        have e2 := Lib.hid e2
        by_cases hxy : x = y
        · subst hxy
          go_wp2
          go_quiet (fail)
          go_wp2
          go_roundw
          case rel => exact ⟨k+1, by omega, by go_num, take_succ_eq e1.out e2.out ht.out rfl, below_drewN hb _⟩
          case measure => simp [intOf]; omega
        · have hxy' : (x == y) = false := by simpa using hxy
          go_wp2
          go_quiet (fail)
          go_wp2
          go_ret
          exact ⟨ret_bool (by symm; rw [decide_eq_false_iff_not]; rintro rfl; have := e1.out; rw [e2.out] at this; simp at this; exact hxy this.symm), below_drewN hb _⟩
      · go_wp2
        go_ret
        exact ⟨ret_bool (by have := ht.out; rw [List.take_of_length_le (by rw [hx.out]; omega), List.take_of_length_le (by rw [hy.out]; omega)] at this; simp [this]), hb⟩
  · go_enter Try.func33, Try.ntmps33
    go_wp2
    go_ret
    exact ⟨ret_bool (by symm; rw [decide_eq_false_iff_not]; rintro rfl; exact hn (hx.out.symm.trans hy.out)), Below.refl _ _⟩
end Go.Proofs.Ytadjkldpflidhaa
