/- ParseInt: strconv.Atoi on the texts of numbers, plain. -/
import Derived.Test.YtdlebdgdcpemmaaGreatDoorFf
import Derived.Lib.AtoiAll
namespace Go.Proofs.YtdlebdgdcpemmaaGreatDoor
open Go.RowKit
set_option linter.unusedVariables false
set_option linter.unusedSimpArgs false
theorem parse_digits : ∀ (l : List UInt8) (a : Nat), (∀ c ∈ l, isD c) → (a + 1) * 10 ^ l.length ≤ 10 ^ 15 → Lib.parseUint10 a l = .ok (l.foldl (fun n c => 10 * n + (c.toNat - 48)) a)
  | [], a, _, _ => rfl
  | c :: l, a, h, hb => by
    have h2 := h c (by simp)
    unfold isD at h2
    rw [List.length_cons, Nat.pow_succ, Nat.mul_comm (10 ^ l.length) 10, ← Nat.mul_assoc] at hb
    have h1 := parse_digits l (a * 10 + (c.toNat - 48)) (fun x hx => h x (List.mem_cons_of_mem _ hx)) (Nat.le_trans (Nat.mul_le_mul_right _ (by omega)) hb)
    have hp : 0 < 10 ^ l.length := Nat.lt_of_lt_of_le (by decide : 0 < 10 ^ 0) (Nat.pow_le_pow_right (by decide) (Nat.zero_le _))
    have hb2 : (a + 1) * 10 ≤ 10 ^ 15 := Nat.le_trans (Nat.le_mul_of_pos_right _ hp) hb
    have e15 : (10 : Nat) ^ 15 = 1000000000000000 := rfl
    rw [e15] at hb2
    rw [Lib.parseUint10, if_pos h2, if_neg (by omega), if_neg (by omega), h1, List.foldl_cons, Nat.mul_comm a 10]
theorem parse_dec {u : Nat} (h : u ≤ 999999) : Lib.parseMag (Lib.decDigits u) = .ok u := by
  have hl := len_dec 5 u (by omega)
  rw [Lib.parseMag, if_neg (by intro e; rw [e] at hl; simp at hl), parse_digits _ _ (isD_dec u)]
  · have := valD_dec u
    unfold valD at this
    rw [this]
  · have : 10 ^ (Lib.decDigits u).length ≤ 10 ^ 6 := Nat.pow_le_pow_right (by decide) hl.2
    have e6 : (10 : Nat) ^ 6 = 1000000 := rfl
    have e15 : (10 : Nat) ^ 15 = 1000000000000000 := rfl
    omega
theorem atoi_num {s : ByteArray} {n : Int} (h : isNum s n) : Lib.atoiAll s.data.toList = .ok n := by
  obtain ⟨h1, h2, rfl⟩ := h
  by_cases hn : n < 0
  · obtain ⟨u, rfl⟩ : ∃ u : Nat, n = -(u : Int) := ⟨n.natAbs, by omega⟩
    have e : (numS (-(u : Int))).data.toList = 45 :: Lib.decDigits u := by rw [numS_neg (by omega)]; simp [dN]
    rw [e, Lib.atoiAll]
    have e45 : (45 : UInt8).toNat = 45 := rfl
    simp only [e45, or_true, if_true, parse_dec (show u ≤ 999999 by omega)]
    rw [if_neg (by simp), if_neg (by omega)]
  · obtain ⟨u, rfl⟩ : ∃ u : Nat, n = (u : Int) := ⟨n.toNat, by omega⟩
    have e : (numS (u : Int)).data.toList = Lib.decDigits u := by rw [numS_nat]; simp [dN]
    have hp := parse_dec (show u ≤ 999999 by omega)
    have hd := isD_dec u
    rw [e]
    cases hl : Lib.decDigits u with
    | nil => rw [hl] at hp; simp [Lib.parseMag] at hp
    | cons c r =>
      rw [hl] at hp hd
      have hc := hd c (by simp)
      unfold isD at hc
      rw [Lib.atoiAll]
      simp only [show ¬ c.toNat = 45 by omega, show ¬ c.toNat = 43 by omega, or_self, if_false, hp]
      rw [if_neg (by omega), if_neg (by simp)]
end Go.Proofs.YtdlebdgdcpemmaaGreatDoor
