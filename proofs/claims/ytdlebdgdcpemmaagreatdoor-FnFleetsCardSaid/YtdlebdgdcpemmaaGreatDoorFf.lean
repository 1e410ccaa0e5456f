/- Texts read as numbers: digits and their value, plain. -/
import Derived.Test.YtdlebdgdcpemmaaGreatDoorFa
namespace Go.Proofs.YtdlebdgdcpemmaaGreatDoor
open Go.RowKit
set_option linter.unusedVariables false
set_option linter.unusedSimpArgs false
def isD (c : UInt8) : Prop := 48 ≤ c.toNat ∧ c.toNat ≤ 57
instance (c : UInt8) : Decidable (isD c) := by unfold isD; infer_instance
def valD (l : List UInt8) : Nat := l.foldl (fun n c => 10 * n + (c.toNat - 48)) 0
theorem valD_snoc (l : List UInt8) (c : UInt8) : valD (l ++ [c]) = 10 * valD l + (c.toNat - 48) := by simp [valD, List.foldl_append]
theorem dig_toNat {d : Nat} (h : d < 10) : (UInt8.ofNat (48 + d)).toNat = 48 + d := by
  have e : ∀ i : Fin 10, (UInt8.ofNat (48 + i.1)).toNat = 48 + i.1 := by decide
  exact e ⟨d, h⟩
theorem valD_dec (u : Nat) : valD (Lib.decDigits u) = u := by
  induction u using Nat.strongRecOn with
  | _ u ih =>
    rw [Lib.decDigits]
    split
    · rename_i h
      show 10 * 0 + ((UInt8.ofNat (48 + u)).toNat - 48) = u
      rw [dig_toNat h]; omega
    · rw [valD_snoc, ih (u / 10) (by omega), dig_toNat (Nat.mod_lt _ (by decide))]; omega
theorem isD_dec (u : Nat) : ∀ c ∈ Lib.decDigits u, isD c := by
  induction u using Nat.strongRecOn with
  | _ u ih =>
    rw [Lib.decDigits]
    split
    · rename_i h
      intro c hc
      simp only [List.mem_singleton] at hc
      subst hc
      unfold isD
      rw [dig_toNat h]; omega
    · intro c hc
      simp only [List.mem_append, List.mem_singleton] at hc
      rcases hc with hc | rfl
      · exact ih (u / 10) (by omega) c hc
      · have := Nat.mod_lt u (show 0 < 10 by decide)
        unfold isD
        rw [dig_toNat this]; omega
theorem len_dec (k : Nat) : ∀ u, u < 10 ^ (k + 1) → 1 ≤ (Lib.decDigits u).length ∧ (Lib.decDigits u).length ≤ k + 1 := by
  induction k with
  | zero => intro u h; rw [Lib.decDigits, dif_pos (by simpa using h)]; simp
  | succ k ih =>
    intro u h
    rw [Lib.decDigits]
    split
    · simp
    · have := ih (u / 10) (by rw [Nat.pow_succ] at h; omega)
      simp; omega
theorem fold_lt : ∀ (l : List UInt8) (a : Nat), (∀ c ∈ l, isD c) → l.foldl (fun n c => 10 * n + (c.toNat - 48)) a + 1 ≤ (a + 1) * 10 ^ l.length
  | [], a, _ => by simp
  | c :: l, a, h => by
    have h2 := h c (by simp)
    unfold isD at h2
    have h1 := fold_lt l (10 * a + (c.toNat - 48)) fun x hx => h x (List.mem_cons_of_mem _ hx)
    rw [List.foldl_cons, List.length_cons, Nat.pow_succ, Nat.mul_comm (10 ^ l.length) 10, ← Nat.mul_assoc]
    exact Nat.le_trans h1 (Nat.mul_le_mul_right _ (by omega))
theorem valD_lt (l : List UInt8) (h : ∀ c ∈ l, isD c) : valD l < 10 ^ l.length := by
  have := fold_lt l 0 h
  unfold valD
  omega
/-- The part of a text behind a leading sign. -/
def bodyT (s : ByteArray) : ByteArray := if 1 < s.size ∧ s[0]? = some 45 then s.extract 1 s.size else s
def numT (s : ByteArray) : Int := if (bodyT s).size < s.size then -(valD (bodyT s).data.toList : Int) else valD (bodyT s).data.toList
def okT (s : ByteArray) : Prop := 1 ≤ (bodyT s).size ∧ (bodyT s).size ≤ 6 ∧ (∀ c ∈ (bodyT s).data.toList, isD c)
/-- What both sides answer: the number whose text it is. -/
def isNum (s : ByteArray) (n : Int) : Prop := -999999 ≤ n ∧ n ≤ 999999 ∧ numS n = s
theorem numT_bd {s : ByteArray} (h : okT s) : -999999 ≤ numT s ∧ numT s ≤ 999999 := by
  have h1 := valD_lt _ h.2.2
  have h2 : 10 ^ (bodyT s).data.toList.length ≤ 10 ^ 6 := Nat.pow_le_pow_right (by decide) (by rw [Array.length_toList]; exact h.2.1)
  have h3 : valD (bodyT s).data.toList ≤ 999999 := by have : (10 : Nat) ^ 6 = 1000000 := rfl; omega
  unfold numT
  split <;> omega
theorem isNum_read {s : ByteArray} {n : Int} (h : isNum s n) : okT s ∧ numT s = n := by
  obtain ⟨h1, h2, rfl⟩ := h
  by_cases hn : n < 0
  · obtain ⟨u, rfl⟩ : ∃ u : Nat, n = -(u : Int) := ⟨n.natAbs, by omega⟩
    have hl := len_dec 5 u (by omega)
    have e : (numS (-(u : Int))).data.toList = 45 :: Lib.decDigits u := by rw [numS_neg (by omega)]; simp [dN]
    have hs : (numS (-(u : Int))).size = (Lib.decDigits u).length + 1 := by
      have := congrArg List.length e
      rw [Array.length_toList, List.length_cons] at this
      exact this
    have h0 : (numS (-(u : Int)))[0]? = some 45 := by
      rw [getElem?_pos _ 0 (by omega)]
      have : (numS (-(u : Int))).data.toList[0]? = some 45 := by rw [e]; rfl
      rw [List.getElem?_eq_getElem (by rw [e]; simp)] at this
      exact this
    have hb : bodyT (numS (-(u : Int))) = dN u := by
      rw [bodyT, if_pos ⟨by omega, h0⟩]
      apply ByteArray.ext
      apply Array.toList_inj.1
      have : ((numS (-(u : Int))).extract 1 (numS (-(u : Int))).size).data.toList = ((numS (-(u : Int))).data.toList.drop 1).take ((numS (-(u : Int))).size - 1) := by simp
      rw [this, e, hs]
      simp [dN]
    have hbs : (bodyT (numS (-(u : Int)))).size = (Lib.decDigits u).length := by rw [hb]; simp [dN, ByteArray.size]
    have hbl : (bodyT (numS (-(u : Int)))).data.toList = Lib.decDigits u := by rw [hb]; simp [dN]
    refine ⟨⟨by omega, by omega, by rw [hbl]; exact isD_dec u⟩, ?_⟩
    rw [numT, if_pos (by omega), hbl, valD_dec]
  · obtain ⟨u, rfl⟩ : ∃ u : Nat, n = (u : Int) := ⟨n.toNat, by omega⟩
    have hl := len_dec 5 u (by omega)
    have e : (numS (u : Int)).data.toList = Lib.decDigits u := by rw [numS_nat]; simp [dN]
    have hs : (numS (u : Int)).size = (Lib.decDigits u).length := by
      have := congrArg List.length e
      rw [Array.length_toList] at this
      exact this
    have h0 : (numS (u : Int))[0]? ≠ some 45 := by
      intro h0
      rw [getElem?_pos _ 0 (by omega)] at h0
      have hm : (45 : UInt8) ∈ (numS (u : Int)).data.toList := by
        injection h0 with h0
        rw [← h0]
        exact List.getElem_mem (l := (numS (u : Int)).data.toList) (by rw [Array.length_toList]; show 0 < (numS (u : Int)).size; omega)
      rw [e] at hm
      have := isD_dec u _ hm
      unfold isD at this
      simp at this
    have hb : bodyT (numS (u : Int)) = numS (u : Int) := by rw [bodyT, if_neg fun k => h0 k.2]
    refine ⟨⟨by rw [hb]; omega, by rw [hb]; omega, by rw [hb, e]; exact isD_dec u⟩, ?_⟩
    rw [numT, hb, if_neg (Nat.lt_irrefl _), e, valD_dec]
end Go.Proofs.YtdlebdgdcpemmaaGreatDoor
