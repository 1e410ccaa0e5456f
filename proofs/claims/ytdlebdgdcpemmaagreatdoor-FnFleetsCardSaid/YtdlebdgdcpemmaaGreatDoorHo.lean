/- Texts and their words: plain facts that the vessels' texts use. -/
import Derived.Test.YtdlebdgdcpemmaaGreatDoorHn
namespace Go.Proofs.YtdlebdgdcpemmaaGreatDoor
open Go.RowKit
set_option linter.unusedVariables false
set_option linter.unusedSimpArgs false
theorem num_dig (n : Int) : ∀ c ∈ (numS n).data.toList, isD c ∨ c = 45 := by
  by_cases hn : n < 0
  · obtain ⟨u, rfl⟩ : ∃ u : Nat, n = -(u : Int) := ⟨n.natAbs, by omega⟩
    have e : (numS (-(u : Int))).data.toList = 45 :: Lib.decDigits u := by rw [numS_neg (by omega)]; simp [dN]
    rw [e]
    intro c hc
    rcases List.mem_cons.1 hc with rfl | hc
    · exact .inr rfl
    · exact .inl (isD_dec u c hc)
  · obtain ⟨u, rfl⟩ : ∃ u : Nat, n = (u : Int) := ⟨n.toNat, by omega⟩
    have e : (numS (u : Int)).data.toList = Lib.decDigits u := by rw [numS_nat]; simp [dN]
    rw [e]
    exact fun c hc => .inl (isD_dec u c hc)
theorem num_no {n : Int} {b : UInt8} (h1 : ¬ isD b) (h2 : b ≠ 45) : b ∉ (numS n).data.toList := fun h => by
  rcases num_dig n b h with h | h
  · exact h1 h
  · exact h2 h
theorem num_sz {n : Int} (h : -9999 ≤ n ∧ n ≤ 9999) : (numS n).size ≤ 5 := by
  by_cases hn : n < 0
  · obtain ⟨u, rfl⟩ : ∃ u : Nat, n = -(u : Int) := ⟨n.natAbs, by omega⟩
    have e : (numS (-(u : Int))).data.toList = 45 :: Lib.decDigits u := by rw [numS_neg (by omega)]; simp [dN]
    have h1 := congrArg List.length e
    have h2 := (len_dec 3 u (by omega)).2
    rw [Array.length_toList, List.length_cons] at h1
    show (numS (-(u : Int))).data.size ≤ 5
    omega
  · obtain ⟨u, rfl⟩ : ∃ u : Nat, n = (u : Int) := ⟨n.toNat, by omega⟩
    have e : (numS (u : Int)).data.toList = Lib.decDigits u := by rw [numS_nat]; simp [dN]
    have h1 := congrArg List.length e
    have h2 := (len_dec 3 u (by omega)).2
    rw [Array.length_toList] at h1
    show (numS (u : Int)).data.size ≤ 5
    omega
theorem no_dig {b : UInt8} (h : b.toNat < 45) (n : Int) : b ∉ (numS n).data.toList := num_no (by unfold isD; omega) (by rintro rfl; simp at h)
theorem splitL_le (b : UInt8) : ∀ (l : List UInt8), ∀ x ∈ splitL b l, x.length ≤ l.length
  | [], x, h => by simp [splitL] at h; subst h; exact Nat.le_refl _
  | c :: l, x, h => by
    have ih := splitL_le b l
    unfold splitL at h
    split at h
    · rcases List.mem_cons.1 h with rfl | h
      · simp
      · have := ih x h; simp; omega
    · cases hs : splitL b l with
      | nil => exact absurd hs (splitL_ne b l)
      | cons y t =>
        rw [hs] at h ih
        rcases List.mem_cons.1 h with rfl | h
        · have := ih y (by simp); simp; omega
        · have := ih x (List.mem_cons_of_mem _ h); simp; omega
theorem parts_sz (s : ByteArray) (b : UInt8) : ∀ x ∈ parts s b, x.size ≤ s.size := fun x hx => by
  obtain ⟨l, hl, rfl⟩ := List.mem_map.1 hx
  have := splitL_le b _ l hl
  rw [Array.length_toList] at this
  show (baL l).data.size ≤ s.data.size
  simpa [baL] using this
theorem strs_getD {l : List ByteArray} {i : Nat} (h : i < l.length) : (strs l)[i]? = some [Value.string (l.getD i ⟨#[]⟩)] := by simp [strs, h]
theorem getD_sz {l : List ByteArray} {n : Nat} (h : ∀ x ∈ l, x.size ≤ n) (i : Nat) : (l.getD i ⟨#[]⟩).size ≤ n := by
  by_cases hi : i < l.length
  · have := h l[i] (List.getElem_mem hi); simpa [hi] using this
  · have e : l.getD i ⟨#[]⟩ = ⟨#[]⟩ := by simp [hi]
    rw [e]
    exact Nat.zero_le _
theorem read_num {n : Int} (h : -1000 ≤ n ∧ n ≤ 1000) : readR (numS n) = (n, true) := readR_yes ⟨by omega, by omega, rfl⟩
theorem numA_num {ws : List ByteArray} {i n : Int} (h : ws[i.toNat]? = some (numS n)) (hn : -1000 ≤ n ∧ n ≤ 1000) : numA ws i = some n := by
  unfold numA
  rw [h]
  simp only [read_num hn, if_true]
end Go.Proofs.YtdlebdgdcpemmaaGreatDoor
