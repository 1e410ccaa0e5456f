/- Texts with their sums: what comes back, and that a changed byte is seen. Plain. -/
import Derived.Test.YtahkhinmncemdaaDoorFe
import Derived.Test.YtahkhinmncemdaaDoorFf
namespace Go.Proofs.YtahkhinmncemdaaDoor
open Go.RowKit
set_option linter.unusedVariables false
set_option linter.unusedSimpArgs false
theorem step_inj {a b : Int} {c : Nat} (ha : 0 ≤ a ∧ a < 999979) (hb : 0 ≤ b ∧ b < 999979) (h : (41 * a + c + 1) % 999979 = (41 * b + c + 1) % 999979) : a = b := by omega
theorem step_dif {a : Int} {c d : Nat} (hc : c < 256) (hd : d < 256) (h : (41 * a + c + 1) % 999979 = (41 * a + d + 1) % 999979) : c = d := by omega
theorem fold_inj : ∀ (l : List UInt8) (a b : Int), 0 ≤ a ∧ a < 999979 → 0 ≤ b ∧ b < 999979 → l.foldl (fun (h : Int) (c : UInt8) => (41 * h + c.toNat + 1) % 999979) a = l.foldl (fun (h : Int) (c : UInt8) => (41 * h + c.toNat + 1) % 999979) b → a = b
  | [], _, _, _, _, h => h
  | c :: l, a, b, ha, hb, h => step_inj ha hb (fold_inj l _ _ (by omega) (by omega) h)
theorem fold_dif {p : List UInt8} {c d : UInt8} {l : List UInt8} (h : sumF (p ++ c :: l) = sumF (p ++ d :: l)) : c = d := by
  unfold sumF at h
  rw [List.foldl_append, List.foldl_append, List.foldl_cons, List.foldl_cons] at h
  have := fold_inj l _ _ (by omega) (by omega) h
  exact UInt8.toNat_inj.1 (step_dif c.toNat_lt d.toNat_lt this)
theorem sum_set {l : List UInt8} {k : Nat} {d : UInt8} (hk : k < l.length) (h : sumF (l.set k d) = sumF l) : l[k]? = some d := by
  have e : l = l.take k ++ l[k] :: l.drop (k + 1) := by simp
  have e2 : l.set k d = l.take k ++ d :: l.drop (k + 1) := by rw [List.set_eq_take_append_cons_drop, if_pos hk]
  rw [e2] at h
  conv at h => rhs; rw [e]
  have := fold_dif h
  rw [List.getElem?_eq_getElem hk, this]
theorem one_hash {x n : List UInt8} {i : Nat} (hx : (35 : UInt8) ∉ x) (hn : (35 : UInt8) ∉ n) (h : (x ++ 35 :: n)[i]? = some 35) : i = x.length := by
  rcases Nat.lt_trichotomy i x.length with hi | hi | hi
  · rw [List.getElem?_append_left hi] at h
    exact absurd (List.mem_of_getElem? h) hx
  · exact hi
  · rw [List.getElem?_append_right (by omega)] at h
    obtain ⟨j, hj⟩ : ∃ j, i - x.length = j + 1 := ⟨i - x.length - 1, by omega⟩
    rw [hj, List.getElem?_cons_succ] at h
    exact absurd (List.mem_of_getElem? h) hn
theorem at_hash (x n : List UInt8) : (x ++ 35 :: n)[x.length]? = some (35 : UInt8) := by simp
theorem app_inj {a b c d : List UInt8} (h : a ++ 35 :: b = c ++ 35 :: d) (hl : a.length = c.length) : a = c ∧ b = d := by
  obtain ⟨h1, h2⟩ := List.append_inj h hl
  exact ⟨h1, by simpa using h2⟩
theorem hash_num {a : Int} (h0 : 0 ≤ a) : (35 : UInt8) ∉ Lib.itoa a := by
  have e := numS_nat a.toNat
  rw [show ((a.toNat : Nat) : Int) = a by omega] at e
  have e2 : Lib.itoa a = Lib.decDigits a.toNat := by
    have := congrArg (fun s : ByteArray => s.data.toList) e
    simpa [numS, dN] using this
  rw [e2]
  intro h
  have := isD_dec _ _ h
  unfold isD at this
  simp at this
theorem num_inj {a b : Int} (ha : 0 ≤ a ∧ a < 999979) (hb : 0 ≤ b ∧ b < 999979) (h : Lib.itoa a = Lib.itoa b) : a = b := by
  have h1 : isNum (numS a) a := ⟨by omega, by omega, rfl⟩
  have h2 : isNum (numS a) b := ⟨by omega, by omega, by rw [numS, numS, h]⟩
  exact (isNum_read h1).2.symm.trans (isNum_read h2).2
/-- A sealed list with one byte changed is not sealed. -/
theorem no_flip {x t : List UInt8} (hx : (35 : UInt8) ∉ x) (ht : (35 : UInt8) ∉ t) {k : Nat} {c : UInt8} (hc : (x ++ 35 :: Lib.itoa (sumF x))[k]? ≠ some c) (hk : k < (x ++ 35 :: Lib.itoa (sumF x)).length)
    (h : t ++ 35 :: Lib.itoa (sumF t) = (x ++ 35 :: Lib.itoa (sumF x)).set k c) : False := by
  have nx := hash_num (sumF_bd x).1
  have nt := hash_num (sumF_bd t).1
  by_cases hl : t.length = x.length
  · rcases Nat.lt_trichotomy k x.length with hi | hi | hi
    · rw [List.set_append_left _ _ hi] at h
      obtain ⟨h1, h2⟩ := app_inj h (by rw [hl, List.length_set])
      have h3 := num_inj (sumF_bd t) (sumF_bd x) h2
      rw [h1] at h3
      refine hc ?_
      rw [List.getElem?_append_left hi]
      exact sum_set hi h3
    · have h1 := at_hash t (Lib.itoa (sumF t))
      rw [h, hl, ← hi, List.getElem?_set_self hk] at h1
      rw [hi, at_hash] at hc
      exact hc h1.symm
    · have h1 : t = x := by
        have e := congrArg (List.take x.length) h
        rw [List.take_append_of_le_length (by omega), List.take_of_length_le (by omega)] at e
        rw [List.set_append_right _ _ (by omega), List.take_append_of_le_length (by omega), List.take_of_length_le (by omega)] at e
        exact e
      rw [h1] at h
      refine hc ?_
      rw [h, List.getElem?_set_self hk]
  · have h1 := at_hash t (Lib.itoa (sumF t))
    rw [h] at h1
    have hkt : k = t.length := by
      apply Classical.byContradiction
      intro hn
      rw [List.getElem?_set_ne hn] at h1
      exact hl (one_hash hx nx h1)
    have h2 := at_hash x (Lib.itoa (sumF x))
    rw [← List.getElem?_set_ne (i := k) (a := c) (by omega), ← h] at h2
    exact hl (one_hash ht nt h2).symm
theorem seal_list (x : ByteArray) : (sealS x).data.toList = x.data.toList ++ 35 :: Lib.itoa (sumF x.data.toList) := by
  rw [sealS, ByteArray.toList_eq]
  simp [numS]
theorem no_hash {x : ByteArray} (h : hasB x 35 = false) : (35 : UInt8) ∉ x.data.toList := by
  unfold hasB at h
  exact of_decide_eq_false h
theorem cut_seal {x : ByteArray} (h : hasB x 35 = false) : cutT (sealS x) = x := by
  have hm : (sealS x).data.toList[x.data.toList.length]? = some 35 := by rw [seal_list]; exact at_hash _ _
  rcases pos_cases (sealS x) with ⟨h1, h2, h3⟩ | ⟨i, h1, h2, h3, h4, h5⟩
  · exact absurd (List.mem_of_getElem? hm) (no_hash h3)
  · rw [ba_at, seal_list] at h4
    have hi := one_hash (no_hash h) (hash_num (sumF_bd _).1) h4
    rw [h3]
    apply ByteArray.ext
    apply Array.toList_inj.1
    have e : ((sealS x).extract 0 i).data.toList = (sealS x).data.toList.take i := by simp
    rw [e, seal_list, hi, List.take_append_of_le_length (Nat.le_refl _), List.take_of_length_le (Nat.le_refl _)]
theorem ver_seal {x : ByteArray} (h : hasB x 35 = false) (hs : (sealS x).size ≤ 4000) : verR (sealS x) = (x, true) := by
  rw [verR, cut_seal h, if_pos ⟨hs, rfl⟩]
theorem ver_flip {x : ByteArray} (h : hasB x 35 = false) {k : Nat} {c : UInt8} (hk : k < (sealS x).data.toList.length) (hc : (sealS x).data.toList[k]? ≠ some c) : verR ⟨((sealS x).data.toList.set k c).toArray⟩ = (⟨#[]⟩, false) := by
  refine if_neg fun q => ?_
  have e := congrArg (fun s : ByteArray => s.data.toList) q.2
  have ht := no_hash (cutT_has ⟨((sealS x).data.toList.set k c).toArray⟩)
  simp only [seal_list, List.toList_toArray] at e
  rw [seal_list] at hc hk
  rw [seal_list] at ht
  exact no_flip (no_hash h) ht hc hk e
end Go.Proofs.YtahkhinmncemdaaDoor
