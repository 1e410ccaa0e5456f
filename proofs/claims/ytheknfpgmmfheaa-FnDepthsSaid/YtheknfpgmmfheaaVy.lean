/- The law of depths: what it says, plain. -/
import Derived.Test.YtheknfpgmmfheaaVx
namespace Go.Proofs.Ytheknfpgmmfheaa
open Go.RowKit
set_option linter.unusedVariables false
set_option linter.unusedSimpArgs false
theorem ahead_ge {y x : Vessel_} (h : ahead y x = true) : ar x ≤ ar y := by
  unfold ahead at h
  split at h
  · have := of_decide_eq_true h; omega
  · rename_i hn
    have : ar y = ar x := by omega
    omega
theorem ahead_le {y x : Vessel_} (h : ahead y x = false) : ar y ≤ ar x := by
  unfold ahead at h
  split at h
  · have := of_decide_eq_false h; omega
  · rename_i hn
    have : ar y = ar x := by omega
    omega
theorem posF_spec (p : List Vessel_) (x : Vessel_) : ∀ n, n ≤ p.length → (∀ j, posF p x n ≤ j → j < n → ∃ y, p[j]? = some y ∧ ahead y x = false) ∧ (0 < posF p x n → ∃ y, p[posF p x n - 1]? = some y ∧ ahead y x = true)
  | 0, _ => ⟨fun j _ h => by omega, fun h => by simp [posF] at h⟩
  | n + 1, hn => by
    have e : p[n]? = some p[n] := List.getElem?_eq_getElem (by omega)
    cases ha : ahead p[n] x with
    | true =>
      rw [posF_stop e ha]
      exact ⟨fun j h1 h2 => by omega, fun _ => ⟨p[n], e, ha⟩⟩
    | false =>
      rw [posF_go e ha]
      obtain ⟨h1, h2⟩ := posF_spec p x n (by omega)
      refine ⟨fun j hj hjn => ?_, h2⟩
      rcases Nat.lt_or_ge j n with h | h
      · exact h1 j hj h
      · obtain rfl : j = n := by omega
        exact ⟨p[j], e, ha⟩
def Desc (p : List Vessel_) : Prop := p.Pairwise fun a b => ar b ≤ ar a
theorem insV_desc {p : List Vessel_} (x : Vessel_) (h : Desc p) : Desc (insV p x) := by
  obtain ⟨h1, h2⟩ := posF_spec p x p.length (Nat.le_refl _)
  have hk := posF_le p x p.length
  unfold insV
  generalize posF p x p.length = k at *
  have hp := h
  unfold Desc at hp
  rw [← List.take_append_drop k p, List.pairwise_append] at hp
  obtain ⟨t1, t2, t3⟩ := hp
  have hlow : ∀ z ∈ p.drop k, ar z ≤ ar x := fun z hz => by
    obtain ⟨j, hj, rfl⟩ := List.mem_iff_getElem.1 hz
    have hj' : k + j < p.length := by simp at hj; omega
    obtain ⟨y, hy, hay⟩ := h1 (k + j) (by omega) hj'
    rw [List.getElem?_eq_getElem hj'] at hy
    injection hy with hy
    rw [List.getElem_drop, hy]
    exact ahead_le hay
  have hhigh : ∀ z ∈ p.take k, ar x ≤ ar z := fun z hz => by
    obtain ⟨j, hj, rfl⟩ := List.mem_iff_getElem.1 hz
    have hj' : j < k := by simp at hj; omega
    obtain ⟨y, hy, hay⟩ := h2 (by omega)
    obtain ⟨hk1, e⟩ := List.getElem?_eq_some_iff.1 hy
    have hge := ahead_ge hay
    rw [List.getElem_take]
    rcases Nat.lt_or_ge j (k - 1) with hl | hl
    · have := List.pairwise_iff_getElem.1 h j (k - 1) (by omega) hk1 hl
      rw [e] at this
      omega
    · obtain rfl : j = k - 1 := by omega
      rw [e]; exact hge
  unfold Desc
  rw [List.pairwise_append]
  refine ⟨t1, List.pairwise_cons.2 ⟨hlow, t2⟩, fun a ha b hb => ?_⟩
  rcases List.mem_cons.1 hb with rfl | hb
  · exact hhigh a ha
  · exact t3 a ha b hb
theorem fold_desc : ∀ (l p : List Vessel_), Desc p → Desc (l.foldl insV p)
  | [], _, h => h
  | x :: l, _, h => fold_desc l _ (insV_desc x h)
theorem ordF_desc (l : List Vessel_) : Desc (ordF l) := fold_desc l [] List.Pairwise.nil
/-- The cells of the last vessel so far. -/
def lastF (p : List Vessel_) : Nat → Int
  | 0 => 100
  | i + 1 => match p[i]? with
    | some y => ar y
    | none => 0
theorem lastF_succ {p : List Vessel_} {i : Nat} (h : i < p.length) : lastF p (i + 1) = ar p[i] := by simp [lastF, h]
theorem lastF_ge {p : List Vessel_} (h : Desc p) (hb : ∀ x ∈ p, ar x ≤ 24) {i : Nat} (hi : i < p.length) : ar p[i] ≤ lastF p i := by
  cases i with
  | zero => have := hb _ (List.getElem_mem hi); simp only [lastF]; omega
  | succ i =>
    rw [lastF_succ (by omega)]
    exact List.pairwise_iff_getElem.1 h i (i + 1) (by omega) hi (by omega)
theorem filter_mono {q : Vessel_ → Bool} : ∀ (l l' : List Vessel_), l.length = l'.length → (∀ j (h : j < l.length) (h' : j < l'.length), l'[j].id = l[j].id ∧ (q l[j] = true → q l'[j] = true)) → List.Sublist ((l.filter q).map Vessel_.id) ((l'.filter q).map Vessel_.id)
  | [], _, _, _ => List.nil_sublist _
  | _ :: _, [], h, _ => by simp at h
  | x :: l, y :: l', hl, h => by
    have ih := filter_mono l l' (by simpa using hl) fun j h1 h2 => h (j + 1) (by simpa using h1) (by simpa using h2)
    have h0 := h 0 (by simp) (by simp)
    simp only [List.getElem_cons_zero] at h0
    cases hx : q x with
    | true =>
      rw [List.filter_cons_of_pos hx, List.filter_cons_of_pos (h0.2 hx), List.map_cons, List.map_cons, h0.1]
      exact ih.cons_cons _
    | false =>
      rw [List.filter_cons_of_neg (by simp [hx])]
      cases hy : q y with
      | true => rw [List.filter_cons_of_pos hy, List.map_cons]; exact ih.cons _
      | false => rw [List.filter_cons_of_neg (by simp [hy])]; exact ih
theorem pass_mono (l : List Vessel_) (i : Nat) (hi : i < l.length) (b d k : Int) (hb : 1 ≤ b) : List.Sublist (passL l d k l.length) (passL (l.set i (lightV l[i] b)) d k (l.set i (lightV l[i] b)).length) := by
  unfold passL
  rw [List.take_length, List.take_length]
  refine filter_mono _ _ (by simp) fun j h1 h2 => ?_
  rw [List.getElem_set]
  split
  · rename_i e
    subst e
    refine ⟨rfl, fun h => ?_⟩
    have := of_decide_eq_true h
    apply decide_eq_true
    simp only [lightV]; omega
  · exact ⟨rfl, id⟩
end Go.Proofs.Ytheknfpgmmfheaa
