/- AddVessel: where the vessel goes, plain. -/
import Derived.Test.YtdlebdgdcpemmaaGreatDoorQe
import Derived.Test.YtdlebdgdcpemmaaGreatDoorEW
namespace Go.Proofs.YtdlebdgdcpemmaaGreatDoor
open Go.RowKit
set_option linter.unusedVariables false
set_option linter.unusedSimpArgs false
theorem okE_take {xs : List (List Value)} (h : okE xs) (n : Nat) : okE (xs.take n) := fun y hy => h y (List.mem_of_mem_take hy)
theorem okE_drop {xs : List (List Value)} (h : okE xs) (n : Nat) : okE (xs.drop n) := fun y hy => h y (List.mem_of_mem_drop hy)
theorem vss_ok (l : List Vessel_) : okE (vss l) := by
  intro y hy v hv
  obtain ⟨x, _, rfl⟩ := List.mem_map.1 hy
  simp [Vessel_.cells] at hv
  rcases hv with hv | hv | hv | hv | hv | hv <;> subst hv <;> rfl
/-- Where v goes. -/
def addK (l : List Vessel_) (v : Vessel_) : Nat := (l.takeWhile fun x => decide (x.id < v.id)).length
theorem addK_is {l : List Vessel_} {v : Vessel_} {k : Nat} (h1 : ∀ j (hj : j < l.length), j < k → l[j].id < v.id) (h2 : ∀ hk : k < l.length, ¬ l[k].id < v.id) (h3 : k ≤ l.length) : addK l v = k := by
  unfold addK
  have e : l.takeWhile (fun x => decide (x.id < v.id)) = l.take k := by
    conv => lhs; rw [← List.take_append_drop k l]
    rw [List.takeWhile_append_of_pos]
    · have hd : (l.drop k).takeWhile (fun x => decide (x.id < v.id)) = [] := by
        by_cases hk : k < l.length
        · rw [List.drop_eq_getElem_cons hk, List.takeWhile_cons]
          simp [h2 hk]
        · rw [List.drop_eq_nil_of_le (by omega)]; rfl
      rw [hd, List.append_nil]
    · intro x hx
      obtain ⟨j, hj, rfl⟩ := List.mem_iff_getElem.1 hx
      rw [List.getElem_take]
      have hj' : j < k ∧ j < l.length := by simp at hj; omega
      exact decide_eq_true (h1 j hj'.2 hj'.1)
  rw [e]; simp; omega
theorem addK_le (l : List Vessel_) (v : Vessel_) : addK l v ≤ l.length := (List.takeWhile_sublist _).length_le
def addV (l : List Vessel_) (v : Vessel_) : List Vessel_ := l.take (addK l v) ++ v :: l.drop (addK l v)
theorem addV_len (l : List Vessel_) (v : Vessel_) : (addV l v).length = l.length + 1 := by
  have := addK_le l v
  simp [addV]; omega
theorem addV_mem {l : List Vessel_} {v y : Vessel_} (h : y ∈ addV l v) : y = v ∨ y ∈ l := by
  unfold addV at h
  simp only [List.mem_append, List.mem_cons] at h
  rcases h with h | h | h
  · exact .inr (List.mem_of_mem_take h)
  · exact .inl h
  · exact .inr (List.mem_of_mem_drop h)
def addR (l : List Vessel_) (v : Vessel_) : List Vessel_ × Bool := if fleetF l && fleetF (addV l v) then (addV l v, true) else ([], false)
theorem addR_no {l : List Vessel_} {v : Vessel_} (h : fleetF l = false) : addR l v = ([], false) := by simp [addR, h]
theorem addR_no2 {l : List Vessel_} {v : Vessel_} (h : fleetF (addV l v) = false) : addR l v = ([], false) := by simp [addR, h]
theorem addR_yes {l : List Vessel_} {v : Vessel_} (h1 : fleetF l = true) (h2 : fleetF (addV l v) = true) : addR l v = (addV l v, true) := by simp [addR, h1, h2]
end Go.Proofs.YtdlebdgdcpemmaaGreatDoor
