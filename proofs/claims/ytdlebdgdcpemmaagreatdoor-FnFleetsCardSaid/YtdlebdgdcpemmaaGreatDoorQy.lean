/- Fleets, plain: an added vessel is found by its name, and its cells are added. -/
import Derived.Test.YtdlebdgdcpemmaaGreatDoorQf
import Derived.Test.YtdlebdgdcpemmaaGreatDoorQk
import Derived.Test.YtdlebdgdcpemmaaGreatDoorGp
namespace Go.Proofs.YtdlebdgdcpemmaaGreatDoor
open Go.RowKit
set_option linter.unusedVariables false
set_option linter.unusedSimpArgs false
def arS : List Vessel_ → Int
  | [] => 0
  | x :: l => x.ln * x.wd + arS l
theorem arS_app : ∀ (l m : List Vessel_), arS (l ++ m) = arS l + arS m
  | [], m => by simp [arS]
  | x :: l, m => by simp only [List.cons_append, arS, arS_app l m]; omega
theorem cellsN_ar (l : List Vessel_) : ∀ i, i ≤ l.length → cellsN l i = arS (l.take i)
  | 0, _ => by simp [cellsN, arS]
  | i + 1, h => by
    have hi : i < l.length := by omega
    rw [cellsN_succ hi, cellsN_ar l i (by omega), List.take_succ_eq_append_getElem hi, arS_app]
    simp [arS]
theorem cellsN_all (l : List Vessel_) : cellsN l l.length = arS l := by rw [cellsN_ar l l.length (Nat.le_refl _), List.take_length]
theorem add_cells (l : List Vessel_) (v : Vessel_) : cellsN (addV l v) (addV l v).length - cellsN l l.length = v.ln * v.wd := by
  rw [cellsN_all, cellsN_all]
  have h : arS l = arS (l.take (addK l v)) + arS (l.drop (addK l v)) := by rw [← arS_app, List.take_append_drop]
  rw [addV, arS_app, arS, h]
  omega
theorem addV_lt (l : List Vessel_) (v : Vessel_) : addK l v < (addV l v).length := by
  have := addK_le l v
  rw [addV_len]; omega
theorem addV_at (l : List Vessel_) (v : Vessel_) : (addV l v)[addK l v]'(addV_lt l v) = v := by
  have h := addK_le l v
  have hl : (l.take (addK l v)).length = addK l v := by rw [List.length_take]; omega
  have e : (addV l v)[addK l v]? = some v := by
    unfold addV
    rw [List.getElem?_append_right (by omega), hl, Nat.sub_self]
    rfl
  rw [List.getElem?_eq_getElem (addV_lt l v)] at e
  exact Option.some.inj e
theorem fleet_okAt {l : List Vessel_} (h : fleetF l = true) {i : Nat} (hi : i < l.length) : okAt l i = true := by
  cases ho : okAt l i with
  | true => rfl
  | false => rw [fleet_no hi ho] at h; cases h
theorem add_found {l : List Vessel_} {v : Vessel_} (h : fleetF (addV l v) = true) : isNm v.nm ((addV l v)[addK l v]'(addV_lt l v)) = true ∧ ∀ j (hj : j < (addV l v).length), j < addK l v → isNm v.nm (addV l v)[j] = false := by
  have hk := addV_lt l v
  have hv := addV_at l v
  refine ⟨by rw [hv]; simp [isNm], fun j hj hjk => ?_⟩
  have ho := fleet_okAt h hk
  cases hs : isNm v.nm (addV l v)[j] with
  | false => rfl
  | true =>
    have hn : okAt (addV l v) (addK l v) = false := okAt_nm hk (any_yes hj hjk (by rw [hv]; exact hs))
    rw [hn] at ho; cases ho
theorem parse_emptyV : parseVI ⟨#[]⟩ = none := by
  cases h : parseVI ⟨#[]⟩ with
  | none => rfl
  | some x =>
    obtain ⟨_, h2⟩ := parseVI_sound h
    have h3 := congrArg ByteArray.size h2
    have c3 : (⟨#[32, 100, 114, 97, 117, 103, 104, 116, 32]⟩ : ByteArray).size = 9 := rfl
    have c0 : (⟨#[]⟩ : ByteArray).size = 0 := rfl
    unfold textV at h3
    simp only [ByteArray.size_append, c3, c0] at h3
    omega
end Go.Proofs.YtdlebdgdcpemmaaGreatDoor
