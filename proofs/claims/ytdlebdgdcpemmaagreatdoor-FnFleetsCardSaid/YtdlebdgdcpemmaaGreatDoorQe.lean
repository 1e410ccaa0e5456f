/- CellsOf, VesselNamed. -/
import Derived.Test.YtdlebdgdcpemmaaGreatDoorEW
import Derived.Test.YtdlebdgdcpemmaaGreatDoorQc
namespace Go.Proofs.YtdlebdgdcpemmaaGreatDoor
open Go.RowKit
set_option linter.unusedVariables false
set_option linter.unusedSimpArgs false
attribute [local irreducible] AR DR AWp QOp Qt ACalls ARes Exit.thenA Exit.inBlockA
theorem fleet_len {l : List Vessel_} (h : fleetF l = true) : l.length ≤ 8 := by
  unfold fleetF at h
  simp only [Bool.and_eq_true, decide_eq_true_eq] at h
  exact h.1
theorem fleet_at {l : List Vessel_} (h : fleetF l = true) {i : Nat} (hi : i < l.length) : vesF l[i] = true := by
  cases hv : vesF l[i] with
  | true => rfl
  | false => rw [fleet_no hi (okAt_bad hi hv)] at h; cases h
theorem ves_sides {x : Vessel_} (h : vesF x = true) : (1 ≤ x.ln ∧ x.ln ≤ 8) ∧ (1 ≤ x.wd ∧ x.wd ≤ 3) ∧ (50 ≤ x.dr ∧ x.dr ≤ 500) ∧ (1 ≤ x.id ∧ x.id ≤ 99) := by
  simp only [vesF, inB, Bool.and_eq_true, decide_eq_true_eq] at h
  obtain ⟨⟨⟨⟨⟨h1, h2⟩, h3⟩, h4⟩, h5⟩, h6⟩ := h
  exact ⟨h3, h4, h5, h1⟩
theorem ves_area {x : Vessel_} (h : vesF x = true) : 0 ≤ x.ln * x.wd ∧ x.ln * x.wd ≤ 24 := by
  obtain ⟨⟨h1, h2⟩, ⟨h3, h4⟩, _⟩ := ves_sides h
  refine ⟨Int.mul_nonneg (by omega) (by omega), ?_⟩
  calc x.ln * x.wd ≤ 8 * x.wd := Int.mul_le_mul_of_nonneg_right h2 (by omega)
    _ ≤ 24 := by omega
def cellsN (l : List Vessel_) : Nat → Int
  | 0 => 0
  | i + 1 => cellsN l i + (match l[i]? with | some x => x.ln * x.wd | none => 0)
theorem cellsN_succ {l : List Vessel_} {i : Nat} (hi : i < l.length) : cellsN l (i + 1) = cellsN l i + l[i].ln * l[i].wd := by
  rw [cellsN, List.getElem?_eq_getElem hi]
theorem cellsN_bd {l : List Vessel_} (h : fleetF l = true) (i : Nat) : 0 ≤ cellsN l i ∧ cellsN l i ≤ 24 * i := by
  induction i with
  | zero => simp [cellsN]
  | succ i ih =>
    by_cases hi : i < l.length
    · have := ves_area (fleet_at h hi)
      rw [cellsN_succ hi]; omega
    · rw [cellsN, List.getElem?_eq_none (by omega)]; simp only; omega
theorem impl_CellsOf_ok (l : List Vessel_) (hl : l.length ≤ 1048576) (hn : ∀ x ∈ l, x.len) (hF : fleetF l = true) : ACalls Tryz.prog 17 [.c (.sl 25 .ro (vss l))] [] (.tup [.c (.p (.int .i64 (cellsN l l.length))), .c (.p (.bool true))]) [] 0 := by
  have hc1 := impl_IsFleet l hl hn
  rw [hF] at hc1
  have h8 := fleet_len hF
  have hlen : (vss l).length = l.length := by simp [vss]
  refine acalls_of (ws := [.c (.p (.int .i64 (cellsN l l.length))), .c (.p (.bool true))]) Tryz.func17 rfl rfl rfl rfl fun w0 B m hm0 => ?_; (refine awp_norm (τ := ?_) ?_ ?_; rotate_left; (focus (simp only [AV.top, Tryz.ntmps17, List.length_cons, List.length_nil, Nat.reduceAdd, Nat.reduceSub, List.replicate_succ, List.replicate_zero, List.cons_append, List.nil_append]; exact rfl)))
  (repeat (first | (first | refine awp_seq ?_ | refine awp_region ?_ | refine awp_block ?_ | refine awp_exit ?_ | refine awp_ret ?_ | refine awp_skip ?_ | refine ar_nil ?_ | refine dr_nil ?_ | (refine awp_region_draw ?_ ?_ ?_; kernel_rfl; kernel_rfl) | (first | refine t_norm ?_ | refine t_exit ?_ | refine t_ret ?_ | refine b_norm ?_ | refine b_exit ?_ | refine b_exit_ne rfl ?_ | refine b_ret ?_)) | ((first | ((first | apply ar_q | apply dr_q); exact qOp1) | ((first | apply ar_gu | apply dr_gu); exact rfl) | ((first | apply ar_gn | apply dr_gn); exact rfl; exact bdOk) | ((first | apply ar_qt | apply dr_qt); (focus (apply qt_call; kernel_rfl; exact (hc1); exact rfl)))); (first | refine ar_nrm (k := ?_) | refine dr_nrm (k := ?_))) | ((first | apply ar_gy | apply dr_gy); exact rfl; exact bdOk) | (first | (apply awp_cond_t; exact rfl; exact bdOk) | (apply awp_cond_f; exact rfl; exact bdOk)) | fail))
  refine awp_loopK 0 (Nat.le_of_eq hm0) [0, 10, 11] (fun i : Nat => [(4, .c (.p (.int .i64 (cellsN l i)))), (12, .c (.p (.int .i64 i)))]) (fun _ => []) (fun _ => 0) (fun n i => i ≤ l.length ∧ n = l.length - i) _ 0 ⟨by omega, rfl⟩ ?_ ?_
  · refine le_nrm (k := ?_); refine le_mk hsLe ?_; (repeat (first | exact AVs.le.nil | (with_reducible refine AVs.le.top _ ?_) | (with_reducible refine AVs.le.eq _ ?_) | refine AVs.le.eqv ?_ ?_)) <;> first | exact rfl | exact pi (by omega)
  rintro n i ⟨h1, rfl⟩
  refine nh_nrm (k := ?_)
  have hb := cellsN_bd hF i
  by_cases hi : i < l.length
  · have e1 : (vss l)[(i : Int).toNat]? = some ([.int .i64 (l[i]).id, .string (l[i]).nm, .int .i64 (l[i]).ln, .int .i64 (l[i]).wd, .int .i64 (l[i]).dr, .int .i64 (l[i]).kd] : List Value) := vss_at hi
    have ha := ves_area (fleet_at hF hi)
    (repeat' (first | (first | refine awp_seq ?_ | refine awp_region ?_ | refine awp_block ?_ | refine awp_exit ?_ | refine awp_ret ?_ | refine awp_skip ?_ | refine ar_nil ?_ | refine dr_nil ?_ | (refine awp_region_draw ?_ ?_ ?_; kernel_rfl; kernel_rfl) | (first | refine t_norm ?_ | refine t_exit ?_ | refine t_ret ?_ | refine b_norm ?_ | refine b_exit ?_ | refine b_exit_ne rfl ?_ | refine b_ret ?_)) | ((first | ((first | apply ar_q | apply dr_q); exact qOp1) | ((first | apply ar_gu | apply dr_gu); exact rfl) | ((first | apply ar_gn | apply dr_gn); exact rfl; exact bdOk) | (apply ar_alloc (ys := ([.int .i64 0, .string ByteArray.empty, .int .i64 0, .int .i64 0, .int .i64 0, .int .i64 0] : List Value)); kernel_rfl) | (first | (apply ar_box; exact rfl) | (apply ar_store; exact rfl; exact rfl; exact rfl; (focus (first | decide | (simp; done) | exact Nat.le_refl _)); kernel_rfl; exact rfl))); (first | refine ar_nrm (k := ?_) | refine dr_nrm (k := ?_))) | ((first | apply ar_gy | apply dr_gy); exact rfl; exact bdOk) | (first | (apply awp_cond_t; exact rfl; exact bdOk) | (apply awp_cond_f; exact rfl; exact bdOk)) | ((first | apply ar_gs | apply dr_gs | apply awp_cond); (focus (exact rfl)); (all_goals (intro hc; (try simp only [decide_eq_true_eq, decide_eq_false_iff_not, Bool.not_eq_true', Bool.not_eq_false', Bool.not_true, Bool.not_false, bne_iff_ne, bne_eq_false_iff_eq, beq_iff_eq, beq_eq_false_iff_ne, ne_eq, Bool.cond_true_left, Bool.cond_false_right, Bool.or_eq_true, Bool.and_eq_true] at hc)))) | fail))
    refine ⟨_, i + 1, ?_, ⟨by omega, rfl⟩, ?_⟩
    · omega
    · refine lk_nrm (k := ?_); refine le_mk hsLe ?_; (repeat (first | exact AVs.le.nil | (with_reducible refine AVs.le.top _ ?_) | (with_reducible refine AVs.le.eq _ ?_) | refine AVs.le.eqv ?_ ?_)) <;> first | exact rfl | exact pi (cellsN_succ hi).symm | exact pi (by omega)
  · (repeat' (first | (first | refine awp_seq ?_ | refine awp_region ?_ | refine awp_block ?_ | refine awp_exit ?_ | refine awp_ret ?_ | refine awp_skip ?_ | refine ar_nil ?_ | refine dr_nil ?_ | (refine awp_region_draw ?_ ?_ ?_; kernel_rfl; kernel_rfl) | (first | refine t_norm ?_ | refine t_exit ?_ | refine t_ret ?_ | refine b_norm ?_ | refine b_exit ?_ | refine b_exit_ne rfl ?_ | refine b_ret ?_)) | ((first | ((first | apply ar_q | apply dr_q); exact qOp1) | ((first | apply ar_gu | apply dr_gu); exact rfl) | ((first | apply ar_gn | apply dr_gn); exact rfl; exact bdOk)); (first | refine ar_nrm (k := ?_) | refine dr_nrm (k := ?_))) | ((first | apply ar_gy | apply dr_gy); exact rfl; exact bdOk) | (first | (apply awp_cond_t; exact rfl; exact bdOk) | (apply awp_cond_f; exact rfl; exact bdOk)) | ((first | apply ar_gs | apply dr_gs | apply awp_cond); (focus (exact rfl)); (all_goals (intro hc; (try simp only [decide_eq_true_eq, decide_eq_false_iff_not, Bool.not_eq_true', Bool.not_eq_false', Bool.not_true, Bool.not_false, bne_iff_ne, bne_eq_false_iff_eq, beq_iff_eq, beq_eq_false_iff_ne, ne_eq, Bool.cond_true_left, Bool.cond_false_right, Bool.or_eq_true, Bool.and_eq_true] at hc)))) | fail))
    have e : i = l.length := by omega
    subst e
    refine ⟨.inr rfl, aend_mk [] rfl (by simp) (by first | (simp; done) | (simp; omega)) (ares_tmp2 _ rfl ?_ (ares_tmp2 _ rfl ?_ ares_nil)) rfl rfl⟩ <;> exact rfl
end Go.Proofs.YtdlebdgdcpemmaaGreatDoor
