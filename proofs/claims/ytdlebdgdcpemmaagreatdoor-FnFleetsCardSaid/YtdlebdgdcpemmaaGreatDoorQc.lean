/- Fleets. -/
import Derived.Test.YtdlebdgdcpemmaaGreatDoorEW
import Derived.Test.YtdlebdgdcpemmaaGreatDoorQb
namespace Go.Proofs.YtdlebdgdcpemmaaGreatDoor
open Go.RowKit
set_option linter.unusedVariables false
set_option linter.unusedSimpArgs false
attribute [local irreducible] AR DR AWp QOp Qt ACalls ARes Exit.thenA Exit.inBlockA
def sameN (y x : Vessel_) : Bool := x.nm.toList == y.nm.toList
def okAt (l : List Vessel_) (i : Nat) : Bool := match l[i]? with
  | some x => vesF x && (match i with | 0 => true | j + 1 => match l[j]? with | some y => decide (y.id < x.id) | none => false) && !(l.take i).any (sameN x)
  | none => false
def fleetF (l : List Vessel_) : Bool := decide (l.length ≤ 8) && (List.range l.length).all (okAt l)
theorem fleet_no {l : List Vessel_} {i : Nat} (hi : i < l.length) (h : okAt l i = false) : fleetF l = false := by
  unfold fleetF
  rw [Bool.and_eq_false_iff]
  refine .inr (List.all_eq_false.2 ⟨i, by simpa using hi, by simp [h]⟩)
theorem fleet_long {l : List Vessel_} (h : 8 < l.length) : fleetF l = false := by
  unfold fleetF
  rw [decide_eq_false (by omega)]; rfl
theorem fleet_yes {l : List Vessel_} (h : ∀ j, j < l.length → okAt l j = true) : fleetF l = decide (l.length ≤ 8) := by
  unfold fleetF
  rw [List.all_eq_true.2 (by simpa using h)]; simp
theorem okAt_bad {l : List Vessel_} {i : Nat} (hi : i < l.length) (h : vesF l[i] = false) : okAt l i = false := by simp [okAt, hi, h]
theorem okAt_id {l : List Vessel_} {i : Nat} (hi : i < l.length) (h0 : 0 < i) (h : l[i].id ≤ l[i - 1].id) : okAt l i = false := by
  obtain ⟨j, rfl⟩ : ∃ j, i = j + 1 := ⟨i - 1, by omega⟩
  have hj : j < l.length := by omega
  simp only [Nat.add_sub_cancel] at h
  simp [okAt, hi, hj]; omega
theorem okAt_nm {l : List Vessel_} {i : Nat} (hi : i < l.length) (h : (l.take i).any (sameN l[i]) = true) : okAt l i = false := by
  rw [okAt, List.getElem?_eq_getElem hi]; simp only [h, Bool.not_true, Bool.and_false]
theorem okAt_yes {l : List Vessel_} {i : Nat} (hi : i < l.length) (h1 : vesF l[i] = true) (h2 : i = 0 ∨ l[i - 1].id < l[i].id) (h : (l.take i).any (sameN l[i]) = false) : okAt l i = true := by
  rw [okAt, List.getElem?_eq_getElem hi]; simp only [h, h1, Bool.not_false, Bool.and_true, Bool.true_and]
  cases i with
  | zero => rfl
  | succ j =>
    have hj : j < l.length := by omega
    simp only [Nat.add_sub_cancel, Nat.succ_ne_zero, false_or] at h2
    simp [hj, h2]
theorem impl_IsFleet (l : List Vessel_) (hl : l.length ≤ 1048576) (hn : ∀ x ∈ l, x.len) : ACalls Tryz.prog 18 [.c (.sl 25 .ro (vss l))] [] (.c (.p (.bool (fleetF l)))) [] 0 := by
  refine acalls_of (ws := [.c (.p (.bool (fleetF l)))]) Tryz.func18 rfl rfl rfl rfl fun w0 B m hm0 => ?_; (refine awp_norm (τ := ?_) ?_ ?_; rotate_left; (focus (simp only [AV.top, Tryz.ntmps18, List.length_cons, List.length_nil, Nat.reduceAdd, Nat.reduceSub, List.replicate_succ, List.replicate_zero, List.cons_append, List.nil_append]; exact rfl)))
  (repeat (first | (first | refine awp_seq ?_ | refine awp_region ?_ | refine awp_block ?_ | refine awp_exit ?_ | refine awp_ret ?_ | refine awp_skip ?_ | refine ar_nil ?_ | refine dr_nil ?_ | (refine awp_region_draw ?_ ?_ ?_; kernel_rfl; kernel_rfl) | (first | refine t_norm ?_ | refine t_exit ?_ | refine t_ret ?_ | refine b_norm ?_ | refine b_exit ?_ | refine b_exit_ne rfl ?_ | refine b_ret ?_)) | ((first | ((first | apply ar_q | apply dr_q); exact qOp1) | ((first | apply ar_gu | apply dr_gu); exact rfl) | ((first | apply ar_gn | apply dr_gn); exact rfl; exact bdOk)); (first | refine ar_nrm (k := ?_) | refine dr_nrm (k := ?_))) | ((first | apply ar_gy | apply dr_gy); exact rfl; exact bdOk) | (first | (apply awp_cond_t; exact rfl; exact bdOk) | (apply awp_cond_f; exact rfl; exact bdOk)) | fail))
  refine awp_loopK 0 (Nat.le_of_eq hm0) [0, 5, 6] (fun i : Nat => [(7, .c (.p (.int .i64 i)))]) (fun _ => []) (fun _ => 0) (fun q i => i ≤ l.length ∧ (∀ j, j < i → okAt l j = true) ∧ q = l.length - i) _ 0 ⟨by omega, by omega, rfl⟩ ?_ ?_
  · refine le_nrm (k := ?_); refine le_mk hsLe ?_; (repeat (first | exact AVs.le.nil | (with_reducible refine AVs.le.top _ ?_) | (with_reducible refine AVs.le.eq _ ?_) | refine AVs.le.eqv ?_ ?_)) <;> first | exact rfl | exact pi (by omega)
  rintro q i ⟨h1, h2, rfl⟩
  refine nh_nrm (k := ?_)
  have hlen : (vss l).length = l.length := by simp [vss]
  (repeat (first | (first | refine awp_seq ?_ | refine awp_region ?_ | refine awp_block ?_ | refine awp_exit ?_ | refine awp_ret ?_ | refine awp_skip ?_ | refine ar_nil ?_ | refine dr_nil ?_ | (refine awp_region_draw ?_ ?_ ?_; kernel_rfl; kernel_rfl) | (first | refine t_norm ?_ | refine t_exit ?_ | refine t_ret ?_ | refine b_norm ?_ | refine b_exit ?_ | refine b_exit_ne rfl ?_ | refine b_ret ?_)) | ((first | ((first | apply ar_q | apply dr_q); exact qOp1) | ((first | apply ar_gu | apply dr_gu); exact rfl) | ((first | apply ar_gn | apply dr_gn); exact rfl; exact bdOk)); (first | refine ar_nrm (k := ?_) | refine dr_nrm (k := ?_))) | ((first | apply ar_gy | apply dr_gy); exact rfl; exact bdOk) | (first | (apply awp_cond_t; exact rfl; exact bdOk) | (apply awp_cond_f; exact rfl; exact bdOk)) | fail))
  (apply awp_cond; (focus (exact rfl))) <;> intro hc <;> (try simp only [decide_eq_true_eq, decide_eq_false_iff_not, Bool.not_eq_true', Bool.not_eq_false', bne_iff_ne, bne_eq_false_iff_eq, beq_iff_eq, beq_eq_false_iff_ne, ne_eq] at hc)
  · rw [hlen] at hc
    have hi : i < l.length := by omega
    have e1 : (vss l)[(i : Int).toNat]? = some [.int .i64 (l[i]).id, .string (l[i]).nm, .int .i64 (l[i]).ln, .int .i64 (l[i]).wd, .int .i64 (l[i]).dr, .int .i64 (l[i]).kd] := vss_at hi
    have ht : List.take (i : Int).toNat (vss l) = vss (l.take i) := by simp [vss]
    have hcf : ACalls Tryz.prog 44 [.c (.sl 25 .ro (List.take (i : Int).toNat (vss l))), .c (.fr 45 [[.int .i64 (l[i]).id, .string (l[i]).nm, .int .i64 (l[i]).ln, .int .i64 (l[i]).wd, .int .i64 (l[i]).dr, .int .i64 (l[i]).kd]])] [] (.c (.p (.bool ((l.take i).any (sameN l[i]))))) [] 0 := by
      rw [ht]; exact impl_ContainsFunc (sameN l[i]) (l.take i) (by simp; omega) (by kernel_rfl) fun x => impl_fleet1 x l[i]
    rcases Nat.eq_zero_or_pos i with h0 | h0
    · subst h0
      (repeat' (first | (first | refine awp_seq ?_ | refine awp_region ?_ | refine awp_block ?_ | refine awp_exit ?_ | refine awp_ret ?_ | refine awp_skip ?_ | refine ar_nil ?_ | refine dr_nil ?_ | (refine awp_region_draw ?_ ?_ ?_; kernel_rfl; kernel_rfl) | (first | refine t_norm ?_ | refine t_exit ?_ | refine t_ret ?_ | refine b_norm ?_ | refine b_exit ?_ | refine b_exit_ne rfl ?_ | refine b_ret ?_)) | ((first | ((first | apply ar_q | apply dr_q); exact qOp1) | ((first | apply ar_gu | apply dr_gu); exact rfl) | ((first | apply ar_gn | apply dr_gn); exact rfl; exact bdOk) | (apply ar_alloc (ys := [.int .i64 0, .string ByteArray.empty, .int .i64 0, .int .i64 0, .int .i64 0, .int .i64 0]); kernel_rfl) | (first | (apply ar_box; exact rfl) | (apply ar_store; exact rfl; exact rfl; exact rfl; (focus (first | decide | (simp; done) | exact Nat.le_refl _)); kernel_rfl; exact rfl)) | ((first | apply ar_qt | apply dr_qt); (focus (apply qt_call; kernel_rfl; exact (impl_IsValidVessel l[0] (hn _ (List.getElem_mem hi))); exact rfl))) | ((first | apply ar_q | apply dr_q); (focus (apply q_makeFunc [0]; exact rfl))) | ((first | apply ar_qt | apply dr_qt); (focus (apply qt_callF; kernel_rfl; exact (hcf); exact rfl)))); (first | refine ar_nrm (k := ?_) | refine dr_nrm (k := ?_))) | ((first | apply ar_gy | apply dr_gy); exact rfl; exact bdOk) | (first | (apply awp_cond_t; exact rfl; exact bdOk) | (apply awp_cond_f; exact rfl; exact bdOk)) | ((first | apply ar_gs | apply dr_gs | apply awp_cond); (focus (exact rfl)); (all_goals (intro hc; (try simp only [decide_eq_true_eq, decide_eq_false_iff_not, Bool.not_eq_true', Bool.not_eq_false', Bool.not_true, Bool.not_false, bne_iff_ne, bne_eq_false_iff_eq, beq_iff_eq, beq_eq_false_iff_ne, ne_eq, Bool.cond_true_left, Bool.cond_false_right, Bool.or_eq_true, Bool.and_eq_true] at hc)))) | fail))
      all_goals first
        | (refine ⟨.inr rfl, aend_mk [] rfl (by simp) (by first | (simp; done) | (simp; omega)) (ares_tmp2 _ rfl ?_ ares_nil) rfl rfl⟩; exact pb (fleet_no hi (okAt_bad hi (by assumption))).symm)
        | (refine ⟨_, 0 + 1, ?_, ⟨by omega, fun j hj => ?_, rfl⟩, ?_⟩
           · omega
           · by_cases hji : j < 0
             · exact h2 j hji
             · obtain rfl : j = 0 := by omega
               exact okAt_yes hi (by assumption) (by omega) (by first | assumption | simp)
           · refine lk_nrm (k := ?_); refine le_mk hsLe ?_; (repeat (first | exact AVs.le.nil | (with_reducible refine AVs.le.top _ ?_) | (with_reducible refine AVs.le.eq _ ?_) | refine AVs.le.eqv ?_ ?_)) <;> first | exact rfl | exact pi (by omega))
    · have e0 : (vss l)[((i : Int) - 1).toNat]? = some [.int .i64 ((l[i - 1]'(by omega))).id, .string ((l[i - 1]'(by omega))).nm, .int .i64 ((l[i - 1]'(by omega))).ln, .int .i64 ((l[i - 1]'(by omega))).wd, .int .i64 ((l[i - 1]'(by omega))).dr, .int .i64 ((l[i - 1]'(by omega))).kd] := by
        rw [show ((i : Int) - 1).toNat = i - 1 by omega]; exact vss_at _
      (repeat' (first | (first | refine awp_seq ?_ | refine awp_region ?_ | refine awp_block ?_ | refine awp_exit ?_ | refine awp_ret ?_ | refine awp_skip ?_ | refine ar_nil ?_ | refine dr_nil ?_ | (refine awp_region_draw ?_ ?_ ?_; kernel_rfl; kernel_rfl) | (first | refine t_norm ?_ | refine t_exit ?_ | refine t_ret ?_ | refine b_norm ?_ | refine b_exit ?_ | refine b_exit_ne rfl ?_ | refine b_ret ?_)) | ((first | ((first | apply ar_q | apply dr_q); exact qOp1) | ((first | apply ar_gu | apply dr_gu); exact rfl) | ((first | apply ar_gn | apply dr_gn); exact rfl; exact bdOk) | (apply ar_alloc (ys := [.int .i64 0, .string ByteArray.empty, .int .i64 0, .int .i64 0, .int .i64 0, .int .i64 0]); kernel_rfl) | (first | (apply ar_box; exact rfl) | (apply ar_store; exact rfl; exact rfl; exact rfl; (focus (first | decide | (simp; done) | exact Nat.le_refl _)); kernel_rfl; exact rfl)) | ((first | apply ar_qt | apply dr_qt); (focus (apply qt_call; kernel_rfl; exact (impl_IsValidVessel l[i] (hn _ (List.getElem_mem hi))); exact rfl))) | ((first | apply ar_q | apply dr_q); (focus (apply q_makeFunc [0]; exact rfl))) | ((first | apply ar_qt | apply dr_qt); (focus (apply qt_callF; kernel_rfl; exact (hcf); exact rfl)))); (first | refine ar_nrm (k := ?_) | refine dr_nrm (k := ?_))) | ((first | apply ar_gy | apply dr_gy); exact rfl; exact bdOk) | (first | (apply awp_cond_t; exact rfl; exact bdOk) | (apply awp_cond_f; exact rfl; exact bdOk)) | ((first | apply ar_gs | apply dr_gs | apply awp_cond); (focus (exact rfl)); (all_goals (intro hc; (try simp only [decide_eq_true_eq, decide_eq_false_iff_not, Bool.not_eq_true', Bool.not_eq_false', Bool.not_true, Bool.not_false, bne_iff_ne, bne_eq_false_iff_eq, beq_iff_eq, beq_eq_false_iff_ne, ne_eq, Bool.cond_true_left, Bool.cond_false_right, Bool.or_eq_true, Bool.and_eq_true] at hc)))) | fail))
      all_goals first
        | (refine ⟨.inr rfl, aend_mk [] rfl (by simp) (by first | (simp; done) | (simp; omega)) (ares_tmp2 _ rfl ?_ ares_nil) rfl rfl⟩; exact pb (fleet_no hi (okAt_bad hi (by assumption))).symm)
        | (refine ⟨.inr rfl, aend_mk [] rfl (by simp) (by first | (simp; done) | (simp; omega)) (ares_tmp2 _ rfl ?_ ares_nil) rfl rfl⟩; exact pb (fleet_no hi (okAt_id hi h0 (by assumption))).symm)
        | (refine ⟨.inr rfl, aend_mk [] rfl (by simp) (by first | (simp; done) | (simp; omega)) (ares_tmp2 _ rfl ?_ ares_nil) rfl rfl⟩; exact pb (fleet_no hi (okAt_nm hi (by assumption))).symm)
        | (refine ⟨_, i + 1, ?_, ⟨by omega, fun j hj => ?_, rfl⟩, ?_⟩
           · omega
           · by_cases hji : j < i
             · exact h2 j hji
             · obtain rfl : j = i := by omega
               exact okAt_yes hi (by assumption) (by omega) (by first | assumption | simp)
           · refine lk_nrm (k := ?_); refine le_mk hsLe ?_; (repeat (first | exact AVs.le.nil | (with_reducible refine AVs.le.top _ ?_) | (with_reducible refine AVs.le.eq _ ?_) | refine AVs.le.eqv ?_ ?_)) <;> first | exact rfl | exact pi (by omega))
  · rw [hlen] at hc
    (repeat (first | (first | refine awp_seq ?_ | refine awp_region ?_ | refine awp_block ?_ | refine awp_exit ?_ | refine awp_ret ?_ | refine awp_skip ?_ | refine ar_nil ?_ | refine dr_nil ?_ | (refine awp_region_draw ?_ ?_ ?_; kernel_rfl; kernel_rfl) | (first | refine t_norm ?_ | refine t_exit ?_ | refine t_ret ?_ | refine b_norm ?_ | refine b_exit ?_ | refine b_exit_ne rfl ?_ | refine b_ret ?_)) | ((first | ((first | apply ar_q | apply dr_q); exact qOp1) | ((first | apply ar_gu | apply dr_gu); exact rfl) | ((first | apply ar_gn | apply dr_gn); exact rfl; exact bdOk)); (first | refine ar_nrm (k := ?_) | refine dr_nrm (k := ?_))) | ((first | apply ar_gy | apply dr_gy); exact rfl; exact bdOk) | (first | (apply awp_cond_t; exact rfl; exact bdOk) | (apply awp_cond_f; exact rfl; exact bdOk)) | fail))
    refine ⟨.inr rfl, aend_mk [] rfl (by simp) (by first | (simp; done) | (simp; omega)) (ares_tmp2 _ rfl ?_ ares_nil) rfl rfl⟩
    exact pb (by rw [fleet_yes fun j hj => h2 j (by omega), hlen]; exact decide_eq_decide.2 (by omega))
theorem any_no {p : Vessel_ → Bool} {l : List Vessel_} {i : Nat} (hi : i ≤ l.length) (h : ∀ j (hj : j < l.length), j < i → p l[j] = false) : (l.take i).any p = false := by
  rw [List.any_eq_false]
  intro x hx
  obtain ⟨j, hj, rfl⟩ := List.getElem_of_mem hx
  simp at hj
  simp [h j (by omega) (by omega)]
theorem any_yes {p : Vessel_ → Bool} {l : List Vessel_} {i j : Nat} (hj : j < l.length) (hji : j < i) (h : p l[j] = true) : (l.take i).any p = true :=
  List.any_eq_true.2 ⟨l[j], List.mem_take_iff_getElem.2 ⟨j, by omega, rfl⟩, h⟩
theorem spec_l3Fleet (l : List Vessel_) (hl : l.length ≤ 1048576) (hn : ∀ x ∈ l, x.len) : ACalls Tryz.prog 41 [.c (.sl 25 .ro (vss l))] [] (.c (.p (.bool (fleetF l)))) [] 0 := by
  refine acalls_of (ws := [.c (.p (.bool (fleetF l)))]) Tryz.func41 rfl rfl rfl rfl fun w0 B m hm0 => ?_; (refine awp_norm (τ := ?_) ?_ ?_; rotate_left; (focus (simp only [AV.top, Tryz.ntmps41, List.length_cons, List.length_nil, Nat.reduceAdd, Nat.reduceSub, List.replicate_succ, List.replicate_zero, List.cons_append, List.nil_append]; exact rfl)))
  (repeat (first | (first | refine awp_seq ?_ | refine awp_region ?_ | refine awp_block ?_ | refine awp_exit ?_ | refine awp_ret ?_ | refine awp_skip ?_ | refine ar_nil ?_ | refine dr_nil ?_ | (refine awp_region_draw ?_ ?_ ?_; kernel_rfl; kernel_rfl) | (first | refine t_norm ?_ | refine t_exit ?_ | refine t_ret ?_ | refine b_norm ?_ | refine b_exit ?_ | refine b_exit_ne rfl ?_ | refine b_ret ?_)) | ((first | ((first | apply ar_q | apply dr_q); exact qOp1) | ((first | apply ar_gu | apply dr_gu); exact rfl) | ((first | apply ar_gn | apply dr_gn); exact rfl; exact bdOk)); (first | refine ar_nrm (k := ?_) | refine dr_nrm (k := ?_))) | ((first | apply ar_gy | apply dr_gy); exact rfl; exact bdOk) | (first | (apply awp_cond_t; exact rfl; exact bdOk) | (apply awp_cond_f; exact rfl; exact bdOk)) | fail))
  refine awp_loopH [0] (fun i : Nat => [(3, .c (.p (.int .i64 i)))]) (fun _ => []) (fun _ => 0) (fun q i => i ≤ l.length ∧ (∀ j, j < i → okAt l j = true) ∧ q = l.length - i) _ 0 ⟨by omega, by omega, rfl⟩ ?_ ?_
  · refine le_nrm (k := ?_); refine le_mk hsLe ?_; (repeat (first | exact AVs.le.nil | (with_reducible refine AVs.le.top _ ?_) | (with_reducible refine AVs.le.eq _ ?_) | refine AVs.le.eqv ?_ ?_)) <;> first | exact rfl | exact pi (by omega)
  rintro q i ⟨h1, h2, rfl⟩
  refine nh_nrm (k := ?_)
  have hlen : (vss l).length = l.length := by simp [vss]
  by_cases hi : i < l.length
  · by_cases h8 : i ≤ 8
    · have e1 : (vss l)[(i : Int).toNat]? = some [.int .i64 (l[i]).id, .string (l[i]).nm, .int .i64 (l[i]).ln, .int .i64 (l[i]).wd, .int .i64 (l[i]).dr, .int .i64 (l[i]).kd] := vss_at hi
      rcases Nat.eq_zero_or_pos i with h0 | h0
      · subst h0
        (repeat' (first | (first | refine awp_seq ?_ | refine awp_region ?_ | refine awp_block ?_ | refine awp_exit ?_ | refine awp_ret ?_ | refine awp_skip ?_ | refine ar_nil ?_ | refine dr_nil ?_ | (refine awp_region_draw ?_ ?_ ?_; kernel_rfl; kernel_rfl) | (first | refine t_norm ?_ | refine t_exit ?_ | refine t_ret ?_ | refine b_norm ?_ | refine b_exit ?_ | refine b_exit_ne rfl ?_ | refine b_ret ?_)) | ((first | ((first | apply ar_q | apply dr_q); exact qOp1) | ((first | apply ar_gu | apply dr_gu); exact rfl) | ((first | apply ar_gn | apply dr_gn); exact rfl; exact bdOk) | ((first | apply ar_qt | apply dr_qt); (focus (apply qt_call; kernel_rfl; exact (spec_l3Good l[0] (hn _ (List.getElem_mem hi))); exact rfl)))); (first | refine ar_nrm (k := ?_) | refine dr_nrm (k := ?_))) | ((first | apply ar_gy | apply dr_gy); exact rfl; exact bdOk) | (first | (apply awp_cond_t; exact rfl; exact bdOk) | (apply awp_cond_f; exact rfl; exact bdOk)) | ((first | apply ar_gs | apply dr_gs | apply awp_cond); (focus (exact rfl)); (all_goals (intro hc; (try simp only [decide_eq_true_eq, decide_eq_false_iff_not, Bool.not_eq_true', Bool.not_eq_false', Bool.not_true, Bool.not_false, bne_iff_ne, bne_eq_false_iff_eq, beq_iff_eq, beq_eq_false_iff_ne, ne_eq, Bool.cond_true_left, Bool.cond_false_right, Bool.or_eq_true, Bool.and_eq_true] at hc)))) | fail))
        all_goals first
          | (refine ⟨.inr rfl, aend_mk [] rfl (by simp) (by first | (simp; done) | (simp; omega)) (ares_tmp2 _ rfl ?_ ares_nil) rfl rfl⟩; exact pb (fleet_no hi (okAt_bad hi (by assumption))).symm)
          | (refine awp_loopH [0, 3] (fun k : Nat => [(4, .c (.p (.int .i64 k)))]) (fun _ => []) (fun _ => 0) (fun q k => k ≤ 0 ∧ (∀ j (hj : j < l.length), j < k → sameN l[0] l[j] = false) ∧ q = 0 - k) _ 0 ⟨by omega, by omega, rfl⟩ ?_ ?_
             · refine le_nrm (k := ?_); refine le_mk hsLe ?_; (repeat (first | exact AVs.le.nil | (with_reducible refine AVs.le.top _ ?_) | (with_reducible refine AVs.le.eq _ ?_) | refine AVs.le.eqv ?_ ?_)) <;> first | exact rfl | exact pi (by omega)
             rintro q k ⟨g1, g2, rfl⟩
             refine nh_nrm (k := ?_)
             by_cases hk : k < 0
             · exact absurd hk (Nat.not_lt_zero _)
             · (repeat' (first | (first | refine awp_seq ?_ | refine awp_region ?_ | refine awp_block ?_ | refine awp_exit ?_ | refine awp_ret ?_ | refine awp_skip ?_ | refine ar_nil ?_ | refine dr_nil ?_ | (refine awp_region_draw ?_ ?_ ?_; kernel_rfl; kernel_rfl) | (first | refine t_norm ?_ | refine t_exit ?_ | refine t_ret ?_ | refine b_norm ?_ | refine b_exit ?_ | refine b_exit_ne rfl ?_ | refine b_ret ?_)) | ((first | ((first | apply ar_q | apply dr_q); exact qOp1) | ((first | apply ar_gu | apply dr_gu); exact rfl) | ((first | apply ar_gn | apply dr_gn); exact rfl; exact bdOk)); (first | refine ar_nrm (k := ?_) | refine dr_nrm (k := ?_))) | ((first | apply ar_gy | apply dr_gy); exact rfl; exact bdOk) | (first | (apply awp_cond_t; exact rfl; exact bdOk) | (apply awp_cond_f; exact rfl; exact bdOk)) | ((first | apply ar_gs | apply dr_gs | apply awp_cond); (focus (exact rfl)); (all_goals (intro hc; (try simp only [decide_eq_true_eq, decide_eq_false_iff_not, Bool.not_eq_true', Bool.not_eq_false', Bool.not_true, Bool.not_false, bne_iff_ne, bne_eq_false_iff_eq, beq_iff_eq, beq_eq_false_iff_ne, ne_eq, Bool.cond_true_left, Bool.cond_false_right, Bool.or_eq_true, Bool.and_eq_true] at hc)))) | fail))
               refine ⟨_, 0 + 1, ?_, ⟨by omega, fun j hj => ?_, rfl⟩, ?_⟩
               · omega
               · by_cases hji : j < 0
                 · exact h2 j hji
                 · obtain rfl : j = 0 := by omega
                   exact okAt_yes hi (by assumption) (by omega) (any_no (by omega) fun j' hj' hji' => g2 j' hj' (by omega))
               · refine le_nrm (k := ?_); refine le_mk hsLe ?_; (repeat (first | exact AVs.le.nil | (with_reducible refine AVs.le.top _ ?_) | (with_reducible refine AVs.le.eq _ ?_) | refine AVs.le.eqv ?_ ?_)) <;> first | exact rfl | exact pi (by omega))
      · have e0 : (vss l)[((i : Int) - 1).toNat]? = some [.int .i64 ((l[i - 1]'(by omega))).id, .string ((l[i - 1]'(by omega))).nm, .int .i64 ((l[i - 1]'(by omega))).ln, .int .i64 ((l[i - 1]'(by omega))).wd, .int .i64 ((l[i - 1]'(by omega))).dr, .int .i64 ((l[i - 1]'(by omega))).kd] := by
          rw [show ((i : Int) - 1).toNat = i - 1 by omega]; exact vss_at _
        (repeat' (first | (first | refine awp_seq ?_ | refine awp_region ?_ | refine awp_block ?_ | refine awp_exit ?_ | refine awp_ret ?_ | refine awp_skip ?_ | refine ar_nil ?_ | refine dr_nil ?_ | (refine awp_region_draw ?_ ?_ ?_; kernel_rfl; kernel_rfl) | (first | refine t_norm ?_ | refine t_exit ?_ | refine t_ret ?_ | refine b_norm ?_ | refine b_exit ?_ | refine b_exit_ne rfl ?_ | refine b_ret ?_)) | ((first | ((first | apply ar_q | apply dr_q); exact qOp1) | ((first | apply ar_gu | apply dr_gu); exact rfl) | ((first | apply ar_gn | apply dr_gn); exact rfl; exact bdOk) | ((first | apply ar_qt | apply dr_qt); (focus (apply qt_call; kernel_rfl; exact (spec_l3Good l[i] (hn _ (List.getElem_mem hi))); exact rfl)))); (first | refine ar_nrm (k := ?_) | refine dr_nrm (k := ?_))) | ((first | apply ar_gy | apply dr_gy); exact rfl; exact bdOk) | (first | (apply awp_cond_t; exact rfl; exact bdOk) | (apply awp_cond_f; exact rfl; exact bdOk)) | ((first | apply ar_gs | apply dr_gs | apply awp_cond); (focus (exact rfl)); (all_goals (intro hc; (try simp only [decide_eq_true_eq, decide_eq_false_iff_not, Bool.not_eq_true', Bool.not_eq_false', Bool.not_true, Bool.not_false, bne_iff_ne, bne_eq_false_iff_eq, beq_iff_eq, beq_eq_false_iff_ne, ne_eq, Bool.cond_true_left, Bool.cond_false_right, Bool.or_eq_true, Bool.and_eq_true] at hc)))) | fail))
        all_goals first
          | (refine ⟨.inr rfl, aend_mk [] rfl (by simp) (by first | (simp; done) | (simp; omega)) (ares_tmp2 _ rfl ?_ ares_nil) rfl rfl⟩; exact pb (fleet_no hi (okAt_bad hi (by assumption))).symm)
          | (refine ⟨.inr rfl, aend_mk [] rfl (by simp) (by first | (simp; done) | (simp; omega)) (ares_tmp2 _ rfl ?_ ares_nil) rfl rfl⟩; exact pb (fleet_no hi (okAt_id hi h0 (by assumption))).symm)
          | (refine awp_loopH [0, 3] (fun k : Nat => [(4, .c (.p (.int .i64 k)))]) (fun _ => []) (fun _ => 0) (fun q k => k ≤ i ∧ (∀ j (hj : j < l.length), j < k → sameN l[i] l[j] = false) ∧ q = i - k) _ 0 ⟨by omega, by omega, rfl⟩ ?_ ?_
             · refine le_nrm (k := ?_); refine le_mk hsLe ?_; (repeat (first | exact AVs.le.nil | (with_reducible refine AVs.le.top _ ?_) | (with_reducible refine AVs.le.eq _ ?_) | refine AVs.le.eqv ?_ ?_)) <;> first | exact rfl | exact pi (by omega)
             rintro q k ⟨g1, g2, rfl⟩
             refine nh_nrm (k := ?_)
             by_cases hk : k < i
             · have hkl : k < l.length := by omega
               have e2 : (vss l)[(k : Int).toNat]? = some [.int .i64 (l[k]).id, .string (l[k]).nm, .int .i64 (l[k]).ln, .int .i64 (l[k]).wd, .int .i64 (l[k]).dr, .int .i64 (l[k]).kd] := vss_at hkl
               (repeat' (first | (first | refine awp_seq ?_ | refine awp_region ?_ | refine awp_block ?_ | refine awp_exit ?_ | refine awp_ret ?_ | refine awp_skip ?_ | refine ar_nil ?_ | refine dr_nil ?_ | (refine awp_region_draw ?_ ?_ ?_; kernel_rfl; kernel_rfl) | (first | refine t_norm ?_ | refine t_exit ?_ | refine t_ret ?_ | refine b_norm ?_ | refine b_exit ?_ | refine b_exit_ne rfl ?_ | refine b_ret ?_)) | ((first | ((first | apply ar_q | apply dr_q); exact qOp1) | ((first | apply ar_gu | apply dr_gu); exact rfl) | ((first | apply ar_gn | apply dr_gn); exact rfl; exact bdOk)); (first | refine ar_nrm (k := ?_) | refine dr_nrm (k := ?_))) | ((first | apply ar_gy | apply dr_gy); exact rfl; exact bdOk) | (first | (apply awp_cond_t; exact rfl; exact bdOk) | (apply awp_cond_f; exact rfl; exact bdOk)) | ((first | apply ar_gs | apply dr_gs | apply awp_cond); (focus (exact rfl)); (all_goals (intro hc; (try simp only [decide_eq_true_eq, decide_eq_false_iff_not, Bool.not_eq_true', Bool.not_eq_false', Bool.not_true, Bool.not_false, bne_iff_ne, bne_eq_false_iff_eq, beq_iff_eq, beq_eq_false_iff_ne, ne_eq, Bool.cond_true_left, Bool.cond_false_right, Bool.or_eq_true, Bool.and_eq_true] at hc)))) | fail))
               all_goals first
                 | (refine ⟨.inr rfl, aend_mk [] rfl (by simp) (by first | (simp; done) | (simp; omega)) (ares_tmp2 _ rfl ?_ ares_nil) rfl rfl⟩; exact pb (fleet_no hi (okAt_nm hi (any_yes hkl hk (by simp only [sameN, beq_iff_eq]; assumption)))).symm)
                 | (refine ⟨_, k + 1, ?_, ⟨by omega, fun j hj hji => ?_, rfl⟩, ?_⟩
                    · omega
                    · by_cases hjk : j < k
                      · exact g2 j hj hjk
                      · obtain rfl : j = k := by omega
                        simp only [sameN, beq_eq_false_iff_ne, ne_eq]; assumption
                    · refine le_nrm (k := ?_); refine le_mk hsLe ?_; (repeat (first | exact AVs.le.nil | (with_reducible refine AVs.le.top _ ?_) | (with_reducible refine AVs.le.eq _ ?_) | refine AVs.le.eqv ?_ ?_)) <;> first | exact rfl | exact pi (by omega))
             · (repeat' (first | (first | refine awp_seq ?_ | refine awp_region ?_ | refine awp_block ?_ | refine awp_exit ?_ | refine awp_ret ?_ | refine awp_skip ?_ | refine ar_nil ?_ | refine dr_nil ?_ | (refine awp_region_draw ?_ ?_ ?_; kernel_rfl; kernel_rfl) | (first | refine t_norm ?_ | refine t_exit ?_ | refine t_ret ?_ | refine b_norm ?_ | refine b_exit ?_ | refine b_exit_ne rfl ?_ | refine b_ret ?_)) | ((first | ((first | apply ar_q | apply dr_q); exact qOp1) | ((first | apply ar_gu | apply dr_gu); exact rfl) | ((first | apply ar_gn | apply dr_gn); exact rfl; exact bdOk)); (first | refine ar_nrm (k := ?_) | refine dr_nrm (k := ?_))) | ((first | apply ar_gy | apply dr_gy); exact rfl; exact bdOk) | (first | (apply awp_cond_t; exact rfl; exact bdOk) | (apply awp_cond_f; exact rfl; exact bdOk)) | ((first | apply ar_gs | apply dr_gs | apply awp_cond); (focus (exact rfl)); (all_goals (intro hc; (try simp only [decide_eq_true_eq, decide_eq_false_iff_not, Bool.not_eq_true', Bool.not_eq_false', Bool.not_true, Bool.not_false, bne_iff_ne, bne_eq_false_iff_eq, beq_iff_eq, beq_eq_false_iff_ne, ne_eq, Bool.cond_true_left, Bool.cond_false_right, Bool.or_eq_true, Bool.and_eq_true] at hc)))) | fail))
               refine ⟨_, i + 1, ?_, ⟨by omega, fun j hj => ?_, rfl⟩, ?_⟩
               · omega
               · by_cases hji : j < i
                 · exact h2 j hji
                 · obtain rfl : j = i := by omega
                   exact okAt_yes hi (by assumption) (by omega) (any_no (by omega) fun j' hj' hji' => g2 j' hj' (by omega))
               · refine le_nrm (k := ?_); refine le_mk hsLe ?_; (repeat (first | exact AVs.le.nil | (with_reducible refine AVs.le.top _ ?_) | (with_reducible refine AVs.le.eq _ ?_) | refine AVs.le.eqv ?_ ?_)) <;> first | exact rfl | exact pi (by omega))
    · (repeat' (first | (first | refine awp_seq ?_ | refine awp_region ?_ | refine awp_block ?_ | refine awp_exit ?_ | refine awp_ret ?_ | refine awp_skip ?_ | refine ar_nil ?_ | refine dr_nil ?_ | (refine awp_region_draw ?_ ?_ ?_; kernel_rfl; kernel_rfl) | (first | refine t_norm ?_ | refine t_exit ?_ | refine t_ret ?_ | refine b_norm ?_ | refine b_exit ?_ | refine b_exit_ne rfl ?_ | refine b_ret ?_)) | ((first | ((first | apply ar_q | apply dr_q); exact qOp1) | ((first | apply ar_gu | apply dr_gu); exact rfl) | ((first | apply ar_gn | apply dr_gn); exact rfl; exact bdOk)); (first | refine ar_nrm (k := ?_) | refine dr_nrm (k := ?_))) | ((first | apply ar_gy | apply dr_gy); exact rfl; exact bdOk) | (first | (apply awp_cond_t; exact rfl; exact bdOk) | (apply awp_cond_f; exact rfl; exact bdOk)) | ((first | apply ar_gs | apply dr_gs | apply awp_cond); (focus (exact rfl)); (all_goals (intro hc; (try simp only [decide_eq_true_eq, decide_eq_false_iff_not, Bool.not_eq_true', Bool.not_eq_false', Bool.not_true, Bool.not_false, bne_iff_ne, bne_eq_false_iff_eq, beq_iff_eq, beq_eq_false_iff_ne, ne_eq, Bool.cond_true_left, Bool.cond_false_right, Bool.or_eq_true, Bool.and_eq_true] at hc)))) | fail))
      refine ⟨.inr rfl, aend_mk [] rfl (by simp) (by first | (simp; done) | (simp; omega)) (ares_tmp2 _ rfl ?_ ares_nil) rfl rfl⟩
      exact pb (by rw [fleet_long (by omega), hlen]; exact decide_eq_false (by omega))
  · (repeat' (first | (first | refine awp_seq ?_ | refine awp_region ?_ | refine awp_block ?_ | refine awp_exit ?_ | refine awp_ret ?_ | refine awp_skip ?_ | refine ar_nil ?_ | refine dr_nil ?_ | (refine awp_region_draw ?_ ?_ ?_; kernel_rfl; kernel_rfl) | (first | refine t_norm ?_ | refine t_exit ?_ | refine t_ret ?_ | refine b_norm ?_ | refine b_exit ?_ | refine b_exit_ne rfl ?_ | refine b_ret ?_)) | ((first | ((first | apply ar_q | apply dr_q); exact qOp1) | ((first | apply ar_gu | apply dr_gu); exact rfl) | ((first | apply ar_gn | apply dr_gn); exact rfl; exact bdOk)); (first | refine ar_nrm (k := ?_) | refine dr_nrm (k := ?_))) | ((first | apply ar_gy | apply dr_gy); exact rfl; exact bdOk) | (first | (apply awp_cond_t; exact rfl; exact bdOk) | (apply awp_cond_f; exact rfl; exact bdOk)) | ((first | apply ar_gs | apply dr_gs | apply awp_cond); (focus (exact rfl)); (all_goals (intro hc; (try simp only [decide_eq_true_eq, decide_eq_false_iff_not, Bool.not_eq_true', Bool.not_eq_false', Bool.not_true, Bool.not_false, bne_iff_ne, bne_eq_false_iff_eq, beq_iff_eq, beq_eq_false_iff_ne, ne_eq, Bool.cond_true_left, Bool.cond_false_right, Bool.or_eq_true, Bool.and_eq_true] at hc)))) | fail))
    refine ⟨.inr rfl, aend_mk [] rfl (by simp) (by first | (simp; done) | (simp; omega)) (ares_tmp2 _ rfl ?_ ares_nil) rfl rfl⟩
    exact pb (by rw [fleet_yes fun j hj => h2 j (by omega), hlen]; exact decide_eq_decide.2 (by omega))
end Go.Proofs.YtdlebdgdcpemmaaGreatDoor
