/- Waterways compared in the laws; what is split is joined again, plain. -/
import Derived.Test.YtkdbkddlbahceaaDoorWj
import Derived.Test.YtkdbkddlbahceaaDoorWc
import Derived.Test.YtkdbkddlbahceaaDoorEE
namespace Go.Proofs.YtkdbkddlbahceaaDoor
open Go.RowKit
set_option linter.unusedVariables false
set_option linter.unusedSimpArgs false
/-! ### Split and joined -/
theorem cut_way {x : Way_} (hw : wayF x = true) {n : Nat} (hn : n < x.is.length) : wayF (cutA x n) = true ∧ wayF (cutB x n) = true := by
  obtain ⟨h1, h2, h3, h4⟩ := wayF_iff.1 hw
  constructor
  · refine wayF_iff.2 ⟨?_, ?_, fun j hj => ?_, fun j hj => ?_⟩
    · simp [cutA]; omega
    · simp [cutA]; omega
    · simp only [cutA, List.getElem_take]; exact h3 _ _
    · simp only [cutA, List.getElem_take]; exact h4 _ _
  · refine wayF_iff.2 ⟨?_, ?_, fun j hj => ?_, fun j hj => ?_⟩
    · simp [cutB]; omega
    · simp [cutB]; omega
    · simp only [cutB, List.getElem_drop]; exact h3 _ _
    · simp only [cutB, List.getElem_drop]; exact h4 _ _
theorem cut_join {x : Way_} {n : Nat} (hn : n < x.is.length) : joinW (cutA x n) (cutB x n) x.is[n] = x := by
  unfold joinW cutA cutB
  rw [List.take_append_drop]
  have : x.is.take n ++ [x.is[n]] ++ x.is.drop (n + 1) = x.is := by
    rw [← List.take_succ_eq_append_getElem hn, List.take_append_drop]
  rw [this]
theorem cut_joinR {x : Way_} (hw : wayF x = true) {n : Nat} (hn : n < x.is.length) : joinR (cutA x n) (cutB x n) x.is[n] = some x := by
  obtain ⟨h1, h2⟩ := cut_way hw hn
  have h3 := cut_join hn
  rw [joinR_y h1 h2 (by rw [h3]; exact hw), h3]
theorem sumI_app : ∀ (l m : List Int), sumI (l ++ m) = sumI l + sumI m
  | [], m => by simp [sumI]
  | x :: l, m => by simp only [List.cons_append, sumI, sumI_app l m]; omega
theorem cut_total (x : Way_) (n : Nat) : totalF (cutA x n) + totalF (cutB x n) = totalF x := by
  unfold totalF cutA cutB
  rw [← sumI_app, ← List.map_append, List.take_append_drop]
theorem joinR_some {x y z : Way_} {k : Int} (h : joinR x y k = some z) : wayF z = true := by
  unfold joinR at h
  split at h
  · rename_i h2; injection h with h; subst h; exact h2.2.2
  · cases h
attribute [local irreducible] AR DR AWp QOp Qt ACalls ARes Exit.thenA Exit.inBlockA
attribute [local irreducible] AG0 AG AGs
theorem law_vBig (l : List Int) (hl : l.length ≤ 9223372036854775807) (b : Bool) (hb : decide (65536 < l.length) = b) : ACalls Tryd.prog 15 [.c (.sl 5 .ro (l.map fun x => [Value.int .u8 x]))] [] (.c (.p (.bool (b)))) [] 0 := by
  refine acalls_of (ws := [.c (.p (.bool (b)))]) Tryd.func15 rfl rfl rfl rfl fun w0 B m hm0 => ?_; (refine awp_norm (τ := ?_) ?_ ?_; rotate_left; (focus (simp only [AV.top, Tryd.ntmps15, List.length_cons, List.length_nil, Nat.reduceAdd, Nat.reduceSub, List.replicate_succ, List.replicate_zero, List.cons_append, List.nil_append]; exact rfl)))
  (repeat (first | (first | refine awp_seq ?_ | refine awp_region ?_ | refine awp_block ?_ | refine awp_exit ?_ | refine awp_ret ?_ | refine awp_skip ?_ | refine ar_nil ?_ | refine dr_nil ?_ | (refine awp_region_draw ?_ ?_ ?_; kernel_rfl; kernel_rfl) | (first | refine t_norm ?_ | refine t_exit ?_ | refine t_ret ?_ | refine b_norm ?_ | refine b_exit ?_ | refine b_exit_ne rfl ?_ | refine b_ret ?_)) | ((first | ((first | apply ar_q | apply dr_q); exact qOp1) | ((first | apply ar_gu | apply dr_gu); exact rfl) | ((first | apply ar_gn | apply dr_gn); exact rfl; exact bdOk)); (first | refine ar_nrm (k := ?_) | refine dr_nrm (k := ?_))) | ((first | apply ar_gy | apply dr_gy); exact rfl; exact bdOk) | (first | (apply awp_cond_t; exact rfl; exact bdOk) | (apply awp_cond_f; exact rfl; exact bdOk)) | fail))
  refine ⟨.inr rfl, aend_mk [] rfl (by simp) (by first | (simp; done) | (simp; omega)) (ares_tmp2 _ rfl ?_ ares_nil) rfl rfl⟩
  exact pb (by rw [← hb]; simp; try omega)
theorem law_vInts (l : List Int) (hl : l.length ≤ 1048576) : ACalls Tryd.prog 46 [.c (.sl 3 .ro (its l)), .c (.sl 3 .ro (its l))] [] (.c (.p (.bool (true)))) [] 0 := by
  have hlen : (its l).length = l.length := by simp [its]
  refine acalls_of (ws := [.c (.p (.bool (true)))]) Tryd.func46 rfl rfl rfl rfl fun w0 B m hm0 => ?_; (refine awp_norm (τ := ?_) ?_ ?_; rotate_left; (focus (simp only [AV.top, Tryd.ntmps46, List.length_cons, List.length_nil, Nat.reduceAdd, Nat.reduceSub, List.replicate_succ, List.replicate_zero, List.cons_append, List.nil_append]; exact rfl)))
  (repeat (first | (first | refine awp_seq ?_ | refine awp_region ?_ | refine awp_block ?_ | refine awp_exit ?_ | refine awp_ret ?_ | refine awp_skip ?_ | refine ar_nil ?_ | refine dr_nil ?_ | (refine awp_region_draw ?_ ?_ ?_; kernel_rfl; kernel_rfl) | (first | refine t_norm ?_ | refine t_exit ?_ | refine t_ret ?_ | refine b_norm ?_ | refine b_exit ?_ | refine b_exit_ne rfl ?_ | refine b_ret ?_)) | ((first | ((first | apply ar_q | apply dr_q); exact qOp1) | ((first | apply ar_gu | apply dr_gu); exact rfl) | ((first | apply ar_gn | apply dr_gn); exact rfl; exact bdOk)); (first | refine ar_nrm (k := ?_) | refine dr_nrm (k := ?_))) | ((first | apply ar_gy | apply dr_gy); exact rfl; exact bdOk) | (first | (apply awp_cond_t; exact rfl; exact bdOk) | (apply awp_cond_f; exact rfl; exact bdOk)) | fail))
  refine awp_loopH [0, 1] (fun i : Nat => [(5, .c (.p (.int .i64 (i))))]) (fun _ => []) (fun _ => 0) (fun n i => i ≤ l.length ∧ n = l.length - i) _ 0 ⟨by omega, rfl⟩ ?_ ?_
  · refine le_nrm (k := ?_); refine le_mk hsLe ?_; (repeat (first | exact AVs.le.nil | (with_reducible refine AVs.le.top _ ?_) | (with_reducible refine AVs.le.eq _ ?_) | refine AVs.le.eqv ?_ ?_)) <;> first | exact rfl | exact pi (by omega)
  rintro n i ⟨h1, rfl⟩
  refine nh_nrm (k := ?_)
  by_cases hi : i < l.length
  · have e1 : (its l)[(i : Int).toNat]? = some [Value.int .i64 l[i]] := its_at hi
    (repeat' (first | (first | refine awp_seq ?_ | refine awp_region ?_ | refine awp_block ?_ | refine awp_exit ?_ | refine awp_ret ?_ | refine awp_skip ?_ | refine ar_nil ?_ | refine dr_nil ?_ | (refine awp_region_draw ?_ ?_ ?_; kernel_rfl; kernel_rfl) | (first | refine t_norm ?_ | refine t_exit ?_ | refine t_ret ?_ | refine b_norm ?_ | refine b_exit ?_ | refine b_exit_ne rfl ?_ | refine b_ret ?_)) | ((first | ((first | apply ar_q | apply dr_q); exact qOp1) | ((first | apply ar_gu | apply dr_gu); exact rfl) | ((first | apply ar_gn | apply dr_gn); exact rfl; exact bdOk)); (first | refine ar_nrm (k := ?_) | refine dr_nrm (k := ?_))) | ((first | apply ar_gy | apply dr_gy); exact rfl; exact bdOk) | (first | (apply awp_cond_t; exact rfl; exact bdOk) | (apply awp_cond_f; exact rfl; exact bdOk)) | ((first | apply ar_gs | apply dr_gs | apply awp_cond); (focus (exact rfl)); (all_goals (intro hc; (try simp only [decide_eq_true_eq, decide_eq_false_iff_not, Bool.not_eq_true', Bool.not_eq_false', Bool.not_true, Bool.not_false, bne_iff_ne, bne_eq_false_iff_eq, beq_iff_eq, beq_eq_false_iff_ne, ne_eq, Bool.cond_true_left, Bool.cond_false_right, Bool.or_eq_true, Bool.and_eq_true] at hc)))) | fail))
    refine ⟨_, i + 1, ?_, ⟨by omega, rfl⟩, ?_⟩
    · omega
    · refine le_nrm (k := ?_); refine le_mk hsLe ?_; (repeat (first | exact AVs.le.nil | (with_reducible refine AVs.le.top _ ?_) | (with_reducible refine AVs.le.eq _ ?_) | refine AVs.le.eqv ?_ ?_)) <;> first | exact rfl | exact pi (by omega)
  · (repeat' (first | (first | refine awp_seq ?_ | refine awp_region ?_ | refine awp_block ?_ | refine awp_exit ?_ | refine awp_ret ?_ | refine awp_skip ?_ | refine ar_nil ?_ | refine dr_nil ?_ | (refine awp_region_draw ?_ ?_ ?_; kernel_rfl; kernel_rfl) | (first | refine t_norm ?_ | refine t_exit ?_ | refine t_ret ?_ | refine b_norm ?_ | refine b_exit ?_ | refine b_exit_ne rfl ?_ | refine b_ret ?_)) | ((first | ((first | apply ar_q | apply dr_q); exact qOp1) | ((first | apply ar_gu | apply dr_gu); exact rfl) | ((first | apply ar_gn | apply dr_gn); exact rfl; exact bdOk)); (first | refine ar_nrm (k := ?_) | refine dr_nrm (k := ?_))) | ((first | apply ar_gy | apply dr_gy); exact rfl; exact bdOk) | (first | (apply awp_cond_t; exact rfl; exact bdOk) | (apply awp_cond_f; exact rfl; exact bdOk)) | ((first | apply ar_gs | apply dr_gs | apply awp_cond); (focus (exact rfl)); (all_goals (intro hc; (try simp only [decide_eq_true_eq, decide_eq_false_iff_not, Bool.not_eq_true', Bool.not_eq_false', Bool.not_true, Bool.not_false, bne_iff_ne, bne_eq_false_iff_eq, beq_iff_eq, beq_eq_false_iff_ne, ne_eq, Bool.cond_true_left, Bool.cond_false_right, Bool.or_eq_true, Bool.and_eq_true] at hc)))) | fail))
    refine ⟨.inr rfl, aend_mk [] rfl (by simp) (by first | (simp; done) | (simp; omega)) (ares_tmp2 _ rfl ?_ ares_nil) rfl rfl⟩
    exact rfl
theorem law_vWay (x : Way_) (hx : fits x 1048576) : ACalls Tryd.prog 18 [.agg [.sl 65 .ro (reachs (x).rs), .sl 3 .ro (its (x).is)], .agg [.sl 65 .ro (reachs (x).rs), .sl 3 .ro (its (x).is)]] [] (.c (.p (.bool (true)))) [] 0 := by
  unfold fits at hx
  have hlen : (reachs x.rs).length = x.rs.length := by simp [reachs]
  refine acalls_of (ws := [.c (.p (.bool (true)))]) Tryd.func18 rfl rfl rfl rfl fun w0 B m hm0 => ?_; (refine awp_norm (τ := ?_) ?_ ?_; rotate_left; (focus (simp only [AV.top, Tryd.ntmps18, List.length_cons, List.length_nil, Nat.reduceAdd, Nat.reduceSub, List.replicate_succ, List.replicate_zero, List.cons_append, List.nil_append]; exact rfl)))
  (repeat' (first | (first | refine awp_seq ?_ | refine awp_region ?_ | refine awp_block ?_ | refine awp_exit ?_ | refine awp_ret ?_ | refine awp_skip ?_ | refine ar_nil ?_ | refine dr_nil ?_ | (refine awp_region_draw ?_ ?_ ?_; kernel_rfl; kernel_rfl) | (first | refine t_norm ?_ | refine t_exit ?_ | refine t_ret ?_ | refine b_norm ?_ | refine b_exit ?_ | refine b_exit_ne rfl ?_ | refine b_ret ?_)) | ((first | ((first | apply ar_q | apply dr_q); exact qOp1) | ((first | apply ar_gu | apply dr_gu); exact rfl) | ((first | apply ar_gn | apply dr_gn); exact rfl; exact bdOk) | (first | (apply ar_box; exact rfl) | (apply ar_store; exact rfl; exact rfl; exact rfl; (focus (first | decide | (simp; done) | exact Nat.le_refl _)); kernel_rfl; exact rfl)) | ((first | apply ar_qt | apply dr_qt); (focus (apply qt_call; kernel_rfl; exact (law_vInts x.is (by omega)); exact rfl)))); (first | refine ar_nrm (k := ?_) | refine dr_nrm (k := ?_))) | ((first | apply ar_gy | apply dr_gy); exact rfl; exact bdOk) | (first | (apply awp_cond_t; exact rfl; exact bdOk) | (apply awp_cond_f; exact rfl; exact bdOk)) | ((first | apply ar_gs | apply dr_gs | apply awp_cond); (focus (exact rfl)); (all_goals (intro hc; (try simp only [decide_eq_true_eq, decide_eq_false_iff_not, Bool.not_eq_true', Bool.not_eq_false', Bool.not_true, Bool.not_false, bne_iff_ne, bne_eq_false_iff_eq, beq_iff_eq, beq_eq_false_iff_ne, ne_eq, Bool.cond_true_left, Bool.cond_false_right, Bool.or_eq_true, Bool.and_eq_true] at hc)))) | fail))
  refine awp_loopH [2, 3] (fun i : Nat => [(5, .c (.p (.int .i64 (i))))]) (fun _ => [[.sl 65 .ro (reachs (x).rs), .sl 3 .ro (its (x).is)]] ++ [[.sl 65 .ro (reachs (x).rs), .sl 3 .ro (its (x).is)]]) (fun _ => 0) (fun n i => i ≤ x.rs.length ∧ n = x.rs.length - i) _ 0 ⟨by omega, rfl⟩ ?_ ?_
  · refine le_nrm (k := ?_); refine le_mk hsLe ?_; (repeat (first | exact AVs.le.nil | (with_reducible refine AVs.le.top _ ?_) | (with_reducible refine AVs.le.eq _ ?_) | refine AVs.le.eqv ?_ ?_)) <;> first | exact rfl | exact pi (by omega)
  rintro n i ⟨h1, rfl⟩
  refine nh_nrm (k := ?_)
  simp only [List.cons_append, List.nil_append]
  by_cases hi : i < x.rs.length
  · have e1 : (reachs x.rs)[(i : Int).toNat]? = some ([.int .i64 (x.rs[i]).ln, .int .i64 (x.rs[i]).dp, .int .i64 (x.rs[i]).sp] : List Value) := reachs_at hi
    (repeat' (first | (first | refine awp_seq ?_ | refine awp_region ?_ | refine awp_block ?_ | refine awp_exit ?_ | refine awp_ret ?_ | refine awp_skip ?_ | refine ar_nil ?_ | refine dr_nil ?_ | (refine awp_region_draw ?_ ?_ ?_; kernel_rfl; kernel_rfl) | (first | refine t_norm ?_ | refine t_exit ?_ | refine t_ret ?_ | refine b_norm ?_ | refine b_exit ?_ | refine b_exit_ne rfl ?_ | refine b_ret ?_)) | ((first | ((first | apply ar_q | apply dr_q); exact qOp1) | ((first | apply ar_gu | apply dr_gu); exact rfl) | ((first | apply ar_gn | apply dr_gn); exact rfl; exact bdOk) | ((first | apply ar_q | apply dr_q); (focus (apply q_neq_same; exact rfl; exact rfl; exact rfl; kernel_rfl)))); (first | refine ar_nrm (k := ?_) | refine dr_nrm (k := ?_))) | ((first | apply ar_gy | apply dr_gy); exact rfl; exact bdOk) | (first | (apply awp_cond_t; exact rfl; exact bdOk) | (apply awp_cond_f; exact rfl; exact bdOk)) | ((first | apply ar_gs | apply dr_gs | apply awp_cond); (focus (exact rfl)); (all_goals (intro hc; (try simp only [decide_eq_true_eq, decide_eq_false_iff_not, Bool.not_eq_true', Bool.not_eq_false', Bool.not_true, Bool.not_false, bne_iff_ne, bne_eq_false_iff_eq, beq_iff_eq, beq_eq_false_iff_ne, ne_eq, Bool.cond_true_left, Bool.cond_false_right, Bool.or_eq_true, Bool.and_eq_true] at hc)))) | fail))
    refine ⟨_, i + 1, ?_, ⟨by omega, rfl⟩, ?_⟩
    · omega
    · refine le_nrm (k := ?_); refine le_mk hsLe ?_; (repeat (first | exact AVs.le.nil | (with_reducible refine AVs.le.top _ ?_) | (with_reducible refine AVs.le.eq _ ?_) | refine AVs.le.eqv ?_ ?_)) <;> first | exact rfl | exact pi (by omega)
  · (repeat' (first | (first | refine awp_seq ?_ | refine awp_region ?_ | refine awp_block ?_ | refine awp_exit ?_ | refine awp_ret ?_ | refine awp_skip ?_ | refine ar_nil ?_ | refine dr_nil ?_ | (refine awp_region_draw ?_ ?_ ?_; kernel_rfl; kernel_rfl) | (first | refine t_norm ?_ | refine t_exit ?_ | refine t_ret ?_ | refine b_norm ?_ | refine b_exit ?_ | refine b_exit_ne rfl ?_ | refine b_ret ?_)) | ((first | ((first | apply ar_q | apply dr_q); exact qOp1) | ((first | apply ar_gu | apply dr_gu); exact rfl) | ((first | apply ar_gn | apply dr_gn); exact rfl; exact bdOk)); (first | refine ar_nrm (k := ?_) | refine dr_nrm (k := ?_))) | ((first | apply ar_gy | apply dr_gy); exact rfl; exact bdOk) | (first | (apply awp_cond_t; exact rfl; exact bdOk) | (apply awp_cond_f; exact rfl; exact bdOk)) | ((first | apply ar_gs | apply dr_gs | apply awp_cond); (focus (exact rfl)); (all_goals (intro hc; (try simp only [decide_eq_true_eq, decide_eq_false_iff_not, Bool.not_eq_true', Bool.not_eq_false', Bool.not_true, Bool.not_false, bne_iff_ne, bne_eq_false_iff_eq, beq_iff_eq, beq_eq_false_iff_ne, ne_eq, Bool.cond_true_left, Bool.cond_false_right, Bool.or_eq_true, Bool.and_eq_true] at hc)))) | fail))
    refine ⟨.inr rfl, aend_mk [] rfl (by simp) (by first | (simp; done) | (simp; omega)) (ares_tmp2 _ rfl ?_ ares_nil) rfl rfl⟩
    exact rfl
theorem law_vWay_nil : ACalls Tryd.prog 18 [.agg [.nl, .nl], .agg [.nl, .nl]] [] (.c (.p (.bool (true)))) [] 0 :=
  (law_vWay ⟨[], []⟩ (by simp [fits])).nls0.nls1
end Go.Proofs.YtkdbkddlbahceaaDoor
