/- Fractions on both sides; MinutesOnWay. -/
import Derived.Test.YtkdbkddlbahceaaWe
import Derived.Test.YtkdbkddlbahceaaEW



namespace Go.Proofs.Ytkdbkddlbahceaa
open Go.RowKit
set_option linter.unusedVariables false
set_option linter.unusedSimpArgs false
attribute [local irreducible] AR DR AWp QOp Qt ACalls ARes Exit.thenA Exit.inBlockA
attribute [local irreducible] AG0 AG AGs
theorem spec_l2Common (a b : Nat) (ha : a ≤ 9000000000000000000) (hb : b ≤ 9000000000000000000) : ACalls Try.prog 69 [.c (.p (.int .i64 a)), .c (.p (.int .i64 b))] [] (.c (.p (.int .i64 (Nat.gcd a b : Nat)))) [] 0 := by
  refine acalls_of (ws := [.c (.p (.int .i64 (Nat.gcd a b : Nat)))]) Try.func69 rfl rfl rfl rfl fun w0 B m hm0 => ?_; (refine awp_norm (τ := ?_) ?_ ?_; rotate_left; (focus (simp only [AV.top, Try.ntmps69, List.length_cons, List.length_nil, Nat.reduceAdd, Nat.reduceSub, List.replicate_succ, List.replicate_zero, List.cons_append, List.nil_append]; exact rfl)))
  (repeat' (first | (first | refine awp_seq ?_ | refine awp_region ?_ | refine awp_block ?_ | refine awp_exit ?_ | refine awp_ret ?_ | refine awp_skip ?_ | refine ar_nil ?_ | refine dr_nil ?_ | (refine awp_region_draw ?_ ?_ ?_; kernel_rfl; kernel_rfl) | (first | refine t_norm ?_ | refine t_exit ?_ | refine t_ret ?_ | refine b_norm ?_ | refine b_exit ?_ | refine b_exit_ne rfl ?_ | refine b_ret ?_)) | ((first | ((first | apply ar_q | apply dr_q); exact qOp1) | ((first | apply ar_gu | apply dr_gu); exact rfl) | ((first | apply ar_gn | apply dr_gn); exact rfl; exact bdOk)); (first | refine ar_nrm (k := ?_) | refine dr_nrm (k := ?_))) | ((first | apply ar_gy | apply dr_gy); exact rfl; exact bdOk) | (first | (apply awp_cond_t; exact rfl; exact bdOk) | (apply awp_cond_f; exact rfl; exact bdOk)) | ((first | apply ar_gs | apply dr_gs | apply awp_cond); (focus (exact rfl)); (all_goals (intro hc; (try simp only [decide_eq_true_eq, decide_eq_false_iff_not, Bool.not_eq_true', Bool.not_eq_false', Bool.not_true, Bool.not_false, bne_iff_ne, bne_eq_false_iff_eq, beq_iff_eq, beq_eq_false_iff_ne, ne_eq, Bool.cond_true_left, Bool.cond_false_right, Bool.or_eq_true, Bool.and_eq_true] at hc)))) | fail))
  refine awp_loopH [] (fun z : Nat × Nat => [(0, .c (.p (.int .i64 z.1))), (1, .c (.p (.int .i64 z.2)))]) (fun _ => []) (fun _ => 0) (fun q z => Nat.gcd z.1 z.2 = Nat.gcd a b ∧ z.1 ≤ 9000000000000000000 ∧ z.2 ≤ 9000000000000000000 ∧ q = z.2) _ (a, b) ⟨rfl, ha, hb, rfl⟩ ?_ ?_
  · refine le_nrm (k := ?_); refine le_mk hsLe ?_; (repeat (first | exact AVs.le.nil | (with_reducible refine AVs.le.top _ ?_) | (with_reducible refine AVs.le.eq _ ?_) | refine AVs.le.eqv ?_ ?_)) <;> first | exact rfl | exact pi (by omega)
  rintro y ⟨x, z⟩ ⟨g1, g2, g3, rfl⟩
  simp only at g1 g2 g3
  refine nh_nrm (k := ?_)
  by_cases hy : 0 < y
  · (repeat' (first | (first | refine awp_seq ?_ | refine awp_region ?_ | refine awp_block ?_ | refine awp_exit ?_ | refine awp_ret ?_ | refine awp_skip ?_ | refine ar_nil ?_ | refine dr_nil ?_ | (refine awp_region_draw ?_ ?_ ?_; kernel_rfl; kernel_rfl) | (first | refine t_norm ?_ | refine t_exit ?_ | refine t_ret ?_ | refine b_norm ?_ | refine b_exit ?_ | refine b_exit_ne rfl ?_ | refine b_ret ?_)) | ((first | ((first | apply ar_q | apply dr_q); exact qOp1) | ((first | apply ar_gu | apply dr_gu); exact rfl) | ((first | apply ar_gn | apply dr_gn); exact rfl; exact bdOk)); (first | refine ar_nrm (k := ?_) | refine dr_nrm (k := ?_))) | ((first | apply ar_gy | apply dr_gy); exact rfl; exact bdOk) | (first | (apply awp_cond_t; exact rfl; exact bdOk) | (apply awp_cond_f; exact rfl; exact bdOk)) | ((first | apply ar_gs | apply dr_gs | apply awp_cond); (focus (exact rfl)); (all_goals (intro hc; (try simp only [decide_eq_true_eq, decide_eq_false_iff_not, Bool.not_eq_true', Bool.not_eq_false', Bool.not_true, Bool.not_false, bne_iff_ne, bne_eq_false_iff_eq, beq_iff_eq, beq_eq_false_iff_ne, ne_eq, Bool.cond_true_left, Bool.cond_false_right, Bool.or_eq_true, Bool.and_eq_true] at hc)))) | fail))
    refine ⟨_, (y, x % y), ?_, ⟨?_, g3, Nat.le_trans (Nat.mod_le x y) g2, rfl⟩, ?_⟩
    · exact Nat.mod_lt x hy
    · show Nat.gcd y (x % y) = _
      rw [← g1, Nat.gcd_comm x y, Nat.gcd_rec y x, Nat.gcd_comm]
    · refine le_nrm (k := ?_); refine le_mk hsLe ?_; (repeat (first | exact AVs.le.nil | (with_reducible refine AVs.le.top _ ?_) | (with_reducible refine AVs.le.eq _ ?_) | refine AVs.le.eqv ?_ ?_)) <;> first | exact rfl | (refine pi ?_; simp; done) | exact pi (by omega)
  · (repeat' (first | (first | refine awp_seq ?_ | refine awp_region ?_ | refine awp_block ?_ | refine awp_exit ?_ | refine awp_ret ?_ | refine awp_skip ?_ | refine ar_nil ?_ | refine dr_nil ?_ | (refine awp_region_draw ?_ ?_ ?_; kernel_rfl; kernel_rfl) | (first | refine t_norm ?_ | refine t_exit ?_ | refine t_ret ?_ | refine b_norm ?_ | refine b_exit ?_ | refine b_exit_ne rfl ?_ | refine b_ret ?_)) | ((first | ((first | apply ar_q | apply dr_q); exact qOp1) | ((first | apply ar_gu | apply dr_gu); exact rfl) | ((first | apply ar_gn | apply dr_gn); exact rfl; exact bdOk)); (first | refine ar_nrm (k := ?_) | refine dr_nrm (k := ?_))) | ((first | apply ar_gy | apply dr_gy); exact rfl; exact bdOk) | (first | (apply awp_cond_t; exact rfl; exact bdOk) | (apply awp_cond_f; exact rfl; exact bdOk)) | ((first | apply ar_gs | apply dr_gs | apply awp_cond); (focus (exact rfl)); (all_goals (intro hc; (try simp only [decide_eq_true_eq, decide_eq_false_iff_not, Bool.not_eq_true', Bool.not_eq_false', Bool.not_true, Bool.not_false, bne_iff_ne, bne_eq_false_iff_eq, beq_iff_eq, beq_eq_false_iff_ne, ne_eq, Bool.cond_true_left, Bool.cond_false_right, Bool.or_eq_true, Bool.and_eq_true] at hc)))) | fail))
    refine ⟨.inr rfl, aend_mk [] rfl (by simp) (by first | (simp; done) | (simp; omega)) (ares_tmp2 _ rfl ?_ ares_nil) rfl rfl⟩
    have : y = 0 := by omega
    subst this
    exact pi (by rw [← g1]; simp)
theorem impl_absN (a : Nat) (ha : a ≤ 9000000000000000000) : ACalls Try.prog 86 [.c (.p (.int .i64 a))] [] (.c (.p (.int .i64 a))) [] 0 := by
  refine acalls_of (ws := [.c (.p (.int .i64 a))]) Try.func86 rfl rfl rfl rfl fun w0 B m hm0 => ?_; (refine awp_norm (τ := ?_) ?_ ?_; rotate_left; (focus (simp only [AV.top, Try.ntmps86, List.length_cons, List.length_nil, Nat.reduceAdd, Nat.reduceSub, List.replicate_succ, List.replicate_zero, List.cons_append, List.nil_append]; exact rfl)))
  (repeat' (first | (first | refine awp_seq ?_ | refine awp_region ?_ | refine awp_block ?_ | refine awp_exit ?_ | refine awp_ret ?_ | refine awp_skip ?_ | refine ar_nil ?_ | refine dr_nil ?_ | (refine awp_region_draw ?_ ?_ ?_; kernel_rfl; kernel_rfl) | (first | refine t_norm ?_ | refine t_exit ?_ | refine t_ret ?_ | refine b_norm ?_ | refine b_exit ?_ | refine b_exit_ne rfl ?_ | refine b_ret ?_)) | ((first | ((first | apply ar_q | apply dr_q); exact qOp1) | ((first | apply ar_gu | apply dr_gu); exact rfl) | ((first | apply ar_gn | apply dr_gn); exact rfl; exact bdOk)); (first | refine ar_nrm (k := ?_) | refine dr_nrm (k := ?_))) | ((first | apply ar_gy | apply dr_gy); exact rfl; exact bdOk) | (first | (apply awp_cond_t; exact rfl; exact bdOk) | (apply awp_cond_f; exact rfl; exact bdOk)) | ((first | apply ar_gs | apply dr_gs | apply awp_cond); (focus (exact rfl)); (all_goals (intro hc; (try simp only [decide_eq_true_eq, decide_eq_false_iff_not, Bool.not_eq_true', Bool.not_eq_false', Bool.not_true, Bool.not_false, bne_iff_ne, bne_eq_false_iff_eq, beq_iff_eq, beq_eq_false_iff_ne, ne_eq, Bool.cond_true_left, Bool.cond_false_right, Bool.or_eq_true, Bool.and_eq_true] at hc)))) | fail))
  refine ⟨.inr rfl, aend_mk [] rfl (by simp) (by first | (simp; done) | (simp; omega)) (ares_tmp2 _ rfl ?_ ares_nil) rfl rfl⟩
  exact pi (by omega)
theorem impl_gcdOf (a b : Nat) (ha : a ≤ 9000000000000000000) (hb : b ≤ 9000000000000000000) : ACalls Try.prog 84 [.c (.p (.int .i64 a)), .c (.p (.int .i64 b))] [] (.c (.p (.int .i64 (Nat.gcd a b : Nat)))) [] 0 := by
  refine acalls_of (ws := [.c (.p (.int .i64 (Nat.gcd a b : Nat)))]) Try.func84 rfl rfl rfl rfl fun w0 B m hm0 => ?_; (refine awp_norm (τ := ?_) ?_ ?_; rotate_left; (focus (simp only [AV.top, Try.ntmps84, List.length_cons, List.length_nil, Nat.reduceAdd, Nat.reduceSub, List.replicate_succ, List.replicate_zero, List.cons_append, List.nil_append]; exact rfl)))
  (repeat' (first | (first | refine awp_seq ?_ | refine awp_region ?_ | refine awp_block ?_ | refine awp_exit ?_ | refine awp_ret ?_ | refine awp_skip ?_ | refine ar_nil ?_ | refine dr_nil ?_ | (refine awp_region_draw ?_ ?_ ?_; kernel_rfl; kernel_rfl) | (first | refine t_norm ?_ | refine t_exit ?_ | refine t_ret ?_ | refine b_norm ?_ | refine b_exit ?_ | refine b_exit_ne rfl ?_ | refine b_ret ?_)) | ((first | ((first | apply ar_q | apply dr_q); exact qOp1) | ((first | apply ar_gu | apply dr_gu); exact rfl) | ((first | apply ar_gn | apply dr_gn); exact rfl; exact bdOk) | ((first | apply ar_qt | apply dr_qt); (focus (apply qt_call; kernel_rfl; exact (impl_absN _ ha); exact rfl))) | ((first | apply ar_qt | apply dr_qt); (focus (apply qt_call; kernel_rfl; exact (impl_absN _ hb); exact rfl)))); (first | refine ar_nrm (k := ?_) | refine dr_nrm (k := ?_))) | ((first | apply ar_gy | apply dr_gy); exact rfl; exact bdOk) | (first | (apply awp_cond_t; exact rfl; exact bdOk) | (apply awp_cond_f; exact rfl; exact bdOk)) | ((first | apply ar_gs | apply dr_gs | apply awp_cond); (focus (exact rfl)); (all_goals (intro hc; (try simp only [decide_eq_true_eq, decide_eq_false_iff_not, Bool.not_eq_true', Bool.not_eq_false', Bool.not_true, Bool.not_false, bne_iff_ne, bne_eq_false_iff_eq, beq_iff_eq, beq_eq_false_iff_ne, ne_eq, Bool.cond_true_left, Bool.cond_false_right, Bool.or_eq_true, Bool.and_eq_true] at hc)))) | fail))
  refine awp_loopH [] (fun z : Nat × Nat => [(0, .c (.p (.int .i64 z.1))), (1, .c (.p (.int .i64 z.2)))]) (fun _ => []) (fun _ => 0) (fun q z => Nat.gcd z.1 z.2 = Nat.gcd a b ∧ z.1 ≤ 9000000000000000000 ∧ z.2 ≤ 9000000000000000000 ∧ q = z.2) _ (a, b) ⟨rfl, ha, hb, rfl⟩ ?_ ?_
  · refine le_nrm (k := ?_); refine le_mk hsLe ?_; (repeat (first | exact AVs.le.nil | (with_reducible refine AVs.le.top _ ?_) | (with_reducible refine AVs.le.eq _ ?_) | refine AVs.le.eqv ?_ ?_)) <;> first | exact rfl | exact pi (by omega)
  rintro y ⟨x, z⟩ ⟨g1, g2, g3, rfl⟩
  simp only at g1 g2 g3
  refine nh_nrm (k := ?_)
  by_cases hy : 0 < y
  · have hyb : ((y : Int) != 0) = true := by simp; omega
    (repeat' (first | (first | refine awp_seq ?_ | refine awp_region ?_ | refine awp_block ?_ | refine awp_exit ?_ | refine awp_ret ?_ | refine awp_skip ?_ | refine ar_nil ?_ | refine dr_nil ?_ | (refine awp_region_draw ?_ ?_ ?_; kernel_rfl; kernel_rfl) | (first | refine t_norm ?_ | refine t_exit ?_ | refine t_ret ?_ | refine b_norm ?_ | refine b_exit ?_ | refine b_exit_ne rfl ?_ | refine b_ret ?_)) | ((first | ((first | apply ar_q | apply dr_q); exact qOp1) | ((first | apply ar_gu | apply dr_gu); exact rfl) | ((first | apply ar_gn | apply dr_gn); exact rfl; exact bdOk)); (first | refine ar_nrm (k := ?_) | refine dr_nrm (k := ?_))) | ((first | apply ar_gy | apply dr_gy); exact rfl; exact bdOk) | (first | (apply awp_cond_t; exact rfl; exact bdOk) | (apply awp_cond_f; exact rfl; exact bdOk)) | ((first | apply ar_gs | apply dr_gs | apply awp_cond); (focus (exact rfl)); (all_goals (intro hc; (try simp only [decide_eq_true_eq, decide_eq_false_iff_not, Bool.not_eq_true', Bool.not_eq_false', Bool.not_true, Bool.not_false, bne_iff_ne, bne_eq_false_iff_eq, beq_iff_eq, beq_eq_false_iff_ne, ne_eq, Bool.cond_true_left, Bool.cond_false_right, Bool.or_eq_true, Bool.and_eq_true] at hc)))) | fail))
    refine ⟨_, (y, x % y), ?_, ⟨?_, g3, Nat.le_trans (Nat.mod_le x y) g2, rfl⟩, ?_⟩
    · exact Nat.mod_lt x hy
    · show Nat.gcd y (x % y) = _
      rw [← g1, Nat.gcd_comm x y, Nat.gcd_rec y x, Nat.gcd_comm]
    · refine le_nrm (k := ?_); refine le_mk hsLe ?_; (repeat (first | exact AVs.le.nil | (with_reducible refine AVs.le.top _ ?_) | (with_reducible refine AVs.le.eq _ ?_) | refine AVs.le.eqv ?_ ?_)) <;> first | exact rfl | (refine pi ?_; simp; done) | exact pi (by omega)
  · have : y = 0 := by omega
    subst this
    have hyb : (((0 : Nat) : Int) != 0) = false := by simp
    (repeat' (first | (first | refine awp_seq ?_ | refine awp_region ?_ | refine awp_block ?_ | refine awp_exit ?_ | refine awp_ret ?_ | refine awp_skip ?_ | refine ar_nil ?_ | refine dr_nil ?_ | (refine awp_region_draw ?_ ?_ ?_; kernel_rfl; kernel_rfl) | (first | refine t_norm ?_ | refine t_exit ?_ | refine t_ret ?_ | refine b_norm ?_ | refine b_exit ?_ | refine b_exit_ne rfl ?_ | refine b_ret ?_)) | ((first | ((first | apply ar_q | apply dr_q); exact qOp1) | ((first | apply ar_gu | apply dr_gu); exact rfl) | ((first | apply ar_gn | apply dr_gn); exact rfl; exact bdOk)); (first | refine ar_nrm (k := ?_) | refine dr_nrm (k := ?_))) | ((first | apply ar_gy | apply dr_gy); exact rfl; exact bdOk) | (first | (apply awp_cond_t; exact rfl; exact bdOk) | (apply awp_cond_f; exact rfl; exact bdOk)) | ((first | apply ar_gs | apply dr_gs | apply awp_cond); (focus (exact rfl)); (all_goals (intro hc; (try simp only [decide_eq_true_eq, decide_eq_false_iff_not, Bool.not_eq_true', Bool.not_eq_false', Bool.not_true, Bool.not_false, bne_iff_ne, bne_eq_false_iff_eq, beq_iff_eq, beq_eq_false_iff_ne, ne_eq, Bool.cond_true_left, Bool.cond_false_right, Bool.or_eq_true, Bool.and_eq_true] at hc)))) | fail))
    refine ⟨.inr rfl, aend_mk [] rfl (by simp) (by first | (simp; done) | (simp; omega)) (ares_tmp2 _ rfl ?_ ares_nil) rfl rfl⟩
    exact pi (by rw [← g1]; simp)
def redA (a b : Nat) : Nat := a / Nat.gcd a b
def redB (a b : Nat) : Nat := b / Nat.gcd a b
theorem impl_lowestTerms (a b : Nat) (ha : a ≤ 9000000000000000000) (hb : b ≤ 9000000000000000000) (hb0 : 0 < b) : ACalls Try.prog 81 [.c (.p (.int .i64 a)), .c (.p (.int .i64 b))] [] (.tup [.c (.p (.int .i64 (redA a b))), .c (.p (.int .i64 (redB a b)))]) [] 0 := by
  have hg := Nat.gcd_pos_of_pos_right a hb0
  refine acalls_of (ws := [.c (.p (.int .i64 (redA a b))), .c (.p (.int .i64 (redB a b)))]) Try.func81 rfl rfl rfl rfl fun w0 B m hm0 => ?_; (refine awp_norm (τ := ?_) ?_ ?_; rotate_left; (focus (simp only [AV.top, Try.ntmps81, List.length_cons, List.length_nil, Nat.reduceAdd, Nat.reduceSub, List.replicate_succ, List.replicate_zero, List.cons_append, List.nil_append]; exact rfl)))
  (repeat' (first | (first | refine awp_seq ?_ | refine awp_region ?_ | refine awp_block ?_ | refine awp_exit ?_ | refine awp_ret ?_ | refine awp_skip ?_ | refine ar_nil ?_ | refine dr_nil ?_ | (refine awp_region_draw ?_ ?_ ?_; kernel_rfl; kernel_rfl) | (first | refine t_norm ?_ | refine t_exit ?_ | refine t_ret ?_ | refine b_norm ?_ | refine b_exit ?_ | refine b_exit_ne rfl ?_ | refine b_ret ?_)) | ((first | ((first | apply ar_q | apply dr_q); exact qOp1) | ((first | apply ar_gu | apply dr_gu); exact rfl) | ((first | apply ar_gn | apply dr_gn); exact rfl; exact bdOk) | ((first | apply ar_qt | apply dr_qt); (focus (apply qt_call; kernel_rfl; exact (impl_gcdOf a b ha hb); exact rfl)))); (first | refine ar_nrm (k := ?_) | refine dr_nrm (k := ?_))) | ((first | apply ar_gy | apply dr_gy); exact rfl; exact bdOk) | (first | (apply awp_cond_t; exact rfl; exact bdOk) | (apply awp_cond_f; exact rfl; exact bdOk)) | ((first | apply ar_gs | apply dr_gs | apply awp_cond); (focus (exact rfl)); (all_goals (intro hc; (try simp only [decide_eq_true_eq, decide_eq_false_iff_not, Bool.not_eq_true', Bool.not_eq_false', Bool.not_true, Bool.not_false, bne_iff_ne, bne_eq_false_iff_eq, beq_iff_eq, beq_eq_false_iff_ne, ne_eq, Bool.cond_true_left, Bool.cond_false_right, Bool.or_eq_true, Bool.and_eq_true] at hc)))) | fail))
  refine ⟨.inr rfl, aend_mk [] rfl (by simp) (by first | (simp; done) | (simp; omega)) (ares_tmp2 _ rfl ?_ (ares_tmp2 _ rfl ?_ ares_nil)) rfl rfl⟩
  · exact pi (by simp [redA])
  · exact pi (by simp [redB])
theorem impl_asPart (a b : Nat) (ha : a ≤ 9000000000000000000) (hb : b ≤ 9000000000000000000) (hb0 : 0 < b) : ACalls Try.prog 71 [.c (.p (.int .i64 a)), .c (.p (.int .i64 b))] [] (.agg [.p (.int .i64 (redA a b)), .p (.int .i64 (redB a b))]) [] 0 := by
  refine acalls_of (ws := [.agg [.p (.int .i64 (redA a b)), .p (.int .i64 (redB a b))]]) Try.func71 rfl rfl rfl rfl fun w0 B m hm0 => ?_; (refine awp_norm (τ := ?_) ?_ ?_; rotate_left; (focus (simp only [AV.top, Try.ntmps71, List.length_cons, List.length_nil, Nat.reduceAdd, Nat.reduceSub, List.replicate_succ, List.replicate_zero, List.cons_append, List.nil_append]; exact rfl)))
  (repeat' (first | (first | refine awp_seq ?_ | refine awp_region ?_ | refine awp_block ?_ | refine awp_exit ?_ | refine awp_ret ?_ | refine awp_skip ?_ | refine ar_nil ?_ | refine dr_nil ?_ | (refine awp_region_draw ?_ ?_ ?_; kernel_rfl; kernel_rfl) | (first | refine t_norm ?_ | refine t_exit ?_ | refine t_ret ?_ | refine b_norm ?_ | refine b_exit ?_ | refine b_exit_ne rfl ?_ | refine b_ret ?_)) | ((first | ((first | apply ar_q | apply dr_q); exact qOp1) | ((first | apply ar_gu | apply dr_gu); exact rfl) | ((first | apply ar_gn | apply dr_gn); exact rfl; exact bdOk) | (apply ar_alloc (ys := ([.int .i64 0, .int .i64 0] : List Value)); kernel_rfl) | (first | (apply ar_box; exact rfl) | (apply ar_store; exact rfl; exact rfl; exact rfl; (focus (first | decide | (simp; done) | exact Nat.le_refl _)); kernel_rfl; exact rfl)) | ((first | apply ar_q | apply dr_q); (focus (apply q_build (n := 2) (zs := ([.int .i64 0, .int .i64 0] : List Value)); kernel_rfl; kernel_rfl; exact rfl; exact rfl))) | ((first | apply ar_qt | apply dr_qt); (focus (apply qt_call; kernel_rfl; exact (impl_lowestTerms a b ha hb hb0); exact rfl)))); (first | refine ar_nrm (k := ?_) | refine dr_nrm (k := ?_))) | ((first | apply ar_gy | apply dr_gy); exact rfl; exact bdOk) | (first | (apply awp_cond_t; exact rfl; exact bdOk) | (apply awp_cond_f; exact rfl; exact bdOk)) | ((first | apply ar_gs | apply dr_gs | apply awp_cond); (focus (exact rfl)); (all_goals (intro hc; (try simp only [decide_eq_true_eq, decide_eq_false_iff_not, Bool.not_eq_true', Bool.not_eq_false', Bool.not_true, Bool.not_false, bne_iff_ne, bne_eq_false_iff_eq, beq_iff_eq, beq_eq_false_iff_ne, ne_eq, Bool.cond_true_left, Bool.cond_false_right, Bool.or_eq_true, Bool.and_eq_true] at hc)))) | fail))
  refine ⟨.inr rfl, aend_mk [] rfl (by simp) (by simp) (ares_cell_a rfl rfl rfl (by kernel_rfl) ares_nil) rfl rfl⟩
theorem impl_plus (a b c d : Nat) (h1 : a * d ≤ 1000000000000000000) (h2 : c * b ≤ 1000000000000000000) (h3 : b * d ≤ 1000000000000000000) (h4 : 0 < b * d) : ACalls Try.prog 70 [.agg [.p (.int .i64 a), .p (.int .i64 b)], .agg [.p (.int .i64 c), .p (.int .i64 d)]] [] (.agg [.p (.int .i64 (redA (a * d + c * b) (b * d))), .p (.int .i64 (redB (a * d + c * b) (b * d)))]) [] 0 := by
  have hc := impl_asPart (a * d + c * b) (b * d) (by omega) (by omega) h4
  rw [show ((a * d + c * b : Nat) : Int) = (a : Int) * d + c * b by push_cast; rfl, show ((b * d : Nat) : Int) = (b : Int) * d by push_cast; rfl] at hc
  have e1 : ((a * d : Nat) : Int) = (a : Int) * d := by push_cast; rfl
  have e2 : ((c * b : Nat) : Int) = (c : Int) * b := by push_cast; rfl
  have e3 : ((b * d : Nat) : Int) = (b : Int) * d := by push_cast; rfl
  refine acalls_of (ws := [.agg [.p (.int .i64 (redA (a * d + c * b) (b * d))), .p (.int .i64 (redB (a * d + c * b) (b * d)))]]) Try.func70 rfl rfl rfl rfl fun w0 B m hm0 => ?_; (refine awp_norm (τ := ?_) ?_ ?_; rotate_left; (focus (simp only [AV.top, Try.ntmps70, List.length_cons, List.length_nil, Nat.reduceAdd, Nat.reduceSub, List.replicate_succ, List.replicate_zero, List.cons_append, List.nil_append]; exact rfl)))
  (repeat' (first | (first | refine awp_seq ?_ | refine awp_region ?_ | refine awp_block ?_ | refine awp_exit ?_ | refine awp_ret ?_ | refine awp_skip ?_ | refine ar_nil ?_ | refine dr_nil ?_ | (refine awp_region_draw ?_ ?_ ?_; kernel_rfl; kernel_rfl) | (first | refine t_norm ?_ | refine t_exit ?_ | refine t_ret ?_ | refine b_norm ?_ | refine b_exit ?_ | refine b_exit_ne rfl ?_ | refine b_ret ?_)) | ((first | ((first | apply ar_q | apply dr_q); exact qOp1) | ((first | apply ar_gu | apply dr_gu); exact rfl) | ((first | apply ar_gn | apply dr_gn); exact rfl; exact bdOk) | (apply ar_alloc (ys := ([.int .i64 0, .int .i64 0] : List Value)); kernel_rfl) | (first | (apply ar_box; exact rfl) | (apply ar_store; exact rfl; exact rfl; exact rfl; (focus (first | decide | (simp; done) | exact Nat.le_refl _)); kernel_rfl; exact rfl)) | ((first | apply ar_qt | apply dr_qt); (focus (apply qt_call; kernel_rfl; exact (hc); exact rfl)))); (first | refine ar_nrm (k := ?_) | refine dr_nrm (k := ?_))) | ((first | apply ar_gy | apply dr_gy); exact rfl; exact bdOk) | (first | (apply awp_cond_t; exact rfl; exact bdOk) | (apply awp_cond_f; exact rfl; exact bdOk)) | ((first | apply ar_gs | apply dr_gs | apply awp_cond); (focus (exact rfl)); (all_goals (intro hc; (try simp only [decide_eq_true_eq, decide_eq_false_iff_not, Bool.not_eq_true', Bool.not_eq_false', Bool.not_true, Bool.not_false, bne_iff_ne, bne_eq_false_iff_eq, beq_iff_eq, beq_eq_false_iff_ne, ne_eq, Bool.cond_true_left, Bool.cond_false_right, Bool.or_eq_true, Bool.and_eq_true] at hc)))) | fail))
  refine ⟨.inr rfl, aend_mk [] rfl (by simp) (by simp) (ares_cell_a rfl rfl rfl (by kernel_rfl) ares_nil) rfl rfl⟩
/-! ### The plain law of the fractions -/
theorem red_mul (g a b : Nat) (hg : 0 < g) : redA (g * a) (g * b) = redA a b ∧ redB (g * a) (g * b) = redB a b := by
  unfold redA redB
  rw [Nat.gcd_mul_left, Nat.mul_div_mul_left _ _ hg, Nat.mul_div_mul_left _ _ hg]
  exact ⟨rfl, rfl⟩
theorem red_cop {a b : Nat} (h : Nat.gcd a b = 1) : redA a b = a ∧ redB a b = b := by unfold redA redB; rw [h]; simp
theorem red_gcd (a b : Nat) (hb : 0 < b) : Nat.gcd (redA a b) (redB a b) = 1 := by
  unfold redA redB
  rw [Nat.gcd_div (Nat.gcd_dvd_left _ _) (Nat.gcd_dvd_right _ _), Nat.div_self (Nat.gcd_pos_of_pos_right a hb)]
theorem red_pos (a b : Nat) (hb : 0 < b) : 0 < redB a b := Nat.div_pos (Nat.le_of_dvd hb (Nat.gcd_dvd_right a b)) (Nat.gcd_pos_of_pos_right a hb)
theorem redB_le (a b : Nat) : redB a b ≤ b := Nat.div_le_self _ _
theorem redA_le {a b c : Nat} (h : a ≤ c * b) : redA a b ≤ c * redB a b := by
  unfold redA redB
  rw [← Nat.mul_div_assoc c (Nat.gcd_dvd_right a b)]
  exact Nat.div_le_div_right h
/-- One reach more: p kilometres at the speed v. -/
def stepA (a b p v : Nat) : Nat := redA (a * v + 60 * p * b) (b * v)
def stepB (a b p v : Nat) : Nat := redB (a * v + 60 * p * b) (b * v)
/-- .. as the program reckons it. -/
theorem step_plus (a b p v : Nat) (hv : 0 < v) : redA (a * redB (60 * p) v + redA (60 * p) v * b) (b * redB (60 * p) v) = stepA a b p v ∧ redB (a * redB (60 * p) v + redA (60 * p) v * b) (b * redB (60 * p) v) = stepB a b p v := by
  have hg := Nat.gcd_pos_of_pos_right (60 * p) hv
  have e1 : Nat.gcd (60 * p) v * redB (60 * p) v = v := Nat.mul_div_cancel' (Nat.gcd_dvd_right _ _)
  have e2 : Nat.gcd (60 * p) v * redA (60 * p) v = 60 * p := Nat.mul_div_cancel' (Nat.gcd_dvd_left _ _)
  have h := red_mul (Nat.gcd (60 * p) v) (a * redB (60 * p) v + redA (60 * p) v * b) (b * redB (60 * p) v) hg
  have e3 : Nat.gcd (60 * p) v * (a * redB (60 * p) v + redA (60 * p) v * b) = a * v + 60 * p * b := by
    rw [Nat.mul_add, Nat.mul_left_comm, e1, ← Nat.mul_assoc, e2]
  have e4 : Nat.gcd (60 * p) v * (b * redB (60 * p) v) = b * v := by rw [Nat.mul_left_comm, e1]
  rw [e3, e4] at h
  exact ⟨h.1.symm, h.2.symm⟩
theorem step_zero {a b v : Nat} (hv : 0 < v) (h : Nat.gcd a b = 1) : stepA a b 0 v = a ∧ stepB a b 0 v = b := by
  unfold stepA stepB
  rw [Nat.mul_zero, Nat.zero_mul, Nat.add_zero, Nat.mul_comm a v, Nat.mul_comm b v]
  have h1 := red_mul v a b hv
  have h2 := red_cop h
  exact ⟨h1.1.trans h2.1, h1.2.trans h2.2⟩
/-- A fraction behind i reaches. -/
structure FrOk (i a b : Nat) : Prop where
  pos : 0 < b
  cop : Nat.gcd a b = 1
  den : b ≤ 20 ^ i
  num : a ≤ 6000 * i * b
theorem FrOk.zero : FrOk 0 0 1 := ⟨by decide, by decide, by decide, by decide⟩
theorem FrOk.step {i a b p v : Nat} (h : FrOk i a b) (hp : p ≤ 100) (hv : 0 < v) (hv2 : v ≤ 20) : FrOk (i + 1) (stepA a b p v) (stepB a b p v) := by
  have hbv : 0 < b * v := Nat.mul_pos h.pos hv
  refine ⟨red_pos _ _ hbv, red_gcd _ _ hbv, Nat.le_trans (redB_le _ _) ?_, redA_le ?_⟩
  · rw [Nat.pow_succ]; exact Nat.mul_le_mul h.den hv2
  · have h1 : a * v ≤ 6000 * i * b * v := Nat.mul_le_mul_right v h.num
    have h2 : 60 * p * b ≤ 6000 * b := Nat.mul_le_mul_right b (by omega)
    have h3 : 6000 * b ≤ 6000 * b * v := Nat.le_mul_of_pos_right _ hv
    have e : 6000 * (i + 1) * (b * v) = 6000 * i * b * v + 6000 * b * v := by
      rw [Nat.mul_add, Nat.mul_one, Nat.add_mul, Nat.mul_assoc (6000 * i) b v, Nat.mul_assoc 6000 b v]
    omega
end Go.Proofs.Ytkdbkddlbahceaa
