/- Levels, lengths, places of waterways on both sides. -/
import Derived.Test.YtkdbkddlbahceaaDoorWb
import Derived.Test.YtkdbkddlbahceaaDoorEE
namespace Go.Proofs.YtkdbkddlbahceaaDoor
open Go.RowKit
set_option linter.unusedVariables false
set_option linter.unusedSimpArgs false
attribute [local irreducible] AR DR AWp QOp Qt ACalls ARes Exit.thenA Exit.inBlockA
attribute [local irreducible] AG0 AG AGs
def sumI : List Int → Int
  | [] => 0
  | x :: l => x + sumI l
theorem sumI_snoc : ∀ (l : List Int) (x : Int), sumI (l ++ [x]) = sumI l + x
  | [], x => by simp [sumI]
  | y :: l, x => by simp only [List.cons_append, sumI, sumI_snoc l x]; omega
theorem sumI_bd {b : Int} : ∀ {l : List Int}, (∀ y ∈ l, -b ≤ y ∧ y ≤ b) → -(b * l.length) ≤ sumI l ∧ sumI l ≤ b * l.length
  | [], _ => by simp [sumI]
  | y :: l, h => by
    have h1 := h y (by simp)
    have h2 := sumI_bd (l := l) fun z hz => h z (by simp [hz])
    simp only [sumI, List.length_cons, Int.natCast_add, Int.mul_add]
    omega
theorem sumI_pos : ∀ {l : List Int}, (∀ y ∈ l, 0 ≤ y) → 0 ≤ sumI l
  | [], _ => by simp [sumI]
  | y :: l, h => by
    have h1 := h y (by simp)
    have h2 := sumI_pos (l := l) fun z hz => h z (by simp [hz])
    simp only [sumI]; omega
theorem sumI_take {l : List Int} {i : Nat} (hi : i < l.length) : sumI (l.take (i + 1)) = sumI (l.take i) + l[i] := by rw [List.take_succ_eq_append_getElem hi, sumI_snoc]
theorem take_bd {b : Int} {l : List Int} (h : ∀ y ∈ l, -b ≤ y ∧ y ≤ b) (i : Nat) : -(b * (l.take i).length) ≤ sumI (l.take i) ∧ sumI (l.take i) ≤ b * (l.take i).length := sumI_bd fun y hy => h y (List.mem_of_mem_take hy)
/-! ### LevelOf -/
def reachOk (x : Way_) (i : Int) : Bool := wayF x && inB i 0 ((x.rs.length : Int) - 1)
theorem way_rs {x : Way_} (h : wayF x = true) {j : Nat} (hj : j < x.rs.length) : (1 ≤ x.rs[j].ln ∧ x.rs[j].ln ≤ 100) ∧ (100 ≤ x.rs[j].dp ∧ x.rs[j].dp ≤ 900) ∧ (1 ≤ x.rs[j].sp ∧ x.rs[j].sp ≤ 20) := reachF_iff.1 ((wayF_iff.1 h).2.2.1 j hj)
def levelR (x : Way_) (i : Int) : Int × Bool := if reachOk x i then (sumI (x.is.take i.toNat), true) else (0, false)
/-! ### TotalLength -/
def totalF (x : Way_) : Int := sumI (x.rs.map (·.ln))
theorem lns_bd {x : Way_} (h : wayF x = true) : ∀ y ∈ x.rs.map (·.ln), -100 ≤ y ∧ y ≤ 100 := fun y hy => by
  obtain ⟨r, hr, rfl⟩ := List.mem_map.1 hy
  obtain ⟨j, hj, rfl⟩ := List.getElem_of_mem hr
  have := way_rs h hj
  omega
theorem total_bd {x : Way_} (h : wayF x = true) : 0 ≤ totalF x ∧ totalF x ≤ 600 := by
  have h1 := sumI_bd (lns_bd h)
  have h2 : 0 ≤ sumI (x.rs.map (·.ln)) := sumI_pos fun y hy => by
    obtain ⟨r, hr, rfl⟩ := List.mem_map.1 hy
    obtain ⟨j, hj, rfl⟩ := List.getElem_of_mem hr
    have := way_rs h hj
    omega
  have h3 := (wayF_iff.1 h).1
  rw [List.length_map] at h1
  unfold totalF; omega
theorem map_at {x : Way_} {j : Nat} (hj : j < x.rs.length) : (x.rs.map (·.ln))[j]'(by simpa using hj) = x.rs[j].ln := by simp
theorem impl_totalLength (x : Way_) (hw : wayF x = true) : ACalls Tryd.prog 53 [.agg [.sl 65 .ro (reachs (x).rs), .sl 3 .ro (its (x).is)]] [] (.c (.p (.int .i64 (totalF x)))) [] 0 := by
  have hl1 : (reachs x.rs).length = x.rs.length := by simp [reachs]
  have hwi := wayF_iff.1 hw
  refine acalls_of (ws := [.c (.p (.int .i64 (totalF x)))]) Tryd.func53 rfl rfl rfl rfl fun w0 B m hm0 => ?_; (refine awp_norm (τ := ?_) ?_ ?_; rotate_left; (focus (simp only [AV.top, Tryd.ntmps53, List.length_cons, List.length_nil, Nat.reduceAdd, Nat.reduceSub, List.replicate_succ, List.replicate_zero, List.cons_append, List.nil_append]; exact rfl)))
  (repeat' (first | (first | refine awp_seq ?_ | refine awp_region ?_ | refine awp_block ?_ | refine awp_exit ?_ | refine awp_ret ?_ | refine awp_skip ?_ | refine ar_nil ?_ | refine dr_nil ?_ | (refine awp_region_draw ?_ ?_ ?_; kernel_rfl; kernel_rfl) | (first | refine t_norm ?_ | refine t_exit ?_ | refine t_ret ?_ | refine b_norm ?_ | refine b_exit ?_ | refine b_exit_ne rfl ?_ | refine b_ret ?_)) | ((first | ((first | apply ar_q | apply dr_q); exact qOp1) | ((first | apply ar_gu | apply dr_gu); exact rfl) | ((first | apply ar_gn | apply dr_gn); exact rfl; exact bdOk) | (first | (apply ar_box; exact rfl) | (apply ar_store; exact rfl; exact rfl; exact rfl; (focus (first | decide | (simp; done) | exact Nat.le_refl _)); kernel_rfl; exact rfl))); (first | refine ar_nrm (k := ?_) | refine dr_nrm (k := ?_))) | ((first | apply ar_gy | apply dr_gy); exact rfl; exact bdOk) | (first | (apply awp_cond_t; exact rfl; exact bdOk) | (apply awp_cond_f; exact rfl; exact bdOk)) | ((first | apply ar_gs | apply dr_gs | apply awp_cond); (focus (exact rfl)); (all_goals (intro hc; (try simp only [decide_eq_true_eq, decide_eq_false_iff_not, Bool.not_eq_true', Bool.not_eq_false', Bool.not_true, Bool.not_false, bne_iff_ne, bne_eq_false_iff_eq, beq_iff_eq, beq_eq_false_iff_ne, ne_eq, Bool.cond_true_left, Bool.cond_false_right, Bool.or_eq_true, Bool.and_eq_true] at hc)))) | fail))
  refine awp_loopK 1 (Nat.le_trans (Nat.le_of_eq hm0) (Nat.zero_le 1)) [1, 7, 8] (fun i : Nat => [(3, .c (.p (.int .i64 (sumI ((x.rs.map (·.ln)).take i))))), (9, .c (.p (.int .i64 i)))]) (fun _ => [[.sl 65 .ro (reachs (x).rs), .sl 3 .ro (its (x).is)]]) (fun _ => 0) (fun q i => i ≤ x.rs.length ∧ q = x.rs.length - i) _ 0 ⟨by omega, rfl⟩ ?_ ?_
  · refine le_nrm (k := ?_); refine le_mk hsLe ?_; (repeat (first | exact AVs.le.nil | (with_reducible refine AVs.le.top _ ?_) | (with_reducible refine AVs.le.eq _ ?_) | refine AVs.le.eqv ?_ ?_)) <;> first | exact rfl | exact pi (by omega)
  rintro q i ⟨h1, rfl⟩
  refine nh_nrm (k := ?_)
  by_cases hi : i < x.rs.length
  · have e1 : (reachs x.rs)[(i : Int).toNat]? = some ([.int .i64 (x.rs[i]).ln, .int .i64 (x.rs[i]).dp, .int .i64 (x.rs[i]).sp] : List Value) := reachs_at hi
    have hb := take_bd (lns_bd hw) i
    have hb2 := way_rs hw hi
    have hb3 : ((x.rs.map (·.ln)).take i).length ≤ 6 := by simp; omega
    have ht := sumI_take (l := x.rs.map (·.ln)) (i := i) (by simpa using hi)
    rw [map_at hi] at ht
    generalize sumI ((x.rs.map (·.ln)).take i) = s at *
    (repeat' (first | (first | refine awp_seq ?_ | refine awp_region ?_ | refine awp_block ?_ | refine awp_exit ?_ | refine awp_ret ?_ | refine awp_skip ?_ | refine ar_nil ?_ | refine dr_nil ?_ | (refine awp_region_draw ?_ ?_ ?_; kernel_rfl; kernel_rfl) | (first | refine t_norm ?_ | refine t_exit ?_ | refine t_ret ?_ | refine b_norm ?_ | refine b_exit ?_ | refine b_exit_ne rfl ?_ | refine b_ret ?_)) | ((first | ((first | apply ar_q | apply dr_q); exact qOp1) | ((first | apply ar_gu | apply dr_gu); exact rfl) | ((first | apply ar_gn | apply dr_gn); exact rfl; exact bdOk) | (apply ar_alloc (ys := ([.int .i64 0, .int .i64 0, .int .i64 0] : List Value)); kernel_rfl) | (first | (apply ar_box; exact rfl) | (apply ar_store; exact rfl; exact rfl; exact rfl; (focus (first | decide | (simp; done) | exact Nat.le_refl _)); kernel_rfl; exact rfl))); (first | refine ar_nrm (k := ?_) | refine dr_nrm (k := ?_))) | ((first | apply ar_gy | apply dr_gy); exact rfl; exact bdOk) | (first | (apply awp_cond_t; exact rfl; exact bdOk) | (apply awp_cond_f; exact rfl; exact bdOk)) | ((first | apply ar_gs | apply dr_gs | apply awp_cond); (focus (exact rfl)); (all_goals (intro hc; (try simp only [decide_eq_true_eq, decide_eq_false_iff_not, Bool.not_eq_true', Bool.not_eq_false', Bool.not_true, Bool.not_false, bne_iff_ne, bne_eq_false_iff_eq, beq_iff_eq, beq_eq_false_iff_ne, ne_eq, Bool.cond_true_left, Bool.cond_false_right, Bool.or_eq_true, Bool.and_eq_true] at hc)))) | fail))
    refine ⟨_, i + 1, ?_, ⟨by omega, rfl⟩, ?_⟩
    · omega
    · rw [ht]
      refine lk_nrm (k := ?_); refine le_mk hsLe ?_; (repeat (first | exact AVs.le.nil | (with_reducible refine AVs.le.top _ ?_) | (with_reducible refine AVs.le.eq _ ?_) | refine AVs.le.eqv ?_ ?_)) <;> first | exact rfl | exact pi (by omega)
  · (repeat' (first | (first | refine awp_seq ?_ | refine awp_region ?_ | refine awp_block ?_ | refine awp_exit ?_ | refine awp_ret ?_ | refine awp_skip ?_ | refine ar_nil ?_ | refine dr_nil ?_ | (refine awp_region_draw ?_ ?_ ?_; kernel_rfl; kernel_rfl) | (first | refine t_norm ?_ | refine t_exit ?_ | refine t_ret ?_ | refine b_norm ?_ | refine b_exit ?_ | refine b_exit_ne rfl ?_ | refine b_ret ?_)) | ((first | ((first | apply ar_q | apply dr_q); exact qOp1) | ((first | apply ar_gu | apply dr_gu); exact rfl) | ((first | apply ar_gn | apply dr_gn); exact rfl; exact bdOk)); (first | refine ar_nrm (k := ?_) | refine dr_nrm (k := ?_))) | ((first | apply ar_gy | apply dr_gy); exact rfl; exact bdOk) | (first | (apply awp_cond_t; exact rfl; exact bdOk) | (apply awp_cond_f; exact rfl; exact bdOk)) | ((first | apply ar_gs | apply dr_gs | apply awp_cond); (focus (exact rfl)); (all_goals (intro hc; (try simp only [decide_eq_true_eq, decide_eq_false_iff_not, Bool.not_eq_true', Bool.not_eq_false', Bool.not_true, Bool.not_false, bne_iff_ne, bne_eq_false_iff_eq, beq_iff_eq, beq_eq_false_iff_ne, ne_eq, Bool.cond_true_left, Bool.cond_false_right, Bool.or_eq_true, Bool.and_eq_true] at hc)))) | fail))
    refine ⟨.inr rfl, aend_mk [] rfl (by simp) (by first | (simp; done) | (simp; omega)) (ares_tmp2 _ rfl ?_ ares_nil) rfl rfl⟩
    rw [List.take_of_length_le (by simp; omega)]
    exact rfl
def totalR (x : Way_) : Int × Bool := if wayF x then (totalF x, true) else (0, false)
theorem impl_TotalLength (x : Way_) (hx : fits x 1048576) : ACalls Tryd.prog 24 [.agg [.sl 65 .ro (reachs (x).rs), .sl 3 .ro (its (x).is)]] [] (.tup [.c (.p (.int .i64 (totalR x).1)), .c (.p (.bool (totalR x).2))]) [] 0 := by
  have hc1 := impl_IsValidWaterway x hx
  cases hw : wayF x with
  | false =>
    rw [hw] at hc1
    rw [show totalR x = (0, false) by rw [totalR, hw]; rfl]
    refine acalls_of (ws := [.c (.p (.int .i64 0)), .c (.p (.bool false))]) Tryd.func24 rfl rfl rfl rfl fun w0 B m hm0 => ?_; (refine awp_norm (τ := ?_) ?_ ?_; rotate_left; (focus (simp only [AV.top, Tryd.ntmps24, List.length_cons, List.length_nil, Nat.reduceAdd, Nat.reduceSub, List.replicate_succ, List.replicate_zero, List.cons_append, List.nil_append]; exact rfl)))
    (repeat' (first | (first | refine awp_seq ?_ | refine awp_region ?_ | refine awp_block ?_ | refine awp_exit ?_ | refine awp_ret ?_ | refine awp_skip ?_ | refine ar_nil ?_ | refine dr_nil ?_ | (refine awp_region_draw ?_ ?_ ?_; kernel_rfl; kernel_rfl) | (first | refine t_norm ?_ | refine t_exit ?_ | refine t_ret ?_ | refine b_norm ?_ | refine b_exit ?_ | refine b_exit_ne rfl ?_ | refine b_ret ?_)) | ((first | ((first | apply ar_q | apply dr_q); exact qOp1) | ((first | apply ar_gu | apply dr_gu); exact rfl) | ((first | apply ar_gn | apply dr_gn); exact rfl; exact bdOk) | (first | (apply ar_box; exact rfl) | (apply ar_store; exact rfl; exact rfl; exact rfl; (focus (first | decide | (simp; done) | exact Nat.le_refl _)); kernel_rfl; exact rfl)) | ((first | apply ar_qt | apply dr_qt); (focus (apply qt_call; kernel_rfl; exact (hc1); exact rfl)))); (first | refine ar_nrm (k := ?_) | refine dr_nrm (k := ?_))) | ((first | apply ar_gy | apply dr_gy); exact rfl; exact bdOk) | (first | (apply awp_cond_t; exact rfl; exact bdOk) | (apply awp_cond_f; exact rfl; exact bdOk)) | ((first | apply ar_gs | apply dr_gs | apply awp_cond); (focus (exact rfl)); (all_goals (intro hc; (try simp only [decide_eq_true_eq, decide_eq_false_iff_not, Bool.not_eq_true', Bool.not_eq_false', Bool.not_true, Bool.not_false, bne_iff_ne, bne_eq_false_iff_eq, beq_iff_eq, beq_eq_false_iff_ne, ne_eq, Bool.cond_true_left, Bool.cond_false_right, Bool.or_eq_true, Bool.and_eq_true] at hc)))) | fail))
    refine ⟨.inr rfl, aend_mk [] rfl (by simp) (by first | (simp; done) | (simp; omega)) (ares_tmp2 _ rfl ?_ (ares_tmp2 _ rfl ?_ ares_nil)) rfl rfl⟩ <;> exact rfl
  | true =>
    rw [hw] at hc1
    rw [show totalR x = (totalF x, true) by rw [totalR, hw]; rfl]
    refine acalls_of (ws := [.c (.p (.int .i64 (totalF x))), .c (.p (.bool true))]) Tryd.func24 rfl rfl rfl rfl fun w0 B m hm0 => ?_; (refine awp_norm (τ := ?_) ?_ ?_; rotate_left; (focus (simp only [AV.top, Tryd.ntmps24, List.length_cons, List.length_nil, Nat.reduceAdd, Nat.reduceSub, List.replicate_succ, List.replicate_zero, List.cons_append, List.nil_append]; exact rfl)))
    (repeat' (first | (first | refine awp_seq ?_ | refine awp_region ?_ | refine awp_block ?_ | refine awp_exit ?_ | refine awp_ret ?_ | refine awp_skip ?_ | refine ar_nil ?_ | refine dr_nil ?_ | (refine awp_region_draw ?_ ?_ ?_; kernel_rfl; kernel_rfl) | (first | refine t_norm ?_ | refine t_exit ?_ | refine t_ret ?_ | refine b_norm ?_ | refine b_exit ?_ | refine b_exit_ne rfl ?_ | refine b_ret ?_)) | ((first | ((first | apply ar_q | apply dr_q); exact qOp1) | ((first | apply ar_gu | apply dr_gu); exact rfl) | ((first | apply ar_gn | apply dr_gn); exact rfl; exact bdOk) | (first | (apply ar_box; exact rfl) | (apply ar_store; exact rfl; exact rfl; exact rfl; (focus (first | decide | (simp; done) | exact Nat.le_refl _)); kernel_rfl; exact rfl)) | ((first | apply ar_qt | apply dr_qt); (focus (apply qt_call; kernel_rfl; exact (hc1); exact rfl))) | ((first | apply ar_qt | apply dr_qt); (focus (apply qt_call; kernel_rfl; exact (impl_totalLength x hw); exact rfl)))); (first | refine ar_nrm (k := ?_) | refine dr_nrm (k := ?_))) | ((first | apply ar_gy | apply dr_gy); exact rfl; exact bdOk) | (first | (apply awp_cond_t; exact rfl; exact bdOk) | (apply awp_cond_f; exact rfl; exact bdOk)) | ((first | apply ar_gs | apply dr_gs | apply awp_cond); (focus (exact rfl)); (all_goals (intro hc; (try simp only [decide_eq_true_eq, decide_eq_false_iff_not, Bool.not_eq_true', Bool.not_eq_false', Bool.not_true, Bool.not_false, bne_iff_ne, bne_eq_false_iff_eq, beq_iff_eq, beq_eq_false_iff_ne, ne_eq, Bool.cond_true_left, Bool.cond_false_right, Bool.or_eq_true, Bool.and_eq_true] at hc)))) | fail))
    refine ⟨.inr rfl, aend_mk [] rfl (by simp) (by first | (simp; done) | (simp; omega)) (ares_tmp2 _ rfl ?_ (ares_tmp2 _ rfl ?_ ares_nil)) rfl rfl⟩ <;> exact rfl
end Go.Proofs.YtkdbkddlbahceaaDoor
