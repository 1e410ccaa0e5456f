/- WaterwayText: both sides and the law. -/
import Derived.Test.YtkdbkddlbahceaaDoorHp
namespace Go.Proofs.YtkdbkddlbahceaaDoor
open Go.RowKit
set_option linter.unusedVariables false
set_option linter.unusedSimpArgs false
attribute [local irreducible] AR DR AWp QOp Qt ACalls ARes Exit.thenA Exit.inBlockA
attribute [local irreducible] AG0 AG AGs
def txtR (x : Way_) : ByteArray × Bool := if wayF x then (textW x, true) else (⟨#[]⟩, false)
theorem spec_WaterwayText (x : Way_) (hx : fits x 1048576) : ACalls Tryd.prog 7 [.agg [.sl 65 .ro (reachs (x).rs), .sl 3 .ro (its (x).is)]] [] (.tup [.c (.p (.string ((txtR x).1))), .c (.p (.bool ((txtR x).2)))]) [] 0 := by
  have hg := spec_l2Good x hx
  cases h : wayF x with
  | true =>
    have e : txtR x = (textW x, true) := by simp [txtR, h]
    rw [h] at hg
    have ht := spec_l2Text x h
    rw [e]
    refine acalls_of (ws := [.c (.p (.string (textW x))), .c (.p (.bool (true)))]) Tryd.func7 rfl rfl rfl rfl fun w0 B m hm0 => ?_; (refine awp_norm (τ := ?_) ?_ ?_; rotate_left; (focus (simp only [AV.top, Tryd.ntmps7, List.length_cons, List.length_nil, Nat.reduceAdd, Nat.reduceSub, List.replicate_succ, List.replicate_zero, List.cons_append, List.nil_append]; exact rfl)))
    (repeat' (first | (first | refine awp_seq ?_ | refine awp_region ?_ | refine awp_block ?_ | refine awp_exit ?_ | refine awp_ret ?_ | refine awp_skip ?_ | refine ar_nil ?_ | refine dr_nil ?_ | (first | refine t_norm ?_ | refine t_exit ?_ | refine t_ret ?_ | refine b_norm ?_ | refine b_exit ?_ | refine b_exit_ne rfl ?_ | refine b_ret ?_)) | ((first | ((first | apply ar_q | apply dr_q); exact qOp1) | ((first | apply ar_gu | apply dr_gu); exact rfl) | ((first | apply ar_gn | apply dr_gn); exact rfl; exact bdOk) | (first | (apply ar_box; exact rfl) | (apply ar_store; exact rfl; exact rfl; exact rfl; (focus (first | decide | (simp; done) | exact Nat.le_refl _)); kernel_rfl; exact rfl)) | ((first | apply ar_qt | apply dr_qt); (focus (apply qt_call; kernel_rfl; exact (hg); exact rfl))) | ((first | apply ar_qt | apply dr_qt); (focus (apply qt_call; kernel_rfl; exact (ht); exact rfl)))); (first | refine ar_nrm (k := ?_) | refine dr_nrm (k := ?_))) | ((first | apply ar_gy | apply dr_gy); exact rfl; exact bdOk) | (first | (apply awp_cond_t; exact rfl; exact bdOk) | (apply awp_cond_f; exact rfl; exact bdOk)) | fail))
    refine ⟨.inr rfl, aend_mk [] rfl (by simp) (by first | (simp; done) | (simp; omega)) (ares_tmp2 _ rfl ?_ (ares_tmp2 _ rfl ?_ ares_nil)) rfl rfl⟩ <;> exact rfl
  | false =>
    have e : txtR x = (⟨#[]⟩, false) := by simp [txtR, h]
    rw [h] at hg
    rw [e]
    refine acalls_of (ws := [.c (.p (.string (⟨#[]⟩))), .c (.p (.bool (false)))]) Tryd.func7 rfl rfl rfl rfl fun w0 B m hm0 => ?_; (refine awp_norm (τ := ?_) ?_ ?_; rotate_left; (focus (simp only [AV.top, Tryd.ntmps7, List.length_cons, List.length_nil, Nat.reduceAdd, Nat.reduceSub, List.replicate_succ, List.replicate_zero, List.cons_append, List.nil_append]; exact rfl)))
    (repeat' (first | (first | refine awp_seq ?_ | refine awp_region ?_ | refine awp_block ?_ | refine awp_exit ?_ | refine awp_ret ?_ | refine awp_skip ?_ | refine ar_nil ?_ | refine dr_nil ?_ | (first | refine t_norm ?_ | refine t_exit ?_ | refine t_ret ?_ | refine b_norm ?_ | refine b_exit ?_ | refine b_exit_ne rfl ?_ | refine b_ret ?_)) | ((first | ((first | apply ar_q | apply dr_q); exact qOp1) | ((first | apply ar_gu | apply dr_gu); exact rfl) | ((first | apply ar_gn | apply dr_gn); exact rfl; exact bdOk) | (first | (apply ar_box; exact rfl) | (apply ar_store; exact rfl; exact rfl; exact rfl; (focus (first | decide | (simp; done) | exact Nat.le_refl _)); kernel_rfl; exact rfl)) | ((first | apply ar_qt | apply dr_qt); (focus (apply qt_call; kernel_rfl; exact (hg); exact rfl)))); (first | refine ar_nrm (k := ?_) | refine dr_nrm (k := ?_))) | ((first | apply ar_gy | apply dr_gy); exact rfl; exact bdOk) | (first | (apply awp_cond_t; exact rfl; exact bdOk) | (apply awp_cond_f; exact rfl; exact bdOk)) | fail))
    refine ⟨.inr rfl, aend_mk [] rfl (by simp) (by first | (simp; done) | (simp; omega)) (ares_tmp2 _ rfl ?_ (ares_tmp2 _ rfl ?_ ares_nil)) rfl rfl⟩ <;> exact rfl
theorem impl_WaterwayText (x : Way_) (hx : fits x 1048576) : ACallsT Tryd.prog TT 9 [.agg [.sl 65 .ro (reachs (x).rs), .sl 3 .ro (its (x).is)]] [] (.tup [.c (.p (.string ((txtR x).1))), .c (.p (.bool ((txtR x).2)))]) [] 0 := by
  have hg := impl_IsValidWaterway x hx
  cases h : wayF x with
  | true =>
    have e : txtR x = (textW x, true) := by simp [txtR, h]
    rw [h] at hg
    have ht := impl_waterwayText x h
    rw [e]
    refine acallsT_of (ws := [.c (.p (.string (textW x))), .c (.p (.bool (true)))]) Tryd.func9 rfl rfl rfl rfl fun w0 B m hT hm0 => ?_; (obtain rfl : m = [] := List.eq_nil_of_length_eq_zero hm0); (refine awp_norm (τ := ?_) ?_ ?_; rotate_left; (focus (simp only [AV.top, Tryd.ntmps9, List.length_cons, List.length_nil, Nat.reduceAdd, Nat.reduceSub, List.replicate_succ, List.replicate_zero, List.cons_append, List.nil_append]; exact rfl)))
    (repeat' (first | (first | refine awp_seq ?_ | refine awp_region ?_ | refine awp_block ?_ | refine awp_exit ?_ | refine awp_ret ?_ | refine awp_skip ?_ | refine ar_nil ?_ | refine dr_nil ?_ | (first | refine t_norm ?_ | refine t_exit ?_ | refine t_ret ?_ | refine b_norm ?_ | refine b_exit ?_ | refine b_exit_ne rfl ?_ | refine b_ret ?_)) | ((first | ((first | apply ar_q | apply dr_q); exact qOp1) | ((first | apply ar_gu | apply dr_gu); exact rfl) | ((first | apply ar_gn | apply dr_gn); exact rfl; exact bdOk) | (first | (apply ar_box; exact rfl) | (apply ar_store; exact rfl; exact rfl; exact rfl; (focus (first | decide | (simp; done) | exact Nat.le_refl _)); kernel_rfl; exact rfl)) | ((first | apply ar_qt | apply dr_qt); (focus (apply qt_call; kernel_rfl; exact (hg); exact rfl))) | ((first | (apply ar_ct hT keptTT rfl rfl) | (apply dr_ct hT keptTT rfl rfl)); kernel_rfl; exact (ht); exact rfl)); (first | refine ar_nrm (k := ?_) | refine dr_nrm (k := ?_))) | ((first | apply ar_gy | apply dr_gy); exact rfl; exact bdOk) | (first | (apply awp_cond_t; exact rfl; exact bdOk) | (apply awp_cond_f; exact rfl; exact bdOk)) | fail))
    refine ⟨.inr rfl, aend_mk [] rfl (by simp) (by first | (simp; done) | (simp; omega)) (ares_tmp2 _ rfl ?_ (ares_tmp2 _ rfl ?_ ares_nil)) rfl rfl⟩ <;> exact rfl
  | false =>
    have e : txtR x = (⟨#[]⟩, false) := by simp [txtR, h]
    rw [h] at hg
    rw [e]
    refine acallsT_of (ws := [.c (.p (.string (⟨#[]⟩))), .c (.p (.bool (false)))]) Tryd.func9 rfl rfl rfl rfl fun w0 B m hT hm0 => ?_; (obtain rfl : m = [] := List.eq_nil_of_length_eq_zero hm0); (refine awp_norm (τ := ?_) ?_ ?_; rotate_left; (focus (simp only [AV.top, Tryd.ntmps9, List.length_cons, List.length_nil, Nat.reduceAdd, Nat.reduceSub, List.replicate_succ, List.replicate_zero, List.cons_append, List.nil_append]; exact rfl)))
    (repeat' (first | (first | refine awp_seq ?_ | refine awp_region ?_ | refine awp_block ?_ | refine awp_exit ?_ | refine awp_ret ?_ | refine awp_skip ?_ | refine ar_nil ?_ | refine dr_nil ?_ | (first | refine t_norm ?_ | refine t_exit ?_ | refine t_ret ?_ | refine b_norm ?_ | refine b_exit ?_ | refine b_exit_ne rfl ?_ | refine b_ret ?_)) | ((first | ((first | apply ar_q | apply dr_q); exact qOp1) | ((first | apply ar_gu | apply dr_gu); exact rfl) | ((first | apply ar_gn | apply dr_gn); exact rfl; exact bdOk) | (first | (apply ar_box; exact rfl) | (apply ar_store; exact rfl; exact rfl; exact rfl; (focus (first | decide | (simp; done) | exact Nat.le_refl _)); kernel_rfl; exact rfl)) | ((first | apply ar_qt | apply dr_qt); (focus (apply qt_call; kernel_rfl; exact (hg); exact rfl)))); (first | refine ar_nrm (k := ?_) | refine dr_nrm (k := ?_))) | ((first | apply ar_gy | apply dr_gy); exact rfl; exact bdOk) | (first | (apply awp_cond_t; exact rfl; exact bdOk) | (apply awp_cond_f; exact rfl; exact bdOk)) | fail))
    refine ⟨.inr rfl, aend_mk [] rfl (by simp) (by first | (simp; done) | (simp; omega)) (ares_tmp2 _ rfl ?_ (ares_tmp2 _ rfl ?_ ares_nil)) rfl rfl⟩ <;> exact rfl
end Go.Proofs.YtkdbkddlbahceaaDoor
