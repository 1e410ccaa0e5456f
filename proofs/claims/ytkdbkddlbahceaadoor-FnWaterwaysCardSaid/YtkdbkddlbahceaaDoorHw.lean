/- The law of ParseWaterway. -/
import Derived.Test.YtkdbkddlbahceaaDoorHu
import Derived.Test.YtkdbkddlbahceaaDoorHv
import Derived.Test.YtkdbkddlbahceaaDoorWi
namespace Go.Proofs.YtkdbkddlbahceaaDoor
open Go.RowKit
set_option linter.unusedVariables false
set_option linter.unusedSimpArgs false
attribute [local irreducible] AR DR AWp QOp Qt ACalls ARes Exit.thenA Exit.inBlockA
attribute [local irreducible] AG0 AG AGs
theorem spec_ParseWaterway (s : ByteArray) (hs : s.size ≤ 1048576) (o : Option Way_) (ho : parseS s = o) : ACalls Tryd.prog 11 [.c (.p (.string (s)))] [] (.tup (wsP o)) [] (kP o) := by
  have h := spec_Parse s hs o ho
  cases o with
  | none =>
    dsimp only [wsP, kP] at h ⊢
    refine acalls_of (ws := [.agg [.nl, .nl], .c (.p (.bool (false)))]) Tryd.func11 rfl rfl rfl rfl fun w0 B m hm0 => ?_; (refine awp_norm (τ := ?_) ?_ ?_; rotate_left; (focus (simp only [AV.top, Tryd.ntmps11, List.length_cons, List.length_nil, Nat.reduceAdd, Nat.reduceSub, List.replicate_succ, List.replicate_zero, List.cons_append, List.nil_append]; exact rfl)))
    (repeat' (first | (first | refine awp_seq ?_ | refine awp_region ?_ | refine awp_block ?_ | refine awp_exit ?_ | refine awp_ret ?_ | refine awp_skip ?_ | refine ar_nil ?_ | refine dr_nil ?_ | (first | refine t_norm ?_ | refine t_exit ?_ | refine t_ret ?_ | refine b_norm ?_ | refine b_exit ?_ | refine b_exit_ne rfl ?_ | refine b_ret ?_)) | ((first | ((first | apply ar_q | apply dr_q); exact qOp1) | ((first | apply ar_gu | apply dr_gu); exact rfl) | ((first | apply ar_gn | apply dr_gn); exact rfl; exact bdOk) | (first | (apply ar_box; exact rfl) | (apply ar_store; exact rfl; exact rfl; exact rfl; (focus (first | decide | (simp; done) | exact Nat.le_refl _)); kernel_rfl; exact rfl)) | (apply ar_alloc (ys := ([.slice none 0 0, .slice none 0 0] : List Value)); kernel_rfl) | (apply ar_call; kernel_rfl; exact (h); exact rfl)); (first | refine ar_nrm (k := ?_) | refine dr_nrm (k := ?_))) | ((first | apply ar_gy | apply dr_gy); exact rfl; exact bdOk) | (first | (apply awp_cond_t; exact rfl; exact bdOk) | (apply awp_cond_f; exact rfl; exact bdOk)) | fail))
    refine ⟨.inr rfl, aend_mk [] rfl (by decide) (by first | decide | (simp; done)) (ares_cell_a rfl rfl rfl (by kernel_rfl) (ares_tmp2 _ rfl ?_ ares_nil)) rfl rfl⟩ <;> exact rfl
  | some x =>
    dsimp only [wsP, kP] at h ⊢
    refine acalls_of (ws := [.agg [.sl 65 (.own 0) (reachs x.rs), .sl 3 (.own 1) (its x.is)], .c (.p (.bool (true)))]) Tryd.func11 rfl rfl rfl rfl fun w0 B m hm0 => ?_; (refine awp_norm (τ := ?_) ?_ ?_; rotate_left; (focus (simp only [AV.top, Tryd.ntmps11, List.length_cons, List.length_nil, Nat.reduceAdd, Nat.reduceSub, List.replicate_succ, List.replicate_zero, List.cons_append, List.nil_append]; exact rfl)))
    (repeat' (first | (first | refine awp_seq ?_ | refine awp_region ?_ | refine awp_block ?_ | refine awp_exit ?_ | refine awp_ret ?_ | refine awp_skip ?_ | refine ar_nil ?_ | refine dr_nil ?_ | (first | refine t_norm ?_ | refine t_exit ?_ | refine t_ret ?_ | refine b_norm ?_ | refine b_exit ?_ | refine b_exit_ne rfl ?_ | refine b_ret ?_)) | ((first | ((first | apply ar_q | apply dr_q); exact qOp1) | ((first | apply ar_gu | apply dr_gu); exact rfl) | ((first | apply ar_gn | apply dr_gn); exact rfl; exact bdOk) | (first | (apply ar_box; exact rfl) | (apply ar_store; exact rfl; exact rfl; exact rfl; (focus (first | decide | (simp; done) | exact Nat.le_refl _)); kernel_rfl; exact rfl)) | (apply ar_alloc (ys := ([.slice none 0 0, .slice none 0 0] : List Value)); kernel_rfl) | (apply ar_call; kernel_rfl; exact (h); exact rfl)); (first | refine ar_nrm (k := ?_) | refine dr_nrm (k := ?_))) | ((first | apply ar_gy | apply dr_gy); exact rfl; exact bdOk) | (first | (apply awp_cond_t; exact rfl; exact bdOk) | (apply awp_cond_f; exact rfl; exact bdOk)) | fail))
    refine ⟨.inr rfl, aend_mk [0, 1] rfl (by decide) (by first | decide | (simp; done)) (ares_cell_a rfl rfl rfl (by kernel_rfl) (ares_tmp2 _ rfl ?_ ares_nil)) rfl rfl⟩ <;> exact rfl
end Go.Proofs.YtkdbkddlbahceaaDoor
