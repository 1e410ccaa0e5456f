/- Structs Chamber and lists of them in the laws: measured, copied, compared. -/
import Derived.Test.YthmaiahllhgdpaaEW
import Derived.Test.YthmaiahllhgdpaaEF
import Derived.Test.YthmaiahllhgdpaaTdC
import Derived.Test.YthmaiahllhgdpaaMi


namespace Go.Proofs.Ythmaiahllhgdpaa
open Go.RowKit
set_option linter.unusedVariables false
set_option linter.unusedSimpArgs false
attribute [local irreducible] AR DR AWp QOp Qt ACalls ARes Exit.thenA Exit.inBlockA
abbrev chambers (l : List Chamber_) : List (List Value) := l.map Chamber_.cells
theorem chambers_at {l : List Chamber_} {i : Nat} (h : i < l.length) : (chambers l)[i]? = some ([.int .i64 (l[i]).ln, .int .i64 (l[i]).wd] : List Value) := by simp [chambers, h, Chamber_.cells]
theorem chambers_ok (l : List Chamber_) : okE (chambers l) := by
  intro y hy v hv
  obtain ⟨x, _, rfl⟩ := List.mem_map.1 hy
  simp [Chamber_.cells] at hv
  rcases hv with hv | hv <;> subst hv <;> rfl
theorem law_toChamber (x : Chamber_) : ACalls Try.prog 32 [.agg [.p (.int .i64 (x).ln), .p (.int .i64 (x).wd)]] [] (.agg [.p (.int .i64 (x).ln), .p (.int .i64 (x).wd)]) [] 0 := by
  refine acalls_of (ws := [.agg [.p (.int .i64 (x).ln), .p (.int .i64 (x).wd)]]) Try.func32 rfl rfl rfl rfl fun w0 B m hm0 => ?_; (refine awp_norm (τ := ?_) ?_ ?_; rotate_left; (focus (simp only [AV.top, Try.ntmps32, List.length_cons, List.length_nil, Nat.reduceAdd, Nat.reduceSub, List.replicate_succ, List.replicate_zero, List.cons_append, List.nil_append]; exact rfl)))
  (repeat' (first | (first | refine awp_seq ?_ | refine awp_region ?_ | refine awp_block ?_ | refine awp_exit ?_ | refine awp_ret ?_ | refine awp_skip ?_ | refine ar_nil ?_ | refine dr_nil ?_ | (refine awp_region_draw ?_ ?_ ?_; kernel_rfl; kernel_rfl) | (first | refine t_norm ?_ | refine t_exit ?_ | refine t_ret ?_ | refine b_norm ?_ | refine b_exit ?_ | refine b_exit_ne rfl ?_ | refine b_ret ?_)) | ((first | ((first | apply ar_q | apply dr_q); exact qOp1) | ((first | apply ar_gu | apply dr_gu); exact rfl) | ((first | apply ar_gn | apply dr_gn); exact rfl; exact bdOk) | (apply ar_alloc (ys := ([.int .i64 0, .int .i64 0] : List Value)); kernel_rfl) | (first | (apply ar_box; exact rfl) | (apply ar_store; exact rfl; exact rfl; exact rfl; (focus (first | decide | (simp; done) | exact Nat.le_refl _)); kernel_rfl; exact rfl))); (first | refine ar_nrm (k := ?_) | refine dr_nrm (k := ?_))) | ((first | apply ar_gy | apply dr_gy); exact rfl; exact bdOk) | (first | (apply awp_cond_t; exact rfl; exact bdOk) | (apply awp_cond_f; exact rfl; exact bdOk)) | ((first | apply ar_gs | apply dr_gs | apply awp_cond); (focus (exact rfl)); (all_goals (intro hc; (try simp only [decide_eq_true_eq, decide_eq_false_iff_not, Bool.not_eq_true', Bool.not_eq_false', Bool.not_true, Bool.not_false, bne_iff_ne, bne_eq_false_iff_eq, beq_iff_eq, beq_eq_false_iff_ne, ne_eq, Bool.cond_true_left, Bool.cond_false_right, Bool.or_eq_true, Bool.and_eq_true] at hc)))) | fail))
  refine ⟨.inr rfl, aend_mk [] rfl (by simp) (by simp) (ares_cell_a rfl rfl rfl (by kernel_rfl) ares_nil) rfl rfl⟩
end Go.Proofs.Ythmaiahllhgdpaa
