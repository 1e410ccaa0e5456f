/- Draws: one of some numbers. -/
import Derived.Test.YtdlebdgdcpemmaaGreatDoorDa
import Derived.Test.YtdlebdgdcpemmaaGreatDoorMi
import Derived.Test.YtdlebdgdcpemmaaGreatDoorEW
namespace Go.Proofs.YtdlebdgdcpemmaaGreatDoor
open Go.RowKit
set_option linter.unusedVariables false
set_option linter.unusedSimpArgs false
attribute [local irreducible] AR DR AWp QOp Qt ACalls ARes Exit.thenA Exit.inBlockA
attribute [local irreducible] AG0 AG AGs
theorem its_get {ys : List Int} {i : Int} (h : 0 ≤ i ∧ i < (its ys).length) : ∃ y, y ∈ ys ∧ (its ys)[i.toNat]? = some [Value.int .i64 y] := by
  have hl : i.toNat < ys.length := by have := h.2; rw [List.length_map] at this; omega
  exact ⟨ys[i.toNat], List.getElem_mem hl, by simp [its, hl]⟩
theorem draw_among (v : Value) (l : List Int) (hl : okBts l) (ys : List Int) (hn : 1 ≤ ((its ys).length : Int) ∧ ((its ys).length : Int) ≤ 1000000) (a s : Int) (ha : 0 ≤ a ∧ a ≤ 900000) : ACallsE Tryz.prog 55 [.c (.ptr 0 0), .c (.sl 3 .ro (its ys))] [svc v 5 (bts l) [.int .i64 a, .int .u64 s]] (fun x : Int × Int × Int => x.1 ∈ ys ∧ a ≤ x.2.1 ∧ x.2.1 ≤ a + 2) (fun x => .c (.p (.int .i64 x.1))) (fun x : Int × Int × Int => [svc v 5 (bts l) [.int .i64 x.2.1, .int .u64 x.2.2]]) (fun _ => 0) := by
  refine acallsE_of (ws := fun x => [.c (.p (.int .i64 x.1))]) (k := fun _ => 0) (hp' := fun x : Int × Int × Int => [svc v 5 (bts l) [.int .i64 x.2.1, .int .u64 x.2.2]]) Tryz.func55 rfl (fun x => rfl) (fun x => rfl) (fun x => rfl) fun w0 B m hm0 => ?_; (refine awp_norm (τ := ?_) ?_ ?_; rotate_left; (focus (simp only [AV.top, svc, List.map_cons, List.map_nil, Tryz.ntmps55, List.length_cons, List.length_nil, Nat.reduceAdd, Nat.reduceSub, List.replicate_succ, List.replicate_zero, List.cons_append, List.nil_append]; exact rfl)))
  (repeat (first | (first | refine awp_seq ?_ | refine awp_region ?_ | refine awp_block ?_ | refine awp_exit ?_ | refine awp_ret ?_ | refine awp_skip ?_ | refine ar_nil ?_ | refine dr_nil ?_ | (refine awp_region_draw ?_ ?_ ?_; kernel_rfl; kernel_rfl) | (first | refine t_norm ?_ | refine t_exit ?_ | refine t_ret ?_ | refine b_norm ?_ | refine b_exit ?_ | refine b_exit_ne rfl ?_ | refine b_ret ?_)) | ((first | ((first | apply ar_q | apply dr_q); exact qOp1) | ((first | apply ar_gu | apply dr_gu); exact rfl) | ((first | apply ar_gn | apply dr_gn); exact rfl; exact bdOk) | (first | (apply ar_box; exact rfl) | (apply ar_store; exact rfl; exact rfl; exact rfl; (focus (first | decide | (simp; done) | exact Nat.le_refl _)); kernel_rfl; exact rfl)) | (apply ar_cur; kernel_rfl; exact rfl; exact rfl; exact (draw_pick v l hl _ hn); (focus (omega)); (focus (intro x; exact rfl)); (rintro ⟨xv, xa, xq⟩ hx; (try dsimp only at hx)))); (first | refine ar_nrm (k := ?_) | refine dr_nrm (k := ?_))) | ((first | apply ar_gy | apply dr_gy); exact rfl; exact bdOk) | (first | (apply awp_cond_t; exact rfl; exact bdOk) | (apply awp_cond_f; exact rfl; exact bdOk)) | fail))
  obtain ⟨y, hy, e1⟩ := its_get (ys := ys) (i := xv) ⟨by omega, by omega⟩
  (repeat (first | (first | refine awp_seq ?_ | refine awp_region ?_ | refine awp_block ?_ | refine awp_exit ?_ | refine awp_ret ?_ | refine awp_skip ?_ | refine ar_nil ?_ | refine dr_nil ?_ | (refine awp_region_draw ?_ ?_ ?_; kernel_rfl; kernel_rfl) | (first | refine t_norm ?_ | refine t_exit ?_ | refine t_ret ?_ | refine b_norm ?_ | refine b_exit ?_ | refine b_exit_ne rfl ?_ | refine b_ret ?_)) | ((first | ((first | apply ar_q | apply dr_q); exact qOp1) | ((first | apply ar_gu | apply dr_gu); exact rfl) | ((first | apply ar_gn | apply dr_gn); exact rfl; exact bdOk) | (first | (apply ar_box; exact rfl) | (apply ar_store; exact rfl; exact rfl; exact rfl; (focus (first | decide | (simp; done) | exact Nat.le_refl _)); kernel_rfl; exact rfl))); (first | refine ar_nrm (k := ?_) | refine dr_nrm (k := ?_))) | ((first | apply ar_gy | apply dr_gy); exact rfl; exact bdOk) | (first | (apply awp_cond_t; exact rfl; exact bdOk) | (apply awp_cond_f; exact rfl; exact bdOk)) | fail))
  refine ⟨.inr rfl, ⟨_, _, _⟩, ?_, aend_mk [] rfl (by simp) (by simp) (ares_tmp2 _ rfl rfl ares_nil) rfl rfl⟩
  exact ⟨hy, by dsimp only; omega, by dsimp only; omega⟩
end Go.Proofs.YtdlebdgdcpemmaaGreatDoor
