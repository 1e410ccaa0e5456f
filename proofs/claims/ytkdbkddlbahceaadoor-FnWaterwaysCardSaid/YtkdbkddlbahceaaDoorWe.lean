/- ReachAt and ShallowestDepth on both sides; their laws. -/
import Derived.Test.YtkdbkddlbahceaaDoorWc
import Derived.Test.YtkdbkddlbahceaaDoorEE
namespace Go.Proofs.YtkdbkddlbahceaaDoor
open Go.RowKit
set_option linter.unusedVariables false
set_option linter.unusedSimpArgs false
attribute [local irreducible] AR DR AWp QOp Qt ACalls ARes Exit.thenA Exit.inBlockA
attribute [local irreducible] AG0 AG AGs
theorem spec_l1Most (a b : Int) : ACalls Tryd.prog 73 [.c (.p (.int .i64 a)), .c (.p (.int .i64 b))] [] (.c (.p (.int .i64 (max a b)))) [] 0 := by
  refine acalls_of (ws := [.c (.p (.int .i64 (max a b)))]) Tryd.func73 rfl rfl rfl rfl fun w0 B m hm0 => ?_; (refine awp_norm (τ := ?_) ?_ ?_; rotate_left; (focus (simp only [AV.top, Tryd.ntmps73, List.length_cons, List.length_nil, Nat.reduceAdd, Nat.reduceSub, List.replicate_succ, List.replicate_zero, List.cons_append, List.nil_append]; exact rfl)))
  (repeat' (first | (first | refine awp_seq ?_ | refine awp_region ?_ | refine awp_block ?_ | refine awp_exit ?_ | refine awp_ret ?_ | refine awp_skip ?_ | refine ar_nil ?_ | refine dr_nil ?_ | (refine awp_region_draw ?_ ?_ ?_; kernel_rfl; kernel_rfl) | (first | refine t_norm ?_ | refine t_exit ?_ | refine t_ret ?_ | refine b_norm ?_ | refine b_exit ?_ | refine b_exit_ne rfl ?_ | refine b_ret ?_)) | ((first | ((first | apply ar_q | apply dr_q); exact qOp1) | ((first | apply ar_gu | apply dr_gu); exact rfl) | ((first | apply ar_gn | apply dr_gn); exact rfl; exact bdOk)); (first | refine ar_nrm (k := ?_) | refine dr_nrm (k := ?_))) | ((first | apply ar_gy | apply dr_gy); exact rfl; exact bdOk) | (first | (apply awp_cond_t; exact rfl; exact bdOk) | (apply awp_cond_f; exact rfl; exact bdOk)) | ((first | apply ar_gs | apply dr_gs | apply awp_cond); (focus (exact rfl)); (all_goals (intro hc; (try simp only [decide_eq_true_eq, decide_eq_false_iff_not, Bool.not_eq_true', Bool.not_eq_false', Bool.not_true, Bool.not_false, bne_iff_ne, bne_eq_false_iff_eq, beq_iff_eq, beq_eq_false_iff_ne, ne_eq, Bool.cond_true_left, Bool.cond_false_right, Bool.or_eq_true, Bool.and_eq_true] at hc)))) | fail))
  all_goals (refine ⟨.inr rfl, aend_mk [] rfl (by simp) (by first | (simp; done) | (simp; omega)) (ares_tmp2 _ rfl ?_ ares_nil) rfl rfl⟩; exact pi (by omega))
/-! ### Places -/
def placeOk (x : Way_) (p : Int) : Bool := wayF x && inB p 0 (totalF x)
def atL : List Reach_ → Int → Nat
  | [], _ => 0
  | r :: l, p => if r.ln < p then atL l (p - r.ln) + 1 else 0
def reachAtR (x : Way_) (p : Int) : Int × Bool := if placeOk x p then ((atL x.rs p : Int), true) else (0, false)
/-! ### ShallowestDepth -/
def minD (d : Int) (l : List Reach_) : Int := l.foldl (fun m r => min m r.dp) d
def segR (x : Way_) (a b : Nat) : List Reach_ := (x.rs.take b).drop a
def shalR (x : Way_) (a b : Int) : Int × Bool := if reachOk x a && reachOk x b then (minD (x.rs.getD a.toNat ⟨0, 0, 0⟩).dp (segR x (min a b).toNat ((max a b).toNat + 1)), true) else (0, false)
end Go.Proofs.YtkdbkddlbahceaaDoor
