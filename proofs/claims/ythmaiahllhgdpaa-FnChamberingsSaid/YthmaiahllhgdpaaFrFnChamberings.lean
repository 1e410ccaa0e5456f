/- FnChamberings: for every input the law returns true. No condition. -/
import Derived.Test.YthmaiahllhgdpaaTy
import Derived.Test.YthmaiahllhgdpaaUc
import Derived.Test.YthmaiahllhgdpaaEN
import Derived.Test.YthmaiahllhgdpaaUd2
import Derived.Test.YthmaiahllhgdpaaUb
import Derived.Test.YthmaiahllhgdpaaCy
import Derived.Test.YthmaiahllhgdpaaCzc
namespace Go.Proofs.Ythmaiahllhgdpaa
open Go.ChangeShapes Go.WideShapes Go.ChangeAt Go.RowKit Go.Deep
open Go.ChangeMaps (open_string shut_string)
set_option linter.unusedVariables false
section
variable {H : Type} {enc : TypeId × Value → H} {W : World} {base : Nat} {spare : Nat → Bool} {held : Bool}
theorem open_bytes {r : Reach} {b0 : Nat} {v : Value} {d : DataW H} {p : List MemPlace} (hv : Value.okWide Try.prog W r b0 22 v) (h : DataW.Trod enc Try.prog W 0 spare held 22 v d p) :
    ∃ xs : List Int, (∀ x ∈ xs, (fun x => (Lit.int .u8 x).wf = true) x) ∧ xs.length ≤ 9223372036854775807 ∧ ∀ B, RepC Try.prog (E0 B []) W (.sl 5 .ro (xs.map (fun x => [Value.int .u8 x]))) v :=
  open_sl Try.underlying22 (fun x => [Value.int .u8 x]) (fun x => (Lit.int .u8 x).wf = true) (of_decide_eq_true (by kernel_rfl)) (el_int Try.underlying5) hv h
end
end Go.Proofs.Ythmaiahllhgdpaa
namespace Go.Proofs.Ythmaiahllhgdpaa
open Go.RowKit
set_option linter.unusedVariables false
set_option linter.unusedSimpArgs false
attribute [local irreducible] AR DR AWp QOp Qt ACalls ARes Exit.thenA Exit.inBlockA
attribute [local irreducible] AG0 AG AGs
attribute [local irreducible] AT ATs
attribute [local irreducible] preA
theorem law_vBig (l : List Int) (hl : l.length ≤ 9223372036854775807) (b : Bool) (hb : decide (65536 < l.length) = b) : ACalls Try.prog 14 [.c (.sl 5 .ro (bts l))] [] (.c (.p (.bool (b)))) [] 0 := by
  refine acalls_of (ws := [.c (.p (.bool (b)))]) Try.func14 rfl rfl rfl rfl fun w0 B m hm0 => ?_; (refine awp_norm (τ := ?_) ?_ ?_; rotate_left; (focus (simp only [AV.top, Try.ntmps14, List.length_cons, List.length_nil, Nat.reduceAdd, Nat.reduceSub, List.replicate_succ, List.replicate_zero, List.cons_append, List.nil_append]; exact rfl)))
  (repeat (first | (first | refine awp_seq ?_ | refine awp_region ?_ | refine awp_block ?_ | refine awp_exit ?_ | refine awp_ret ?_ | refine awp_skip ?_ | refine ar_nil ?_ | refine dr_nil ?_ | (refine awp_region_draw ?_ ?_ ?_; kernel_rfl; kernel_rfl) | (first | refine t_norm ?_ | refine t_exit ?_ | refine t_ret ?_ | refine b_norm ?_ | refine b_exit ?_ | refine b_exit_ne rfl ?_ | refine b_ret ?_)) | ((first | ((first | apply ar_q | apply dr_q); exact qOp1) | ((first | apply ar_gu | apply dr_gu); exact rfl) | ((first | apply ar_gn | apply dr_gn); exact rfl; exact bdOk)); (first | refine ar_nrm (k := ?_) | refine dr_nrm (k := ?_))) | ((first | apply ar_gy | apply dr_gy); exact rfl; exact bdOk) | (first | (apply awp_cond_t; exact rfl; exact bdOk) | (apply awp_cond_f; exact rfl; exact bdOk)) | fail))
  refine ⟨.inr rfl, aend_mk [] rfl (by simp) (by first | (simp; done) | (simp; omega)) (ares_tmp2 _ rfl ?_ ares_nil) rfl rfl⟩
  exact pb (by rw [← hb]; simp; try omega)
theorem law_vSpots (o : List Spot_) (hl : o.length ≤ 1048576) : ACalls Try.prog 18 [.c (.sl 42 .ro (spots o)), .c (.sl 42 .ro (spots o))] [] (.c (.p (.bool (true)))) [] 0 := by
  have hlen : (spots o).length = o.length := by simp [spots]
  refine acalls_of (ws := [.c (.p (.bool (true)))]) Try.func18 rfl rfl rfl rfl fun w0 B m hm0 => ?_; (refine awp_norm (τ := ?_) ?_ ?_; rotate_left; (focus (simp only [AV.top, Try.ntmps18, List.length_cons, List.length_nil, Nat.reduceAdd, Nat.reduceSub, List.replicate_succ, List.replicate_zero, List.cons_append, List.nil_append]; exact rfl)))
  (repeat (first | (first | refine awp_seq ?_ | refine awp_region ?_ | refine awp_block ?_ | refine awp_exit ?_ | refine awp_ret ?_ | refine awp_skip ?_ | refine ar_nil ?_ | refine dr_nil ?_ | (refine awp_region_draw ?_ ?_ ?_; kernel_rfl; kernel_rfl) | (first | refine t_norm ?_ | refine t_exit ?_ | refine t_ret ?_ | refine b_norm ?_ | refine b_exit ?_ | refine b_exit_ne rfl ?_ | refine b_ret ?_)) | ((first | ((first | apply ar_q | apply dr_q); exact qOp1) | ((first | apply ar_gu | apply dr_gu); exact rfl) | ((first | apply ar_gn | apply dr_gn); exact rfl; exact bdOk)); (first | refine ar_nrm (k := ?_) | refine dr_nrm (k := ?_))) | ((first | apply ar_gy | apply dr_gy); exact rfl; exact bdOk) | (first | (apply awp_cond_t; exact rfl; exact bdOk) | (apply awp_cond_f; exact rfl; exact bdOk)) | fail))
  refine awp_loopH [0, 1] (fun i : Nat => [(5, .c (.p (.int .i64 (i))))]) (fun _ => []) (fun _ => 0) (fun n i => i ≤ o.length ∧ n = o.length - i) _ 0 ⟨by omega, rfl⟩ ?_ ?_
  · refine le_nrm (k := ?_); refine le_mk hsLe ?_; (repeat (first | exact AVs.le.nil | (with_reducible refine AVs.le.top _ ?_) | (with_reducible refine AVs.le.eq _ ?_) | refine AVs.le.eqv ?_ ?_)) <;> first | exact rfl | exact pi (by omega)
  rintro n i ⟨h1, rfl⟩
  refine nh_nrm (k := ?_)
  by_cases hi : i < o.length
  · have e1 : (spots o)[(i : Int).toNat]? = some ([.int .i64 (o[i]).at_, .int .i64 (o[i]).sd] : List Value) := spots_at hi
    (repeat' (first | refine pre_seq ?_ | (first | refine awp_seq ?_ | refine awp_region ?_ | refine awp_block ?_ | refine awp_exit ?_ | refine awp_ret ?_ | refine awp_skip ?_ | refine ar_nil ?_ | refine dr_nil ?_ | (refine awp_region_draw ?_ ?_ ?_; kernel_rfl; kernel_rfl) | (first | refine t_norm ?_ | refine t_exit ?_ | refine t_ret ?_ | refine b_norm ?_ | refine b_exit ?_ | refine b_exit_ne rfl ?_ | refine b_ret ?_)) | ((first | ((first | apply ar_q | apply dr_q); exact qOp1) | ((first | apply ar_gu | apply dr_gu); exact rfl) | ((first | apply ar_gn | apply dr_gn); exact rfl; exact bdOk) | (first | (apply ar_box; exact rfl) | (apply ar_store; exact rfl; exact rfl; exact rfl; (focus (first | decide | (simp; done) | exact Nat.le_refl _)); kernel_rfl; exact rfl)) | ((first | apply ar_q | apply dr_q); (focus (apply q_neq_same; exact rfl; exact rfl; exact rfl; kernel_rfl)))); (first | refine ar_nrm (k := ?_) | refine dr_nrm (k := ?_))) | ((first | apply ar_gy | apply dr_gy); exact rfl; exact bdOk) | (first | (apply awp_cond_t; exact rfl; exact bdOk) | (apply awp_cond_f; exact rfl; exact bdOk)) | fail))
    refine ⟨_, i + 1, ?_, ⟨by omega, rfl⟩, ?_⟩
    · omega
    · refine le_nrm (k := ?_); refine le_mk hsLe ?_; (repeat (first | exact AVs.le.nil | (with_reducible refine AVs.le.top _ ?_) | (with_reducible refine AVs.le.eq _ ?_) | refine AVs.le.eqv ?_ ?_)) <;> first | exact rfl | exact pi (by omega)
  · (repeat' (first | refine pre_seq ?_ | (first | refine awp_seq ?_ | refine awp_region ?_ | refine awp_block ?_ | refine awp_exit ?_ | refine awp_ret ?_ | refine awp_skip ?_ | refine ar_nil ?_ | refine dr_nil ?_ | (refine awp_region_draw ?_ ?_ ?_; kernel_rfl; kernel_rfl) | (first | refine t_norm ?_ | refine t_exit ?_ | refine t_ret ?_ | refine b_norm ?_ | refine b_exit ?_ | refine b_exit_ne rfl ?_ | refine b_ret ?_)) | ((first | ((first | apply ar_q | apply dr_q); exact qOp1) | ((first | apply ar_gu | apply dr_gu); exact rfl) | ((first | apply ar_gn | apply dr_gn); exact rfl; exact bdOk) | (first | (apply ar_box; exact rfl) | (apply ar_store; exact rfl; exact rfl; exact rfl; (focus (first | decide | (simp; done) | exact Nat.le_refl _)); kernel_rfl; exact rfl))); (first | refine ar_nrm (k := ?_) | refine dr_nrm (k := ?_))) | ((first | apply ar_gy | apply dr_gy); exact rfl; exact bdOk) | (first | (apply awp_cond_t; exact rfl; exact bdOk) | (apply awp_cond_f; exact rfl; exact bdOk)) | fail))
    refine ⟨.inr rfl, aend_mk [] rfl (by simp) (by first | (simp; done) | (simp; omega)) (ares_tmp2 _ rfl ?_ ares_nil) rfl rfl⟩
    exact rfl
end Go.Proofs.Ythmaiahllhgdpaa
namespace Go.Proofs.Ythmaiahllhgdpaa
open Go.RowKit
set_option linter.unusedVariables false
set_option linter.unusedSimpArgs false
attribute [local irreducible] AR DR AWp QOp Qt ACalls ARes Exit.thenA Exit.inBlockA
attribute [local irreducible] AG0 AG AGs
attribute [local irreducible] AT ATs
attribute [local irreducible] preA
theorem law_vInts (l : List Int) (hl : l.length ≤ 1048576) : ACalls Try.prog 50 [.c (.sl 3 .ro (its l)), .c (.sl 3 .ro (its l))] [] (.c (.p (.bool (true)))) [] 0 := by
  have hlen : (its l).length = l.length := by simp [its]
  refine acalls_of (ws := [.c (.p (.bool (true)))]) Try.func50 rfl rfl rfl rfl fun w0 B m hm0 => ?_; (refine awp_norm (τ := ?_) ?_ ?_; rotate_left; (focus (simp only [AV.top, Try.ntmps50, List.length_cons, List.length_nil, Nat.reduceAdd, Nat.reduceSub, List.replicate_succ, List.replicate_zero, List.cons_append, List.nil_append]; exact rfl)))
  (repeat (first | (first | refine awp_seq ?_ | refine awp_region ?_ | refine awp_block ?_ | refine awp_exit ?_ | refine awp_ret ?_ | refine awp_skip ?_ | refine ar_nil ?_ | refine dr_nil ?_ | (refine awp_region_draw ?_ ?_ ?_; kernel_rfl; kernel_rfl) | (first | refine t_norm ?_ | refine t_exit ?_ | refine t_ret ?_ | refine b_norm ?_ | refine b_exit ?_ | refine b_exit_ne rfl ?_ | refine b_ret ?_)) | ((first | ((first | apply ar_q | apply dr_q); exact qOp1) | ((first | apply ar_gu | apply dr_gu); exact rfl) | ((first | apply ar_gn | apply dr_gn); exact rfl; exact bdOk)); (first | refine ar_nrm (k := ?_) | refine dr_nrm (k := ?_))) | ((first | apply ar_gy | apply dr_gy); exact rfl; exact bdOk) | (first | (apply awp_cond_t; exact rfl; exact bdOk) | (apply awp_cond_f; exact rfl; exact bdOk)) | fail))
  refine awp_loopH [0, 1] (fun i : Nat => [(5, .c (.p (.int .i64 (i))))]) (fun _ => []) (fun _ => 0) (fun n i => i ≤ l.length ∧ n = l.length - i) _ 0 ⟨by omega, rfl⟩ ?_ ?_
  · refine le_nrm (k := ?_); refine le_mk hsLe ?_; (repeat (first | exact AVs.le.nil | (with_reducible refine AVs.le.top _ ?_) | (with_reducible refine AVs.le.eq _ ?_) | refine AVs.le.eqv ?_ ?_)) <;> first | exact rfl | exact pi (by omega)
  rintro n i ⟨h1, rfl⟩
  refine nh_nrm (k := ?_)
  by_cases hi : i < l.length
  · have e1 : (its l)[(i : Int).toNat]? = some [Value.int .i64 l[i]] := its_at hi
    (repeat' (first | (first | refine awp_seq ?_ | refine awp_region ?_ | refine awp_block ?_ | refine awp_exit ?_ | refine awp_ret ?_ | refine awp_skip ?_ | refine ar_nil ?_ | refine dr_nil ?_ | (refine awp_region_draw ?_ ?_ ?_; kernel_rfl; kernel_rfl) | (first | refine t_norm ?_ | refine t_exit ?_ | refine t_ret ?_ | refine b_norm ?_ | refine b_exit ?_ | refine b_exit_ne rfl ?_ | refine b_ret ?_)) | ((first | ((first | apply ar_q | apply dr_q); exact qOp1) | ((first | apply ar_gu | apply dr_gu); exact rfl) | ((first | apply ar_gn | apply dr_gn); exact rfl; exact bdOk)); (first | refine ar_nrm (k := ?_) | refine dr_nrm (k := ?_))) | ((first | apply ar_gy | apply dr_gy); exact rfl; exact bdOk) | (first | (apply awp_cond_t; exact rfl; exact bdOk) | (apply awp_cond_f; exact rfl; exact bdOk)) | ((first | apply ar_gs | apply dr_gs | apply awp_cond); (focus (exact rfl)); (all_goals (intro hc; (try simp only [decide_eq_true_eq, decide_eq_false_iff_not, Bool.not_eq_true', Bool.not_eq_false', Bool.not_true, Bool.not_false, bne_iff_ne, bne_eq_false_iff_eq, beq_iff_eq, beq_eq_false_iff_ne, ne_eq, Bool.cond_true_left, Bool.cond_false_right, Bool.or_eq_true, Bool.and_eq_true] at hc)))) | fail))
    refine ⟨_, i + 1, ?_, ⟨by omega, rfl⟩, ?_⟩
    · omega
    · refine le_nrm (k := ?_); refine le_mk hsLe ?_; (repeat (first | exact AVs.le.nil | (with_reducible refine AVs.le.top _ ?_) | (with_reducible refine AVs.le.eq _ ?_) | refine AVs.le.eqv ?_ ?_)) <;> first | exact rfl | exact pi (by omega)
  · (repeat' (first | (first | refine awp_seq ?_ | refine awp_region ?_ | refine awp_block ?_ | refine awp_exit ?_ | refine awp_ret ?_ | refine awp_skip ?_ | refine ar_nil ?_ | refine dr_nil ?_ | (refine awp_region_draw ?_ ?_ ?_; kernel_rfl; kernel_rfl) | (first | refine t_norm ?_ | refine t_exit ?_ | refine t_ret ?_ | refine b_norm ?_ | refine b_exit ?_ | refine b_exit_ne rfl ?_ | refine b_ret ?_)) | ((first | ((first | apply ar_q | apply dr_q); exact qOp1) | ((first | apply ar_gu | apply dr_gu); exact rfl) | ((first | apply ar_gn | apply dr_gn); exact rfl; exact bdOk)); (first | refine ar_nrm (k := ?_) | refine dr_nrm (k := ?_))) | ((first | apply ar_gy | apply dr_gy); exact rfl; exact bdOk) | (first | (apply awp_cond_t; exact rfl; exact bdOk) | (apply awp_cond_f; exact rfl; exact bdOk)) | ((first | apply ar_gs | apply dr_gs | apply awp_cond); (focus (exact rfl)); (all_goals (intro hc; (try simp only [decide_eq_true_eq, decide_eq_false_iff_not, Bool.not_eq_true', Bool.not_eq_false', Bool.not_true, Bool.not_false, bne_iff_ne, bne_eq_false_iff_eq, beq_iff_eq, beq_eq_false_iff_ne, ne_eq, Bool.cond_true_left, Bool.cond_false_right, Bool.or_eq_true, Bool.and_eq_true] at hc)))) | fail))
    refine ⟨.inr rfl, aend_mk [] rfl (by simp) (by first | (simp; done) | (simp; omega)) (ares_tmp2 _ rfl ?_ ares_nil) rfl rfl⟩
    exact rfl
theorem elem_take {l : List Int} {x : Int} {i : Nat} (hi : i < l.length) : (l.take (i + 1)).elem x = ((l.take i).elem x || decide (l[i] = x)) := by
  rw [List.take_succ_eq_append_getElem hi, Bool.eq_iff_iff, Bool.or_eq_true, List.elem_iff, List.elem_iff, decide_eq_true_eq, List.mem_append, List.mem_singleton]
  constructor <;> (rintro (h | h) <;> simp [h])
theorem law_vHas (l : List Int) (x : Int) (hl : l.length ≤ 1048576) : ACalls Try.prog 51 [.c (.sl 3 .ro (its l)), .c (.p (.int .i64 (x)))] [] (.c (.p (.bool (l.elem x)))) [] 0 := by
  have hlen : (its l).length = l.length := by simp [its]
  refine acalls_of (ws := [.c (.p (.bool (l.elem x)))]) Try.func51 rfl rfl rfl rfl fun w0 B m hm0 => ?_; (refine awp_norm (τ := ?_) ?_ ?_; rotate_left; (focus (simp only [AV.top, Try.ntmps51, List.length_cons, List.length_nil, Nat.reduceAdd, Nat.reduceSub, List.replicate_succ, List.replicate_zero, List.cons_append, List.nil_append]; exact rfl)))
  (repeat (first | (first | refine awp_seq ?_ | refine awp_region ?_ | refine awp_block ?_ | refine awp_exit ?_ | refine awp_ret ?_ | refine awp_skip ?_ | refine ar_nil ?_ | refine dr_nil ?_ | (refine awp_region_draw ?_ ?_ ?_; kernel_rfl; kernel_rfl) | (first | refine t_norm ?_ | refine t_exit ?_ | refine t_ret ?_ | refine b_norm ?_ | refine b_exit ?_ | refine b_exit_ne rfl ?_ | refine b_ret ?_)) | ((first | ((first | apply ar_q | apply dr_q); exact qOp1) | ((first | apply ar_gu | apply dr_gu); exact rfl) | ((first | apply ar_gn | apply dr_gn); exact rfl; exact bdOk)); (first | refine ar_nrm (k := ?_) | refine dr_nrm (k := ?_))) | ((first | apply ar_gy | apply dr_gy); exact rfl; exact bdOk) | (first | (apply awp_cond_t; exact rfl; exact bdOk) | (apply awp_cond_f; exact rfl; exact bdOk)) | fail))
  refine awp_loopH [0, 1] (fun i : Nat => [(5, .c (.p (.int .i64 (i))))]) (fun _ => []) (fun _ => 0) (fun n i => i ≤ l.length ∧ (l.take i).elem x = false ∧ n = l.length - i) _ 0 ⟨by omega, by simp, rfl⟩ ?_ ?_
  · refine le_nrm (k := ?_); refine le_mk hsLe ?_; (repeat (first | exact AVs.le.nil | (with_reducible refine AVs.le.top _ ?_) | (with_reducible refine AVs.le.eq _ ?_) | refine AVs.le.eqv ?_ ?_)) <;> first | exact rfl | exact pi (by omega)
  rintro n i ⟨h1, h2, rfl⟩
  refine nh_nrm (k := ?_)
  by_cases hi : i < l.length
  · have e1 : (its l)[(i : Int).toNat]? = some [Value.int .i64 l[i]] := its_at hi
    have hst := elem_take (x := x) hi
    rw [h2, Bool.false_or] at hst
    by_cases hq : l[i] = x
    · have hin : l.elem x = true := by
        rw [List.elem_iff, ← hq]; exact List.getElem_mem hi
      (repeat' (first | refine pre_seq ?_ | (first | refine awp_seq ?_ | refine awp_region ?_ | refine awp_block ?_ | refine awp_exit ?_ | refine awp_ret ?_ | refine awp_skip ?_ | refine ar_nil ?_ | refine dr_nil ?_ | (refine awp_region_draw ?_ ?_ ?_; kernel_rfl; kernel_rfl) | (first | refine t_norm ?_ | refine t_exit ?_ | refine t_ret ?_ | refine b_norm ?_ | refine b_exit ?_ | refine b_exit_ne rfl ?_ | refine b_ret ?_)) | ((first | ((first | apply ar_q | apply dr_q); exact qOp1) | ((first | apply ar_gu | apply dr_gu); exact rfl) | ((first | apply ar_gn | apply dr_gn); exact rfl; exact bdOk) | (first | (apply ar_box; exact rfl) | (apply ar_store; exact rfl; exact rfl; exact rfl; (focus (first | decide | (simp; done) | exact Nat.le_refl _)); kernel_rfl; exact rfl))); (first | refine ar_nrm (k := ?_) | refine dr_nrm (k := ?_))) | ((first | apply ar_gy | apply dr_gy); exact rfl; exact bdOk) | (first | (apply awp_cond_t; exact rfl; exact bdOk) | (apply awp_cond_f; exact rfl; exact bdOk)) | fail))
      refine ⟨.inr rfl, aend_mk [] rfl (by simp) (by first | (simp; done) | (simp; omega)) (ares_tmp2 _ rfl ?_ ares_nil) rfl rfl⟩
      exact pb hin.symm
    · rw [decide_eq_false hq] at hst
      (repeat' (first | refine pre_seq ?_ | (first | refine awp_seq ?_ | refine awp_region ?_ | refine awp_block ?_ | refine awp_exit ?_ | refine awp_ret ?_ | refine awp_skip ?_ | refine ar_nil ?_ | refine dr_nil ?_ | (refine awp_region_draw ?_ ?_ ?_; kernel_rfl; kernel_rfl) | (first | refine t_norm ?_ | refine t_exit ?_ | refine t_ret ?_ | refine b_norm ?_ | refine b_exit ?_ | refine b_exit_ne rfl ?_ | refine b_ret ?_)) | ((first | ((first | apply ar_q | apply dr_q); exact qOp1) | ((first | apply ar_gu | apply dr_gu); exact rfl) | ((first | apply ar_gn | apply dr_gn); exact rfl; exact bdOk) | (first | (apply ar_box; exact rfl) | (apply ar_store; exact rfl; exact rfl; exact rfl; (focus (first | decide | (simp; done) | exact Nat.le_refl _)); kernel_rfl; exact rfl))); (first | refine ar_nrm (k := ?_) | refine dr_nrm (k := ?_))) | ((first | apply ar_gy | apply dr_gy); exact rfl; exact bdOk) | (first | (apply awp_cond_t; exact rfl; exact bdOk) | (apply awp_cond_f; exact rfl; exact bdOk)) | fail))
      refine ⟨_, i + 1, ?_, ⟨by omega, hst, rfl⟩, ?_⟩
      · omega
      · refine le_nrm (k := ?_); refine le_mk hsLe ?_; (repeat (first | exact AVs.le.nil | (with_reducible refine AVs.le.top _ ?_) | (with_reducible refine AVs.le.eq _ ?_) | refine AVs.le.eqv ?_ ?_)) <;> first | exact rfl | exact pi (by omega)
  · rw [List.take_of_length_le (by omega)] at h2
    (repeat' (first | refine pre_seq ?_ | (first | refine awp_seq ?_ | refine awp_region ?_ | refine awp_block ?_ | refine awp_exit ?_ | refine awp_ret ?_ | refine awp_skip ?_ | refine ar_nil ?_ | refine dr_nil ?_ | (refine awp_region_draw ?_ ?_ ?_; kernel_rfl; kernel_rfl) | (first | refine t_norm ?_ | refine t_exit ?_ | refine t_ret ?_ | refine b_norm ?_ | refine b_exit ?_ | refine b_exit_ne rfl ?_ | refine b_ret ?_)) | ((first | ((first | apply ar_q | apply dr_q); exact qOp1) | ((first | apply ar_gu | apply dr_gu); exact rfl) | ((first | apply ar_gn | apply dr_gn); exact rfl; exact bdOk) | (first | (apply ar_box; exact rfl) | (apply ar_store; exact rfl; exact rfl; exact rfl; (focus (first | decide | (simp; done) | exact Nat.le_refl _)); kernel_rfl; exact rfl))); (first | refine ar_nrm (k := ?_) | refine dr_nrm (k := ?_))) | ((first | apply ar_gy | apply dr_gy); exact rfl; exact bdOk) | (first | (apply awp_cond_t; exact rfl; exact bdOk) | (apply awp_cond_f; exact rfl; exact bdOk)) | fail))
    refine ⟨.inr rfl, aend_mk [] rfl (by simp) (by first | (simp; done) | (simp; omega)) (ares_tmp2 _ rfl ?_ ares_nil) rfl rfl⟩
    exact pb h2.symm
theorem filter_take {α : Type} {p : α → Bool} {l : List α} {i : Nat} (hi : i < l.length) : (l.take (i + 1)).filter p = (l.take i).filter p ++ if p l[i] = true then [l[i]] else [] := by
  rw [List.take_succ_eq_append_getElem hi, List.filter_append]
  congr 1
  by_cases h : p l[i] = true
  · rw [if_pos h, List.filter_cons_of_pos h]; rfl
  · rw [if_neg h, List.filter_cons_of_neg h]; rfl
/-- What the most hulls say of hulls and ids, told as the law asks for it. -/
structure MostL (c : Chamber_) (hs : List Hull_) (ids : List Int) : Prop where
  h4 : hs.length ≤ 4
  ok : (chF c && hullsF hs) = true
  some_ : ∃ out, fpF c (hs.filter fun h => ids.elem h.id) = some out
  two : (fpF c hs).isSome = decide (ids.length = hs.length)
  le : ids.length ≤ hs.length
theorem mostL {c : Chamber_} {hs : List Hull_} {ids : List Int} (h : mostR c hs = some ids) : MostL c hs ids := by
  unfold mostR at h
  split at h
  · rename_i hq
    injection h with h
    subst h
    obtain ⟨m1, m2, m3, m4⟩ := most_law (c := c) hq.2
    have hf : ∀ l : List Hull_, hullsF l = true → fpF c l = firstF c l l.length [] := fun l hl => fpF_yes hq.1 hl
    refine ⟨(hullsF_iff.1 hq.2).2.2, by rw [hq.1, hq.2]; rfl, ?_, ?_, m4⟩
    · rw [hf _ (hullsF_sub List.filter_sublist hq.2)]
      exact Option.isSome_iff_exists.1 m1
    · rw [hf _ hq.2, Bool.eq_iff_iff, decide_eq_true_eq]
      exact m2
  · cases h
theorem law_vNats (l : List Nat) (hl : l.length ≤ 1048576) : ACalls Try.prog 50 [.c (.sl 3 .ro (nats l)), .c (.sl 3 .ro (nats l))] [] (.c (.p (.bool (true)))) [] 0 :=
  law_vInts (l.map fun x : Nat => (x : Int)) (by simpa using hl)
def miV : Option (List Int) → AV
  | some out => .c (.sl 3 (.own 1) (its (out)))
  | none => .c .nl
def oiV : Option (List Nat) → AV
  | some out => .c (.sl 3 (.own 2) (nats (out)))
  | none => .c .nl
theorem its_len (l : List Int) : (its l).length = l.length := by simp [its]
theorem nats_at' {l : List Nat} {i x : Nat} (h : l[i]? = some x) : (nats l)[i]? = some [Value.int .i64 (x : Int)] := by simp [nats, its, h]
theorem mul16 {a : Int} {n : Nat} (h1 : 1 ≤ a) (h2 : a ≤ 4) (h3 : n ≤ 4) : a * (n : Int) ≤ 16 := by
  have : a * (n : Int) ≤ 4 * 4 := Int.mul_le_mul h2 (by omega) (by omega) (by omega)
  omega
theorem most_eq {c : Chamber_} {hs : List Hull_} {ids : List Int} (h : mostR c hs = some ids) : ids = mostTo c hs (2 ^ hs.length) := by
  unfold mostR at h
  split at h
  · injection h with h; exact h.symm
  · cases h
theorem ord_len {c : Chamber_} {hs : List Hull_} {out : List Nat} (ho : ordF c hs = some out) : out.length ≤ hs.length := by
  unfold ordF at ho
  split at ho
  · obtain ⟨x, hx, rfl⟩ := Option.map_eq_some_iff.1 ho
    exact Nat.le_of_eq (ordTo_len (l := x.1) (b := x.2.1) (out := x.2.2) hx).1
  · cases ho
set_option maxHeartbeats 8000000 in
set_option maxRecDepth 20000 in
theorem law_Cham (l : List Int) (hl : okBts l) : ACalls Try.prog 13 [.c (.sl 5 .ro (bts l))] [] (.c (.p (.bool (true)))) [] 0 := by
  have hl1 := hl.1
  refine acalls_of (ws := [.c (.p (.bool (true)))]) Try.func13 rfl rfl rfl rfl fun w0 B m hm0 => ?_; (refine awp_norm (τ := ?_) ?_ ?_; rotate_left; (focus (simp only [AV.top, Try.ntmps13, List.length_cons, List.length_nil, Nat.reduceAdd, Nat.reduceSub, List.replicate_succ, List.replicate_zero, List.cons_append, List.nil_append]; exact rfl)))
  refine awp_partE (α := Chamber_ × List Hull_ × Option (List Int) × Option (List Nat)) 9 1 (Nat.le_trans (Nat.le_of_eq hm0) (Nat.zero_le 1)) rfl [0] (fun x => [(3, .c (.ptr 0 0)), (4, .c (.sl 40 (.own 0) (hulls (x.2.1)))), (5, miV x.2.2.1), (6, .c (.p (.bool (x.2.2.1.isSome)))), (9, .c (.p (.int .i64 ((fewR x.1 x.2.1).1)))), (13, oiV x.2.2.2), (14, .c (.p (.bool (x.2.2.2.isSome))))]) (fun x => [[.p (.int .i64 (x.1).ln), .p (.int .i64 (x.1).wd)]]) (fun _ => 3) (fun x => x.2.1.length ≤ 6 ∧ x.2.2.1 = mostR x.1 x.2.1 ∧ x.2.2.2 = ordF x.1 x.2.1) rfl ?_ ?_
  · (repeat' (first | refine pre_seq ?_ | (first | refine awp_seq ?_ | refine awp_region ?_ | refine awp_block ?_ | refine awp_exit ?_ | refine awp_ret ?_ | refine awp_skip ?_ | refine ar_nil ?_ | refine dr_nil ?_ | (first | refine t_norm ?_ | refine t_exit ?_ | refine t_ret ?_ | refine b_norm ?_ | refine b_exit ?_ | refine b_exit_ne rfl ?_ | refine b_ret ?_)) | ((first | ((first | apply ar_q | apply dr_q); exact qOp1) | ((first | apply ar_gu | apply dr_gu); exact rfl) | ((first | apply ar_gn | apply dr_gn); exact rfl; exact bdOk) | ((first | apply ar_qt | apply dr_qt); (focus (apply qt_call; kernel_rfl; exact (law_vBig l (by omega) false (decide_eq_false (by omega))); exact rfl))) | (apply ar_callE; kernel_rfl; exact (ACallsE.sv fun v => draw_Most v l hl); (focus (intro x; exact rfl)); (rintro ⟨y1, y2⟩ hx; (try dsimp only at hx)))); (first | refine ar_nrm (k := ?_) | refine dr_nrm (k := ?_))) | ((first | apply ar_gy | apply dr_gy); exact rfl; exact bdOk) | (first | (apply awp_cond_t; exact rfl; exact bdOk) | (apply awp_cond_f; exact rfl; exact bdOk)) | fail))
    revert y1 y2
    intro c hs h6
    have sp := spec_MostHulls c hs (by omega)
    have ip := impl_MostHulls c hs (by omega)
    have f1 := impl_FewestLockages c hs (by omega)
    have f2 := spec_FewestLockages c hs (by omega)
    have so := spec_LockagesInOrder c hs (by omega)
    have io := impl_LockagesInOrder c hs (by omega)
    have hfo := few_ord c hs
    cases hm : mostR c hs with
    | none =>
      have ho : ordF c hs = none := by
        unfold mostR at hm
        split at hm
        · cases hm
        · rename_i hq
          unfold ordF
          rw [if_neg hq]
      have hf : (fewR c hs).2 = false := by rw [hfo, ho]; rfl
      rw [ho] at so
      rw [hm] at sp
      rw [hf] at f1 f2
      have i1 := ip.one hm
      have i2 := io.one ho
      generalize hfw : (fewR c hs).1 = fw at f1 f2
      (repeat' (first | refine pre_seq ?_ | (first | refine awp_seq ?_ | refine awp_region ?_ | refine awp_block ?_ | refine awp_exit ?_ | refine awp_ret ?_ | refine awp_skip ?_ | refine ar_nil ?_ | refine dr_nil ?_ | (refine awp_region_draw ?_ ?_ ?_; kernel_rfl; kernel_rfl) | (first | refine t_norm ?_ | refine t_exit ?_ | refine t_ret ?_ | refine b_norm ?_ | refine b_exit ?_ | refine b_exit_ne rfl ?_ | refine b_ret ?_)) | ((first | ((first | apply ar_q | apply dr_q); exact qOp1) | ((first | apply ar_gu | apply dr_gu); exact rfl) | ((first | apply ar_gn | apply dr_gn); exact rfl; exact bdOk) | (first | (apply ar_box; exact rfl) | (apply ar_store; exact rfl; exact rfl; exact rfl; (focus (first | decide | (simp; done) | exact Nat.le_refl _)); kernel_rfl; exact rfl)) | (apply ar_alloc (ys := ([.int .i64 0, .int .i64 0] : List Value)); kernel_rfl) | (apply ar_call; kernel_rfl; exact (i1); exact rfl) | (apply ar_call; kernel_rfl; exact (sp); exact rfl) | ((first | apply ar_qt | apply dr_qt); (focus (apply qt_call; kernel_rfl; exact (f1); exact rfl))) | ((first | apply ar_qt | apply dr_qt); (focus (apply qt_call; kernel_rfl; exact (f2); exact rfl))) | (apply ar_call; kernel_rfl; exact (i2); exact rfl) | (apply ar_call; kernel_rfl; exact (so); exact rfl) | ((first | apply ar_qt | apply dr_qt); (focus (apply qt_call; kernel_rfl; exact (ACalls.nl0 (law_vInts [] (by simp))); exact rfl)))); (first | refine ar_nrm (k := ?_) | refine dr_nrm (k := ?_))) | ((first | apply ar_gy | apply dr_gy); exact rfl; exact bdOk) | (first | (apply awp_cond_t; exact rfl; exact bdOk) | (apply awp_cond_f; exact rfl; exact bdOk)) | fail))
      (dsimp only [miK, inK, Nat.reduceAdd]; refine pre_zero ⟨(c, hs, none, none), [0, 1, 2], ?_, by decide, (by intro j hj; dsimp only; simp only [List.mem_cons, List.not_mem_nil, or_false] at hj; omega), ?_⟩; rotate_left; refine lkr_nrm (k := ?_); refine le_mk hsLe ?_; (repeat (first | exact AVs.le.nil | (with_reducible refine AVs.le.top _ ?_) | (with_reducible refine AVs.le.eq _ ?_) | refine AVs.le.eqv ?_ ?_)))
      all_goals first | exact rfl | exact ⟨h6, hm.symm, ho.symm⟩ | exact pi hfw.symm
    | some ids =>
      have hM := mostL hm
      have hi4 := hM.le
      have h4 := hM.h4
      rw [hm] at sp
      have i1 := ip.one hm
      cases ho : ordF c hs with
      | none =>
        have hf : (fewR c hs).2 = false := by rw [hfo, ho]; rfl
        rw [ho] at so
        rw [hf] at f1 f2
        have i2 := io.one ho
        generalize hfw : (fewR c hs).1 = fw at f1 f2
        (repeat' (first | refine pre_seq ?_ | (first | refine awp_seq ?_ | refine awp_region ?_ | refine awp_block ?_ | refine awp_exit ?_ | refine awp_ret ?_ | refine awp_skip ?_ | refine ar_nil ?_ | refine dr_nil ?_ | (refine awp_region_draw ?_ ?_ ?_; kernel_rfl; kernel_rfl) | (first | refine t_norm ?_ | refine t_exit ?_ | refine t_ret ?_ | refine b_norm ?_ | refine b_exit ?_ | refine b_exit_ne rfl ?_ | refine b_ret ?_)) | ((first | ((first | apply ar_q | apply dr_q); exact qOp1) | ((first | apply ar_gu | apply dr_gu); exact rfl) | ((first | apply ar_gn | apply dr_gn); exact rfl; exact bdOk) | (first | (apply ar_box; exact rfl) | (apply ar_store; exact rfl; exact rfl; exact rfl; (focus (first | decide | (simp; done) | exact Nat.le_refl _)); kernel_rfl; exact rfl)) | (apply ar_alloc (ys := ([.int .i64 0, .int .i64 0] : List Value)); kernel_rfl) | (apply ar_call; kernel_rfl; exact (i1); exact rfl) | (apply ar_call; kernel_rfl; exact (sp); exact rfl) | ((first | apply ar_qt | apply dr_qt); (focus (apply qt_call; kernel_rfl; exact (f1); exact rfl))) | ((first | apply ar_qt | apply dr_qt); (focus (apply qt_call; kernel_rfl; exact (f2); exact rfl))) | (apply ar_call; kernel_rfl; exact (i2); exact rfl) | (apply ar_call; kernel_rfl; exact (so); exact rfl) | ((first | apply ar_qt | apply dr_qt); (focus (apply qt_call; kernel_rfl; exact (law_vInts ids (by omega)); exact rfl))) | ((first | apply ar_qt | apply dr_qt); (focus (apply qt_call; kernel_rfl; exact (ACalls.nl0 (law_vInts [] (by simp))); exact rfl)))); (first | refine ar_nrm (k := ?_) | refine dr_nrm (k := ?_))) | ((first | apply ar_gy | apply dr_gy); exact rfl; exact bdOk) | (first | (apply awp_cond_t; exact rfl; exact bdOk) | (apply awp_cond_f; exact rfl; exact bdOk)) | fail))
        (dsimp only [miK, inK, Nat.reduceAdd]; refine pre_zero ⟨(c, hs, some ids, none), [0, 1, 2], ?_, by decide, (by intro j hj; dsimp only; simp only [List.mem_cons, List.not_mem_nil, or_false] at hj; omega), ?_⟩; rotate_left; refine lkr_nrm (k := ?_); refine le_mk hsLe ?_; (repeat (first | exact AVs.le.nil | (with_reducible refine AVs.le.top _ ?_) | (with_reducible refine AVs.le.eq _ ?_) | refine AVs.le.eqv ?_ ?_)))
        all_goals first | exact rfl | exact ⟨h6, hm.symm, ho.symm⟩ | exact pi hfw.symm
      | some out =>
        have hlo : out.length ≤ 4 := by
          have hM2 := hM.ok
          simp only [Bool.and_eq_true] at hM2
          have e := ordF_yes hM2.1 hM2.2
          rw [ho] at e
          obtain ⟨x, hx, rfl⟩ := Option.map_eq_some_iff.1 e.symm
          have := (ordTo_len (l := x.1) (b := x.2.1) (out := x.2.2) hx).1
          omega
        have hf : (fewR c hs).2 = true := by rw [hfo, ho]; rfl
        rw [ho] at so
        rw [hf] at f1 f2
        have i2 := io.one ho
        generalize hfw : (fewR c hs).1 = fw at f1 f2
        (repeat' (first | refine pre_seq ?_ | (first | refine awp_seq ?_ | refine awp_region ?_ | refine awp_block ?_ | refine awp_exit ?_ | refine awp_ret ?_ | refine awp_skip ?_ | refine ar_nil ?_ | refine dr_nil ?_ | (refine awp_region_draw ?_ ?_ ?_; kernel_rfl; kernel_rfl) | (first | refine t_norm ?_ | refine t_exit ?_ | refine t_ret ?_ | refine b_norm ?_ | refine b_exit ?_ | refine b_exit_ne rfl ?_ | refine b_ret ?_)) | ((first | ((first | apply ar_q | apply dr_q); exact qOp1) | ((first | apply ar_gu | apply dr_gu); exact rfl) | ((first | apply ar_gn | apply dr_gn); exact rfl; exact bdOk) | (first | (apply ar_box; exact rfl) | (apply ar_store; exact rfl; exact rfl; exact rfl; (focus (first | decide | (simp; done) | exact Nat.le_refl _)); kernel_rfl; exact rfl)) | (apply ar_alloc (ys := ([.int .i64 0, .int .i64 0] : List Value)); kernel_rfl) | (apply ar_call; kernel_rfl; exact (i1); exact rfl) | (apply ar_call; kernel_rfl; exact (sp); exact rfl) | ((first | apply ar_qt | apply dr_qt); (focus (apply qt_call; kernel_rfl; exact (f1); exact rfl))) | ((first | apply ar_qt | apply dr_qt); (focus (apply qt_call; kernel_rfl; exact (f2); exact rfl))) | (apply ar_call; kernel_rfl; exact (i2); exact rfl) | (apply ar_call; kernel_rfl; exact (so); exact rfl) | ((first | apply ar_qt | apply dr_qt); (focus (apply qt_call; kernel_rfl; exact (law_vInts ids (by omega)); exact rfl))) | ((first | apply ar_qt | apply dr_qt); (focus (apply qt_call; kernel_rfl; exact (law_vNats out (by omega)); exact rfl)))); (first | refine ar_nrm (k := ?_) | refine dr_nrm (k := ?_))) | ((first | apply ar_gy | apply dr_gy); exact rfl; exact bdOk) | (first | (apply awp_cond_t; exact rfl; exact bdOk) | (apply awp_cond_f; exact rfl; exact bdOk)) | fail))
        (dsimp only [miK, inK, Nat.reduceAdd]; refine pre_zero ⟨(c, hs, some ids, some out), [0, 1, 3], ?_, by decide, (by intro j hj; dsimp only; simp only [List.mem_cons, List.not_mem_nil, or_false] at hj; omega), ?_⟩; rotate_left; refine lkr_nrm (k := ?_); refine le_mk hsLe ?_; (repeat (first | exact AVs.le.nil | (with_reducible refine AVs.le.top _ ?_) | (with_reducible refine AVs.le.eq _ ?_) | refine AVs.le.eqv ?_ ?_)))
        all_goals first | exact rfl | exact ⟨h6, hm.symm, ho.symm⟩ | exact pi hfw.symm
  rintro ⟨c, hs, mi, oi⟩ ⟨h6, hm, ho⟩
  dsimp only at h6 hm ho
  refine nh_nrm (k := ?_)
  refine awp_part 2 0 (Nat.le_of_eq hm0) rfl [0] [] [] 0 rfl ?_ ?_
  · cases mi with
    | none =>
      have ho : oi = none := by
        rw [ho]
        unfold mostR at hm
        split at hm
        · cases hm
        · rename_i hq
          unfold ordF
          rw [if_neg hq]
      subst ho
      dsimp only [miV, oiV, Option.isSome_none]
      (repeat' (first | refine pre_seq ?_ | (first | refine awp_seq ?_ | refine awp_region ?_ | refine awp_block ?_ | refine awp_exit ?_ | refine awp_ret ?_ | refine awp_skip ?_ | refine ar_nil ?_ | refine dr_nil ?_ | (refine awp_region_draw ?_ ?_ ?_; kernel_rfl; kernel_rfl) | (first | refine t_norm ?_ | refine t_exit ?_ | refine t_ret ?_ | refine b_norm ?_ | refine b_exit ?_ | refine b_exit_ne rfl ?_ | refine b_ret ?_)) | ((first | ((first | apply ar_q | apply dr_q); exact qOp1) | ((first | apply ar_gu | apply dr_gu); exact rfl) | ((first | apply ar_gn | apply dr_gn); exact rfl; exact bdOk) | (first | (apply ar_box; exact rfl) | (apply ar_store; exact rfl; exact rfl; exact rfl; (focus (first | decide | (simp; done) | exact Nat.le_refl _)); kernel_rfl; exact rfl)) | ((first | apply ar_q | apply dr_q); (focus (apply q_len_n; kernel_rfl; exact rfl)))); (first | refine ar_nrm (k := ?_) | refine dr_nrm (k := ?_))) | ((first | apply ar_gy | apply dr_gy); exact rfl; exact bdOk) | (first | (apply awp_cond_t; exact rfl; exact bdOk) | (apply awp_cond_f; exact rfl; exact bdOk)) | fail))
      (refine pre_zero ⟨[], by simp, by simp, ?_⟩; refine lkr_nrm (k := ?_); refine le_mk hsLe ?_; (repeat (first | exact AVs.le.nil | (with_reducible refine AVs.le.top _ ?_) | (with_reducible refine AVs.le.eq _ ?_) | refine AVs.le.eqv ?_ ?_)))
    | some ids =>
      cases oi with
      | none =>
        have hM := mostL hm.symm
        obtain ⟨h4, hok, ⟨out1, hsome⟩, htwo, hle⟩ := hM
        have hli : (its ids).length = ids.length := its_len ids
        have hlh : (hulls hs).length = hs.length := List.length_map ..
        dsimp only [miV, oiV, Option.isSome_some, Option.isSome_none]
        (repeat' (first | refine pre_seq ?_ | (first | refine awp_seq ?_ | refine awp_region ?_ | refine awp_block ?_ | refine awp_exit ?_ | refine awp_ret ?_ | refine awp_skip ?_ | refine ar_nil ?_ | refine dr_nil ?_ | (refine awp_region_draw ?_ ?_ ?_; kernel_rfl; kernel_rfl) | (first | refine t_norm ?_ | refine t_exit ?_ | refine t_ret ?_ | refine b_norm ?_ | refine b_exit ?_ | refine b_exit_ne rfl ?_ | refine b_ret ?_)) | ((first | ((first | apply ar_q | apply dr_q); exact qOp1) | ((first | apply ar_gu | apply dr_gu); exact rfl) | ((first | apply ar_gn | apply dr_gn); exact rfl; exact bdOk) | (first | (apply ar_box; exact rfl) | (apply ar_store; exact rfl; exact rfl; exact rfl; (focus (first | decide | (simp; done) | exact Nat.le_refl _)); kernel_rfl; exact rfl)) | (apply ar_bslice (e := 40) 3; kernel_rfl; (focus (decide +kernel)); kernel_rfl; exact rfl; exact rfl; exact rfl; exact rfl; decide)); (first | refine ar_nrm (k := ?_) | refine dr_nrm (k := ?_))) | ((first | apply ar_gy | apply dr_gy); exact rfl; exact bdOk) | (first | (apply awp_cond_t; exact rfl; exact bdOk) | (apply awp_cond_f; exact rfl; exact bdOk)) | fail))
        refine awp_loopR 1 (Nat.le_trans (Nat.le_of_eq hm0) (Nat.zero_le 1)) rfl [0, 3, 4, 5, 6, 9, 13, 14] (fun i : Nat => [(17, .c (.sl 40 (.own 3) (hulls ((hs.take i).filter fun h => ids.elem h.id)))), (18, .c (.p (.int .i64 (i))))]) (fun _ => [[.p (.int .i64 (c).ln), .p (.int .i64 (c).wd)]]) (fun _ => 4) (fun n i => i ≤ hs.length ∧ n = hs.length - i) _ 0 ⟨by omega, rfl⟩ ?_ ?_
        · refine le_nrm (k := ?_); refine le_mk hsLe ?_; (repeat (first | exact AVs.le.nil | (with_reducible refine AVs.le.top _ ?_) | (with_reducible refine AVs.le.eq _ ?_) | refine AVs.le.eqv ?_ ?_)) <;> first | exact rfl | exact pi (by omega)
        rintro n i ⟨hi, rfl⟩
        refine nh_nrm (k := ?_)
        have hlf : ((hs.take i).filter fun h => ids.elem h.id).length ≤ 4 := by
          have := List.length_filter_le (fun h => ids.elem h.id) (hs.take i)
          rw [List.length_take] at this; omega
        by_cases hil : i < hs.length
        · have e1 := hulls_hAt hil
          have hst := filter_take (p := fun h : Hull_ => ids.elem h.id) hil
          rw [← hAt_eq hil] at hst
          have hv := law_vHas ids (hAt hs i).id (by omega)
          generalize hel : ids.elem (hAt hs i).id = el at hv
          generalize hfl : ((hs.take i).filter fun h => ids.elem h.id) = fl at *
          have hlfl : (hulls fl).length = fl.length := List.length_map ..
          cases el with
          | false =>
            rw [if_neg (by rw [hel]; simp), List.append_nil] at hst
            (repeat' (first | refine pre_seq ?_ | (first | refine awp_seq ?_ | refine awp_region ?_ | refine awp_block ?_ | refine awp_exit ?_ | refine awp_ret ?_ | refine awp_skip ?_ | refine ar_nil ?_ | refine dr_nil ?_ | (refine awp_region_draw ?_ ?_ ?_; kernel_rfl; kernel_rfl) | (first | refine t_norm ?_ | refine t_exit ?_ | refine t_ret ?_ | refine b_norm ?_ | refine b_exit ?_ | refine b_exit_ne rfl ?_ | refine b_ret ?_)) | ((first | ((first | apply ar_q | apply dr_q); exact qOp1) | ((first | apply ar_gu | apply dr_gu); exact rfl) | ((first | apply ar_gn | apply dr_gn); exact rfl; exact bdOk) | (first | (apply ar_box; exact rfl) | (apply ar_store; exact rfl; exact rfl; exact rfl; (focus (first | decide | (simp; done) | exact Nat.le_refl _)); kernel_rfl; exact rfl)) | ((first | apply ar_qt | apply dr_qt); (focus (apply qt_call; kernel_rfl; exact (hv); exact rfl)))); (first | refine ar_nrm (k := ?_) | refine dr_nrm (k := ?_))) | ((first | apply ar_gy | apply dr_gy); exact rfl; exact bdOk) | (first | (apply awp_cond_t; exact rfl; exact bdOk) | (apply awp_cond_f; exact rfl; exact bdOk)) | fail))
            refine ⟨_, i + 1, [0, 1, 2, 3], ?_, ⟨by omega, rfl⟩, by decide, (by intro j hj; dsimp only; simp only [List.mem_cons, List.not_mem_nil, or_false] at hj; omega), ?_⟩
            · omega
            · refine lkr_nrm (k := ?_); refine le_mk hsLe ?_; (repeat (first | exact AVs.le.nil | (with_reducible refine AVs.le.top _ ?_) | (with_reducible refine AVs.le.eq _ ?_) | refine AVs.le.eqv ?_ ?_)) <;> first | exact rfl | exact pi (by omega) | exact pl (congrArg hulls hst.symm) | trace_state
          | true =>
            rw [if_pos hel] at hst
            (repeat' (first | refine pre_seq ?_ | (first | refine awp_seq ?_ | refine awp_region ?_ | refine awp_block ?_ | refine awp_exit ?_ | refine awp_ret ?_ | refine awp_skip ?_ | refine ar_nil ?_ | refine dr_nil ?_ | (refine awp_region_draw ?_ ?_ ?_; kernel_rfl; kernel_rfl) | (first | refine t_norm ?_ | refine t_exit ?_ | refine t_ret ?_ | refine b_norm ?_ | refine b_exit ?_ | refine b_exit_ne rfl ?_ | refine b_ret ?_)) | ((first | ((first | apply ar_q | apply dr_q); exact qOp1) | ((first | apply ar_gu | apply dr_gu); exact rfl) | ((first | apply ar_gn | apply dr_gn); exact rfl; exact bdOk) | (first | (apply ar_box; exact rfl) | (apply ar_store; exact rfl; exact rfl; exact rfl; (focus (first | decide | (simp; done) | exact Nat.le_refl _)); kernel_rfl; exact rfl)) | ((first | apply ar_qt | apply dr_qt); (focus (apply qt_call; kernel_rfl; exact (hv); exact rfl))) | (apply ar_bslice (e := 40) 3; kernel_rfl; (focus (decide +kernel)); kernel_rfl; exact rfl; exact rfl; exact rfl; exact rfl; decide) | (apply ar_append; kernel_rfl; kernel_rfl; exact rfl; exact rfl; exact ((by exact hulls_ok [hAt hs i])); (focus ((simp; omega))); exact rfl)); (first | refine ar_nrm (k := ?_) | refine dr_nrm (k := ?_))) | ((first | apply ar_gy | apply dr_gy); exact rfl; exact bdOk) | (first | (apply awp_cond_t; exact rfl; exact bdOk) | (apply awp_cond_f; exact rfl; exact bdOk)) | fail))
            refine ⟨_, i + 1, [0, 1, 2, 3], ?_, ⟨by omega, rfl⟩, by decide, (by intro j hj; dsimp only; simp only [List.mem_cons, List.not_mem_nil, or_false] at hj; omega), ?_⟩
            · omega
            · refine lkr_nrm (k := ?_); refine le_mk hsLe ?_; (repeat (first | exact AVs.le.nil | (with_reducible refine AVs.le.top _ ?_) | (with_reducible refine AVs.le.eq _ ?_) | refine AVs.le.eqv ?_ ?_)) <;> first | exact rfl | exact pi (by omega) | (refine pl ?_; rw [hst]; simp [hulls, Hull_.cells]; done) | trace_state
        · obtain rfl : i = hs.length := by omega
          rw [List.take_length] at hlf ⊢
          have p1 := (impl_FirstPacking c (hs.filter fun h => ids.elem h.id) (by omega)).one hsome
          generalize (hs.filter fun h => ids.elem h.id) = fl at *
          have hfp := impl_FirstPacking c hs (by omega)
          cases hv : fpF c hs with
          | none =>
            have p2 := hfp.one hv
            rw [hv] at htwo
            have hne : ids.length ≠ hs.length := fun e => by rw [decide_eq_true e] at htwo; cases htwo
            (repeat' (first | refine pre_seq ?_ | (first | refine awp_seq ?_ | refine awp_region ?_ | refine awp_block ?_ | refine awp_exit ?_ | refine awp_ret ?_ | refine awp_skip ?_ | refine ar_nil ?_ | refine dr_nil ?_ | (refine awp_region_draw ?_ ?_ ?_; kernel_rfl; kernel_rfl) | (first | refine t_norm ?_ | refine t_exit ?_ | refine t_ret ?_ | refine b_norm ?_ | refine b_exit ?_ | refine b_exit_ne rfl ?_ | refine b_ret ?_)) | ((first | ((first | apply ar_q | apply dr_q); exact qOp1) | ((first | apply ar_gu | apply dr_gu); exact rfl) | ((first | apply ar_gn | apply dr_gn); exact rfl; exact bdOk) | (first | (apply ar_box; exact rfl) | (apply ar_store; exact rfl; exact rfl; exact rfl; (focus (first | decide | (simp; done) | exact Nat.le_refl _)); kernel_rfl; exact rfl)) | ((first | apply ar_q | apply dr_q); (focus (apply q_len_n; kernel_rfl; exact rfl))) | (apply ar_call; kernel_rfl; exact (p1); exact rfl) | (apply ar_call; kernel_rfl; exact (p2); exact rfl)); (first | refine ar_nrm (k := ?_) | refine dr_nrm (k := ?_))) | ((first | apply ar_gy | apply dr_gy); exact rfl; exact bdOk) | (first | (apply awp_cond_t; exact rfl; exact bdOk) | (apply awp_cond_f; exact rfl; exact bdOk)) | fail))
            (refine pre_zero ⟨[], by simp, by simp, ?_⟩; refine lkr_nrm (k := ?_); refine le_mk hsLe ?_; (repeat (first | exact AVs.le.nil | (with_reducible refine AVs.le.top _ ?_) | (with_reducible refine AVs.le.eq _ ?_) | refine AVs.le.eqv ?_ ?_)))
          | some op =>
            have p2 := hfp.one hv
            rw [hv] at htwo
            have hne : ids.length = hs.length := of_decide_eq_true htwo.symm
            (repeat' (first | refine pre_seq ?_ | (first | refine awp_seq ?_ | refine awp_region ?_ | refine awp_block ?_ | refine awp_exit ?_ | refine awp_ret ?_ | refine awp_skip ?_ | refine ar_nil ?_ | refine dr_nil ?_ | (refine awp_region_draw ?_ ?_ ?_; kernel_rfl; kernel_rfl) | (first | refine t_norm ?_ | refine t_exit ?_ | refine t_ret ?_ | refine b_norm ?_ | refine b_exit ?_ | refine b_exit_ne rfl ?_ | refine b_ret ?_)) | ((first | ((first | apply ar_q | apply dr_q); exact qOp1) | ((first | apply ar_gu | apply dr_gu); exact rfl) | ((first | apply ar_gn | apply dr_gn); exact rfl; exact bdOk) | (first | (apply ar_box; exact rfl) | (apply ar_store; exact rfl; exact rfl; exact rfl; (focus (first | decide | (simp; done) | exact Nat.le_refl _)); kernel_rfl; exact rfl)) | ((first | apply ar_q | apply dr_q); (focus (apply q_len_n; kernel_rfl; exact rfl))) | (apply ar_call; kernel_rfl; exact (p1); exact rfl) | (apply ar_call; kernel_rfl; exact (p2); exact rfl)); (first | refine ar_nrm (k := ?_) | refine dr_nrm (k := ?_))) | ((first | apply ar_gy | apply dr_gy); exact rfl; exact bdOk) | (first | (apply awp_cond_t; exact rfl; exact bdOk) | (apply awp_cond_f; exact rfl; exact bdOk)) | fail))
            (refine pre_zero ⟨[], by simp, by simp, ?_⟩; refine lkr_nrm (k := ?_); refine le_mk hsLe ?_; (repeat (first | exact AVs.le.nil | (with_reducible refine AVs.le.top _ ?_) | (with_reducible refine AVs.le.eq _ ?_) | refine AVs.le.eqv ?_ ?_)))
      | some out =>
        have hM := mostL hm.symm
        obtain ⟨h4, hok, ⟨out1, hsome⟩, htwo, hle⟩ := hM
        have hli : (its ids).length = ids.length := its_len ids
        have hlh : (hulls hs).length = hs.length := List.length_map ..
        dsimp only [miV, oiV, Option.isSome_some]
        (repeat' (first | refine pre_seq ?_ | (first | refine awp_seq ?_ | refine awp_region ?_ | refine awp_block ?_ | refine awp_exit ?_ | refine awp_ret ?_ | refine awp_skip ?_ | refine ar_nil ?_ | refine dr_nil ?_ | (refine awp_region_draw ?_ ?_ ?_; kernel_rfl; kernel_rfl) | (first | refine t_norm ?_ | refine t_exit ?_ | refine t_ret ?_ | refine b_norm ?_ | refine b_exit ?_ | refine b_exit_ne rfl ?_ | refine b_ret ?_)) | ((first | ((first | apply ar_q | apply dr_q); exact qOp1) | ((first | apply ar_gu | apply dr_gu); exact rfl) | ((first | apply ar_gn | apply dr_gn); exact rfl; exact bdOk) | (first | (apply ar_box; exact rfl) | (apply ar_store; exact rfl; exact rfl; exact rfl; (focus (first | decide | (simp; done) | exact Nat.le_refl _)); kernel_rfl; exact rfl)) | (apply ar_bslice (e := 40) 3; kernel_rfl; (focus (decide +kernel)); kernel_rfl; exact rfl; exact rfl; exact rfl; exact rfl; decide)); (first | refine ar_nrm (k := ?_) | refine dr_nrm (k := ?_))) | ((first | apply ar_gy | apply dr_gy); exact rfl; exact bdOk) | (first | (apply awp_cond_t; exact rfl; exact bdOk) | (apply awp_cond_f; exact rfl; exact bdOk)) | fail))
        refine awp_loopR 1 (Nat.le_trans (Nat.le_of_eq hm0) (Nat.zero_le 1)) rfl [0, 3, 4, 5, 6, 9, 13, 14] (fun i : Nat => [(17, .c (.sl 40 (.own 3) (hulls ((hs.take i).filter fun h => ids.elem h.id)))), (18, .c (.p (.int .i64 (i))))]) (fun _ => [[.p (.int .i64 (c).ln), .p (.int .i64 (c).wd)]]) (fun _ => 4) (fun n i => i ≤ hs.length ∧ n = hs.length - i) _ 0 ⟨by omega, rfl⟩ ?_ ?_
        · refine le_nrm (k := ?_); refine le_mk hsLe ?_; (repeat (first | exact AVs.le.nil | (with_reducible refine AVs.le.top _ ?_) | (with_reducible refine AVs.le.eq _ ?_) | refine AVs.le.eqv ?_ ?_)) <;> first | exact rfl | exact pi (by omega)
        rintro n i ⟨hi, rfl⟩
        refine nh_nrm (k := ?_)
        have hlf : ((hs.take i).filter fun h => ids.elem h.id).length ≤ 4 := by
          have := List.length_filter_le (fun h => ids.elem h.id) (hs.take i)
          rw [List.length_take] at this; omega
        by_cases hil : i < hs.length
        · have e1 := hulls_hAt hil
          have hst := filter_take (p := fun h : Hull_ => ids.elem h.id) hil
          rw [← hAt_eq hil] at hst
          have hv := law_vHas ids (hAt hs i).id (by omega)
          generalize hel : ids.elem (hAt hs i).id = el at hv
          generalize hfl : ((hs.take i).filter fun h => ids.elem h.id) = fl at *
          have hlfl : (hulls fl).length = fl.length := List.length_map ..
          cases el with
          | false =>
            rw [if_neg (by rw [hel]; simp), List.append_nil] at hst
            (repeat' (first | refine pre_seq ?_ | (first | refine awp_seq ?_ | refine awp_region ?_ | refine awp_block ?_ | refine awp_exit ?_ | refine awp_ret ?_ | refine awp_skip ?_ | refine ar_nil ?_ | refine dr_nil ?_ | (refine awp_region_draw ?_ ?_ ?_; kernel_rfl; kernel_rfl) | (first | refine t_norm ?_ | refine t_exit ?_ | refine t_ret ?_ | refine b_norm ?_ | refine b_exit ?_ | refine b_exit_ne rfl ?_ | refine b_ret ?_)) | ((first | ((first | apply ar_q | apply dr_q); exact qOp1) | ((first | apply ar_gu | apply dr_gu); exact rfl) | ((first | apply ar_gn | apply dr_gn); exact rfl; exact bdOk) | (first | (apply ar_box; exact rfl) | (apply ar_store; exact rfl; exact rfl; exact rfl; (focus (first | decide | (simp; done) | exact Nat.le_refl _)); kernel_rfl; exact rfl)) | ((first | apply ar_qt | apply dr_qt); (focus (apply qt_call; kernel_rfl; exact (hv); exact rfl)))); (first | refine ar_nrm (k := ?_) | refine dr_nrm (k := ?_))) | ((first | apply ar_gy | apply dr_gy); exact rfl; exact bdOk) | (first | (apply awp_cond_t; exact rfl; exact bdOk) | (apply awp_cond_f; exact rfl; exact bdOk)) | fail))
            refine ⟨_, i + 1, [0, 1, 2, 3], ?_, ⟨by omega, rfl⟩, by decide, (by intro j hj; dsimp only; simp only [List.mem_cons, List.not_mem_nil, or_false] at hj; omega), ?_⟩
            · omega
            · refine lkr_nrm (k := ?_); refine le_mk hsLe ?_; (repeat (first | exact AVs.le.nil | (with_reducible refine AVs.le.top _ ?_) | (with_reducible refine AVs.le.eq _ ?_) | refine AVs.le.eqv ?_ ?_)) <;> first | exact rfl | exact pi (by omega) | exact pl (congrArg hulls hst.symm) | trace_state
          | true =>
            rw [if_pos hel] at hst
            (repeat' (first | refine pre_seq ?_ | (first | refine awp_seq ?_ | refine awp_region ?_ | refine awp_block ?_ | refine awp_exit ?_ | refine awp_ret ?_ | refine awp_skip ?_ | refine ar_nil ?_ | refine dr_nil ?_ | (refine awp_region_draw ?_ ?_ ?_; kernel_rfl; kernel_rfl) | (first | refine t_norm ?_ | refine t_exit ?_ | refine t_ret ?_ | refine b_norm ?_ | refine b_exit ?_ | refine b_exit_ne rfl ?_ | refine b_ret ?_)) | ((first | ((first | apply ar_q | apply dr_q); exact qOp1) | ((first | apply ar_gu | apply dr_gu); exact rfl) | ((first | apply ar_gn | apply dr_gn); exact rfl; exact bdOk) | (first | (apply ar_box; exact rfl) | (apply ar_store; exact rfl; exact rfl; exact rfl; (focus (first | decide | (simp; done) | exact Nat.le_refl _)); kernel_rfl; exact rfl)) | ((first | apply ar_qt | apply dr_qt); (focus (apply qt_call; kernel_rfl; exact (hv); exact rfl))) | (apply ar_bslice (e := 40) 3; kernel_rfl; (focus (decide +kernel)); kernel_rfl; exact rfl; exact rfl; exact rfl; exact rfl; decide) | (apply ar_append; kernel_rfl; kernel_rfl; exact rfl; exact rfl; exact ((by exact hulls_ok [hAt hs i])); (focus ((simp; omega))); exact rfl)); (first | refine ar_nrm (k := ?_) | refine dr_nrm (k := ?_))) | ((first | apply ar_gy | apply dr_gy); exact rfl; exact bdOk) | (first | (apply awp_cond_t; exact rfl; exact bdOk) | (apply awp_cond_f; exact rfl; exact bdOk)) | fail))
            refine ⟨_, i + 1, [0, 1, 2, 3], ?_, ⟨by omega, rfl⟩, by decide, (by intro j hj; dsimp only; simp only [List.mem_cons, List.not_mem_nil, or_false] at hj; omega), ?_⟩
            · omega
            · refine lkr_nrm (k := ?_); refine le_mk hsLe ?_; (repeat (first | exact AVs.le.nil | (with_reducible refine AVs.le.top _ ?_) | (with_reducible refine AVs.le.eq _ ?_) | refine AVs.le.eqv ?_ ?_)) <;> first | exact rfl | exact pi (by omega) | (refine pl ?_; rw [hst]; simp [hulls, Hull_.cells]; done) | trace_state
        · obtain rfl : i = hs.length := by omega
          rw [List.take_length] at hlf ⊢
          have p1 := (impl_FirstPacking c (hs.filter fun h => ids.elem h.id) (by omega)).one hsome
          generalize (hs.filter fun h => ids.elem h.id) = fl at *
          have hfp := impl_FirstPacking c hs (by omega)
          cases hv : fpF c hs with
          | none =>
            have p2 := hfp.one hv
            rw [hv] at htwo
            have hne : ids.length ≠ hs.length := fun e => by rw [decide_eq_true e] at htwo; cases htwo
            have hln := nats_len out
            have hlo : out.length ≤ hs.length := ord_len ho.symm
            rcases Nat.eq_zero_or_pos out.length with h0 | h0
            · obtain rfl : out = [] := List.length_eq_zero_iff.1 h0
              (repeat' (first | refine pre_seq ?_ | (first | refine awp_seq ?_ | refine awp_region ?_ | refine awp_block ?_ | refine awp_exit ?_ | refine awp_ret ?_ | refine awp_skip ?_ | refine ar_nil ?_ | refine dr_nil ?_ | (refine awp_region_draw ?_ ?_ ?_; kernel_rfl; kernel_rfl) | (first | refine t_norm ?_ | refine t_exit ?_ | refine t_ret ?_ | refine b_norm ?_ | refine b_exit ?_ | refine b_exit_ne rfl ?_ | refine b_ret ?_)) | ((first | ((first | apply ar_q | apply dr_q); exact qOp1) | ((first | apply ar_gu | apply dr_gu); exact rfl) | ((first | apply ar_gn | apply dr_gn); exact rfl; exact bdOk) | (first | (apply ar_box; exact rfl) | (apply ar_store; exact rfl; exact rfl; exact rfl; (focus (first | decide | (simp; done) | exact Nat.le_refl _)); kernel_rfl; exact rfl)) | (apply ar_call; kernel_rfl; exact (p1); exact rfl) | (apply ar_call; kernel_rfl; exact (p2); exact rfl)); (first | refine ar_nrm (k := ?_) | refine dr_nrm (k := ?_))) | ((first | apply ar_gy | apply dr_gy); exact rfl; exact bdOk) | (first | (apply awp_cond_t; exact rfl; exact bdOk) | (apply awp_cond_f; exact rfl; exact bdOk)) | fail))
              (refine pre_zero ⟨[], by simp, by simp, ?_⟩; refine lkr_nrm (k := ?_); refine le_mk hsLe ?_; (repeat (first | exact AVs.le.nil | (with_reducible refine AVs.le.top _ ?_) | (with_reducible refine AVs.le.eq _ ?_) | refine AVs.le.eqv ?_ ?_)))
            · obtain ⟨_, _, q3, _, ⟨xo, q5, q6, q7⟩, q8, q9, q10, q11⟩ := few_law ho.symm h0
              have e2 : (nats out)[(((nats out).length : Int) - 1).toNat]? = some [Value.int .i64 (xo : Int)] := nats_at' (by rw [← q5]; congr 1; omega)
              rw [← most_eq hm.symm] at q10 q11
              generalize (fewR c hs).1 = fw at *
              have hq1 : ids.length ≠ out.length := by omega
              have hf1 : fw ≠ 1 := fun e => hq1 (q11.1 e)
              rcases (show fw = 2 ∨ fw = 3 ∨ fw = 4 by omega) with rfl | rfl | rfl
              all_goals
                (repeat' (first | refine pre_seq ?_ | (first | refine awp_seq ?_ | refine awp_region ?_ | refine awp_block ?_ | refine awp_exit ?_ | refine awp_ret ?_ | refine awp_skip ?_ | refine ar_nil ?_ | refine dr_nil ?_ | (refine awp_region_draw ?_ ?_ ?_; kernel_rfl; kernel_rfl) | (first | refine t_norm ?_ | refine t_exit ?_ | refine t_ret ?_ | refine b_norm ?_ | refine b_exit ?_ | refine b_exit_ne rfl ?_ | refine b_ret ?_)) | ((first | ((first | apply ar_q | apply dr_q); exact qOp1) | ((first | apply ar_gu | apply dr_gu); exact rfl) | ((first | apply ar_gn | apply dr_gn); exact rfl; exact bdOk) | (first | (apply ar_box; exact rfl) | (apply ar_store; exact rfl; exact rfl; exact rfl; (focus (first | decide | (simp; done) | exact Nat.le_refl _)); kernel_rfl; exact rfl)) | (apply ar_call; kernel_rfl; exact (p1); exact rfl) | (apply ar_call; kernel_rfl; exact (p2); exact rfl)); (first | refine ar_nrm (k := ?_) | refine dr_nrm (k := ?_))) | ((first | apply ar_gy | apply dr_gy); exact rfl; exact bdOk) | (first | (apply awp_cond_t; exact rfl; exact bdOk) | (apply awp_cond_f; exact rfl; exact bdOk)) | fail))
                (refine pre_zero ⟨[], by simp, by simp, ?_⟩; refine lkr_nrm (k := ?_); refine le_mk hsLe ?_; (repeat (first | exact AVs.le.nil | (with_reducible refine AVs.le.top _ ?_) | (with_reducible refine AVs.le.eq _ ?_) | refine AVs.le.eqv ?_ ?_)))
          | some op =>
            have p2 := hfp.one hv
            rw [hv] at htwo
            have hne : ids.length = hs.length := of_decide_eq_true htwo.symm
            have hln := nats_len out
            have hlo : out.length ≤ hs.length := ord_len ho.symm
            rcases Nat.eq_zero_or_pos out.length with h0 | h0
            · obtain rfl : out = [] := List.length_eq_zero_iff.1 h0
              (repeat' (first | refine pre_seq ?_ | (first | refine awp_seq ?_ | refine awp_region ?_ | refine awp_block ?_ | refine awp_exit ?_ | refine awp_ret ?_ | refine awp_skip ?_ | refine ar_nil ?_ | refine dr_nil ?_ | (refine awp_region_draw ?_ ?_ ?_; kernel_rfl; kernel_rfl) | (first | refine t_norm ?_ | refine t_exit ?_ | refine t_ret ?_ | refine b_norm ?_ | refine b_exit ?_ | refine b_exit_ne rfl ?_ | refine b_ret ?_)) | ((first | ((first | apply ar_q | apply dr_q); exact qOp1) | ((first | apply ar_gu | apply dr_gu); exact rfl) | ((first | apply ar_gn | apply dr_gn); exact rfl; exact bdOk) | (first | (apply ar_box; exact rfl) | (apply ar_store; exact rfl; exact rfl; exact rfl; (focus (first | decide | (simp; done) | exact Nat.le_refl _)); kernel_rfl; exact rfl)) | (apply ar_call; kernel_rfl; exact (p1); exact rfl) | (apply ar_call; kernel_rfl; exact (p2); exact rfl)); (first | refine ar_nrm (k := ?_) | refine dr_nrm (k := ?_))) | ((first | apply ar_gy | apply dr_gy); exact rfl; exact bdOk) | (first | (apply awp_cond_t; exact rfl; exact bdOk) | (apply awp_cond_f; exact rfl; exact bdOk)) | fail))
              (refine pre_zero ⟨[], by simp, by simp, ?_⟩; refine lkr_nrm (k := ?_); refine le_mk hsLe ?_; (repeat (first | exact AVs.le.nil | (with_reducible refine AVs.le.top _ ?_) | (with_reducible refine AVs.le.eq _ ?_) | refine AVs.le.eqv ?_ ?_)))
            · obtain ⟨_, _, q3, _, ⟨xo, q5, q6, q7⟩, q8, q9, q10, q11⟩ := few_law ho.symm h0
              have e2 : (nats out)[(((nats out).length : Int) - 1).toNat]? = some [Value.int .i64 (xo : Int)] := nats_at' (by rw [← q5]; congr 1; omega)
              rw [← most_eq hm.symm] at q10 q11
              generalize (fewR c hs).1 = fw at *
              have hq1 : ids.length = out.length := by omega
              have hf1 : fw = 1 := q11.2 hq1
              subst hf1
              (repeat' (first | refine pre_seq ?_ | (first | refine awp_seq ?_ | refine awp_region ?_ | refine awp_block ?_ | refine awp_exit ?_ | refine awp_ret ?_ | refine awp_skip ?_ | refine ar_nil ?_ | refine dr_nil ?_ | (refine awp_region_draw ?_ ?_ ?_; kernel_rfl; kernel_rfl) | (first | refine t_norm ?_ | refine t_exit ?_ | refine t_ret ?_ | refine b_norm ?_ | refine b_exit ?_ | refine b_exit_ne rfl ?_ | refine b_ret ?_)) | ((first | ((first | apply ar_q | apply dr_q); exact qOp1) | ((first | apply ar_gu | apply dr_gu); exact rfl) | ((first | apply ar_gn | apply dr_gn); exact rfl; exact bdOk) | (first | (apply ar_box; exact rfl) | (apply ar_store; exact rfl; exact rfl; exact rfl; (focus (first | decide | (simp; done) | exact Nat.le_refl _)); kernel_rfl; exact rfl)) | (apply ar_call; kernel_rfl; exact (p1); exact rfl) | (apply ar_call; kernel_rfl; exact (p2); exact rfl)); (first | refine ar_nrm (k := ?_) | refine dr_nrm (k := ?_))) | ((first | apply ar_gy | apply dr_gy); exact rfl; exact bdOk) | (first | (apply awp_cond_t; exact rfl; exact bdOk) | (apply awp_cond_f; exact rfl; exact bdOk)) | fail))
              (refine pre_zero ⟨[], by simp, by simp, ?_⟩; refine lkr_nrm (k := ?_); refine le_mk hsLe ?_; (repeat (first | exact AVs.le.nil | (with_reducible refine AVs.le.top _ ?_) | (with_reducible refine AVs.le.eq _ ?_) | refine AVs.le.eqv ?_ ?_)))
  · refine nh_nrm (k := ?_)
    (repeat' (first | (first | refine awp_seq ?_ | refine awp_region ?_ | refine awp_block ?_ | refine awp_exit ?_ | refine awp_ret ?_ | refine awp_skip ?_ | refine ar_nil ?_ | refine dr_nil ?_ | (first | refine t_norm ?_ | refine t_exit ?_ | refine t_ret ?_ | refine b_norm ?_ | refine b_exit ?_ | refine b_exit_ne rfl ?_ | refine b_ret ?_)) | ((first | ((first | apply ar_q | apply dr_q); exact qOp1) | ((first | apply ar_gu | apply dr_gu); exact rfl) | ((first | apply ar_gn | apply dr_gn); exact rfl; exact bdOk) | (apply ar_callE; kernel_rfl; exact (ACallsE.sv fun v => draw_Shift v l hl); (focus (intro x; exact rfl)); (rintro ⟨y1, y2, y3, y4⟩ hx; (try dsimp only at hx)))); (first | refine ar_nrm (k := ?_) | refine dr_nrm (k := ?_))) | ((first | apply ar_gy | apply dr_gy); exact rfl; exact bdOk) | (first | (apply awp_cond_t; exact rfl; exact bdOk) | (apply awp_cond_f; exact rfl; exact bdOk)) | fail))
    revert y1 y2 y3 y4
    intro c hs ss b ⟨h6, h7, hb1, hb2⟩
    have sp := spec_ShiftSpots c hs ss b (by omega) (by omega)
    have ip := impl_ShiftSpots c hs ss b (by omega) (by omega)
    cases hv : shR c hs ss b with
    | none =>
      rw [hv] at sp
      have i1 := ip.one hv
      (repeat' (first | refine pre_seq ?_ | (first | refine awp_seq ?_ | refine awp_region ?_ | refine awp_block ?_ | refine awp_exit ?_ | refine awp_ret ?_ | refine awp_skip ?_ | refine ar_nil ?_ | refine dr_nil ?_ | (refine awp_region_draw ?_ ?_ ?_; kernel_rfl; kernel_rfl) | (first | refine t_norm ?_ | refine t_exit ?_ | refine t_ret ?_ | refine b_norm ?_ | refine b_exit ?_ | refine b_exit_ne rfl ?_ | refine b_ret ?_)) | ((first | ((first | apply ar_q | apply dr_q); exact qOp1) | ((first | apply ar_gu | apply dr_gu); exact rfl) | ((first | apply ar_gn | apply dr_gn); exact rfl; exact bdOk) | (first | (apply ar_box; exact rfl) | (apply ar_store; exact rfl; exact rfl; exact rfl; (focus (first | decide | (simp; done) | exact Nat.le_refl _)); kernel_rfl; exact rfl)) | (apply ar_alloc (ys := ([.int .i64 0, .int .i64 0] : List Value)); kernel_rfl) | (apply ar_call; kernel_rfl; exact (i1); exact rfl) | (apply ar_call; kernel_rfl; exact (sp); exact rfl) | ((first | apply ar_qt | apply dr_qt); (focus (apply qt_call; kernel_rfl; exact (ACalls.nl0 (law_vSpots [] (by simp))); exact rfl)))); (first | refine ar_nrm (k := ?_) | refine dr_nrm (k := ?_))) | ((first | apply ar_gy | apply dr_gy); exact rfl; exact bdOk) | (first | (apply awp_cond_t; exact rfl; exact bdOk) | (apply awp_cond_f; exact rfl; exact bdOk)) | fail))
      refine ⟨.inr rfl, aend_mk [] rfl (by simp) (by first | (simp; done) | (simp; omega)) (ares_tmp2 _ rfl ?_ ares_nil) rfl rfl⟩
      exact rfl
    | some out =>
      obtain ⟨s1, s2, s3, s4, s5⟩ := shift_back hv
      have hlo : out.length ≤ 7 := by
        rw [shR] at hv
        split at hv
        · injection hv with hv; rw [← hv, shiftL_len]; exact h7
        · cases hv
      rw [hv] at sp
      have i1 := ip.one hv
      have i2 := (impl_ShiftSpots c hs out (-b) (by omega) (by omega)).one s1
      have hq := impl_IsPacking c hs out (by omega) (by omega)
      rw [s2] at hq
      (repeat' (first | refine pre_seq ?_ | (first | refine awp_seq ?_ | refine awp_region ?_ | refine awp_block ?_ | refine awp_exit ?_ | refine awp_ret ?_ | refine awp_skip ?_ | refine ar_nil ?_ | refine dr_nil ?_ | (refine awp_region_draw ?_ ?_ ?_; kernel_rfl; kernel_rfl) | (first | refine t_norm ?_ | refine t_exit ?_ | refine t_ret ?_ | refine b_norm ?_ | refine b_exit ?_ | refine b_exit_ne rfl ?_ | refine b_ret ?_)) | ((first | ((first | apply ar_q | apply dr_q); exact qOp1) | ((first | apply ar_gu | apply dr_gu); exact rfl) | ((first | apply ar_gn | apply dr_gn); exact rfl; exact bdOk) | (first | (apply ar_box; exact rfl) | (apply ar_store; exact rfl; exact rfl; exact rfl; (focus (first | decide | (simp; done) | exact Nat.le_refl _)); kernel_rfl; exact rfl)) | (apply ar_alloc (ys := ([.int .i64 0, .int .i64 0] : List Value)); kernel_rfl) | (apply ar_call; kernel_rfl; exact (i1); exact rfl) | (apply ar_call; kernel_rfl; exact (sp); exact rfl) | ((first | apply ar_qt | apply dr_qt); (focus (apply qt_call; kernel_rfl; exact (law_vSpots out (by omega)); exact rfl))) | (apply ar_call; kernel_rfl; exact (i2); exact rfl) | ((first | apply ar_qt | apply dr_qt); (focus (apply qt_call; kernel_rfl; exact (law_vSpots ss (by omega)); exact rfl))) | ((first | apply ar_qt | apply dr_qt); (focus (apply qt_call; kernel_rfl; exact (hq); exact rfl)))); (first | refine ar_nrm (k := ?_) | refine dr_nrm (k := ?_))) | ((first | apply ar_gy | apply dr_gy); exact rfl; exact bdOk) | (first | (apply awp_cond_t; exact rfl; exact bdOk) | (apply awp_cond_f; exact rfl; exact bdOk)) | fail))
      refine ⟨.inr rfl, aend_mk [] rfl (by simp) (by first | (simp; done) | (simp; omega)) (ares_tmp2 _ rfl ?_ ares_nil) rfl rfl⟩
      exact rfl
set_option maxRecDepth 20000 in
theorem law_Cham_big (l : List Int) (hl : l.length ≤ 9223372036854775807) (hb : 65536 < l.length) : ACalls Try.prog 13 [.c (.sl 5 .ro (bts l))] [] (.c (.p (.bool (true)))) [] 0 := by
  refine acalls_of (ws := [.c (.p (.bool (true)))]) Try.func13 rfl rfl rfl rfl fun w0 B m hm0 => ?_; (refine awp_norm (τ := ?_) ?_ ?_; rotate_left; (focus (simp only [AV.top, Try.ntmps13, List.length_cons, List.length_nil, Nat.reduceAdd, Nat.reduceSub, List.replicate_succ, List.replicate_zero, List.cons_append, List.nil_append]; exact rfl)))
  (repeat' (first | (first | refine awp_seq ?_ | refine awp_region ?_ | refine awp_block ?_ | refine awp_exit ?_ | refine awp_ret ?_ | refine awp_skip ?_ | refine ar_nil ?_ | refine dr_nil ?_ | (first | refine t_norm ?_ | refine t_exit ?_ | refine t_ret ?_ | refine b_norm ?_ | refine b_exit ?_ | refine b_exit_ne rfl ?_ | refine b_ret ?_)) | ((first | ((first | apply ar_q | apply dr_q); exact qOp1) | ((first | apply ar_gu | apply dr_gu); exact rfl) | ((first | apply ar_gn | apply dr_gn); exact rfl; exact bdOk) | ((first | apply ar_qt | apply dr_qt); (focus (apply qt_call; kernel_rfl; exact (law_vBig l hl true (decide_eq_true hb)); exact rfl)))); (first | refine ar_nrm (k := ?_) | refine dr_nrm (k := ?_))) | ((first | apply ar_gy | apply dr_gy); exact rfl; exact bdOk) | (first | (apply awp_cond_t; exact rfl; exact bdOk) | (apply awp_cond_f; exact rfl; exact bdOk)) | fail))
  refine ⟨.inr rfl, aend_mk [] rfl (by simp) (by first | (simp; done) | (simp; omega)) (ares_tmp2 _ rfl ?_ ares_nil) rfl rfl⟩
  exact rfl
theorem fnChamberings_walk (v : Value) (l : List Int) (hok : ∀ x ∈ l, (Lit.int .u8 x).wf = true) (hl : l.length ≤ 9223372036854775807) (w : World) (hr : ∀ B, RepC Try.prog (E0 B []) w (.sl 5 .ro (bts l)) v) : Calls Try.prog 13 #[v] w fun e w' => e = .returned (.bool true) ∧ Below w.heap.size w w' := by
  by_cases hb : 65536 < l.length
  · exact (law_Cham_big l hl hb).calls rfl ⟨hr _, trivial⟩
  · exact (law_Cham l ⟨by omega, fun x hx => by have := hok x hx; simp [Lit.wf] at this; exact this⟩).calls rfl ⟨hr _, trivial⟩
end Go.Proofs.Ythmaiahllhgdpaa
namespace Go.Proofs.Ythmaiahllhgdpaa.fnChamberings
open Go.ChangeShapes Go.WideShapes Go.ChangeAt Go.RowKit Go.Deep
set_option linter.unusedVariables false
set_option maxRecDepth 100000 in
theorem lifted (os : Os) (started : os.Started) (H : Type) (enc : TypeId × Value → H) :
    ReturnsInHanded {} Try.checked os 13 .any (Rows.fnChamberingsSpec.pre6 enc Try.prog Try.f13 Rows.fnChamberingsRow.domain false) (Rows.fnChamberingsSpec.post enc Try.prog Try.f13 false true false false) := by
  refine returnsInHanded_of_change (C := Try.checked) own started (by kernel_rfl) Try.func13
    (ChangeSpec.witness6 (enc := enc) (C := Try.checked) false ⟨#[], #[.slice none 0 0], []⟩ 8 (by kernel_rfl) (by kernel_rfl) (by kernel_rfl) (by kernel_rfl)) ?_
  intro W base args ds gs before hval0 hW hcnd _
  have hval : ∀ (j : Nat) t v, Try.f13.params[j]? = some t → args[j]? = some v → Value.okWide Try.prog W .any base t v := hval0
  have hW' := hW
  obtain ⟨p, q, hA0, hV, rfl, hfz, hnd⟩ := hW
  have hA : DataW.TrodAll enc Try.prog W 0 (fun _ => true) true Try.f13.params.toList args.toList ds p := hA0
  rw [Try.params13] at hA hval
  obtain ⟨v0, vs0, d0, ds0, p0, q0, hargs, rfl, rfl, h0, r0⟩ := trodAll_cons hA
  obtain ⟨rfl, rfl, rfl⟩ := trodAll_nil r0
  obtain rfl : args = #[v0] := by cases args; simp_all
  obtain ⟨rfl, rfl⟩ := trodVars_none hV
  have k0 := h0
  have lt0 : ∀ x ∈ p0, x.block < W.heap.size := by obtain ⟨m, hm⟩ := k0; exact DataW.trod_lt m _ _ _ hm
  obtain ⟨x0, g0, l0, w0⟩ := open_bytes (hval 0 22 v0 rfl rfl) h0
  clear hA0 hval0
  refine (fnChamberings_walk v0 x0 g0 l0 W w0).mono fun e W' ⟨he, bel⟩ => ?_
  subst he
  exact ⟨_, rfl, _, _, _, [], _, [], hW', trodAll_mk1 (shut_bool Try.underlying4 _), (trodAll_cons_mk (Below.trod laidOut (by kernel_rfl) (of_decide_eq_true (by kernel_rfl)) k0 bel lt0) trodAll_mk0), rfl, bel.frame _, fun h => by cases h⟩
theorem over : Rows.fnChamberingsRow.holds Try.pinned (OpenSpec.ofChange Rows.fnChamberingsSpec) :=
  OpenClaim.holds_of_wide 13 Try.f13 rfl rfl rfl rfl rfl rfl rfl ⟨rfl, rfl, rfl, rfl, rfl⟩ rfl rfl rfl rfl rfl (by kernel_rfl) Try.func13 (by kernel_rfl)
    (of_decide_eq_true (by kernel_rfl)) (by unfold Func.isWrapper; first | (rw [if_pos (by decide +kernel)]; kernel_rfl) | (rw [if_neg (by decide +kernel)]; exact ⟨rfl, rfl⟩))
    (fun os started H enc _ => lifted os started H enc)
theorem proved : Rows.FnChamberingsSaid := over
end Go.Proofs.Ythmaiahllhgdpaa.fnChamberings
