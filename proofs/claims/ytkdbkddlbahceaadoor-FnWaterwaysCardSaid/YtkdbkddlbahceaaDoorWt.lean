/- Draws for the laws of places. -/
import Derived.Test.YtkdbkddlbahceaaDoorWs
namespace Go.Proofs.YtkdbkddlbahceaaDoor
open Go.RowKit
set_option linter.unusedVariables false
set_option linter.unusedSimpArgs false
theorem ws_out (x : Way_) {l : List AW} (h : l.all AW.out = true) : (AW.agg (wA x) :: l).all AW.out = true := by
  have := wA_out x
  rw [List.all_cons, List.all_nil, Bool.and_true] at this
  rw [List.all_cons, h, this]; rfl
theorem ws_ids (x : Way_) {l : List AW} (h : l.all (AW.ids (wK x)) = true) : (AW.agg (wA x) :: l).all (AW.ids (wK x)) = true := by
  have := wA_ids x
  rw [List.all_cons, List.all_nil, Bool.and_true] at this
  rw [List.all_cons, h, this]; rfl
theorem ws_fresh (x : Way_) {l : List AW} (h : l.all AW.fresh = true) : (AV.tup (AW.agg (wA x) :: l)).fresh = true := by
  have := wA_fresh x
  have e : (AV.tup (AW.agg (wA x) :: l)).fresh = ((AV.agg (wA x)).fresh && l.all AW.fresh) := rfl
  rw [e, this, h]; rfl
theorem repL_nl1 {ρ : Env} {w : World} {y : AC} {e : TypeId} : ∀ {vs : List Value}, RepL Tryd.prog ρ w [y, .nl] vs → RepL Tryd.prog ρ w [y, .sl e .ro []] vs
  | [v1, v2], ⟨h1, h2, _⟩ => ⟨h1, repV_nl (P := Tryd.prog) (e := e) (show RepV Tryd.prog ρ w (.c .nl) v2 from h2), trivial⟩
theorem ACallsE.nl_agg1 {f : FuncId} {e : TypeId} {p : AV} {y : AC} {args : List AV} {hp : List (List AC)} {S : Type} {φ : S → Prop} {r : S → AV} {hp' : S → List (List AC)} {k : S → Nat} (h : ACallsE Tryd.prog f (p :: .agg [y, .sl e .ro []] :: args) hp φ r hp' k) : ACallsE Tryd.prog f (p :: .agg [y, .nl] :: args) hp φ r hp' k :=
  fun m w vs h1 h2 h3 h4 h5 => h m w vs h1 h2 h3 h4 (by
    obtain ⟨l⟩ := vs
    match l, h5 with
    | v :: u :: l, ⟨a1, ⟨us, a2, a3⟩, a4⟩ => exact ⟨a1, ⟨us, a2, repL_nl1 a3⟩, a4⟩)
attribute [local irreducible] AR DR AWp QOp Qt ACalls ARes Exit.thenA Exit.inBlockA
attribute [local irreducible] AG0 AG AGs
attribute [local irreducible] AT ATs
attribute [local irreducible] preA
def spL : List Int := [1, 6, 7, 10, 20, 0, 21, 13]
set_option maxHeartbeats 8000000 in
theorem draw_reachOf (v : Value) (l : List Int) (hl : okBts l) (x : Way_) (hx : okW x) (a s : Int) (ha : 0 ≤ a ∧ a ≤ 800000) : ACallsE Tryd.prog 66 [.c (.ptr 0 0), .agg [.sl 65 .ro (reachs (x).rs), .sl 3 .ro (its (x).is)]] [svc v 5 (bts l) [.int .i64 a, .int .u64 s]] (fun x : Int × Int × Int => (-1 ≤ x.1 ∧ x.1 ≤ 10) ∧ a ≤ x.2.1 ∧ x.2.1 ≤ a + 4) (fun x => .c (.p (.int .i64 (x.1)))) (fun x : Int × Int × Int => [svc v 5 (bts l) [.int .i64 x.2.1, .int .u64 x.2.2]]) (fun _ => 0) := by
  have hl1 : (reachs x.rs).length = x.rs.length := by simp [reachs]
  have h7 := hx.r7
  have h1 := hx.r1
  refine acallsE_of (ws := fun x => [.c (.p (.int .i64 (x.1)))]) (k := fun _ => 0) (hp' := fun x : Int × Int × Int => [svc v 5 (bts l) [.int .i64 x.2.1, .int .u64 x.2.2]]) Tryd.func66 rfl (fun x => rfl) (fun x => rfl) (fun x => rfl) fun w0 B m hm0 => ?_; (refine awp_norm (τ := ?_) ?_ ?_; rotate_left; (focus (simp only [AV.top, svc, List.map_cons, List.map_nil, Tryd.ntmps66, List.length_cons, List.length_nil, Nat.reduceAdd, Nat.reduceSub, List.replicate_succ, List.replicate_zero, List.cons_append, List.nil_append]; exact rfl)))
  (repeat' (first | (first | refine awp_seq ?_ | refine awp_region ?_ | refine awp_block ?_ | refine awp_exit ?_ | refine awp_ret ?_ | refine awp_skip ?_ | refine ar_nil ?_ | refine dr_nil ?_ | (first | refine t_norm ?_ | refine t_exit ?_ | refine t_ret ?_ | refine b_norm ?_ | refine b_exit ?_ | refine b_exit_ne rfl ?_ | refine b_ret ?_)) | ((first | ((first | apply ar_q | apply dr_q); exact qOp1) | ((first | apply ar_gu | apply dr_gu); exact rfl) | ((first | apply ar_gn | apply dr_gn); exact rfl; exact bdOk) | (first | (apply ar_box; exact rfl) | (apply ar_store; exact rfl; exact rfl; exact rfl; (focus (first | decide | (simp; done) | exact Nat.le_refl _)); kernel_rfl; exact rfl)) | (apply ar_cur; kernel_rfl; exact rfl; exact rfl; exact (draw_one v l hl 12 ⟨by decide, by decide⟩); (focus (omega)); (focus (intro x; exact rfl)); (rintro ⟨xv, xa, xq⟩ hx; (try dsimp only at hx)))); (first | refine ar_nrm (k := ?_) | refine dr_nrm (k := ?_))) | ((first | apply ar_gy | apply dr_gy); exact rfl; exact bdOk) | (first | (apply awp_cond_t; exact rfl; exact bdOk) | (apply awp_cond_f; exact rfl; exact bdOk)) | fail))
  revert xv xa xq
  intro yes a1 q1 h2
  obtain ⟨h21, h22⟩ := h2
  cases yes with
  | true =>
    (repeat' (first | (first | refine awp_seq ?_ | refine awp_region ?_ | refine awp_block ?_ | refine awp_exit ?_ | refine awp_ret ?_ | refine awp_skip ?_ | refine ar_nil ?_ | refine dr_nil ?_ | (first | refine t_norm ?_ | refine t_exit ?_ | refine t_ret ?_ | refine b_norm ?_ | refine b_exit ?_ | refine b_exit_ne rfl ?_ | refine b_ret ?_)) | ((first | ((first | apply ar_q | apply dr_q); exact qOp1) | ((first | apply ar_gu | apply dr_gu); exact rfl) | ((first | apply ar_gn | apply dr_gn); exact rfl; exact bdOk) | (first | (apply ar_box; exact rfl) | (apply ar_store; exact rfl; exact rfl; exact rfl; (focus (first | decide | (simp; done) | exact Nat.le_refl _)); kernel_rfl; exact rfl)) | (apply ar_bslice (e := 3) 1; kernel_rfl; (focus (decide +kernel)); kernel_rfl; exact rfl; exact rfl; exact rfl; exact rfl; decide) | (apply ar_cur; kernel_rfl; exact rfl; exact rfl; exact (draw_among v l hl [-1, ((reachs x.rs).length : Int)] ⟨by simp, by simp⟩); (focus (omega)); (focus (intro x; exact rfl)); (rintro ⟨xv, xa, xq⟩ hx; (try dsimp only at hx)))); (first | refine ar_nrm (k := ?_) | refine dr_nrm (k := ?_))) | ((first | apply ar_gy | apply dr_gy); exact rfl; exact bdOk) | (first | (apply awp_cond_t; exact rfl; exact bdOk) | (apply awp_cond_f; exact rfl; exact bdOk)) | fail))
    obtain ⟨hx1, hx2, hx3⟩ := hx
    try simp only [List.mem_cons, List.not_mem_nil, or_false] at hx1
    refine ⟨.inr rfl, ⟨_, _, _⟩, ?_, aend_mk [] rfl (by simp) (by simp) (ares_tmp2 _ rfl rfl ares_nil) rfl rfl⟩
    exact ⟨by dsimp only; omega, by dsimp only; omega, by dsimp only; omega⟩
  | false =>
    (repeat' (first | (first | refine awp_seq ?_ | refine awp_region ?_ | refine awp_block ?_ | refine awp_exit ?_ | refine awp_ret ?_ | refine awp_skip ?_ | refine ar_nil ?_ | refine dr_nil ?_ | (first | refine t_norm ?_ | refine t_exit ?_ | refine t_ret ?_ | refine b_norm ?_ | refine b_exit ?_ | refine b_exit_ne rfl ?_ | refine b_ret ?_)) | ((first | ((first | apply ar_q | apply dr_q); exact qOp1) | ((first | apply ar_gu | apply dr_gu); exact rfl) | ((first | apply ar_gn | apply dr_gn); exact rfl; exact bdOk) | (first | (apply ar_box; exact rfl) | (apply ar_store; exact rfl; exact rfl; exact rfl; (focus (first | decide | (simp; done) | exact Nat.le_refl _)); kernel_rfl; exact rfl)) | ((first | apply ar_qt | apply dr_qt); (focus (apply qt_call; kernel_rfl; exact (spec_l1Most 1 ((reachs x.rs).length : Int)); exact rfl))) | (apply ar_cur; kernel_rfl; exact rfl; exact rfl; exact (draw_pick v l hl (max 1 ((reachs x.rs).length : Int)) ⟨by omega, by omega⟩); (focus (omega)); (focus (intro x; exact rfl)); (rintro ⟨xv, xa, xq⟩ hx; (try dsimp only at hx)))); (first | refine ar_nrm (k := ?_) | refine dr_nrm (k := ?_))) | ((first | apply ar_gy | apply dr_gy); exact rfl; exact bdOk) | (first | (apply awp_cond_t; exact rfl; exact bdOk) | (apply awp_cond_f; exact rfl; exact bdOk)) | fail))
    obtain ⟨hx1, hx2, hx3, hx4⟩ := hx
    refine ⟨.inr rfl, ⟨_, _, _⟩, ?_, aend_mk [] rfl (by simp) (by simp) (ares_tmp2 _ rfl rfl ares_nil) rfl rfl⟩
    exact ⟨by dsimp only; omega, by dsimp only; omega, by dsimp only; omega⟩
set_option maxRecDepth 20000 in
set_option maxHeartbeats 80000000 in
theorem draw_LevelOf (v : Value) (l : List Int) (hl : okBts l) : ACallsE Tryd.prog 50 [.c (.sv v 5 (bts l))] [] (fun x : Way_ × Int => okW x.1 ∧ -1 ≤ x.2 ∧ x.2 ≤ 10000) (fun x => .tup (.agg (wA x.1) :: [.c (.p (.int .i64 (x.2)))])) (fun _ => []) (fun x => wK x.1) := by
  refine acallsE_of (S := Way_ × Int) (ws := fun x => .agg (wA x.1) :: [.c (.p (.int .i64 (x.2)))]) (k := fun x => wK x.1) (hp' := fun _ => []) Tryd.func50 rfl (fun x => ws_out x.1 rfl) (fun x => ws_ids x.1 rfl) (fun x => rfl) fun w0 B m hm0 => ?_; (refine awp_norm (τ := ?_) ?_ ?_; rotate_left; (focus (simp only [AV.top, Tryd.ntmps50, List.length_cons, List.length_nil, Nat.reduceAdd, Nat.reduceSub, List.replicate_succ, List.replicate_zero, List.cons_append, List.nil_append]; exact rfl)))
  (repeat' (first | (first | refine awp_seq ?_ | refine awp_region ?_ | refine awp_block ?_ | refine awp_exit ?_ | refine awp_ret ?_ | refine awp_skip ?_ | refine ar_nil ?_ | refine dr_nil ?_ | (first | refine t_norm ?_ | refine t_exit ?_ | refine t_ret ?_ | refine b_norm ?_ | refine b_exit ?_ | refine b_exit_ne rfl ?_ | refine b_ret ?_)) | ((first | ((first | apply ar_q | apply dr_q); exact qOp1) | ((first | apply ar_gu | apply dr_gu); exact rfl) | ((first | apply ar_gn | apply dr_gn); exact rfl; exact bdOk) | (apply ar_alloc (ys := ([.slice none 0 0, .slice none 0 0] : List Value)); kernel_rfl) | ((first | apply ar_q | apply dr_q); (focus (apply q_build (n := 3) (zs := ([.slice none 0 0, .int .i64 0, .int .u64 0] : List Value)); kernel_rfl; kernel_rfl; exact rfl; exact rfl))) | (first | (apply ar_box; exact rfl) | (apply ar_store; exact rfl; exact rfl; exact rfl; (focus (first | decide | (simp; done) | exact Nat.le_refl _)); kernel_rfl; exact rfl)) | (apply ar_cur; kernel_rfl; exact rfl; exact rfl; exact (draw_anyWaterway v l hl); (focus (omega)); (focus (intro x; exact wA_fresh _)); (rintro ⟨xv, xa, xq⟩ hx; (try dsimp only at hx)))); (first | refine ar_nrm (k := ?_) | refine dr_nrm (k := ?_))) | ((first | apply ar_gy | apply dr_gy); exact rfl; exact bdOk) | (first | (apply awp_cond_t; exact rfl; exact bdOk) | (apply awp_cond_f; exact rfl; exact bdOk)) | fail)); revert xv xa xq; rintro ⟨rs, is⟩ a1 q1 ⟨hok, h1, h2⟩
  by_cases hi : is = []
  · subst hi
    simp only [wA, wI_0 (x := (⟨rs, []⟩ : Way_)) rfl, wK_0 (x := (⟨rs, []⟩ : Way_)) rfl, List.map_cons, List.map_nil, AC.sh, Nat.add_zero]
    (repeat' (first | (first | refine awp_seq ?_ | refine awp_region ?_ | refine awp_block ?_ | refine awp_exit ?_ | refine awp_ret ?_ | refine awp_skip ?_ | refine ar_nil ?_ | refine dr_nil ?_ | (first | refine t_norm ?_ | refine t_exit ?_ | refine t_ret ?_ | refine b_norm ?_ | refine b_exit ?_ | refine b_exit_ne rfl ?_ | refine b_ret ?_)) | ((first | ((first | apply ar_q | apply dr_q); exact qOp1) | ((first | apply ar_gu | apply dr_gu); exact rfl) | ((first | apply ar_gn | apply dr_gn); exact rfl; exact bdOk) | (apply ar_alloc (ys := ([.slice none 0 0, .slice none 0 0] : List Value)); kernel_rfl) | (first | (apply ar_box; exact rfl) | (apply ar_store; exact rfl; exact rfl; exact rfl; (focus (first | decide | (simp; done) | exact Nat.le_refl _)); kernel_rfl; exact rfl))); (first | refine ar_nrm (k := ?_) | refine dr_nrm (k := ?_))) | ((first | apply ar_gy | apply dr_gy); exact rfl; exact bdOk) | (first | (apply awp_cond_t; exact rfl; exact bdOk) | (apply awp_cond_f; exact rfl; exact bdOk)) | fail))
    (apply awp_region_at; (focus (kernel_rfl)); (focus (intro c σ h; simp [Exit.thenA, Exit.inBlockA] at h)); (focus (simp only [idxs, Nat.reduceAdd]; exact rfl)); (focus (simp only [List.map_cons, List.map_nil]; exact rfl))); (repeat (first | (apply at_take; (focus (exact rfl)); (focus (kernel_rfl)); (focus (decide +kernel)); (focus (decide +kernel)); (focus (decide +kernel)); (focus (exact qAll3)); refine at_nrm (k := ?_)) | apply at_skip))
    apply at_open
    refine at_has (α := (Int × Int × Int)) (fun x => ((-1 ≤ x.1 ∧ x.1 ≤ 10) ∧ a1 ≤ x.2.1 ∧ x.2.1 ≤ a1 + 4)) (bl 6 [0, 1, 2, 3, 4, 5]) (fun x => [(3, .c (.p (.int .i64 x.1))), (11, .agg [.sl 65 (.own 0) (reachs rs), .nl]), (13, .agg [.sl 65 (.own 0) (reachs rs), .nl]), (14, .c (.p (.int .i64 x.1)))]) (fun x => [(0, [.sl 65 (.own 0) (reachs rs), .nl]), (1, [.sv v 5 (bts l), .p (.int .i64 x.2.1), .p (.int .u64 x.2.2)])]) 1 ?_ fun levelof0_0_2_3_4_5 => ?_
    · intro x h0; refine at_st (k := ?_); (apply at_done; (focus (decide +kernel))); (repeat (first | refine awp_seq ?_ | refine awp_region ?_ | refine awp_block ?_ | refine awp_exit ?_ | refine awp_ret ?_ | refine awp_skip ?_ | refine ar_nil ?_ | refine dr_nil ?_ | (first | refine t_norm ?_ | refine t_exit ?_ | refine t_ret ?_ | refine b_norm ?_ | refine b_exit ?_ | refine b_exit_ne rfl ?_ | refine b_ret ?_)))
      obtain ⟨⟨ha1, ha2⟩, _, _⟩ := h0
      (repeat' (first | (first | refine awp_seq ?_ | refine awp_region ?_ | refine awp_block ?_ | refine awp_exit ?_ | refine awp_ret ?_ | refine awp_skip ?_ | refine ar_nil ?_ | refine dr_nil ?_ | (first | refine t_norm ?_ | refine t_exit ?_ | refine t_ret ?_ | refine b_norm ?_ | refine b_exit ?_ | refine b_exit_ne rfl ?_ | refine b_ret ?_)) | ((first | ((first | apply ar_q | apply dr_q); exact qOp1) | ((first | apply ar_gu | apply dr_gu); exact rfl) | ((first | apply ar_gn | apply dr_gn); exact rfl; exact bdOk) | (first | (apply ar_box; exact rfl) | (apply ar_store; exact rfl; exact rfl; exact rfl; (focus (first | decide | (simp; done) | exact Nat.le_refl _)); kernel_rfl; exact rfl))); (first | refine ar_nrm (k := ?_) | refine dr_nrm (k := ?_))) | ((first | apply ar_gy | apply dr_gy); exact rfl; exact bdOk) | (first | (apply awp_cond_t; exact rfl; exact bdOk) | (apply awp_cond_f; exact rfl; exact bdOk)) | fail))
      refine ⟨.inr rfl, (⟨rs, []⟩, x.1), ?_, ?_⟩; rotate_left; (focus (simp only [wA, wK_0 (x := (⟨rs, []⟩ : Way_)) rfl, wI_0 (x := (⟨rs, []⟩ : Way_)) rfl]; exact aend_mk [0] rfl (by simp) (by simp) (ares_cell_a rfl rfl rfl (by kernel_rfl) (ares_tmp2 _ rfl rfl ares_nil)) rfl rfl))
      exact ⟨hok, by dsimp only; omega, by dsimp only; omega⟩
    refine at_has (α := (Int × Int × Int)) (fun x => ((-1 ≤ x.1 ∧ x.1 ≤ 10) ∧ a1 ≤ x.2.1 ∧ x.2.1 ≤ a1 + 4)) (bl 6 [0, 1, 2, 3, 4]) (fun x => [(11, .agg [.sl 65 (.own 0) (reachs rs), .nl]), (13, .agg [.sl 65 (.own 0) (reachs rs), .nl]), (14, .c (.p (.int .i64 x.1)))]) (fun x => [(0, [.sl 65 (.own 0) (reachs rs), .nl]), (1, [.sv v 5 (bts l), .p (.int .i64 x.2.1), .p (.int .u64 x.2.2)])]) 1 ?_ fun levelof0_0_2_3_4 => ?_
    · intro x h0; refine at_st (k := ?_); (apply at_r1 5; (focus (decide +kernel)); exact rfl)
      ((first | apply ar_q | apply dr_q); exact qOp1); exact at_fin [0] (levelof0_0_2_3_4_5 x h0)
    refine at_has (α := (Int × Int × Int)) (fun x => ((-1 ≤ x.1 ∧ x.1 ≤ 10) ∧ a1 ≤ x.2.1 ∧ x.2.1 ≤ a1 + 4)) (bl 6 [0, 1, 2, 3]) (fun x => [(11, .agg [.sl 65 (.own 0) (reachs rs), .nl]), (13, .agg [.sl 65 (.own 0) (reachs rs), .nl]), (14, .c (.p (.int .i64 x.1)))]) (fun x => [(1, [.sv v 5 (bts l), .p (.int .i64 x.2.1), .p (.int .u64 x.2.2)])]) 1 ?_ fun levelof0_0_2_3 => ?_
    · intro x h0; refine at_st (k := ?_); (apply at_r1 4; (focus (decide +kernel)); exact rfl)
      (apply ar_store; exact rfl; exact rfl; exact rfl; (focus (first | decide | (simp; done) | exact Nat.le_refl _)); kernel_rfl; exact rfl); exact at_fin [0] (levelof0_0_2_3_4 x h0)
    refine at_has (α := Unit) (fun x => True) (bl 6 [0, 1, 2]) (fun x => [(11, .agg [.sl 65 (.own 0) (reachs rs), .nl]), (13, .agg [.sl 65 (.own 0) (reachs rs), .nl])]) (fun x => []) 1 ?_ fun levelof0_0_2 => ?_
    · intro x h0; refine at_st (k := ?_); (apply at_r1 3; (focus (decide +kernel)); exact rfl)
      (apply ar_cur; kernel_rfl; exact rfl; exact rfl; exact (fun a s h => ACallsE.nl_agg1 (e := 3) (draw_reachOf v l hl ⟨rs, []⟩ hok a s h)); (focus (omega)); (focus (intro x; exact rfl)); (rintro ⟨xv, xa, xq⟩ hx; (try dsimp only at hx))); exact at_fin [0] (levelof0_0_2_3 (xv, xa, xq) hx)
    refine at_has (α := Unit) (fun x => True) (bl 6 [0, 1]) (fun x => [(11, .agg [.sl 65 (.own 0) (reachs rs), .nl])]) (fun x => []) 1 ?_ fun levelof0_0 => ?_
    · intro x h0; refine at_st (k := ?_); (apply at_r1 2; (focus (decide +kernel)); exact rfl)
      ((first | apply ar_q | apply dr_q); exact qOp1); exact at_fin [0] (levelof0_0_2 x h0)
    refine at_has (α := (Int × Int × Int)) (fun x => ((-1 ≤ x.1 ∧ x.1 ≤ 10) ∧ a1 ≤ x.2.1 ∧ x.2.1 ≤ a1 + 4)) (bl 6 [1, 2, 3]) (fun x => [(13, .agg [.sl 65 (.own 0) (reachs rs), .nl]), (14, .c (.p (.int .i64 x.1)))]) (fun x => [(1, [.sv v 5 (bts l), .p (.int .i64 x.2.1), .p (.int .u64 x.2.2)])]) 1 ?_ fun levelof0_2_3 => ?_
    · intro x h0; refine at_st (k := ?_); (apply at_r1 0; (focus (decide +kernel)); exact rfl)
      ((first | apply ar_q | apply dr_q); exact qOp1); exact at_fin [0] (levelof0_0_2_3 x h0)
    refine at_has (α := Unit) (fun x => True) (bl 6 [1, 2]) (fun x => [(13, .agg [.sl 65 (.own 0) (reachs rs), .nl])]) (fun x => []) 1 ?_ fun levelof0_2 => ?_
    · intro x h0; refine at_st (k := ?_); (apply at_r2 0 3; (focus (decide +kernel)); exact rfl; exact rfl)
      · ((first | apply ar_q | apply dr_q); exact qOp1); exact at_fin [0] (levelof0_0_2 x h0)
      · (apply ar_cur; kernel_rfl; exact rfl; exact rfl; exact (fun a s h => ACallsE.nl_agg1 (e := 3) (draw_reachOf v l hl ⟨rs, []⟩ hok a s h)); (focus (omega)); (focus (intro x; exact rfl)); (rintro ⟨xv, xa, xq⟩ hx; (try dsimp only at hx))); exact at_fin [0] (levelof0_2_3 (xv, xa, xq) hx)
    refine at_has (α := Unit) (fun x => True) (bl 6 [1]) (fun x => []) (fun x => []) 1 ?_ fun levelof0_ => ?_
    · intro x h0; refine at_st (k := ?_); (apply at_r2 0 2; (focus (decide +kernel)); exact rfl; exact rfl)
      · ((first | apply ar_q | apply dr_q); exact qOp1); exact at_fin [0] (levelof0_0 x h0)
      · ((first | apply ar_q | apply dr_q); exact qOp1); exact at_fin [0] (levelof0_2 x h0)
    exact levelof0_ () trivial
  · simp only [wA, wI_1 (x := (⟨rs, is⟩ : Way_)) hi, wK_1 (x := (⟨rs, is⟩ : Way_)) hi, List.map_cons, List.map_nil, AC.sh, Nat.add_zero, Nat.zero_add]
    (repeat' (first | (first | refine awp_seq ?_ | refine awp_region ?_ | refine awp_block ?_ | refine awp_exit ?_ | refine awp_ret ?_ | refine awp_skip ?_ | refine ar_nil ?_ | refine dr_nil ?_ | (first | refine t_norm ?_ | refine t_exit ?_ | refine t_ret ?_ | refine b_norm ?_ | refine b_exit ?_ | refine b_exit_ne rfl ?_ | refine b_ret ?_)) | ((first | ((first | apply ar_q | apply dr_q); exact qOp1) | ((first | apply ar_gu | apply dr_gu); exact rfl) | ((first | apply ar_gn | apply dr_gn); exact rfl; exact bdOk) | (apply ar_alloc (ys := ([.slice none 0 0, .slice none 0 0] : List Value)); kernel_rfl) | (first | (apply ar_box; exact rfl) | (apply ar_store; exact rfl; exact rfl; exact rfl; (focus (first | decide | (simp; done) | exact Nat.le_refl _)); kernel_rfl; exact rfl))); (first | refine ar_nrm (k := ?_) | refine dr_nrm (k := ?_))) | ((first | apply ar_gy | apply dr_gy); exact rfl; exact bdOk) | (first | (apply awp_cond_t; exact rfl; exact bdOk) | (apply awp_cond_f; exact rfl; exact bdOk)) | fail))
    (apply awp_region_at; (focus (kernel_rfl)); (focus (intro c σ h; simp [Exit.thenA, Exit.inBlockA] at h)); (focus (simp only [idxs, Nat.reduceAdd]; exact rfl)); (focus (simp only [List.map_cons, List.map_nil]; exact rfl))); (repeat (first | (apply at_take; (focus (exact rfl)); (focus (kernel_rfl)); (focus (decide +kernel)); (focus (decide +kernel)); (focus (decide +kernel)); (focus (exact qAll3)); refine at_nrm (k := ?_)) | apply at_skip))
    apply at_open
    refine at_has (α := (Int × Int × Int)) (fun x => ((-1 ≤ x.1 ∧ x.1 ≤ 10) ∧ a1 ≤ x.2.1 ∧ x.2.1 ≤ a1 + 4)) (bl 6 [0, 1, 2, 3, 4, 5]) (fun x => [(3, .c (.p (.int .i64 x.1))), (11, .agg [.sl 65 (.own 0) (reachs rs), .sl 3 (.own 1) (its is)]), (13, .agg [.sl 65 (.own 0) (reachs rs), .sl 3 (.own 1) (its is)]), (14, .c (.p (.int .i64 x.1)))]) (fun x => [(0, [.sl 65 (.own 0) (reachs rs), .sl 3 (.own 1) (its is)]), (1, [.sv v 5 (bts l), .p (.int .i64 x.2.1), .p (.int .u64 x.2.2)])]) 2 ?_ fun levelof1_0_2_3_4_5 => ?_
    · intro x h0; refine at_st (k := ?_); (apply at_done; (focus (decide +kernel))); (repeat (first | refine awp_seq ?_ | refine awp_region ?_ | refine awp_block ?_ | refine awp_exit ?_ | refine awp_ret ?_ | refine awp_skip ?_ | refine ar_nil ?_ | refine dr_nil ?_ | (first | refine t_norm ?_ | refine t_exit ?_ | refine t_ret ?_ | refine b_norm ?_ | refine b_exit ?_ | refine b_exit_ne rfl ?_ | refine b_ret ?_)))
      obtain ⟨⟨ha1, ha2⟩, _, _⟩ := h0
      (repeat' (first | (first | refine awp_seq ?_ | refine awp_region ?_ | refine awp_block ?_ | refine awp_exit ?_ | refine awp_ret ?_ | refine awp_skip ?_ | refine ar_nil ?_ | refine dr_nil ?_ | (first | refine t_norm ?_ | refine t_exit ?_ | refine t_ret ?_ | refine b_norm ?_ | refine b_exit ?_ | refine b_exit_ne rfl ?_ | refine b_ret ?_)) | ((first | ((first | apply ar_q | apply dr_q); exact qOp1) | ((first | apply ar_gu | apply dr_gu); exact rfl) | ((first | apply ar_gn | apply dr_gn); exact rfl; exact bdOk) | (first | (apply ar_box; exact rfl) | (apply ar_store; exact rfl; exact rfl; exact rfl; (focus (first | decide | (simp; done) | exact Nat.le_refl _)); kernel_rfl; exact rfl))); (first | refine ar_nrm (k := ?_) | refine dr_nrm (k := ?_))) | ((first | apply ar_gy | apply dr_gy); exact rfl; exact bdOk) | (first | (apply awp_cond_t; exact rfl; exact bdOk) | (apply awp_cond_f; exact rfl; exact bdOk)) | fail))
      refine ⟨.inr rfl, (⟨rs, is⟩, x.1), ?_, ?_⟩; rotate_left; (focus (simp only [wA, wK_1 (x := (⟨rs, is⟩ : Way_)) hi, wI_1 (x := (⟨rs, is⟩ : Way_)) hi]; exact aend_mk [0, 1] rfl (by simp) (by simp) (ares_cell_a rfl rfl rfl (by kernel_rfl) (ares_tmp2 _ rfl rfl ares_nil)) rfl rfl))
      exact ⟨hok, by dsimp only; omega, by dsimp only; omega⟩
    refine at_has (α := (Int × Int × Int)) (fun x => ((-1 ≤ x.1 ∧ x.1 ≤ 10) ∧ a1 ≤ x.2.1 ∧ x.2.1 ≤ a1 + 4)) (bl 6 [0, 1, 2, 3, 4]) (fun x => [(11, .agg [.sl 65 (.own 0) (reachs rs), .sl 3 (.own 1) (its is)]), (13, .agg [.sl 65 (.own 0) (reachs rs), .sl 3 (.own 1) (its is)]), (14, .c (.p (.int .i64 x.1)))]) (fun x => [(0, [.sl 65 (.own 0) (reachs rs), .sl 3 (.own 1) (its is)]), (1, [.sv v 5 (bts l), .p (.int .i64 x.2.1), .p (.int .u64 x.2.2)])]) 2 ?_ fun levelof1_0_2_3_4 => ?_
    · intro x h0; refine at_st (k := ?_); (apply at_r1 5; (focus (decide +kernel)); exact rfl)
      ((first | apply ar_q | apply dr_q); exact qOp1); exact at_fin [0, 1] (levelof1_0_2_3_4_5 x h0)
    refine at_has (α := (Int × Int × Int)) (fun x => ((-1 ≤ x.1 ∧ x.1 ≤ 10) ∧ a1 ≤ x.2.1 ∧ x.2.1 ≤ a1 + 4)) (bl 6 [0, 1, 2, 3]) (fun x => [(11, .agg [.sl 65 (.own 0) (reachs rs), .sl 3 (.own 1) (its is)]), (13, .agg [.sl 65 (.own 0) (reachs rs), .sl 3 (.own 1) (its is)]), (14, .c (.p (.int .i64 x.1)))]) (fun x => [(1, [.sv v 5 (bts l), .p (.int .i64 x.2.1), .p (.int .u64 x.2.2)])]) 2 ?_ fun levelof1_0_2_3 => ?_
    · intro x h0; refine at_st (k := ?_); (apply at_r1 4; (focus (decide +kernel)); exact rfl)
      (apply ar_store; exact rfl; exact rfl; exact rfl; (focus (first | decide | (simp; done) | exact Nat.le_refl _)); kernel_rfl; exact rfl); exact at_fin [0, 1] (levelof1_0_2_3_4 x h0)
    refine at_has (α := Unit) (fun x => True) (bl 6 [0, 1, 2]) (fun x => [(11, .agg [.sl 65 (.own 0) (reachs rs), .sl 3 (.own 1) (its is)]), (13, .agg [.sl 65 (.own 0) (reachs rs), .sl 3 (.own 1) (its is)])]) (fun x => []) 2 ?_ fun levelof1_0_2 => ?_
    · intro x h0; refine at_st (k := ?_); (apply at_r1 3; (focus (decide +kernel)); exact rfl)
      (apply ar_cur; kernel_rfl; exact rfl; exact rfl; exact (draw_reachOf v l hl ⟨rs, is⟩ hok); (focus (omega)); (focus (intro x; exact rfl)); (rintro ⟨xv, xa, xq⟩ hx; (try dsimp only at hx))); exact at_fin [0, 1] (levelof1_0_2_3 (xv, xa, xq) hx)
    refine at_has (α := Unit) (fun x => True) (bl 6 [0, 1]) (fun x => [(11, .agg [.sl 65 (.own 0) (reachs rs), .sl 3 (.own 1) (its is)])]) (fun x => []) 2 ?_ fun levelof1_0 => ?_
    · intro x h0; refine at_st (k := ?_); (apply at_r1 2; (focus (decide +kernel)); exact rfl)
      ((first | apply ar_q | apply dr_q); exact qOp1); exact at_fin [0, 1] (levelof1_0_2 x h0)
    refine at_has (α := (Int × Int × Int)) (fun x => ((-1 ≤ x.1 ∧ x.1 ≤ 10) ∧ a1 ≤ x.2.1 ∧ x.2.1 ≤ a1 + 4)) (bl 6 [1, 2, 3]) (fun x => [(13, .agg [.sl 65 (.own 0) (reachs rs), .sl 3 (.own 1) (its is)]), (14, .c (.p (.int .i64 x.1)))]) (fun x => [(1, [.sv v 5 (bts l), .p (.int .i64 x.2.1), .p (.int .u64 x.2.2)])]) 2 ?_ fun levelof1_2_3 => ?_
    · intro x h0; refine at_st (k := ?_); (apply at_r1 0; (focus (decide +kernel)); exact rfl)
      ((first | apply ar_q | apply dr_q); exact qOp1); exact at_fin [0, 1] (levelof1_0_2_3 x h0)
    refine at_has (α := Unit) (fun x => True) (bl 6 [1, 2]) (fun x => [(13, .agg [.sl 65 (.own 0) (reachs rs), .sl 3 (.own 1) (its is)])]) (fun x => []) 2 ?_ fun levelof1_2 => ?_
    · intro x h0; refine at_st (k := ?_); (apply at_r2 0 3; (focus (decide +kernel)); exact rfl; exact rfl)
      · ((first | apply ar_q | apply dr_q); exact qOp1); exact at_fin [0, 1] (levelof1_0_2 x h0)
      · (apply ar_cur; kernel_rfl; exact rfl; exact rfl; exact (draw_reachOf v l hl ⟨rs, is⟩ hok); (focus (omega)); (focus (intro x; exact rfl)); (rintro ⟨xv, xa, xq⟩ hx; (try dsimp only at hx))); exact at_fin [0, 1] (levelof1_2_3 (xv, xa, xq) hx)
    refine at_has (α := Unit) (fun x => True) (bl 6 [1]) (fun x => []) (fun x => []) 2 ?_ fun levelof1_ => ?_
    · intro x h0; refine at_st (k := ?_); (apply at_r2 0 2; (focus (decide +kernel)); exact rfl; exact rfl)
      · ((first | apply ar_q | apply dr_q); exact qOp1); exact at_fin [0, 1] (levelof1_0 x h0)
      · ((first | apply ar_q | apply dr_q); exact qOp1); exact at_fin [0, 1] (levelof1_2 x h0)
    exact levelof1_ () trivial
end Go.Proofs.YtkdbkddlbahceaaDoor
