/- Draws of fleets. -/
import Derived.Test.YtdlebdgdcpemmaaGreatDoorQt
namespace Go.Proofs.YtdlebdgdcpemmaaGreatDoor
open Go.RowKit
set_option linter.unusedVariables false
set_option linter.unusedSimpArgs false
attribute [local irreducible] AR DR AWp QOp Qt ACalls ARes Exit.thenA Exit.inBlockA
attribute [local irreducible] AG0 AG AGs
/-- A drawn fleet is small. -/
def okL (k : Nat) (l : List Vessel_) : Prop := l.length ≤ k ∧ ∀ y ∈ l, okD y
theorem okL.lens {k : Nat} {l : List Vessel_} (h : okL k l) : ∀ x ∈ l, x.len := fun x hx => (h.2 x hx).len
theorem okL_nil (k : Nat) : okL k [] := ⟨by simp, by simp⟩
theorem okL_add {l : List Vessel_} {v : Vessel_} {r : List Vessel_} {k : Nat} (h : okL 8 l) (hv : okD v) (e : addR l v = (r, true)) : okL 8 r := by
  unfold addR at e
  split at e
  · rename_i hc
    simp only [Bool.and_eq_true] at hc
    injection e with e _
    subst e
    refine ⟨fleet_len hc.2, fun y hy => ?_⟩
    rcases addV_mem hy with rfl | hy
    · exact hv
    · exact h.2 y hy
  · injection e with _ e; cases e
theorem okL_app {l : List Vessel_} {v : Vessel_} {k : Nat} (h : okL k l) (hv : okD v) : okL (k + 1) (l ++ [v]) := by
  refine ⟨by have := h.1; simp; omega, fun y hy => ?_⟩
  simp only [List.mem_append, List.mem_singleton] at hy
  rcases hy with hy | rfl
  · exact h.2 y hy
  · exact hv
def chV (k : Nat) : Vessel_ := ⟨(k : Int) + 1, ⟨#[UInt8.ofNat (97 + k)]⟩, 1 + (k : Int) % 3, 1, 100, 1⟩
theorem chV_ok {k : Nat} (h : k < 10) : okD (chV k) := by
  refine ⟨by simp [chV, ByteArray.size], ?_⟩
  simp only [chV]; omega
theorem vss_app (l : List Vessel_) (x : Vessel_) : vss l ++ [([.int .i64 (x).id, .string (x).nm, .int .i64 (x).ln, .int .i64 (x).wd, .int .i64 (x).dr, .int .i64 (x).kd] : List Value)] = vss (l ++ [x]) := by simp [vss, Vessel_.cells]
set_option maxHeartbeats 4000000 in
theorem draw_vessels (v : Value) (l : List Int) (hl : okBts l) (a s : Int) (ha : 0 ≤ a ∧ a ≤ 700000) : ACallsE Tryz.prog 39 [.c (.ptr 0 0), .c (.p (.int .i64 (6)))] [svc v 5 (bts l) [.int .i64 a, .int .u64 s]] (fun x : List Vessel_ × Int × Int => okL 12 x.1 ∧ a ≤ x.2.1 ∧ x.2.1 ≤ a + 300) (fun x => .c (.sl 25 (.own 0) (vss (x.1)))) (fun x : List Vessel_ × Int × Int => [svc v 5 (bts l) [.int .i64 x.2.1, .int .u64 x.2.2]]) (fun _ => 1) := by
  refine acallsE_of (ws := fun x => [.c (.sl 25 (.own 0) (vss (x.1)))]) (k := fun _ => 1) (hp' := fun x : List Vessel_ × Int × Int => [svc v 5 (bts l) [.int .i64 x.2.1, .int .u64 x.2.2]]) Tryz.func39 rfl (fun x => rfl) (fun x => rfl) (fun x => rfl) fun w0 B m hm0 => ?_; (refine awp_norm (τ := ?_) ?_ ?_; rotate_left; (focus (simp only [AV.top, svc, List.map_cons, List.map_nil, Tryz.ntmps39, List.length_cons, List.length_nil, Nat.reduceAdd, Nat.reduceSub, List.replicate_succ, List.replicate_zero, List.cons_append, List.nil_append]; exact rfl)))
  (repeat' (first | (first | refine awp_seq ?_ | refine awp_region ?_ | refine awp_block ?_ | refine awp_exit ?_ | refine awp_ret ?_ | refine awp_skip ?_ | refine ar_nil ?_ | refine dr_nil ?_ | (first | refine t_norm ?_ | refine t_exit ?_ | refine t_ret ?_ | refine b_norm ?_ | refine b_exit ?_ | refine b_exit_ne rfl ?_ | refine b_ret ?_)) | ((first | ((first | apply ar_q | apply dr_q); exact qOp1) | ((first | apply ar_gu | apply dr_gu); exact rfl) | ((first | apply ar_gn | apply dr_gn); exact rfl; exact bdOk) | (first | (apply ar_box; exact rfl) | (apply ar_store; exact rfl; exact rfl; exact rfl; (focus (first | decide | (simp; done) | exact Nat.le_refl _)); kernel_rfl; exact rfl)) | (apply ar_bslice (e := 25) 6; kernel_rfl; (focus (decide +kernel)); kernel_rfl; exact rfl; exact rfl; exact rfl; exact rfl; decide) | (apply ar_cur; kernel_rfl; exact rfl; exact rfl; exact (draw_pick v l hl 7 ⟨by decide, by decide⟩); (focus (omega)); (focus (intro x; exact rfl)); (rintro ⟨xv, xa, xq⟩ hx; (try dsimp only at hx)))); (first | refine ar_nrm (k := ?_) | refine dr_nrm (k := ?_))) | ((first | apply ar_gy | apply dr_gy); exact rfl; exact bdOk) | (first | (apply awp_cond_t; exact rfl; exact bdOk) | (apply awp_cond_f; exact rfl; exact bdOk)) | fail))
  (revert xv xa xq; intro n a1 q1 h1)
  obtain ⟨h11, h12, h13, h14⟩ := h1
  refine awp_loopR 1 (Nat.le_of_eq hm0) rfl [0, 1] (fun x : List Vessel_ × Int × Int × Int => [(5, .c (.sl 25 (.own 0) (vss (x.1)))), (6, .c (.p (.int .i64 (x.2.1))))]) (fun x => [svc v 5 (bts l) [.int .i64 x.2.2.1, .int .u64 x.2.2.2]]) (fun _ => 1) (fun n x => okL 8 x.1 ∧ 0 ≤ x.2.1 ∧ x.2.1 ≤ 6 ∧ a ≤ x.2.2.1 ∧ x.2.2.1 ≤ a + 2 + 16 * (6 - x.2.1) ∧ n = x.2.1.toNat) _ ([], n, a1, q1) ⟨okL_nil 8, h11, by dsimp only; omega, by dsimp only; omega, by dsimp only; omega, rfl⟩ ?_ ?_
  · refine le_nrm (k := ?_); refine le_mk hsLe ?_; (repeat (first | exact AVs.le.nil | (with_reducible refine AVs.le.top _ ?_) | (with_reducible refine AVs.le.eq _ ?_) | refine AVs.le.eqv ?_ ?_)) <;> exact rfl
  rintro n ⟨o, k, a2, q2⟩ ⟨g1, g2, g3, g4, g5, rfl⟩
  dsimp only at g1 g2 g3 g4 g5
  refine nh_nrm (k := ?_)
  by_cases hk : k > 0
  · (repeat' (first | (first | refine awp_seq ?_ | refine awp_region ?_ | refine awp_block ?_ | refine awp_exit ?_ | refine awp_ret ?_ | refine awp_skip ?_ | refine ar_nil ?_ | refine dr_nil ?_ | (first | refine t_norm ?_ | refine t_exit ?_ | refine t_ret ?_ | refine b_norm ?_ | refine b_exit ?_ | refine b_exit_ne rfl ?_ | refine b_ret ?_)) | ((first | ((first | apply ar_q | apply dr_q); exact qOp1) | ((first | apply ar_gu | apply dr_gu); exact rfl) | ((first | apply ar_gn | apply dr_gn); exact rfl; exact bdOk) | (first | (apply ar_box; exact rfl) | (apply ar_store; exact rfl; exact rfl; exact rfl; (focus (first | decide | (simp; done) | exact Nat.le_refl _)); kernel_rfl; exact rfl)) | (apply ar_cur; kernel_rfl; exact rfl; exact rfl; exact (draw_vessel v l hl); (focus (omega)); (focus (intro x; exact rfl)); (rintro ⟨xv, xa, xq⟩ hx; (try dsimp only at hx)))); (first | refine ar_nrm (k := ?_) | refine dr_nrm (k := ?_))) | ((first | apply ar_gy | apply dr_gy); exact rfl; exact bdOk) | (first | (apply awp_cond_t; exact rfl; exact bdOk) | (apply awp_cond_f; exact rfl; exact bdOk)) | fail))
    (revert xv xa xq; intro x a3 q3 h3)
    obtain ⟨h31, h32, h33⟩ := h3
    have hadd := spec_Add o x (by have := g1.1; omega) g1.lens h31.len
    cases hr : (addR o x).2 with
    | true =>
      have hokr : okL 8 (addR o x).1 := okL_add (k := 0) g1 h31 (by rw [← hr])
      rw [hr] at hadd
      generalize (addR o x).1 = r at *
      (repeat' (first | (first | refine awp_seq ?_ | refine awp_region ?_ | refine awp_block ?_ | refine awp_exit ?_ | refine awp_ret ?_ | refine awp_skip ?_ | refine ar_nil ?_ | refine dr_nil ?_ | (first | refine t_norm ?_ | refine t_exit ?_ | refine t_ret ?_ | refine b_norm ?_ | refine b_exit ?_ | refine b_exit_ne rfl ?_ | refine b_ret ?_)) | ((first | ((first | apply ar_q | apply dr_q); exact qOp1) | ((first | apply ar_gu | apply dr_gu); exact rfl) | ((first | apply ar_gn | apply dr_gn); exact rfl; exact bdOk) | (first | (apply ar_box; exact rfl) | (apply ar_store; exact rfl; exact rfl; exact rfl; (focus (first | decide | (simp; done) | exact Nat.le_refl _)); kernel_rfl; exact rfl)) | (apply ar_call; kernel_rfl; exact (hadd); exact rfl)); (first | refine ar_nrm (k := ?_) | refine dr_nrm (k := ?_))) | ((first | apply ar_gy | apply dr_gy); exact rfl; exact bdOk) | (first | (apply awp_cond_t; exact rfl; exact bdOk) | (apply awp_cond_f; exact rfl; exact bdOk)) | fail))
      refine ⟨_, (r, k - 1, a3, q3), [1], ?_, ⟨hokr, by dsimp only; omega, by dsimp only; omega, by dsimp only; omega, by dsimp only; omega, rfl⟩, by simp, by simp, ?_⟩
      · dsimp only; omega
      · refine lkr_nrm (k := ?_); refine le_mk hsLe ?_; (repeat (first | exact AVs.le.nil | (with_reducible refine AVs.le.top _ ?_) | (with_reducible refine AVs.le.eq _ ?_) | refine AVs.le.eqv ?_ ?_)) <;> first | exact rfl | exact pi (by omega)
    | false =>
      rw [hr] at hadd
      (repeat' (first | (first | refine awp_seq ?_ | refine awp_region ?_ | refine awp_block ?_ | refine awp_exit ?_ | refine awp_ret ?_ | refine awp_skip ?_ | refine ar_nil ?_ | refine dr_nil ?_ | (first | refine t_norm ?_ | refine t_exit ?_ | refine t_ret ?_ | refine b_norm ?_ | refine b_exit ?_ | refine b_exit_ne rfl ?_ | refine b_ret ?_)) | ((first | ((first | apply ar_q | apply dr_q); exact qOp1) | ((first | apply ar_gu | apply dr_gu); exact rfl) | ((first | apply ar_gn | apply dr_gn); exact rfl; exact bdOk) | (first | (apply ar_box; exact rfl) | (apply ar_store; exact rfl; exact rfl; exact rfl; (focus (first | decide | (simp; done) | exact Nat.le_refl _)); kernel_rfl; exact rfl)) | (apply ar_call; kernel_rfl; exact (hadd); exact rfl)); (first | refine ar_nrm (k := ?_) | refine dr_nrm (k := ?_))) | ((first | apply ar_gy | apply dr_gy); exact rfl; exact bdOk) | (first | (apply awp_cond_t; exact rfl; exact bdOk) | (apply awp_cond_f; exact rfl; exact bdOk)) | fail))
      refine ⟨_, (o, k - 1, a3, q3), [0], ?_, ⟨g1, by dsimp only; omega, by dsimp only; omega, by dsimp only; omega, by dsimp only; omega, rfl⟩, by simp, by simp, ?_⟩
      · dsimp only; omega
      · refine lkr_nrm (k := ?_); refine le_mk hsLe ?_; (repeat (first | exact AVs.le.nil | (with_reducible refine AVs.le.top _ ?_) | (with_reducible refine AVs.le.eq _ ?_) | refine AVs.le.eqv ?_ ?_)) <;> first | exact rfl | exact pi (by omega)
  · (repeat' (first | (first | refine awp_seq ?_ | refine awp_region ?_ | refine awp_block ?_ | refine awp_exit ?_ | refine awp_ret ?_ | refine awp_skip ?_ | refine ar_nil ?_ | refine dr_nil ?_ | (first | refine t_norm ?_ | refine t_exit ?_ | refine t_ret ?_ | refine b_norm ?_ | refine b_exit ?_ | refine b_exit_ne rfl ?_ | refine b_ret ?_)) | ((first | ((first | apply ar_q | apply dr_q); exact qOp1) | ((first | apply ar_gu | apply dr_gu); exact rfl) | ((first | apply ar_gn | apply dr_gn); exact rfl; exact bdOk) | (first | (apply ar_box; exact rfl) | (apply ar_store; exact rfl; exact rfl; exact rfl; (focus (first | decide | (simp; done) | exact Nat.le_refl _)); kernel_rfl; exact rfl)) | (apply ar_cur; kernel_rfl; exact rfl; exact rfl; exact (draw_pick v l hl 30 ⟨by decide, by decide⟩); (focus (omega)); (focus (intro x; exact rfl)); (rintro ⟨xv, xa, xq⟩ hx; (try dsimp only at hx)))); (first | refine ar_nrm (k := ?_) | refine dr_nrm (k := ?_))) | ((first | apply ar_gy | apply dr_gy); exact rfl; exact bdOk) | (first | (apply awp_cond_t; exact rfl; exact bdOk) | (apply awp_cond_f; exact rfl; exact bdOk)) | fail))
    (revert xv xa xq; intro c a3 q3 h3)
    obtain ⟨h31, h32, h33, h34⟩ := h3
    have hl8 := g1.1
    by_cases c0 : c = 0
    · (repeat' (first | (first | refine awp_seq ?_ | refine awp_region ?_ | refine awp_block ?_ | refine awp_exit ?_ | refine awp_ret ?_ | refine awp_skip ?_ | refine ar_nil ?_ | refine dr_nil ?_ | (first | refine t_norm ?_ | refine t_exit ?_ | refine t_ret ?_ | refine b_norm ?_ | refine b_exit ?_ | refine b_exit_ne rfl ?_ | refine b_ret ?_)) | ((first | ((first | apply ar_q | apply dr_q); exact qOp1) | ((first | apply ar_gu | apply dr_gu); exact rfl) | ((first | apply ar_gn | apply dr_gn); exact rfl; exact bdOk) | (first | (apply ar_box; exact rfl) | (apply ar_store; exact rfl; exact rfl; exact rfl; (focus (first | decide | (simp; done) | exact Nat.le_refl _)); kernel_rfl; exact rfl)) | (apply ar_cur; kernel_rfl; exact rfl; exact rfl; exact (draw_vessel v l hl); (focus (omega)); (focus (intro x; exact rfl)); (rintro ⟨xv, xa, xq⟩ hx; (try dsimp only at hx)))); (first | refine ar_nrm (k := ?_) | refine dr_nrm (k := ?_))) | ((first | apply ar_gy | apply dr_gy); exact rfl; exact bdOk) | (first | (apply awp_cond_t; exact rfl; exact bdOk) | (apply awp_cond_f; exact rfl; exact bdOk)) | fail))
      (revert xv xa xq; intro x a4 q4 h4)
      obtain ⟨h41, h42, h43⟩ := h4
      (repeat' (first | (first | refine awp_seq ?_ | refine awp_region ?_ | refine awp_block ?_ | refine awp_exit ?_ | refine awp_ret ?_ | refine awp_skip ?_ | refine ar_nil ?_ | refine dr_nil ?_ | (first | refine t_norm ?_ | refine t_exit ?_ | refine t_ret ?_ | refine b_norm ?_ | refine b_exit ?_ | refine b_exit_ne rfl ?_ | refine b_ret ?_)) | ((first | ((first | apply ar_q | apply dr_q); exact qOp1) | ((first | apply ar_gu | apply dr_gu); exact rfl) | ((first | apply ar_gn | apply dr_gn); exact rfl; exact bdOk) | (first | (apply ar_box; exact rfl) | (apply ar_store; exact rfl; exact rfl; exact rfl; (focus (first | decide | (simp; done) | exact Nat.le_refl _)); kernel_rfl; exact rfl)) | (apply ar_bslice (e := 25) 6; kernel_rfl; (focus (decide +kernel)); kernel_rfl; exact rfl; exact rfl; exact rfl; exact rfl; decide) | (apply ar_append; kernel_rfl; kernel_rfl; exact rfl; exact rfl; exact ((vss_ok [x])); (focus ((first | (simp; done) | (simp; omega)))); exact rfl)); (first | refine ar_nrm (k := ?_) | refine dr_nrm (k := ?_))) | ((first | apply ar_gy | apply dr_gy); exact rfl; exact bdOk) | (first | (apply awp_cond_t; exact rfl; exact bdOk) | (apply awp_cond_f; exact rfl; exact bdOk)) | fail))
      refine ⟨.inr rfl, ⟨o ++ [x], _, _⟩, ?_, aend_mk [0] rfl (by simp) (by simp) (ares_tmp2 _ rfl (pl (vss_app o x)) ares_nil) rfl rfl⟩
      have := okL_app g1 h41
      exact ⟨⟨by have := this.1; dsimp only; omega, this.2⟩, by dsimp only; omega, by dsimp only; omega⟩
    by_cases c1 : c = 1
    · (repeat' (first | (first | refine awp_seq ?_ | refine awp_region ?_ | refine awp_block ?_ | refine awp_exit ?_ | refine awp_ret ?_ | refine awp_skip ?_ | refine ar_nil ?_ | refine dr_nil ?_ | (first | refine t_norm ?_ | refine t_exit ?_ | refine t_ret ?_ | refine b_norm ?_ | refine b_exit ?_ | refine b_exit_ne rfl ?_ | refine b_ret ?_)) | ((first | ((first | apply ar_q | apply dr_q); exact qOp1) | ((first | apply ar_gu | apply dr_gu); exact rfl) | ((first | apply ar_gn | apply dr_gn); exact rfl; exact bdOk) | (first | (apply ar_box; exact rfl) | (apply ar_store; exact rfl; exact rfl; exact rfl; (focus (first | decide | (simp; done) | exact Nat.le_refl _)); kernel_rfl; exact rfl)) | (apply ar_bslice (e := 25) 6; kernel_rfl; (focus (decide +kernel)); kernel_rfl; exact rfl; exact rfl; exact rfl; exact rfl; decide)); (first | refine ar_nrm (k := ?_) | refine dr_nrm (k := ?_))) | ((first | apply ar_gy | apply dr_gy); exact rfl; exact bdOk) | (first | (apply awp_cond_t; exact rfl; exact bdOk) | (apply awp_cond_f; exact rfl; exact bdOk)) | fail))
      refine awp_loopR 1 (Nat.le_of_eq hm0) rfl [0, 1] (fun x : Nat × Int × Int => [(5, .c (.sl 25 (.own 1) (vss ((List.range x.1).map chV)))), (9, .c (.p (.int .i64 (x.1))))]) (fun x => [svc v 5 (bts l) [.int .i64 x.2.1, .int .u64 x.2.2]]) (fun _ => 2) (fun n x => x.1 ≤ 9 ∧ a3 ≤ x.2.1 ∧ x.2.1 ≤ a3 + 2 * x.1 ∧ n = 10 - x.1) _ (0, a3, q3) ⟨by dsimp only; omega, by dsimp only; omega, by dsimp only; omega, rfl⟩ ?_ ?_
      · refine le_nrm (k := ?_); refine le_mk hsLe ?_; (repeat (first | exact AVs.le.nil | (with_reducible refine AVs.le.top _ ?_) | (with_reducible refine AVs.le.eq _ ?_) | refine AVs.le.eqv ?_ ?_)) <;> exact rfl
      rintro n ⟨i, a5, q5⟩ ⟨e1, e2, e3, rfl⟩
      dsimp only at e1 e2 e3
      refine nh_nrm (k := ?_)
      (repeat' (first | (first | refine awp_seq ?_ | refine awp_region ?_ | refine awp_block ?_ | refine awp_exit ?_ | refine awp_ret ?_ | refine awp_skip ?_ | refine ar_nil ?_ | refine dr_nil ?_ | (first | refine t_norm ?_ | refine t_exit ?_ | refine t_ret ?_ | refine b_norm ?_ | refine b_exit ?_ | refine b_exit_ne rfl ?_ | refine b_ret ?_)) | ((first | ((first | apply ar_q | apply dr_q); exact qOp1) | ((first | apply ar_gu | apply dr_gu); exact rfl) | ((first | apply ar_gn | apply dr_gn); exact rfl; exact bdOk) | (first | (apply ar_box; exact rfl) | (apply ar_store; exact rfl; exact rfl; exact rfl; (focus (first | decide | (simp; done) | exact Nat.le_refl _)); kernel_rfl; exact rfl)) | (apply ar_cur; kernel_rfl; exact rfl; exact rfl; exact (draw_pick v l hl 2 ⟨by decide, by decide⟩); (focus (omega)); (focus (intro x; exact rfl)); (rintro ⟨xv, xa, xq⟩ hx; (try dsimp only at hx)))); (first | refine ar_nrm (k := ?_) | refine dr_nrm (k := ?_))) | ((first | apply ar_gy | apply dr_gy); exact rfl; exact bdOk) | (first | (apply awp_cond_t; exact rfl; exact bdOk) | (apply awp_cond_f; exact rfl; exact bdOk)) | fail))
      (revert xv xa xq; intro y a6 q6 h6)
      obtain ⟨h61, h62, h63, h64⟩ := h6
      have hokc : okL 12 ((List.range i).map chV) := ⟨by simp; omega, fun z hz => by
        obtain ⟨j, hj, rfl⟩ := List.mem_map.1 hz
        have := List.mem_range.1 hj
        exact chV_ok (by omega)⟩
      by_cases hlt : (i : Int) < 8 + y
      · have hcb : ([[.int .u8 (97 + (i : Int))]] : List (List Value)) = [UInt8.ofNat (97 + i)].map fun b => [.int .u8 b.toNat] := by
          have : (UInt8.ofNat (97 + i)).toNat = 97 + i := by simp; omega
          simp only [List.map_cons, List.map_nil, this]; simp
        have hrow : vss ((List.range i).map chV) ++ [([.int .i64 (chV i).id, .string (chV i).nm, .int .i64 (chV i).ln, .int .i64 (chV i).wd, .int .i64 (chV i).dr, .int .i64 (chV i).kd] : List Value)] = vss ((List.range (i + 1)).map chV) := by rw [vss_app, List.range_succ, List.map_append]; rfl
        (repeat' (first | (first | refine awp_seq ?_ | refine awp_region ?_ | refine awp_block ?_ | refine awp_exit ?_ | refine awp_ret ?_ | refine awp_skip ?_ | refine ar_nil ?_ | refine dr_nil ?_ | (first | refine t_norm ?_ | refine t_exit ?_ | refine t_ret ?_ | refine b_norm ?_ | refine b_exit ?_ | refine b_exit_ne rfl ?_ | refine b_ret ?_)) | ((first | ((first | apply ar_q | apply dr_q); exact qOp1) | ((first | apply ar_gu | apply dr_gu); exact rfl) | ((first | apply ar_gn | apply dr_gn); exact rfl; exact bdOk) | (first | (apply ar_box; exact rfl) | (apply ar_store; exact rfl; exact rfl; exact rfl; (focus (first | decide | (simp; done) | exact Nat.le_refl _)); kernel_rfl; exact rfl)) | (apply ar_q; (focus (apply q_conv_bs (e := 5) [UInt8.ofNat (97 + i)]; kernel_rfl; kernel_rfl; kernel_rfl; kernel_rfl; exact rfl; exact hcb))) | (apply ar_bslice (e := 5) 1; kernel_rfl; (focus (decide +kernel)); kernel_rfl; exact rfl; exact rfl; exact rfl; exact rfl; decide) | ((first | apply ar_q | apply dr_q); (focus (apply q_build (n := 6) (zs := ([.int .i64 0, .string ByteArray.empty, .int .i64 0, .int .i64 0, .int .i64 0, .int .i64 0] : List Value)); kernel_rfl; kernel_rfl; exact rfl; exact rfl))) | (apply ar_bslice (e := 25) 6; kernel_rfl; (focus (decide +kernel)); kernel_rfl; exact rfl; exact rfl; exact rfl; exact rfl; decide) | (apply ar_append; kernel_rfl; kernel_rfl; exact rfl; exact rfl; exact ((vss_ok [chV i])); (focus ((first | (simp; done) | (simp; omega)))); exact rfl)); (first | refine ar_nrm (k := ?_) | refine dr_nrm (k := ?_))) | ((first | apply ar_gy | apply dr_gy); exact rfl; exact bdOk) | (first | (apply awp_cond_t; exact rfl; exact bdOk) | (apply awp_cond_f; exact rfl; exact bdOk)) | fail))
        refine ⟨_, (i + 1, a6, q6), [0, 1], ?_, ⟨by dsimp only; omega, by dsimp only; omega, by dsimp only; omega, rfl⟩, by simp, by simp, ?_⟩
        · dsimp only; omega
        · refine lkr_nrm (k := ?_); refine le_mk hsLe ?_; (repeat (first | exact AVs.le.nil | (with_reducible refine AVs.le.top _ ?_) | (with_reducible refine AVs.le.eq _ ?_) | refine AVs.le.eqv ?_ ?_)) <;> first | exact rfl | exact pi (by omega) | exact pl hrow
      · (repeat' (first | (first | refine awp_seq ?_ | refine awp_region ?_ | refine awp_block ?_ | refine awp_exit ?_ | refine awp_ret ?_ | refine awp_skip ?_ | refine ar_nil ?_ | refine dr_nil ?_ | (first | refine t_norm ?_ | refine t_exit ?_ | refine t_ret ?_ | refine b_norm ?_ | refine b_exit ?_ | refine b_exit_ne rfl ?_ | refine b_ret ?_)) | ((first | ((first | apply ar_q | apply dr_q); exact qOp1) | ((first | apply ar_gu | apply dr_gu); exact rfl) | ((first | apply ar_gn | apply dr_gn); exact rfl; exact bdOk) | (first | (apply ar_box; exact rfl) | (apply ar_store; exact rfl; exact rfl; exact rfl; (focus (first | decide | (simp; done) | exact Nat.le_refl _)); kernel_rfl; exact rfl))); (first | refine ar_nrm (k := ?_) | refine dr_nrm (k := ?_))) | ((first | apply ar_gy | apply dr_gy); exact rfl; exact bdOk) | (first | (apply awp_cond_t; exact rfl; exact bdOk) | (apply awp_cond_f; exact rfl; exact bdOk)) | fail))
        refine ⟨.inr rfl, ⟨(List.range i).map chV, _, _⟩, ?_, aend_mk [1] rfl (by simp) (by simp) (ares_tmp2 _ rfl rfl ares_nil) rfl rfl⟩
        exact ⟨hokc, by dsimp only; omega, by dsimp only; omega⟩
    · (repeat' (first | (first | refine awp_seq ?_ | refine awp_region ?_ | refine awp_block ?_ | refine awp_exit ?_ | refine awp_ret ?_ | refine awp_skip ?_ | refine ar_nil ?_ | refine dr_nil ?_ | (first | refine t_norm ?_ | refine t_exit ?_ | refine t_ret ?_ | refine b_norm ?_ | refine b_exit ?_ | refine b_exit_ne rfl ?_ | refine b_ret ?_)) | ((first | ((first | apply ar_q | apply dr_q); exact qOp1) | ((first | apply ar_gu | apply dr_gu); exact rfl) | ((first | apply ar_gn | apply dr_gn); exact rfl; exact bdOk) | (first | (apply ar_box; exact rfl) | (apply ar_store; exact rfl; exact rfl; exact rfl; (focus (first | decide | (simp; done) | exact Nat.le_refl _)); kernel_rfl; exact rfl))); (first | refine ar_nrm (k := ?_) | refine dr_nrm (k := ?_))) | ((first | apply ar_gy | apply dr_gy); exact rfl; exact bdOk) | (first | (apply awp_cond_t; exact rfl; exact bdOk) | (apply awp_cond_f; exact rfl; exact bdOk)) | fail))
      refine ⟨.inr rfl, ⟨o, _, _⟩, ?_, aend_mk [0] rfl (by simp) (by simp) (ares_tmp2 _ rfl rfl ares_nil) rfl rfl⟩
      exact ⟨⟨by dsimp only; omega, g1.2⟩, by dsimp only; omega, by dsimp only; omega⟩
end Go.Proofs.YtdlebdgdcpemmaaGreatDoor
