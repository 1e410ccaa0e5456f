/- The search for a packing in the program. -/
import Derived.Test.YthmaiahllhgdpaaCd
import Derived.Test.YthmaiahllhgdpaaCk
import Derived.Test.YthmaiahllhgdpaaEL




namespace Go.Proofs.Ythmaiahllhgdpaa
open Go.RowKit
set_option linter.unusedVariables false
set_option linter.unusedSimpArgs false
attribute [local irreducible] AR DR AWp QOp Qt ACalls ARes Exit.thenA Exit.inBlockA
attribute [local irreducible] AG0 AG AGs
theorem spots_put (ss : List Spot_) (a d : Nat) : spots (putS ss a d) = spots ss ++ [([.int .i64 (⟨(a : Int), (d : Int)⟩ : Spot_).at_, .int .i64 (⟨(a : Int), (d : Int)⟩ : Spot_).sd] : List Value)] := by simp [spots, putS, Spot_.cells]
theorem sv_spots (u : Value) (ss : List Spot_) : (AV.c (.sv u 42 (spots ss))).ro = .c (.sv u 42 (spots ss)) := rfl
theorem impl_packed0 (c : Chamber_) (hs : List Hull_) (ss : List Spot_) (hn : ss.length = hs.length) (u : Value) : ACalls Try.prog 56 [.agg [.p (.int .i64 (c).ln), .p (.int .i64 (c).wd)], .c (.sl 40 .ro (hulls hs)), .c (.sv u 42 (spots ss))] [] (.tup [.c (.sv u 42 (spots ss)), .c (.p (.bool true))]) [] 0 := by
  have hl1 : (hulls hs).length = hs.length := by simp [hulls]
  have hl2 : (spots ss).length = ss.length := by simp [spots]
  refine acalls_of (ws := [.c (.sv u 42 (spots ss)), .c (.p (.bool true))]) Try.func56 rfl rfl rfl rfl fun w0 B m hm0 => ?_; (refine awp_norm (τ := ?_) ?_ ?_; rotate_left; (focus (simp only [AV.top, Try.ntmps56, List.length_cons, List.length_nil, Nat.reduceAdd, Nat.reduceSub, List.replicate_succ, List.replicate_zero, List.cons_append, List.nil_append]; exact rfl)))
  (repeat (first | (first | refine awp_seq ?_ | refine awp_region ?_ | refine awp_block ?_ | refine awp_exit ?_ | refine awp_ret ?_ | refine awp_skip ?_ | refine ar_nil ?_ | refine dr_nil ?_ | (refine awp_region_draw ?_ ?_ ?_; kernel_rfl; kernel_rfl) | (first | refine t_norm ?_ | refine t_exit ?_ | refine t_ret ?_ | refine b_norm ?_ | refine b_exit ?_ | refine b_exit_ne rfl ?_ | refine b_ret ?_)) | ((first | ((first | apply ar_q | apply dr_q); exact qOp1) | ((first | apply ar_gu | apply dr_gu); exact rfl) | ((first | apply ar_gn | apply dr_gn); exact rfl; exact bdOk) | (first | (apply ar_box; exact rfl) | (apply ar_store; exact rfl; exact rfl; exact rfl; (focus (first | decide | (simp; done) | exact Nat.le_refl _)); kernel_rfl; exact rfl)) | ((first | apply ar_q | apply dr_q); (focus (apply q_len_v; kernel_rfl; exact rfl)))); (first | refine ar_nrm (k := ?_) | refine dr_nrm (k := ?_))) | ((first | apply ar_gy | apply dr_gy); exact rfl; exact bdOk) | (first | (apply awp_cond_t; exact rfl; exact bdOk) | (apply awp_cond_f; exact rfl; exact bdOk)) | fail))
  refine ⟨.inr rfl, aend_mk [] rfl (by simp) (by first | (simp; done) | (simp; omega)) (ares_tmp2 _ rfl ?_ (ares_tmp2 _ rfl ?_ ares_nil)) rfl rfl⟩ <;> exact rfl
/-- How packed ends. -/
def pkW : Option (List Spot_) → List AW
  | some out => [.c (.sl 42 (.own 0) (spots out)), .c (.p (.bool true))]
  | none => [.c .nl, .c (.p (.bool false))]
def pkK : Option (List Spot_) → Nat
  | some _ => 1
  | none => 0
set_option maxHeartbeats 4000000 in
theorem impl_packed (c : Chamber_) (hs : List Hull_) (hc : chF c = true) (hh : hullsF hs = true) : ∀ (f : Nat) (ss : List Spot_), ss.length + (f + 1) = hs.length → packB c hs ss = true → ACallsE Try.prog 56 [.agg [.p (.int .i64 (c).ln), .p (.int .i64 (c).wd)], .c (.sl 40 .ro (hulls hs)), .c (.sl 42 .ro (spots ss))] [] (fun x => x = firstF c hs (f + 1) ss) (fun x => one (pkW x)) (fun _ => []) pkK := by
  have hcc := chF_iff.1 hc
  have h4 := (hullsF_iff.1 hh).2.2
  intro f
  induction f using Nat.strongRecOn with
  | ind f ih =>
  intro ss hn hp
  have hl1 : (hulls hs).length = hs.length := by simp [hulls]
  have hl2 : (spots ss).length = ss.length := by simp [spots]
  refine acallsE_of (ws := pkW) (k := pkK) (hp' := fun _ => []) Try.func56 rfl (fun x => by cases x <;> rfl) (fun x => by cases x <;> rfl) (fun x => rfl) fun w0 B m hm0 => ?_; (refine awp_norm (τ := ?_) ?_ ?_; rotate_left; (focus (simp only [AV.top, Try.ntmps56, List.length_cons, List.length_nil, Nat.reduceAdd, Nat.reduceSub, List.replicate_succ, List.replicate_zero, List.cons_append, List.nil_append]; exact rfl)))
  (repeat (first | (first | refine awp_seq ?_ | refine awp_region ?_ | refine awp_block ?_ | refine awp_exit ?_ | refine awp_ret ?_ | refine awp_skip ?_ | refine ar_nil ?_ | refine dr_nil ?_ | (refine awp_region_draw ?_ ?_ ?_; kernel_rfl; kernel_rfl) | (first | refine t_norm ?_ | refine t_exit ?_ | refine t_ret ?_ | refine b_norm ?_ | refine b_exit ?_ | refine b_exit_ne rfl ?_ | refine b_ret ?_)) | ((first | ((first | apply ar_q | apply dr_q); exact qOp1) | ((first | apply ar_gu | apply dr_gu); exact rfl) | ((first | apply ar_gn | apply dr_gn); exact rfl; exact bdOk) | (first | (apply ar_box; exact rfl) | (apply ar_store; exact rfl; exact rfl; exact rfl; (focus (first | decide | (simp; done) | exact Nat.le_refl _)); kernel_rfl; exact rfl))); (first | refine ar_nrm (k := ?_) | refine dr_nrm (k := ?_))) | ((first | apply ar_gy | apply dr_gy); exact rfl; exact bdOk) | (first | (apply awp_cond_t; exact rfl; exact bdOk) | (apply awp_cond_f; exact rfl; exact bdOk)) | fail))
  refine awp_loopR 1 (Nat.le_trans (Nat.le_of_eq hm0) (Nat.zero_le 1)) rfl [1, 2, 3, 20] (fun a : Nat => [(21, .c (.p (.int .i64 a)))]) (fun _ => [[.p (.int .i64 (c).ln), .p (.int .i64 (c).wd)]]) (fun _ => 0) (fun q a => a ≤ c.ln.toNat ∧ (∀ a' d', a' < a → d' < c.wd.toNat → cellG c hs f ss a' d' = none) ∧ q = c.ln.toNat - a) _ 0 ⟨by omega, by omega, rfl⟩ ?_ ?_
  · refine le_nrm (k := ?_); refine le_mk hsLe ?_; (repeat (first | exact AVs.le.nil | (with_reducible refine AVs.le.top _ ?_) | (with_reducible refine AVs.le.eq _ ?_) | refine AVs.le.eqv ?_ ?_)) <;> first | exact rfl | exact pi (by omega)
  rintro q a ⟨g1, g2, rfl⟩
  refine nh_nrm (k := ?_)
  by_cases ha : (a : Int) < c.ln
  · (repeat (first | (first | refine awp_seq ?_ | refine awp_region ?_ | refine awp_block ?_ | refine awp_exit ?_ | refine awp_ret ?_ | refine awp_skip ?_ | refine ar_nil ?_ | refine dr_nil ?_ | (refine awp_region_draw ?_ ?_ ?_; kernel_rfl; kernel_rfl) | (first | refine t_norm ?_ | refine t_exit ?_ | refine t_ret ?_ | refine b_norm ?_ | refine b_exit ?_ | refine b_exit_ne rfl ?_ | refine b_ret ?_)) | ((first | ((first | apply ar_q | apply dr_q); exact qOp1) | ((first | apply ar_gu | apply dr_gu); exact rfl) | ((first | apply ar_gn | apply dr_gn); exact rfl; exact bdOk) | (first | (apply ar_box; exact rfl) | (apply ar_store; exact rfl; exact rfl; exact rfl; (focus (first | decide | (simp; done) | exact Nat.le_refl _)); kernel_rfl; exact rfl))); (first | refine ar_nrm (k := ?_) | refine dr_nrm (k := ?_))) | ((first | apply ar_gy | apply dr_gy); exact rfl; exact bdOk) | (first | (apply awp_cond_t; exact rfl; exact bdOk) | (apply awp_cond_f; exact rfl; exact bdOk)) | fail))
    refine awp_loopR 1 (Nat.le_trans (Nat.le_of_eq hm0) (Nat.zero_le 1)) rfl [1, 2, 3, 8, 20, 21, 25] (fun d : Nat => [(26, .c (.p (.int .i64 d)))]) (fun _ => [[.p (.int .i64 (c).ln), .p (.int .i64 (c).wd)]]) (fun _ => 0) (fun q d => d ≤ c.wd.toNat ∧ (∀ d', d' < d → cellG c hs f ss a d' = none) ∧ q = c.wd.toNat - d) _ 0 ⟨by omega, by omega, rfl⟩ ?_ ?_
    · refine le_nrm (k := ?_); refine le_mk hsLe ?_; (repeat (first | exact AVs.le.nil | (with_reducible refine AVs.le.top _ ?_) | (with_reducible refine AVs.le.eq _ ?_) | refine AVs.le.eqv ?_ ?_)) <;> first | exact rfl | exact pi (by omega)
    rintro q d ⟨g3, g4, rfl⟩
    refine nh_nrm (k := ?_)
    by_cases hd : (d : Int) < c.wd
    · have hput := putS_len ss a d
      have hfc := impl_fits c hs (putS ss a d) ss.length hc hh hput (by omega) (fun k hk => by rw [sAt_app hk]; exact (fitB_iff.1 (packB_iff.1 hp k hk)).1)
      rw [spots_put] at hfc
      have hstep : ∀ {v : Option (List Spot_)}, cellG c hs f ss a d = v → v = none → ∀ d', d' < d + 1 → cellG c hs f ss a d' = none := fun h0 h1 d' hd' => by
        by_cases e : d' < d
        · exact g4 d' e
        · obtain rfl : d' = d := by omega
          rw [h0, h1]
      have hres : ∀ {out : List Spot_}, cellG c hs f ss a d = some out → firstF c hs (f + 1) ss = some out := fun h0 => by
        rw [firstF_succ]; exact findG_some (by omega) (by omega) h0 (fun a' d' h1 h2 => g2 a' d' h1 h2) g4
      cases hfit : fitB c hs (putS ss a d) ss.length with
      | false =>
        rw [hfit] at hfc
        (repeat (first | (first | refine awp_seq ?_ | refine awp_region ?_ | refine awp_block ?_ | refine awp_exit ?_ | refine awp_ret ?_ | refine awp_skip ?_ | refine ar_nil ?_ | refine dr_nil ?_ | (refine awp_region_draw ?_ ?_ ?_; kernel_rfl; kernel_rfl) | (first | refine t_norm ?_ | refine t_exit ?_ | refine t_ret ?_ | refine b_norm ?_ | refine b_exit ?_ | refine b_exit_ne rfl ?_ | refine b_ret ?_)) | ((first | ((first | apply ar_q | apply dr_q); exact qOp1) | ((first | apply ar_gu | apply dr_gu); exact rfl) | ((first | apply ar_gn | apply dr_gn); exact rfl; exact bdOk) | (first | (apply ar_box; exact rfl) | (apply ar_store; exact rfl; exact rfl; exact rfl; (focus (first | decide | (simp; done) | exact Nat.le_refl _)); kernel_rfl; exact rfl)) | (apply ar_bslice (e := 42) 2; kernel_rfl; (focus (decide +kernel)); kernel_rfl; exact rfl; exact rfl; exact rfl; exact rfl; decide) | ((first | apply ar_q | apply dr_q); (focus (apply q_build (n := 2) (zs := ([.int .i64 0, .int .i64 0] : List Value)); kernel_rfl; kernel_rfl; exact rfl; exact rfl))) | (apply ar_append; kernel_rfl; kernel_rfl; exact rfl; exact rfl; exact ((by first | exact spots_ok _ | exact spots_ok [⟨(a : Int), (d : Int)⟩])); (focus ((simp; omega))); exact rfl) | ((first | apply ar_qt | apply dr_qt); (focus (apply qt_call; kernel_rfl; exact (hfc); exact rfl)))); (first | refine ar_nrm (k := ?_) | refine dr_nrm (k := ?_))) | ((first | apply ar_gy | apply dr_gy); exact rfl; exact bdOk) | (first | (apply awp_cond_t; exact rfl; exact bdOk) | (apply awp_cond_f; exact rfl; exact bdOk)) | fail))
        refine ⟨_, d + 1, [], ?_, ⟨by omega, hstep (cellG_no hfit) rfl, rfl⟩, List.nodup_nil, by simp, ?_⟩
        · omega
        · refine lkr_nrm (k := ?_); refine le_mk hsLe ?_; (repeat (first | exact AVs.le.nil | (with_reducible refine AVs.le.top _ ?_) | (with_reducible refine AVs.le.eq _ ?_) | refine AVs.le.eqv ?_ ?_)) <;> first | exact rfl | exact pi (by omega)
      | true =>
        rw [hfit] at hfc
        have hce := cellG_fit (f := f) hfit
        cases f with
        | zero =>
          have h0 : ∀ u, _ := impl_packed0 c hs (putS ss a d) (by omega)
          rw [spots_put] at h0
          (repeat (first | (first | refine awp_seq ?_ | refine awp_region ?_ | refine awp_block ?_ | refine awp_exit ?_ | refine awp_ret ?_ | refine awp_skip ?_ | refine ar_nil ?_ | refine dr_nil ?_ | (refine awp_region_draw ?_ ?_ ?_; kernel_rfl; kernel_rfl) | (first | refine t_norm ?_ | refine t_exit ?_ | refine t_ret ?_ | refine b_norm ?_ | refine b_exit ?_ | refine b_exit_ne rfl ?_ | refine b_ret ?_)) | ((first | ((first | apply ar_q | apply dr_q); exact qOp1) | ((first | apply ar_gu | apply dr_gu); exact rfl) | ((first | apply ar_gn | apply dr_gn); exact rfl; exact bdOk) | (first | (apply ar_box; exact rfl) | (apply ar_store; exact rfl; exact rfl; exact rfl; (focus (first | decide | (simp; done) | exact Nat.le_refl _)); kernel_rfl; exact rfl)) | (apply ar_bslice (e := 42) 2; kernel_rfl; (focus (decide +kernel)); kernel_rfl; exact rfl; exact rfl; exact rfl; exact rfl; decide) | ((first | apply ar_q | apply dr_q); (focus (apply q_build (n := 2) (zs := ([.int .i64 0, .int .i64 0] : List Value)); kernel_rfl; kernel_rfl; exact rfl; exact rfl))) | (apply ar_append; kernel_rfl; kernel_rfl; exact rfl; exact rfl; exact ((by first | exact spots_ok _ | exact spots_ok [⟨(a : Int), (d : Int)⟩])); (focus ((simp; omega))); exact rfl) | ((first | apply ar_qt | apply dr_qt); (focus (apply qt_call; kernel_rfl; exact (hfc); exact rfl))) | (apply ar_same (xs := [.tmp 43, .tmp 44]) (y := .tmp 45) (avs := [.agg [.p (.int .i64 (c).ln), .p (.int .i64 (c).wd)], .c (.sl 40 .ro (hulls hs))]) (hc := h0); kernel_rfl; exact rfl; exact rfl)); (first | refine ar_nrm (k := ?_) | refine dr_nrm (k := ?_))) | ((first | apply ar_gy | apply dr_gy); exact rfl; exact bdOk) | (first | (apply awp_cond_t; exact rfl; exact bdOk) | (apply awp_cond_f; exact rfl; exact bdOk)) | fail))
          refine ⟨.inr rfl, some (putS ss a d), ?_, aend_mk [0] rfl (by simp) (by first | (simp; done) | (simp; omega)) (ares_tmp2 _ rfl ?_ (ares_tmp2 _ rfl ?_ ares_nil)) rfl rfl⟩
          · exact (hres hce).symm
          · exact pl (spots_put ss a d).symm
          · exact rfl
        | succ f =>
          have hrec := ih f (by omega) (putS ss a d) (by omega) (packB_put.2 ⟨hp, hfit⟩)
          cases hv : firstF c hs (f + 1) (putS ss a d) with
          | none =>
            have hc1 := hrec.one hv
            dsimp only [pkW, pkK, one] at hc1
            rw [spots_put] at hc1
            (repeat (first | (first | refine awp_seq ?_ | refine awp_region ?_ | refine awp_block ?_ | refine awp_exit ?_ | refine awp_ret ?_ | refine awp_skip ?_ | refine ar_nil ?_ | refine dr_nil ?_ | (refine awp_region_draw ?_ ?_ ?_; kernel_rfl; kernel_rfl) | (first | refine t_norm ?_ | refine t_exit ?_ | refine t_ret ?_ | refine b_norm ?_ | refine b_exit ?_ | refine b_exit_ne rfl ?_ | refine b_ret ?_)) | ((first | ((first | apply ar_q | apply dr_q); exact qOp1) | ((first | apply ar_gu | apply dr_gu); exact rfl) | ((first | apply ar_gn | apply dr_gn); exact rfl; exact bdOk) | (first | (apply ar_box; exact rfl) | (apply ar_store; exact rfl; exact rfl; exact rfl; (focus (first | decide | (simp; done) | exact Nat.le_refl _)); kernel_rfl; exact rfl)) | (apply ar_bslice (e := 42) 2; kernel_rfl; (focus (decide +kernel)); kernel_rfl; exact rfl; exact rfl; exact rfl; exact rfl; decide) | ((first | apply ar_q | apply dr_q); (focus (apply q_build (n := 2) (zs := ([.int .i64 0, .int .i64 0] : List Value)); kernel_rfl; kernel_rfl; exact rfl; exact rfl))) | (apply ar_append; kernel_rfl; kernel_rfl; exact rfl; exact rfl; exact ((by first | exact spots_ok _ | exact spots_ok [⟨(a : Int), (d : Int)⟩])); (focus ((simp; omega))); exact rfl) | ((first | apply ar_qt | apply dr_qt); (focus (apply qt_call; kernel_rfl; exact (hfc); exact rfl))) | (apply ar_call; kernel_rfl; exact (hc1); exact rfl)); (first | refine ar_nrm (k := ?_) | refine dr_nrm (k := ?_))) | ((first | apply ar_gy | apply dr_gy); exact rfl; exact bdOk) | (first | (apply awp_cond_t; exact rfl; exact bdOk) | (apply awp_cond_f; exact rfl; exact bdOk)) | fail))
            refine ⟨_, d + 1, [], ?_, ⟨by omega, hstep (hce.trans hv) rfl, rfl⟩, List.nodup_nil, by simp, ?_⟩
            · omega
            · refine lkr_nrm (k := ?_); refine le_mk hsLe ?_; (repeat (first | exact AVs.le.nil | (with_reducible refine AVs.le.top _ ?_) | (with_reducible refine AVs.le.eq _ ?_) | refine AVs.le.eqv ?_ ?_)) <;> first | exact rfl | exact pi (by omega)
          | some out =>
            have hc1 := hrec.one hv
            dsimp only [pkW, pkK, one] at hc1
            rw [spots_put] at hc1
            (repeat (first | (first | refine awp_seq ?_ | refine awp_region ?_ | refine awp_block ?_ | refine awp_exit ?_ | refine awp_ret ?_ | refine awp_skip ?_ | refine ar_nil ?_ | refine dr_nil ?_ | (refine awp_region_draw ?_ ?_ ?_; kernel_rfl; kernel_rfl) | (first | refine t_norm ?_ | refine t_exit ?_ | refine t_ret ?_ | refine b_norm ?_ | refine b_exit ?_ | refine b_exit_ne rfl ?_ | refine b_ret ?_)) | ((first | ((first | apply ar_q | apply dr_q); exact qOp1) | ((first | apply ar_gu | apply dr_gu); exact rfl) | ((first | apply ar_gn | apply dr_gn); exact rfl; exact bdOk) | (first | (apply ar_box; exact rfl) | (apply ar_store; exact rfl; exact rfl; exact rfl; (focus (first | decide | (simp; done) | exact Nat.le_refl _)); kernel_rfl; exact rfl)) | (apply ar_bslice (e := 42) 2; kernel_rfl; (focus (decide +kernel)); kernel_rfl; exact rfl; exact rfl; exact rfl; exact rfl; decide) | ((first | apply ar_q | apply dr_q); (focus (apply q_build (n := 2) (zs := ([.int .i64 0, .int .i64 0] : List Value)); kernel_rfl; kernel_rfl; exact rfl; exact rfl))) | (apply ar_append; kernel_rfl; kernel_rfl; exact rfl; exact rfl; exact ((by first | exact spots_ok _ | exact spots_ok [⟨(a : Int), (d : Int)⟩])); (focus ((simp; omega))); exact rfl) | ((first | apply ar_qt | apply dr_qt); (focus (apply qt_call; kernel_rfl; exact (hfc); exact rfl))) | (apply ar_call; kernel_rfl; exact (hc1); exact rfl)); (first | refine ar_nrm (k := ?_) | refine dr_nrm (k := ?_))) | ((first | apply ar_gy | apply dr_gy); exact rfl; exact bdOk) | (first | (apply awp_cond_t; exact rfl; exact bdOk) | (apply awp_cond_f; exact rfl; exact bdOk)) | fail))
            refine ⟨.inr rfl, some out, ?_, aend_mk [2] rfl (by simp) (by first | (simp; done) | (simp; omega)) (ares_tmp2 _ rfl ?_ (ares_tmp2 _ rfl ?_ ares_nil)) rfl rfl⟩
            · exact (hres (hce.trans hv)).symm
            · exact rfl
            · exact rfl
    · (repeat (first | (first | refine awp_seq ?_ | refine awp_region ?_ | refine awp_block ?_ | refine awp_exit ?_ | refine awp_ret ?_ | refine awp_skip ?_ | refine ar_nil ?_ | refine dr_nil ?_ | (refine awp_region_draw ?_ ?_ ?_; kernel_rfl; kernel_rfl) | (first | refine t_norm ?_ | refine t_exit ?_ | refine t_ret ?_ | refine b_norm ?_ | refine b_exit ?_ | refine b_exit_ne rfl ?_ | refine b_ret ?_)) | ((first | ((first | apply ar_q | apply dr_q); exact qOp1) | ((first | apply ar_gu | apply dr_gu); exact rfl) | ((first | apply ar_gn | apply dr_gn); exact rfl; exact bdOk) | (first | (apply ar_box; exact rfl) | (apply ar_store; exact rfl; exact rfl; exact rfl; (focus (first | decide | (simp; done) | exact Nat.le_refl _)); kernel_rfl; exact rfl))); (first | refine ar_nrm (k := ?_) | refine dr_nrm (k := ?_))) | ((first | apply ar_gy | apply dr_gy); exact rfl; exact bdOk) | (first | (apply awp_cond_t; exact rfl; exact bdOk) | (apply awp_cond_f; exact rfl; exact bdOk)) | fail))
      refine ⟨_, a + 1, [], ?_, ⟨by omega, fun a' d' h1 h2 => ?_, rfl⟩, List.nodup_nil, by simp, ?_⟩
      · omega
      · by_cases e : a' < a
        · exact g2 a' d' e h2
        · obtain rfl : a' = a := by omega
          exact g4 d' (by omega)
      · refine lkr_nrm (k := ?_); refine le_mk hsLe ?_; (repeat (first | exact AVs.le.nil | (with_reducible refine AVs.le.top _ ?_) | (with_reducible refine AVs.le.eq _ ?_) | refine AVs.le.eqv ?_ ?_)) <;> first | exact rfl | exact pi (by omega)
  · (repeat (first | (first | refine awp_seq ?_ | refine awp_region ?_ | refine awp_block ?_ | refine awp_exit ?_ | refine awp_ret ?_ | refine awp_skip ?_ | refine ar_nil ?_ | refine dr_nil ?_ | (refine awp_region_draw ?_ ?_ ?_; kernel_rfl; kernel_rfl) | (first | refine t_norm ?_ | refine t_exit ?_ | refine t_ret ?_ | refine b_norm ?_ | refine b_exit ?_ | refine b_exit_ne rfl ?_ | refine b_ret ?_)) | ((first | ((first | apply ar_q | apply dr_q); exact qOp1) | ((first | apply ar_gu | apply dr_gu); exact rfl) | ((first | apply ar_gn | apply dr_gn); exact rfl; exact bdOk) | (first | (apply ar_box; exact rfl) | (apply ar_store; exact rfl; exact rfl; exact rfl; (focus (first | decide | (simp; done) | exact Nat.le_refl _)); kernel_rfl; exact rfl))); (first | refine ar_nrm (k := ?_) | refine dr_nrm (k := ?_))) | ((first | apply ar_gy | apply dr_gy); exact rfl; exact bdOk) | (first | (apply awp_cond_t; exact rfl; exact bdOk) | (apply awp_cond_f; exact rfl; exact bdOk)) | fail))
    refine ⟨.inr rfl, none, ?_, aend_mk [] rfl (by simp) (by first | (simp; done) | (simp; omega)) (ares_tmp2 _ rfl ?_ (ares_tmp2 _ rfl ?_ ares_nil)) rfl rfl⟩
    · rw [firstF_succ]; exact (findG_none fun a' d' h1 h2 => g2 a' d' (by omega) h2).symm
    · exact rfl
    · exact rfl
end Go.Proofs.Ythmaiahllhgdpaa
