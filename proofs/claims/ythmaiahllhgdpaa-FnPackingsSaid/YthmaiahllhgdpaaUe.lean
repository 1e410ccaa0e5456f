/- The law of packings. -/
import Derived.Test.YthmaiahllhgdpaaUd2
import Derived.Test.YthmaiahllhgdpaaUa
import Derived.Test.YthmaiahllhgdpaaCq
import Derived.Test.YthmaiahllhgdpaaEZ
import Derived.Test.YthmaiahllhgdpaaUe0






namespace Go.Proofs.Ythmaiahllhgdpaa
open Go.RowKit
set_option linter.unusedVariables false
set_option linter.unusedSimpArgs false
attribute [local irreducible] AR DR AWp QOp Qt ACalls ARes Exit.thenA Exit.inBlockA
attribute [local irreducible] AG0 AG AGs
attribute [local irreducible] AT ATs
attribute [local irreducible] preA
set_option maxHeartbeats 8000000 in
set_option maxRecDepth 20000 in
theorem law_Pack (l : List Int) (hl : okBts l) : ACalls Try.prog 3 [.c (.sl 5 .ro (bts l))] [] (.c (.p (.bool (true)))) [] 0 := by
  have hl1 := hl.1
  refine acalls_of (ws := [.c (.p (.bool (true)))]) Try.func3 rfl rfl rfl rfl fun w0 B m hm0 => ?_; (refine awp_norm (τ := ?_) ?_ ?_; rotate_left; (focus (simp only [AV.top, Try.ntmps3, List.length_cons, List.length_nil, Nat.reduceAdd, Nat.reduceSub, List.replicate_succ, List.replicate_zero, List.cons_append, List.nil_append]; exact rfl)))
  refine awp_part 5 0 (Nat.le_of_eq hm0) rfl [0] [] [] 0 rfl ?_ ?_
  · (repeat' (first | refine pre_seq ?_ | (first | refine awp_seq ?_ | refine awp_region ?_ | refine awp_block ?_ | refine awp_exit ?_ | refine awp_ret ?_ | refine awp_skip ?_ | refine ar_nil ?_ | refine dr_nil ?_ | (first | refine t_norm ?_ | refine t_exit ?_ | refine t_ret ?_ | refine b_norm ?_ | refine b_exit ?_ | refine b_exit_ne rfl ?_ | refine b_ret ?_)) | ((first | ((first | apply ar_q | apply dr_q); exact qOp1) | ((first | apply ar_gu | apply dr_gu); exact rfl) | ((first | apply ar_gn | apply dr_gn); exact rfl; exact bdOk) | ((first | apply ar_qt | apply dr_qt); (focus (apply qt_call; kernel_rfl; exact (law_vBig l (by omega) false (decide_eq_false (by omega))); exact rfl))) | (apply ar_callE; kernel_rfl; exact (ACallsE.sv fun v => draw_First v l hl); (focus (intro x; exact rfl)); (rintro ⟨y1, y2⟩ hx; (try dsimp only at hx)))); (first | refine ar_nrm (k := ?_) | refine dr_nrm (k := ?_))) | ((first | apply ar_gy | apply dr_gy); exact rfl; exact bdOk) | (first | (apply awp_cond_t; exact rfl; exact bdOk) | (apply awp_cond_f; exact rfl; exact bdOk)) | fail))
    revert y1 y2
    intro c hs h6
    have hsp := spec_FirstPacking c hs (by omega)
    have hip := impl_FirstPacking c hs (by omega)
    have ha1 := impl_AreHulls hs (by omega)
    have ha2 := spec_AreHulls hs (by omega)
    cases hv : fpF c hs with
    | none =>
      rw [hv] at hsp
      have hi := hip.one hv
      (repeat' (first | refine pre_seq ?_ | (first | refine awp_seq ?_ | refine awp_region ?_ | refine awp_block ?_ | refine awp_exit ?_ | refine awp_ret ?_ | refine awp_skip ?_ | refine ar_nil ?_ | refine dr_nil ?_ | (refine awp_region_draw ?_ ?_ ?_; kernel_rfl; kernel_rfl) | (first | refine t_norm ?_ | refine t_exit ?_ | refine t_ret ?_ | refine b_norm ?_ | refine b_exit ?_ | refine b_exit_ne rfl ?_ | refine b_ret ?_)) | ((first | ((first | apply ar_q | apply dr_q); exact qOp1) | ((first | apply ar_gu | apply dr_gu); exact rfl) | ((first | apply ar_gn | apply dr_gn); exact rfl; exact bdOk) | (first | (apply ar_box; exact rfl) | (apply ar_store; exact rfl; exact rfl; exact rfl; (focus (first | decide | (simp; done) | exact Nat.le_refl _)); kernel_rfl; exact rfl)) | (apply ar_alloc (ys := ([.int .i64 0, .int .i64 0] : List Value)); kernel_rfl) | (apply ar_call; kernel_rfl; exact (hi); exact rfl) | (apply ar_call; kernel_rfl; exact (hsp); exact rfl) | ((first | apply ar_qt | apply dr_qt); (focus (apply qt_call; kernel_rfl; exact (ACalls.nl0 (law_vSpots [] (by simp))); exact rfl))) | ((first | apply ar_qt | apply dr_qt); (focus (apply qt_call; kernel_rfl; exact (ha1); exact rfl))) | ((first | apply ar_qt | apply dr_qt); (focus (apply qt_call; kernel_rfl; exact (ha2); exact rfl)))); (first | refine ar_nrm (k := ?_) | refine dr_nrm (k := ?_))) | ((first | apply ar_gy | apply dr_gy); exact rfl; exact bdOk) | (first | (apply awp_cond_t; exact rfl; exact bdOk) | (apply awp_cond_f; exact rfl; exact bdOk)) | fail))
      (refine pre_zero ⟨[], by simp, by simp, ?_⟩; refine lkr_nrm (k := ?_); refine le_mk hsLe ?_; (repeat (first | exact AVs.le.nil | (with_reducible refine AVs.le.top _ ?_) | (with_reducible refine AVs.le.eq _ ?_) | refine AVs.le.eqv ?_ ?_)))
    | some out =>
      rw [hv] at hsp
      have hi := hip.one hv
      have h4 := fpF_len hv
      have hq := impl_IsPacking c hs out (by omega) (by omega)
      rw [fpF_ask hv] at hq
      (repeat' (first | refine pre_seq ?_ | (first | refine awp_seq ?_ | refine awp_region ?_ | refine awp_block ?_ | refine awp_exit ?_ | refine awp_ret ?_ | refine awp_skip ?_ | refine ar_nil ?_ | refine dr_nil ?_ | (refine awp_region_draw ?_ ?_ ?_; kernel_rfl; kernel_rfl) | (first | refine t_norm ?_ | refine t_exit ?_ | refine t_ret ?_ | refine b_norm ?_ | refine b_exit ?_ | refine b_exit_ne rfl ?_ | refine b_ret ?_)) | ((first | ((first | apply ar_q | apply dr_q); exact qOp1) | ((first | apply ar_gu | apply dr_gu); exact rfl) | ((first | apply ar_gn | apply dr_gn); exact rfl; exact bdOk) | (first | (apply ar_box; exact rfl) | (apply ar_store; exact rfl; exact rfl; exact rfl; (focus (first | decide | (simp; done) | exact Nat.le_refl _)); kernel_rfl; exact rfl)) | (apply ar_alloc (ys := ([.int .i64 0, .int .i64 0] : List Value)); kernel_rfl) | (apply ar_call; kernel_rfl; exact (hi); exact rfl) | (apply ar_call; kernel_rfl; exact (hsp); exact rfl) | ((first | apply ar_qt | apply dr_qt); (focus (apply qt_call; kernel_rfl; exact (law_vSpots out (by omega)); exact rfl))) | ((first | apply ar_qt | apply dr_qt); (focus (apply qt_call; kernel_rfl; exact (ha1); exact rfl))) | ((first | apply ar_qt | apply dr_qt); (focus (apply qt_call; kernel_rfl; exact (ha2); exact rfl))) | ((first | apply ar_qt | apply dr_qt); (focus (apply qt_call; kernel_rfl; exact (hq); exact rfl)))); (first | refine ar_nrm (k := ?_) | refine dr_nrm (k := ?_))) | ((first | apply ar_gy | apply dr_gy); exact rfl; exact bdOk) | (first | (apply awp_cond_t; exact rfl; exact bdOk) | (apply awp_cond_f; exact rfl; exact bdOk)) | fail))
      (refine pre_zero ⟨[], by simp, by simp, ?_⟩; refine lkr_nrm (k := ?_); refine le_mk hsLe ?_; (repeat (first | exact AVs.le.nil | (with_reducible refine AVs.le.top _ ?_) | (with_reducible refine AVs.le.eq _ ?_) | refine AVs.le.eqv ?_ ?_)))
  · refine nh_nrm (k := ?_)
    refine awp_partE (α := Chamber_ × List Hull_ × List Spot_) 4 1 (Nat.le_trans (Nat.le_of_eq hm0) (Nat.zero_le 1)) rfl [0] (fun x => [(9, .c (.ptr 0 0)), (10, .c (.sl 40 (.own 0) (hulls (x.2.1)))), (11, .c (.sl 42 (.own 1) (spots (x.2.2)))), (12, .c (.p (.int .i64 ((covR x.1 x.2.1 x.2.2).1)))), (14, .c (.p (.bool (askB x.1 x.2.1 x.2.2))))]) (fun x => [[.p (.int .i64 (x.1).ln), .p (.int .i64 (x.1).wd)]]) (fun _ => 2) (fun x => x.2.1.length ≤ 6 ∧ x.2.2.length ≤ 7) rfl ?_ ?_
    · (repeat' (first | refine pre_seq ?_ | (first | refine awp_seq ?_ | refine awp_region ?_ | refine awp_block ?_ | refine awp_exit ?_ | refine awp_ret ?_ | refine awp_skip ?_ | refine ar_nil ?_ | refine dr_nil ?_ | (first | refine t_norm ?_ | refine t_exit ?_ | refine t_ret ?_ | refine b_norm ?_ | refine b_exit ?_ | refine b_exit_ne rfl ?_ | refine b_ret ?_)) | ((first | ((first | apply ar_q | apply dr_q); exact qOp1) | ((first | apply ar_gu | apply dr_gu); exact rfl) | ((first | apply ar_gn | apply dr_gn); exact rfl; exact bdOk) | (apply ar_callE; kernel_rfl; exact (ACallsE.sv fun v => draw_Cov v l hl); (focus (intro x; exact rfl)); (rintro ⟨y1, y2, y3⟩ hx; (try dsimp only at hx)))); (first | refine ar_nrm (k := ?_) | refine dr_nrm (k := ?_))) | ((first | apply ar_gy | apply dr_gy); exact rfl; exact bdOk) | (first | (apply awp_cond_t; exact rfl; exact bdOk) | (apply awp_cond_f; exact rfl; exact bdOk)) | fail))
      revert y1 y2 y3
      intro c hs ss ⟨h6, h7⟩
      have k1 := impl_CoveredCells c hs ss (by omega) (by omega)
      have k2 := spec_CoveredCells c hs ss (by omega) (by omega)
      have k3 := impl_IsPacking c hs ss (by omega) (by omega)
      have k4 := spec_IsPacking c hs ss (by omega) (by omega)
      cases ha : askB c hs ss with
      | false =>
        have hcv : covR c hs ss = (0, 0, false) := by unfold covR; rw [ha]; rfl
        rw [hcv] at k1 k2
        rw [ha] at k3 k4
        (repeat' (first | refine pre_seq ?_ | (first | refine awp_seq ?_ | refine awp_region ?_ | refine awp_block ?_ | refine awp_exit ?_ | refine awp_ret ?_ | refine awp_skip ?_ | refine ar_nil ?_ | refine dr_nil ?_ | (refine awp_region_draw ?_ ?_ ?_; kernel_rfl; kernel_rfl) | (first | refine t_norm ?_ | refine t_exit ?_ | refine t_ret ?_ | refine b_norm ?_ | refine b_exit ?_ | refine b_exit_ne rfl ?_ | refine b_ret ?_)) | ((first | ((first | apply ar_q | apply dr_q); exact qOp1) | ((first | apply ar_gu | apply dr_gu); exact rfl) | ((first | apply ar_gn | apply dr_gn); exact rfl; exact bdOk) | (first | (apply ar_box; exact rfl) | (apply ar_store; exact rfl; exact rfl; exact rfl; (focus (first | decide | (simp; done) | exact Nat.le_refl _)); kernel_rfl; exact rfl)) | (apply ar_alloc (ys := ([.int .i64 0, .int .i64 0] : List Value)); kernel_rfl) | ((first | apply ar_qt | apply dr_qt); (focus (apply qt_call; kernel_rfl; exact (k1); exact rfl))) | ((first | apply ar_qt | apply dr_qt); (focus (apply qt_call; kernel_rfl; exact (k2); exact rfl))) | ((first | apply ar_qt | apply dr_qt); (focus (apply qt_call; kernel_rfl; exact (k3); exact rfl))) | ((first | apply ar_qt | apply dr_qt); (focus (apply qt_call; kernel_rfl; exact (k4); exact rfl)))); (first | refine ar_nrm (k := ?_) | refine dr_nrm (k := ?_))) | ((first | apply ar_gy | apply dr_gy); exact rfl; exact bdOk) | (first | (apply awp_cond_t; exact rfl; exact bdOk) | (apply awp_cond_f; exact rfl; exact bdOk)) | fail))
        (refine pre_zero ⟨(c, hs, ss), [0, 1], ?_, by simp, by simp, ?_⟩; rotate_left; refine lkr_nrm (k := ?_); refine le_mk hsLe ?_; (repeat (first | exact AVs.le.nil | (with_reducible refine AVs.le.top _ ?_) | (with_reducible refine AVs.le.eq _ ?_) | refine AVs.le.eqv ?_ ?_)))
        all_goals first | exact rfl | exact ⟨h6, h7⟩ | exact pi (by rw [hcv]) | exact pb ha.symm
      | true =>
        have hcv : covR c hs ss = ((areaM hs hs.length : Int), c.ln * c.wd - (areaM hs hs.length : Int), true) := if_pos ha
        rw [hcv] at k1 k2
        rw [ha] at k3 k4
        dsimp only at k1 k2
        obtain ⟨out, ho, hlo, hle⟩ := first_least ha
        have ha' := ha
        simp only [askB, Bool.and_eq_true, decide_eq_true_eq] at ha'
        obtain ⟨⟨⟨hc, hh⟩, hln⟩, hp⟩ := ha'
        have hsp := spec_FirstPacking c hs (by omega)
        rw [show fpF c hs = some out from (fpF_yes hc hh).trans ho] at hsp
        have hcc := chF_iff.1 hc
        have hpr := prod_bd hcc.1 hcc.2
        have h4 := (hullsF_iff.1 hh).2.2
        have hlh : (hulls hs).length = hs.length := List.length_map ..
        have hls : (spots ss).length = ss.length := List.length_map ..
        (repeat' (first | refine pre_seq ?_ | (first | refine awp_seq ?_ | refine awp_region ?_ | refine awp_block ?_ | refine awp_exit ?_ | refine awp_ret ?_ | refine awp_skip ?_ | refine ar_nil ?_ | refine dr_nil ?_ | (refine awp_region_draw ?_ ?_ ?_; kernel_rfl; kernel_rfl) | (first | refine t_norm ?_ | refine t_exit ?_ | refine t_ret ?_ | refine b_norm ?_ | refine b_exit ?_ | refine b_exit_ne rfl ?_ | refine b_ret ?_)) | ((first | ((first | apply ar_q | apply dr_q); exact qOp1) | ((first | apply ar_gu | apply dr_gu); exact rfl) | ((first | apply ar_gn | apply dr_gn); exact rfl; exact bdOk) | (first | (apply ar_box; exact rfl) | (apply ar_store; exact rfl; exact rfl; exact rfl; (focus (first | decide | (simp; done) | exact Nat.le_refl _)); kernel_rfl; exact rfl)) | (apply ar_alloc (ys := ([.int .i64 0, .int .i64 0] : List Value)); kernel_rfl) | ((first | apply ar_qt | apply dr_qt); (focus (apply qt_call; kernel_rfl; exact (k1); exact rfl))) | ((first | apply ar_qt | apply dr_qt); (focus (apply qt_call; kernel_rfl; exact (k2); exact rfl))) | ((first | apply ar_qt | apply dr_qt); (focus (apply qt_call; kernel_rfl; exact (k3); exact rfl))) | ((first | apply ar_qt | apply dr_qt); (focus (apply qt_call; kernel_rfl; exact (k4); exact rfl)))); (first | refine ar_nrm (k := ?_) | refine dr_nrm (k := ?_))) | ((first | apply ar_gy | apply dr_gy); exact rfl; exact bdOk) | (first | (apply awp_cond_t; exact rfl; exact bdOk) | (apply awp_cond_f; exact rfl; exact bdOk)) | fail))
        refine awp_loopH [0, 9, 10, 11, 12, 13, 14] (fun i : Nat => [(18, .c (.p (.int .i64 ((areaM hs i : Int))))), (19, .c (.p (.int .i64 (i))))]) (fun _ => [[.p (.int .i64 (c).ln), .p (.int .i64 (c).wd)]]) (fun _ => 2) (fun n i => i ≤ hs.length ∧ areaM hs i ≤ 18 * i ∧ n = hs.length - i) _ 0 ⟨by omega, Nat.le_refl _, rfl⟩ ?_ ?_
        · refine le_nrm (k := ?_); refine le_mk hsLe ?_; (repeat (first | exact AVs.le.nil | (with_reducible refine AVs.le.top _ ?_) | (with_reducible refine AVs.le.eq _ ?_) | refine AVs.le.eqv ?_ ?_)) <;> first | exact rfl | exact pi (by simp [areaM])
        rintro n i ⟨hi, har, rfl⟩
        refine nh_nrm (k := ?_)
        by_cases hil : i < hs.length
        · have e1 := hulls_hAt hil
          have hok := hAt_ok hh hil
          have hpi := prod_bd hok.2.1 hok.2.2
          have hst := area_step hs i hok.2.1.1 hok.2.2.1
          (repeat' (first | refine pre_seq ?_ | (first | refine awp_seq ?_ | refine awp_region ?_ | refine awp_block ?_ | refine awp_exit ?_ | refine awp_ret ?_ | refine awp_skip ?_ | refine ar_nil ?_ | refine dr_nil ?_ | (refine awp_region_draw ?_ ?_ ?_; kernel_rfl; kernel_rfl) | (first | refine t_norm ?_ | refine t_exit ?_ | refine t_ret ?_ | refine b_norm ?_ | refine b_exit ?_ | refine b_exit_ne rfl ?_ | refine b_ret ?_)) | ((first | ((first | apply ar_q | apply dr_q); exact qOp1) | ((first | apply ar_gu | apply dr_gu); exact rfl) | ((first | apply ar_gn | apply dr_gn); exact rfl; exact bdOk) | (first | (apply ar_box; exact rfl) | (apply ar_store; exact rfl; exact rfl; exact rfl; (focus (first | decide | (simp; done) | exact Nat.le_refl _)); kernel_rfl; exact rfl))); (first | refine ar_nrm (k := ?_) | refine dr_nrm (k := ?_))) | ((first | apply ar_gy | apply dr_gy); exact rfl; exact bdOk) | (first | (apply awp_cond_t; exact rfl; exact bdOk) | (apply awp_cond_f; exact rfl; exact bdOk)) | fail))
          refine ⟨_, i + 1, ?_, ⟨by omega, by omega, rfl⟩, ?_⟩
          · omega
          · refine le_nrm (k := ?_); refine le_mk hsLe ?_; (repeat (first | exact AVs.le.nil | (with_reducible refine AVs.le.top _ ?_) | (with_reducible refine AVs.le.eq _ ?_) | refine AVs.le.eqv ?_ ?_)) <;> first | exact rfl | exact pi (by omega)
        obtain rfl : i = hs.length := by omega
        (repeat' (first | refine pre_seq ?_ | (first | refine awp_seq ?_ | refine awp_region ?_ | refine awp_block ?_ | refine awp_exit ?_ | refine awp_ret ?_ | refine awp_skip ?_ | refine ar_nil ?_ | refine dr_nil ?_ | (refine awp_region_draw ?_ ?_ ?_; kernel_rfl; kernel_rfl) | (first | refine t_norm ?_ | refine t_exit ?_ | refine t_ret ?_ | refine b_norm ?_ | refine b_exit ?_ | refine b_exit_ne rfl ?_ | refine b_ret ?_)) | ((first | ((first | apply ar_q | apply dr_q); exact qOp1) | ((first | apply ar_gu | apply dr_gu); exact rfl) | ((first | apply ar_gn | apply dr_gn); exact rfl; exact bdOk) | (first | (apply ar_box; exact rfl) | (apply ar_store; exact rfl; exact rfl; exact rfl; (focus (first | decide | (simp; done) | exact Nat.le_refl _)); kernel_rfl; exact rfl)) | (apply ar_call; kernel_rfl; exact (hsp); exact rfl)); (first | refine ar_nrm (k := ?_) | refine dr_nrm (k := ?_))) | ((first | apply ar_gy | apply dr_gy); exact rfl; exact bdOk) | (first | (apply awp_cond_t; exact rfl; exact bdOk) | (apply awp_cond_f; exact rfl; exact bdOk)) | fail))
        refine awp_loopH [0, 9, 10, 11, 12, 14, 20] (fun i : Nat => [(22, .c (.p (.int .i64 (i))))]) (fun _ => [[.p (.int .i64 (c).ln), .p (.int .i64 (c).wd)]]) (fun _ => 3) (fun n i => i ≤ ss.length ∧ (∀ j, j < i → sAt out j = sAt ss j) ∧ n = ss.length - i) _ 0 ⟨by omega, fun j hj => by omega, rfl⟩ ?_ ?_
        · refine le_nrm (k := ?_); refine le_mk hsLe ?_; (repeat (first | exact AVs.le.nil | (with_reducible refine AVs.le.top _ ?_) | (with_reducible refine AVs.le.eq _ ?_) | refine AVs.le.eqv ?_ ?_)) <;> first | exact rfl | exact pi (by omega)
        rintro n i ⟨hi, hpre, rfl⟩
        refine nh_nrm (k := ?_)
        have hlo' : (spots out).length = out.length := List.length_map ..
        by_cases hil : i < ss.length
        · have e1 := spots_sAt (l := out) (i := i) (by omega)
          have e2 := spots_sAt hil
          by_cases heq : sAt out i = sAt ss i
          · rw [heq] at e1
            (repeat' (first | refine pre_seq ?_ | (first | refine awp_seq ?_ | refine awp_region ?_ | refine awp_block ?_ | refine awp_exit ?_ | refine awp_ret ?_ | refine awp_skip ?_ | refine ar_nil ?_ | refine dr_nil ?_ | (refine awp_region_draw ?_ ?_ ?_; kernel_rfl; kernel_rfl) | (first | refine t_norm ?_ | refine t_exit ?_ | refine t_ret ?_ | refine b_norm ?_ | refine b_exit ?_ | refine b_exit_ne rfl ?_ | refine b_ret ?_)) | ((first | ((first | apply ar_q | apply dr_q); exact qOp1) | ((first | apply ar_gu | apply dr_gu); exact rfl) | ((first | apply ar_gn | apply dr_gn); exact rfl; exact bdOk) | (first | (apply ar_box; exact rfl) | (apply ar_store; exact rfl; exact rfl; exact rfl; (focus (first | decide | (simp; done) | exact Nat.le_refl _)); kernel_rfl; exact rfl)) | ((first | apply ar_q | apply dr_q); (focus (apply q_eql_same; exact rfl; exact rfl; exact rfl; kernel_rfl)))); (first | refine ar_nrm (k := ?_) | refine dr_nrm (k := ?_))) | ((first | apply ar_gy | apply dr_gy); exact rfl; exact bdOk) | (first | (apply awp_cond_t; exact rfl; exact bdOk) | (apply awp_cond_f; exact rfl; exact bdOk)) | fail))
            refine ⟨_, i + 1, ?_, ⟨by omega, fun j hj => ?_, rfl⟩, ?_⟩
            · omega
            · rcases Nat.lt_or_ge j i with h | h
              · exact hpre j h
              · obtain rfl : j = i := by omega
                exact heq
            · refine le_nrm (k := ?_); refine le_mk hsLe ?_; (repeat (first | exact AVs.le.nil | (with_reducible refine AVs.le.top _ ?_) | (with_reducible refine AVs.le.eq _ ?_) | refine AVs.le.eqv ?_ ?_)) <;> first | exact rfl | exact pi (by omega)
          · have hlt : (sAt out i).at_ < (sAt ss i).at_ ∨ (sAt out i).at_ = (sAt ss i).at_ ∧ (sAt out i).sd < (sAt ss i).sd := by
              rcases hle with h | ⟨j, hj, h1, h2⟩
              · rw [h] at heq; exact absurd rfl heq
              · rcases Nat.lt_trichotomy j i with h | h | h
                · rw [hpre j h] at h2; omega
                · rw [← h]; exact h2
                · exact absurd (h1 i h) heq
            have hdq : decide ([(sAt out i).at_, (sAt out i).sd] = [(sAt ss i).at_, (sAt ss i).sd]) = false := by
              simp only [List.cons.injEq, and_true, decide_eq_false_iff_not]
              omega
            generalize sAt out i = p at *
            generalize sAt ss i = q at *
            clear hpre hle heq
            rcases hlt with h1 | ⟨h1, h2⟩
            all_goals
              (repeat' (first | refine pre_seq ?_ | (first | refine awp_seq ?_ | refine awp_region ?_ | refine awp_block ?_ | refine awp_exit ?_ | refine awp_ret ?_ | refine awp_skip ?_ | refine ar_nil ?_ | refine dr_nil ?_ | (refine awp_region_draw ?_ ?_ ?_; kernel_rfl; kernel_rfl) | (first | refine t_norm ?_ | refine t_exit ?_ | refine t_ret ?_ | refine b_norm ?_ | refine b_exit ?_ | refine b_exit_ne rfl ?_ | refine b_ret ?_)) | ((first | ((first | apply ar_q | apply dr_q); exact qOp1) | ((first | apply ar_gu | apply dr_gu); exact rfl) | ((first | apply ar_gn | apply dr_gn); exact rfl; exact bdOk) | (first | (apply ar_box; exact rfl) | (apply ar_store; exact rfl; exact rfl; exact rfl; (focus (first | decide | (simp; done) | exact Nat.le_refl _)); kernel_rfl; exact rfl)) | ((first | apply ar_q | apply dr_q); (focus (apply q_eql_ints [(p).at_, (p).sd] [(q).at_, (q).sd]; exact rfl; exact rfl; kernel_rfl; exact rfl)))); (first | refine ar_nrm (k := ?_) | refine dr_nrm (k := ?_))) | ((first | apply ar_gy | apply dr_gy); exact rfl; exact bdOk) | (first | (apply awp_cond_t; exact rfl; exact bdOk) | (apply awp_cond_f; exact rfl; exact bdOk)) | fail))
              (refine pre_zero ⟨(c, hs, ss), [0, 1], ?_, by simp, by simp, ?_⟩; rotate_left; refine lkr_nrm (k := ?_); refine le_mk hsLe ?_; (repeat (first | exact AVs.le.nil | (with_reducible refine AVs.le.top _ ?_) | (with_reducible refine AVs.le.eq _ ?_) | refine AVs.le.eqv ?_ ?_)))
              all_goals first | exact rfl | exact ⟨h6, h7⟩ | exact pi (by rw [hcv]) | exact pb ha.symm
        · (repeat' (first | refine pre_seq ?_ | (first | refine awp_seq ?_ | refine awp_region ?_ | refine awp_block ?_ | refine awp_exit ?_ | refine awp_ret ?_ | refine awp_skip ?_ | refine ar_nil ?_ | refine dr_nil ?_ | (refine awp_region_draw ?_ ?_ ?_; kernel_rfl; kernel_rfl) | (first | refine t_norm ?_ | refine t_exit ?_ | refine t_ret ?_ | refine b_norm ?_ | refine b_exit ?_ | refine b_exit_ne rfl ?_ | refine b_ret ?_)) | ((first | ((first | apply ar_q | apply dr_q); exact qOp1) | ((first | apply ar_gu | apply dr_gu); exact rfl) | ((first | apply ar_gn | apply dr_gn); exact rfl; exact bdOk) | (first | (apply ar_box; exact rfl) | (apply ar_store; exact rfl; exact rfl; exact rfl; (focus (first | decide | (simp; done) | exact Nat.le_refl _)); kernel_rfl; exact rfl))); (first | refine ar_nrm (k := ?_) | refine dr_nrm (k := ?_))) | ((first | apply ar_gy | apply dr_gy); exact rfl; exact bdOk) | (first | (apply awp_cond_t; exact rfl; exact bdOk) | (apply awp_cond_f; exact rfl; exact bdOk)) | fail))
          (refine pre_zero ⟨(c, hs, ss), [0, 1], ?_, by simp, by simp, ?_⟩; rotate_left; refine lkr_nrm (k := ?_); refine le_mk hsLe ?_; (repeat (first | exact AVs.le.nil | (with_reducible refine AVs.le.top _ ?_) | (with_reducible refine AVs.le.eq _ ?_) | refine AVs.le.eqv ?_ ?_)))
          all_goals first | exact rfl | exact ⟨h6, h7⟩ | exact pi (by rw [hcv]) | exact pb ha.symm
    · rintro ⟨c, hs, ss⟩ ⟨h6, h7⟩
      dsimp only at h6 h7
      refine nh_nrm (k := ?_)
      have k1 := impl_ChamberPicture c hs ss (by omega) (by omega)
      have k2 := spec_ChamberPicture c hs ss (by omega) (by omega)
      obtain ⟨s, ok, hpic, hsz, hco, hcnt⟩ : ∃ s ok, picR c hs ss = (s, ok) ∧ s.size ≤ 21 ∧ ok = askB c hs ss ∧ (cnt s : Int) = (covR c hs ss).1 := by
        cases ha : askB c hs ss with
        | false =>
          refine ⟨⟨#[]⟩, false, by unfold picR; rw [ha]; rfl, by decide, rfl, ?_⟩
          unfold covR; rw [ha]; rfl
        | true =>
          have ha' := ha
          simp only [askB, Bool.and_eq_true, decide_eq_true_eq] at ha'
          have hcc := chF_iff.1 ha'.1.1.1
          refine ⟨_, true, if_pos ha, ?_, rfl, ?_⟩
          · have := picT_size (f := celF hs ss) (celF_size hs ss) c.ln.toNat (by omega) c.wd.toNat
            omega
          · rw [pic_letters ha, show covR c hs ss = ((areaM hs hs.length : Int), c.ln * c.wd - (areaM hs hs.length : Int), true) from if_pos ha]
      rw [hpic] at k1 k2
      dsimp only at k1 k2
      subst hco
      clear hpic
      generalize (covR c hs ss).1 = cv at *
      generalize askB c hs ss = ak at *
      have hdl : s.data.toList.length = s.size := Array.length_toList
      (repeat' (first | refine pre_seq ?_ | (first | refine awp_seq ?_ | refine awp_region ?_ | refine awp_block ?_ | refine awp_exit ?_ | refine awp_ret ?_ | refine awp_skip ?_ | refine ar_nil ?_ | refine dr_nil ?_ | (refine awp_region_draw ?_ ?_ ?_; kernel_rfl; kernel_rfl) | (first | refine t_norm ?_ | refine t_exit ?_ | refine t_ret ?_ | refine b_norm ?_ | refine b_exit ?_ | refine b_exit_ne rfl ?_ | refine b_ret ?_)) | ((first | ((first | apply ar_q | apply dr_q); exact qOp1) | ((first | apply ar_gu | apply dr_gu); exact rfl) | ((first | apply ar_gn | apply dr_gn); exact rfl; exact bdOk) | (first | (apply ar_box; exact rfl) | (apply ar_store; exact rfl; exact rfl; exact rfl; (focus (first | decide | (simp; done) | exact Nat.le_refl _)); kernel_rfl; exact rfl)) | ((first | apply ar_qt | apply dr_qt); (focus (apply qt_call; kernel_rfl; exact (k1); exact rfl))) | ((first | apply ar_qt | apply dr_qt); (focus (apply qt_call; kernel_rfl; exact (k2); exact rfl)))); (first | refine ar_nrm (k := ?_) | refine dr_nrm (k := ?_))) | ((first | apply ar_gy | apply dr_gy); exact rfl; exact bdOk) | (first | (apply awp_cond_t; exact rfl; exact bdOk) | (apply awp_cond_f; exact rfl; exact bdOk)) | fail))
      refine awp_loopH [0, 12, 23] (fun i : Nat => [(27, .c (.p (.int .i64 ((cntTo s i : Int))))), (28, .c (.p (.int .i64 (i))))]) (fun _ => [[.p (.int .i64 (c).ln), .p (.int .i64 (c).wd)]]) (fun _ => 2) (fun n i => i ≤ s.size ∧ n = s.size - i) _ 0 ⟨by omega, rfl⟩ ?_ ?_
      · refine le_nrm (k := ?_); refine le_mk hsLe ?_; (repeat (first | exact AVs.le.nil | (with_reducible refine AVs.le.top _ ?_) | (with_reducible refine AVs.le.eq _ ?_) | refine AVs.le.eqv ?_ ?_)) <;> first | exact rfl | exact pi (by rw [cntTo_zero]; rfl)
      rintro n i ⟨hi, rfl⟩
      refine nh_nrm (k := ?_)
      by_cases hil : i < s.size
      · have e1 : s[(i : Int).toNat]? = some (s.data.toList[i]'(by omega)) := by
          rw [Int.toNat_natCast, getElem?_pos s i hil]
          congr 1
        have hst := cntTo_succ (s := s) (i := i) (by omega)
        have hle := cntTo_le s i
        generalize s.data.toList[i]'(by omega) = b at e1 hst
        by_cases h1 : 97 ≤ b.toNat
        · by_cases h2 : b.toNat ≤ 100
          · rw [if_pos (show letP b = true from decide_eq_true ⟨h1, h2⟩)] at hst
            (repeat' (first | refine pre_seq ?_ | (first | refine awp_seq ?_ | refine awp_region ?_ | refine awp_block ?_ | refine awp_exit ?_ | refine awp_ret ?_ | refine awp_skip ?_ | refine ar_nil ?_ | refine dr_nil ?_ | (refine awp_region_draw ?_ ?_ ?_; kernel_rfl; kernel_rfl) | (first | refine t_norm ?_ | refine t_exit ?_ | refine t_ret ?_ | refine b_norm ?_ | refine b_exit ?_ | refine b_exit_ne rfl ?_ | refine b_ret ?_)) | ((first | ((first | apply ar_q | apply dr_q); exact qOp1) | ((first | apply ar_gu | apply dr_gu); exact rfl) | ((first | apply ar_gn | apply dr_gn); exact rfl; exact bdOk) | (first | (apply ar_box; exact rfl) | (apply ar_store; exact rfl; exact rfl; exact rfl; (focus (first | decide | (simp; done) | exact Nat.le_refl _)); kernel_rfl; exact rfl))); (first | refine ar_nrm (k := ?_) | refine dr_nrm (k := ?_))) | ((first | apply ar_gy | apply dr_gy); exact rfl; exact bdOk) | (first | (apply awp_cond_t; exact rfl; exact bdOk) | (apply awp_cond_f; exact rfl; exact bdOk)) | fail))
            refine ⟨_, i + 1, ?_, ⟨by omega, rfl⟩, ?_⟩
            · omega
            · refine le_nrm (k := ?_); refine le_mk hsLe ?_; (repeat (first | exact AVs.le.nil | (with_reducible refine AVs.le.top _ ?_) | (with_reducible refine AVs.le.eq _ ?_) | refine AVs.le.eqv ?_ ?_)) <;> first | exact rfl | exact pi (by omega)
          · rw [if_neg (by simp [letP]; omega)] at hst
            (repeat' (first | refine pre_seq ?_ | (first | refine awp_seq ?_ | refine awp_region ?_ | refine awp_block ?_ | refine awp_exit ?_ | refine awp_ret ?_ | refine awp_skip ?_ | refine ar_nil ?_ | refine dr_nil ?_ | (refine awp_region_draw ?_ ?_ ?_; kernel_rfl; kernel_rfl) | (first | refine t_norm ?_ | refine t_exit ?_ | refine t_ret ?_ | refine b_norm ?_ | refine b_exit ?_ | refine b_exit_ne rfl ?_ | refine b_ret ?_)) | ((first | ((first | apply ar_q | apply dr_q); exact qOp1) | ((first | apply ar_gu | apply dr_gu); exact rfl) | ((first | apply ar_gn | apply dr_gn); exact rfl; exact bdOk) | (first | (apply ar_box; exact rfl) | (apply ar_store; exact rfl; exact rfl; exact rfl; (focus (first | decide | (simp; done) | exact Nat.le_refl _)); kernel_rfl; exact rfl))); (first | refine ar_nrm (k := ?_) | refine dr_nrm (k := ?_))) | ((first | apply ar_gy | apply dr_gy); exact rfl; exact bdOk) | (first | (apply awp_cond_t; exact rfl; exact bdOk) | (apply awp_cond_f; exact rfl; exact bdOk)) | fail))
            refine ⟨_, i + 1, ?_, ⟨by omega, rfl⟩, ?_⟩
            · omega
            · refine le_nrm (k := ?_); refine le_mk hsLe ?_; (repeat (first | exact AVs.le.nil | (with_reducible refine AVs.le.top _ ?_) | (with_reducible refine AVs.le.eq _ ?_) | refine AVs.le.eqv ?_ ?_)) <;> first | exact rfl | exact pi (by omega)
        · rw [if_neg (by simp [letP]; omega)] at hst
          (repeat' (first | refine pre_seq ?_ | (first | refine awp_seq ?_ | refine awp_region ?_ | refine awp_block ?_ | refine awp_exit ?_ | refine awp_ret ?_ | refine awp_skip ?_ | refine ar_nil ?_ | refine dr_nil ?_ | (refine awp_region_draw ?_ ?_ ?_; kernel_rfl; kernel_rfl) | (first | refine t_norm ?_ | refine t_exit ?_ | refine t_ret ?_ | refine b_norm ?_ | refine b_exit ?_ | refine b_exit_ne rfl ?_ | refine b_ret ?_)) | ((first | ((first | apply ar_q | apply dr_q); exact qOp1) | ((first | apply ar_gu | apply dr_gu); exact rfl) | ((first | apply ar_gn | apply dr_gn); exact rfl; exact bdOk) | (first | (apply ar_box; exact rfl) | (apply ar_store; exact rfl; exact rfl; exact rfl; (focus (first | decide | (simp; done) | exact Nat.le_refl _)); kernel_rfl; exact rfl))); (first | refine ar_nrm (k := ?_) | refine dr_nrm (k := ?_))) | ((first | apply ar_gy | apply dr_gy); exact rfl; exact bdOk) | (first | (apply awp_cond_t; exact rfl; exact bdOk) | (apply awp_cond_f; exact rfl; exact bdOk)) | fail))
          refine ⟨_, i + 1, ?_, ⟨by omega, rfl⟩, ?_⟩
          · omega
          · refine le_nrm (k := ?_); refine le_mk hsLe ?_; (repeat (first | exact AVs.le.nil | (with_reducible refine AVs.le.top _ ?_) | (with_reducible refine AVs.le.eq _ ?_) | refine AVs.le.eqv ?_ ?_)) <;> first | exact rfl | exact pi (by omega)
      · obtain rfl : i = s.size := by omega
        have hen := cntTo_end s
        (repeat' (first | refine pre_seq ?_ | (first | refine awp_seq ?_ | refine awp_region ?_ | refine awp_block ?_ | refine awp_exit ?_ | refine awp_ret ?_ | refine awp_skip ?_ | refine ar_nil ?_ | refine dr_nil ?_ | (refine awp_region_draw ?_ ?_ ?_; kernel_rfl; kernel_rfl) | (first | refine t_norm ?_ | refine t_exit ?_ | refine t_ret ?_ | refine b_norm ?_ | refine b_exit ?_ | refine b_exit_ne rfl ?_ | refine b_ret ?_)) | ((first | ((first | apply ar_q | apply dr_q); exact qOp1) | ((first | apply ar_gu | apply dr_gu); exact rfl) | ((first | apply ar_gn | apply dr_gn); exact rfl; exact bdOk) | (first | (apply ar_box; exact rfl) | (apply ar_store; exact rfl; exact rfl; exact rfl; (focus (first | decide | (simp; done) | exact Nat.le_refl _)); kernel_rfl; exact rfl))); (first | refine ar_nrm (k := ?_) | refine dr_nrm (k := ?_))) | ((first | apply ar_gy | apply dr_gy); exact rfl; exact bdOk) | (first | (apply awp_cond_t; exact rfl; exact bdOk) | (apply awp_cond_f; exact rfl; exact bdOk)) | fail))
        refine ⟨.inr rfl, aend_mk [] rfl (by simp) (by first | (simp; done) | (simp; omega)) (ares_tmp2 _ rfl ?_ ares_nil) rfl rfl⟩
        exact pb (by rw [hen, hcnt]; simp)
set_option maxRecDepth 20000 in
theorem law_Pack_big (l : List Int) (hl : l.length ≤ 9223372036854775807) (hb : 65536 < l.length) : ACalls Try.prog 3 [.c (.sl 5 .ro (bts l))] [] (.c (.p (.bool (true)))) [] 0 := by
  refine acalls_of (ws := [.c (.p (.bool (true)))]) Try.func3 rfl rfl rfl rfl fun w0 B m hm0 => ?_; (refine awp_norm (τ := ?_) ?_ ?_; rotate_left; (focus (simp only [AV.top, Try.ntmps3, List.length_cons, List.length_nil, Nat.reduceAdd, Nat.reduceSub, List.replicate_succ, List.replicate_zero, List.cons_append, List.nil_append]; exact rfl)))
  (repeat' (first | (first | refine awp_seq ?_ | refine awp_region ?_ | refine awp_block ?_ | refine awp_exit ?_ | refine awp_ret ?_ | refine awp_skip ?_ | refine ar_nil ?_ | refine dr_nil ?_ | (first | refine t_norm ?_ | refine t_exit ?_ | refine t_ret ?_ | refine b_norm ?_ | refine b_exit ?_ | refine b_exit_ne rfl ?_ | refine b_ret ?_)) | ((first | ((first | apply ar_q | apply dr_q); exact qOp1) | ((first | apply ar_gu | apply dr_gu); exact rfl) | ((first | apply ar_gn | apply dr_gn); exact rfl; exact bdOk) | ((first | apply ar_qt | apply dr_qt); (focus (apply qt_call; kernel_rfl; exact (law_vBig l hl true (decide_eq_true hb)); exact rfl)))); (first | refine ar_nrm (k := ?_) | refine dr_nrm (k := ?_))) | ((first | apply ar_gy | apply dr_gy); exact rfl; exact bdOk) | (first | (apply awp_cond_t; exact rfl; exact bdOk) | (apply awp_cond_f; exact rfl; exact bdOk)) | fail))
  refine ⟨.inr rfl, aend_mk [] rfl (by simp) (by first | (simp; done) | (simp; omega)) (ares_tmp2 _ rfl ?_ ares_nil) rfl rfl⟩
  exact rfl
theorem fnPackings_walk (v : Value) (l : List Int) (hok : ∀ x ∈ l, (Lit.int .u8 x).wf = true) (hl : l.length ≤ 9223372036854775807) (w : World) (hr : ∀ B, RepC Try.prog (E0 B []) w (.sl 5 .ro (bts l)) v) : Calls Try.prog 3 #[v] w fun e w' => e = .returned (.bool true) ∧ Below w.heap.size w w' := by
  by_cases hb : 65536 < l.length
  · exact (law_Pack_big l hl hb).calls rfl ⟨hr _, trivial⟩
  · exact (law_Pack l ⟨by omega, fun x hx => by have := hok x hx; simp [Lit.wf] at this; exact this⟩).calls rfl ⟨hr _, trivial⟩
end Go.Proofs.Ythmaiahllhgdpaa
