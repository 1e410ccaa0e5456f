/- ParseWaterway: the reference's side. -/
import Derived.Test.YtkdbkddlbahceaaDoorHt
import Derived.Test.YtkdbkddlbahceaaDoorEE
namespace Go.Proofs.YtkdbkddlbahceaaDoor
open Go.RowKit
set_option linter.unusedVariables false
set_option linter.unusedSimpArgs false
attribute [local irreducible] AR DR AWp QOp Qt ACalls ARes Exit.thenA Exit.inBlockA
attribute [local irreducible] AG0 AG AGs
attribute [local irreducible] AT ATs
attribute [local irreducible] preA
set_option maxRecDepth 20000 in
set_option maxHeartbeats 8000000 in
theorem spec_Parse (s : ByteArray) (hs : s.size ≤ 1048576) (o : Option Way_) (ho : parseS s = o) : ACalls Tryd.prog 36 [.c (.p (.string (s)))] [] (.tup (wsP o)) [] (kP o) := by
  have hpl := parts_le s 10
  have hpz := parts_sz s 10
  have hl := strs_len (parts s 10)
  have hsp := spec_l1Split s 10 hs
  by_cases h12 : s.size ≤ 400
  · have hpe : ∀ w, runS (parts s 10) ((parts s 10).length - 1) = some w → parseS s = keepW s w := fun w h => parseS_end h12 h
    have hps : ∀ i, i < (parts s 10).length - 1 → runS (parts s 10) (i + 1) = none → parseS s = none := fun i h => parseS_step h
    have hE : ∀ i, i < (parts s 10).length - 1 → (strs (parts s 10))[(i : Int).toNat]? = some [Value.string ((parts s 10).getD i ⟨#[]⟩)] := fun i hi => strs_getD (by omega)
    rw [← one_wsP]; refine acalls_of (ws := wsP o) Tryd.func36 rfl (by cases o <;> rfl) (by cases o <;> rfl) rfl fun w0 B m hm0 => ?_; (refine awp_norm (τ := ?_) ?_ ?_; rotate_left; (focus (simp only [AV.top, Tryd.ntmps36, List.length_cons, List.length_nil, Nat.reduceAdd, Nat.reduceSub, List.replicate_succ, List.replicate_zero, List.cons_append, List.nil_append]; exact rfl)))
    (repeat' (first | (first | refine awp_seq ?_ | refine awp_region ?_ | refine awp_block ?_ | refine awp_exit ?_ | refine awp_ret ?_ | refine awp_skip ?_ | refine ar_nil ?_ | refine dr_nil ?_ | (first | refine t_norm ?_ | refine t_exit ?_ | refine t_ret ?_ | refine b_norm ?_ | refine b_exit ?_ | refine b_exit_ne rfl ?_ | refine b_ret ?_)) | ((first | ((first | apply ar_q | apply dr_q); exact qOp1) | ((first | apply ar_gu | apply dr_gu); exact rfl) | ((first | apply ar_gn | apply dr_gn); exact rfl; exact bdOk) | (first | (apply ar_box; exact rfl) | (apply ar_store; exact rfl; exact rfl; exact rfl; (focus (first | decide | (simp; done) | exact Nat.le_refl _)); kernel_rfl; exact rfl)) | (apply ar_alloc (ys := ([.slice none 0 0, .slice none 0 0] : List Value)); kernel_rfl) | (apply ar_call; kernel_rfl; exact (hsp); exact rfl) | (apply ar_bslice (e := 65) 3; kernel_rfl; (focus (decide +kernel)); kernel_rfl; exact rfl; exact rfl; exact rfl; exact rfl; decide) | (apply ar_bslice (e := 3) 1; kernel_rfl; (focus (decide +kernel)); kernel_rfl; exact rfl; exact rfl; exact rfl; exact rfl; decide) | ((first | apply ar_q | apply dr_q); (focus (apply q_build (n := 2) (zs := ([.slice none 0 0, .slice none 0 0] : List Value)); kernel_rfl; kernel_rfl; exact rfl; exact rfl)))); (first | refine ar_nrm (k := ?_) | refine dr_nrm (k := ?_))) | ((first | apply ar_gy | apply dr_gy); exact rfl; exact bdOk) | (first | (apply awp_cond_t; exact rfl; exact bdOk) | (apply awp_cond_f; exact rfl; exact bdOk)) | fail))
    generalize parts s 10 = ps at *
    refine awp_loopR 2 (Nat.le_trans (Nat.le_of_eq hm0) (Nat.zero_le 2)) rfl [0, 2, 4, 5] (fun x : Nat × Way_ => [(6, .c (.p (.int .i64 (x.1))))]) (fun x => [[.nl, .nl], [.sl 65 (.own 0) (reachs (x.2.rs)), .sl 3 (.own 1) (its (x.2.is))]]) (fun _ => 3) (fun n x => x.1 ≤ ps.length - 1 ∧ runS ps x.1 = some x.2 ∧ x.2.rs.length ≤ x.1 ∧ x.2.is.length ≤ x.1 ∧ n = ps.length - 1 - x.1) _ (0, ⟨[], []⟩) ⟨Nat.zero_le _, rfl, Nat.le_refl _, Nat.le_refl _, rfl⟩ ?_ ?_
    · refine le_nrm (k := ?_); refine le_mk hsLe ?_; (repeat (first | exact AVs.le.nil | (with_reducible refine AVs.le.top _ ?_) | (with_reducible refine AVs.le.eq _ ?_) | refine AVs.le.eqv ?_ ?_)) <;> first | exact rfl | exact pi (by omega)
    rintro n ⟨i, w⟩ ⟨h1, h2, h3, h4, rfl⟩
    dsimp only at h1 h2 h3 h4 ⊢
    have hlr : (reachs w.rs).length = w.rs.length := by simp [reachs]
    have hli := its_len w.is
    refine nh_nrm (k := ?_)
    by_cases hi : i < ps.length - 1
    · have e0 := hE i hi
      have hun : runS ps (i + 1) = stepS w (ps.getD i ⟨#[]⟩) := by rw [runS, h2]; rfl
      have hz := getD_sz hpz i
      generalize ps.getD i ⟨#[]⟩ = line at *
      have hq := spec_l1Split line 32 (by omega)
      have hwz := parts_sz line 32
      have hwl := parts_le line 32
      have hwn := strs_len (parts line 32)
      unfold stepS at hun
      generalize parts line 32 = ws at *
      by_cases h2w : ws.length = 2
      · rw [if_pos h2w] at hun
        have f1 : (strs ws)[(1 : Int).toNat]? = some [Value.string (ws.getD 1 ⟨#[]⟩)] := strs_getD (by omega)
        have hr := spec_l1Read (ws.getD 1 ⟨#[]⟩) (Nat.le_trans (getD_sz hwz 1) (by omega))
        unfold readW at hun
        generalize ws.getD 1 ⟨#[]⟩ = x1 at *
        cases hb : (readR x1).2 with
        | false =>
          rw [hb] at hr hun
          have hp := hps i hi (by rw [hun]; rfl)
          obtain rfl : o = none := ho.symm.trans hp
          (repeat' (first | (first | refine awp_seq ?_ | refine awp_region ?_ | refine awp_block ?_ | refine awp_exit ?_ | refine awp_ret ?_ | refine awp_skip ?_ | refine ar_nil ?_ | refine dr_nil ?_ | (first | refine t_norm ?_ | refine t_exit ?_ | refine t_ret ?_ | refine b_norm ?_ | refine b_exit ?_ | refine b_exit_ne rfl ?_ | refine b_ret ?_)) | ((first | ((first | apply ar_q | apply dr_q); exact qOp1) | ((first | apply ar_gu | apply dr_gu); exact rfl) | ((first | apply ar_gn | apply dr_gn); exact rfl; exact bdOk) | (first | (apply ar_box; exact rfl) | (apply ar_store; exact rfl; exact rfl; exact rfl; (focus (first | decide | (simp; done) | exact Nat.le_refl _)); kernel_rfl; exact rfl)) | (apply ar_call; kernel_rfl; exact (hq); exact rfl) | ((first | apply ar_qt | apply dr_qt); (focus (apply qt_call; kernel_rfl; exact (hr); exact rfl))) | ((first | apply ar_q | apply dr_q); (focus (apply q_build0 (ys := ([.slice none 0 0, .slice none 0 0] : List Value)); kernel_rfl; kernel_rfl)))); (first | refine ar_nrm (k := ?_) | refine dr_nrm (k := ?_))) | ((first | apply ar_gy | apply dr_gy); exact rfl; exact bdOk) | (first | (apply awp_cond_t; exact rfl; exact bdOk) | (apply awp_cond_f; exact rfl; exact bdOk)) | fail))
          (refine ⟨.inr rfl, aend_mk [] rfl (by decide) (by first | decide | (simp; done)) (ares_cell_a rfl rfl rfl (by kernel_rfl) (ares_tmp2 _ rfl ?_ ares_nil)) rfl rfl⟩) <;> exact rfl
        | true =>
          rw [hb] at hr hun
          rw [if_pos rfl] at hun
          generalize (readR x1).1 = a at *
          have hap : its w.is ++ [[Value.int .i64 a]] = its (w.is ++ [a]) := by simp [its]
          (repeat' (first | (first | refine awp_seq ?_ | refine awp_region ?_ | refine awp_block ?_ | refine awp_exit ?_ | refine awp_ret ?_ | refine awp_skip ?_ | refine ar_nil ?_ | refine dr_nil ?_ | (first | refine t_norm ?_ | refine t_exit ?_ | refine t_ret ?_ | refine b_norm ?_ | refine b_exit ?_ | refine b_exit_ne rfl ?_ | refine b_ret ?_)) | ((first | ((first | apply ar_q | apply dr_q); exact qOp1) | ((first | apply ar_gu | apply dr_gu); exact rfl) | ((first | apply ar_gn | apply dr_gn); exact rfl; exact bdOk) | (first | (apply ar_box; exact rfl) | (apply ar_store; exact rfl; exact rfl; exact rfl; (focus (first | decide | (simp; done) | exact Nat.le_refl _)); kernel_rfl; exact rfl)) | (apply ar_call; kernel_rfl; exact (hq); exact rfl) | ((first | apply ar_qt | apply dr_qt); (focus (apply qt_call; kernel_rfl; exact (hr); exact rfl))) | (apply ar_bslice (e := 3) 1; kernel_rfl; (focus (decide +kernel)); kernel_rfl; exact rfl; exact rfl; exact rfl; exact rfl; decide) | (apply ar_append; kernel_rfl; kernel_rfl; exact rfl; exact rfl; exact (its_one a); (focus (simp; omega)); exact rfl)); (first | refine ar_nrm (k := ?_) | refine dr_nrm (k := ?_))) | ((first | apply ar_gy | apply dr_gy); exact rfl; exact bdOk) | (first | (apply awp_cond_t; exact rfl; exact bdOk) | (apply awp_cond_f; exact rfl; exact bdOk)) | fail))
          rw [hap]
          refine ⟨_, (i + 1, ⟨w.rs, w.is ++ [a]⟩), [0, 1, 2], ?_, ⟨by dsimp only; omega, hun, by dsimp only; omega, by simp; omega, rfl⟩, by decide, (by intro j hj; dsimp only; simp only [List.mem_cons, List.not_mem_nil, or_false] at hj; omega), ?_⟩
          · dsimp only; omega
          · refine lkr_nrm (k := ?_); refine le_mk hsLe ?_; (repeat (first | exact AVs.le.nil | (with_reducible refine AVs.le.top _ ?_) | (with_reducible refine AVs.le.eq _ ?_) | refine AVs.le.eqv ?_ ?_)) <;> first | exact rfl | exact pi (by omega) | exact pl (by simp [its])
      · rw [if_neg h2w] at hun
        by_cases h7w : ws.length = 7
        · rw [if_pos h7w] at hun
          have f1 : (strs ws)[(1 : Int).toNat]? = some [Value.string (ws.getD 1 ⟨#[]⟩)] := strs_getD (by omega)
          have f3 : (strs ws)[(3 : Int).toNat]? = some [Value.string (ws.getD 3 ⟨#[]⟩)] := strs_getD (by omega)
          have f5 : (strs ws)[(5 : Int).toNat]? = some [Value.string (ws.getD 5 ⟨#[]⟩)] := strs_getD (by omega)
          have hr1 := spec_l1Read (ws.getD 1 ⟨#[]⟩) (Nat.le_trans (getD_sz hwz 1) (by omega))
          have hr3 := spec_l1Read (ws.getD 3 ⟨#[]⟩) (Nat.le_trans (getD_sz hwz 3) (by omega))
          have hr5 := spec_l1Read (ws.getD 5 ⟨#[]⟩) (Nat.le_trans (getD_sz hwz 5) (by omega))
          unfold readW at hun
          generalize ws.getD 1 ⟨#[]⟩ = x1 at *
          generalize ws.getD 3 ⟨#[]⟩ = x3 at *
          generalize ws.getD 5 ⟨#[]⟩ = x5 at *
          generalize hb1 : (readR x1).2 = b1 at *
          generalize hb3 : (readR x3).2 = b3 at *
          generalize hb5 : (readR x5).2 = b5 at *
          generalize (readR x1).1 = a at *
          generalize (readR x3).1 = b at *
          generalize (readR x5).1 = c at *
          by_cases hall : b1 = true ∧ b3 = true ∧ b5 = true
          · obtain ⟨rfl, rfl, rfl⟩ := hall
            rw [if_pos ⟨rfl, rfl, rfl⟩] at hun
            have hap : reachs w.rs ++ [([Value.int .i64 a, Value.int .i64 b, Value.int .i64 c] : List Value)] = reachs (w.rs ++ [⟨a, b, c⟩]) := by simp [reachs, Reach_.cells]
            (repeat' (first | (first | refine awp_seq ?_ | refine awp_region ?_ | refine awp_block ?_ | refine awp_exit ?_ | refine awp_ret ?_ | refine awp_skip ?_ | refine ar_nil ?_ | refine dr_nil ?_ | (first | refine t_norm ?_ | refine t_exit ?_ | refine t_ret ?_ | refine b_norm ?_ | refine b_exit ?_ | refine b_exit_ne rfl ?_ | refine b_ret ?_)) | ((first | ((first | apply ar_q | apply dr_q); exact qOp1) | ((first | apply ar_gu | apply dr_gu); exact rfl) | ((first | apply ar_gn | apply dr_gn); exact rfl; exact bdOk) | (first | (apply ar_box; exact rfl) | (apply ar_store; exact rfl; exact rfl; exact rfl; (focus (first | decide | (simp; done) | exact Nat.le_refl _)); kernel_rfl; exact rfl)) | (apply ar_call; kernel_rfl; exact (hq); exact rfl) | ((first | apply ar_qt | apply dr_qt); (focus (apply qt_call; kernel_rfl; exact (hr1); exact rfl))) | ((first | apply ar_qt | apply dr_qt); (focus (apply qt_call; kernel_rfl; exact (hr3); exact rfl))) | ((first | apply ar_qt | apply dr_qt); (focus (apply qt_call; kernel_rfl; exact (hr5); exact rfl))) | ((first | apply ar_q | apply dr_q); (focus (apply q_build (n := 3) (zs := ([.int .i64 0, .int .i64 0, .int .i64 0] : List Value)); kernel_rfl; kernel_rfl; exact rfl; exact rfl))) | (apply ar_bslice (e := 65) 3; kernel_rfl; (focus (decide +kernel)); kernel_rfl; exact rfl; exact rfl; exact rfl; exact rfl; decide) | (apply ar_append; kernel_rfl; kernel_rfl; exact rfl; exact rfl; exact (reachs_ok [⟨a, b, c⟩]); (focus (simp; omega)); exact rfl)); (first | refine ar_nrm (k := ?_) | refine dr_nrm (k := ?_))) | ((first | apply ar_gy | apply dr_gy); exact rfl; exact bdOk) | (first | (apply awp_cond_t; exact rfl; exact bdOk) | (apply awp_cond_f; exact rfl; exact bdOk)) | fail))
            rw [hap]
            refine ⟨_, (i + 1, ⟨w.rs ++ [⟨a, b, c⟩], w.is⟩), [0, 1, 2], ?_, ⟨by dsimp only; omega, hun, by simp; omega, by dsimp only; omega, rfl⟩, by decide, (by intro j hj; dsimp only; simp only [List.mem_cons, List.not_mem_nil, or_false] at hj; omega), ?_⟩
            · dsimp only; omega
            · refine lkr_nrm (k := ?_); refine le_mk hsLe ?_; (repeat (first | exact AVs.le.nil | (with_reducible refine AVs.le.top _ ?_) | (with_reducible refine AVs.le.eq _ ?_) | refine AVs.le.eqv ?_ ?_)) <;> first | exact rfl | exact pi (by omega) | exact pl (by simp [reachs, Reach_.cells])
          · rw [if_neg hall] at hun
            have hp := hps i hi hun
            obtain rfl : o = none := ho.symm.trans hp
            cases b1 with
            | false =>
              (repeat' (first | (first | refine awp_seq ?_ | refine awp_region ?_ | refine awp_block ?_ | refine awp_exit ?_ | refine awp_ret ?_ | refine awp_skip ?_ | refine ar_nil ?_ | refine dr_nil ?_ | (first | refine t_norm ?_ | refine t_exit ?_ | refine t_ret ?_ | refine b_norm ?_ | refine b_exit ?_ | refine b_exit_ne rfl ?_ | refine b_ret ?_)) | ((first | ((first | apply ar_q | apply dr_q); exact qOp1) | ((first | apply ar_gu | apply dr_gu); exact rfl) | ((first | apply ar_gn | apply dr_gn); exact rfl; exact bdOk) | (first | (apply ar_box; exact rfl) | (apply ar_store; exact rfl; exact rfl; exact rfl; (focus (first | decide | (simp; done) | exact Nat.le_refl _)); kernel_rfl; exact rfl)) | (apply ar_call; kernel_rfl; exact (hq); exact rfl) | ((first | apply ar_qt | apply dr_qt); (focus (apply qt_call; kernel_rfl; exact (hr1); exact rfl))) | ((first | apply ar_qt | apply dr_qt); (focus (apply qt_call; kernel_rfl; exact (hr3); exact rfl))) | ((first | apply ar_qt | apply dr_qt); (focus (apply qt_call; kernel_rfl; exact (hr5); exact rfl))) | ((first | apply ar_q | apply dr_q); (focus (apply q_build0 (ys := ([.slice none 0 0, .slice none 0 0] : List Value)); kernel_rfl; kernel_rfl)))); (first | refine ar_nrm (k := ?_) | refine dr_nrm (k := ?_))) | ((first | apply ar_gy | apply dr_gy); exact rfl; exact bdOk) | (first | (apply awp_cond_t; exact rfl; exact bdOk) | (apply awp_cond_f; exact rfl; exact bdOk)) | fail))
              (refine ⟨.inr rfl, aend_mk [] rfl (by decide) (by first | decide | (simp; done)) (ares_cell_a rfl rfl rfl (by kernel_rfl) (ares_tmp2 _ rfl ?_ ares_nil)) rfl rfl⟩) <;> exact rfl
            | true =>
              cases b3 with
              | false =>
                (repeat' (first | (first | refine awp_seq ?_ | refine awp_region ?_ | refine awp_block ?_ | refine awp_exit ?_ | refine awp_ret ?_ | refine awp_skip ?_ | refine ar_nil ?_ | refine dr_nil ?_ | (first | refine t_norm ?_ | refine t_exit ?_ | refine t_ret ?_ | refine b_norm ?_ | refine b_exit ?_ | refine b_exit_ne rfl ?_ | refine b_ret ?_)) | ((first | ((first | apply ar_q | apply dr_q); exact qOp1) | ((first | apply ar_gu | apply dr_gu); exact rfl) | ((first | apply ar_gn | apply dr_gn); exact rfl; exact bdOk) | (first | (apply ar_box; exact rfl) | (apply ar_store; exact rfl; exact rfl; exact rfl; (focus (first | decide | (simp; done) | exact Nat.le_refl _)); kernel_rfl; exact rfl)) | (apply ar_call; kernel_rfl; exact (hq); exact rfl) | ((first | apply ar_qt | apply dr_qt); (focus (apply qt_call; kernel_rfl; exact (hr1); exact rfl))) | ((first | apply ar_qt | apply dr_qt); (focus (apply qt_call; kernel_rfl; exact (hr3); exact rfl))) | ((first | apply ar_qt | apply dr_qt); (focus (apply qt_call; kernel_rfl; exact (hr5); exact rfl))) | ((first | apply ar_q | apply dr_q); (focus (apply q_build0 (ys := ([.slice none 0 0, .slice none 0 0] : List Value)); kernel_rfl; kernel_rfl)))); (first | refine ar_nrm (k := ?_) | refine dr_nrm (k := ?_))) | ((first | apply ar_gy | apply dr_gy); exact rfl; exact bdOk) | (first | (apply awp_cond_t; exact rfl; exact bdOk) | (apply awp_cond_f; exact rfl; exact bdOk)) | fail))
                (refine ⟨.inr rfl, aend_mk [] rfl (by decide) (by first | decide | (simp; done)) (ares_cell_a rfl rfl rfl (by kernel_rfl) (ares_tmp2 _ rfl ?_ ares_nil)) rfl rfl⟩) <;> exact rfl
              | true =>
                cases b5 with
                | false =>
                  (repeat' (first | (first | refine awp_seq ?_ | refine awp_region ?_ | refine awp_block ?_ | refine awp_exit ?_ | refine awp_ret ?_ | refine awp_skip ?_ | refine ar_nil ?_ | refine dr_nil ?_ | (first | refine t_norm ?_ | refine t_exit ?_ | refine t_ret ?_ | refine b_norm ?_ | refine b_exit ?_ | refine b_exit_ne rfl ?_ | refine b_ret ?_)) | ((first | ((first | apply ar_q | apply dr_q); exact qOp1) | ((first | apply ar_gu | apply dr_gu); exact rfl) | ((first | apply ar_gn | apply dr_gn); exact rfl; exact bdOk) | (first | (apply ar_box; exact rfl) | (apply ar_store; exact rfl; exact rfl; exact rfl; (focus (first | decide | (simp; done) | exact Nat.le_refl _)); kernel_rfl; exact rfl)) | (apply ar_call; kernel_rfl; exact (hq); exact rfl) | ((first | apply ar_qt | apply dr_qt); (focus (apply qt_call; kernel_rfl; exact (hr1); exact rfl))) | ((first | apply ar_qt | apply dr_qt); (focus (apply qt_call; kernel_rfl; exact (hr3); exact rfl))) | ((first | apply ar_qt | apply dr_qt); (focus (apply qt_call; kernel_rfl; exact (hr5); exact rfl))) | ((first | apply ar_q | apply dr_q); (focus (apply q_build0 (ys := ([.slice none 0 0, .slice none 0 0] : List Value)); kernel_rfl; kernel_rfl)))); (first | refine ar_nrm (k := ?_) | refine dr_nrm (k := ?_))) | ((first | apply ar_gy | apply dr_gy); exact rfl; exact bdOk) | (first | (apply awp_cond_t; exact rfl; exact bdOk) | (apply awp_cond_f; exact rfl; exact bdOk)) | fail))
                  (refine ⟨.inr rfl, aend_mk [] rfl (by decide) (by first | decide | (simp; done)) (ares_cell_a rfl rfl rfl (by kernel_rfl) (ares_tmp2 _ rfl ?_ ares_nil)) rfl rfl⟩) <;> exact rfl
                | true => exact absurd ⟨rfl, rfl, rfl⟩ hall
        · rw [if_neg h7w] at hun
          (repeat' (first | (first | refine awp_seq ?_ | refine awp_region ?_ | refine awp_block ?_ | refine awp_exit ?_ | refine awp_ret ?_ | refine awp_skip ?_ | refine ar_nil ?_ | refine dr_nil ?_ | (first | refine t_norm ?_ | refine t_exit ?_ | refine t_ret ?_ | refine b_norm ?_ | refine b_exit ?_ | refine b_exit_ne rfl ?_ | refine b_ret ?_)) | ((first | ((first | apply ar_q | apply dr_q); exact qOp1) | ((first | apply ar_gu | apply dr_gu); exact rfl) | ((first | apply ar_gn | apply dr_gn); exact rfl; exact bdOk) | (first | (apply ar_box; exact rfl) | (apply ar_store; exact rfl; exact rfl; exact rfl; (focus (first | decide | (simp; done) | exact Nat.le_refl _)); kernel_rfl; exact rfl)) | (apply ar_call; kernel_rfl; exact (hq); exact rfl)); (first | refine ar_nrm (k := ?_) | refine dr_nrm (k := ?_))) | ((first | apply ar_gy | apply dr_gy); exact rfl; exact bdOk) | (first | (apply awp_cond_t; exact rfl; exact bdOk) | (apply awp_cond_f; exact rfl; exact bdOk)) | fail))
          refine ⟨_, (i + 1, w), [0, 1, 2], ?_, ⟨by dsimp only; omega, hun, by dsimp only; omega, by dsimp only; omega, rfl⟩, by decide, (by intro j hj; dsimp only; simp only [List.mem_cons, List.not_mem_nil, or_false] at hj; omega), ?_⟩
          · dsimp only; omega
          · refine lkr_nrm (k := ?_); refine le_mk hsLe ?_; (repeat (first | exact AVs.le.nil | (with_reducible refine AVs.le.top _ ?_) | (with_reducible refine AVs.le.eq _ ?_) | refine AVs.le.eqv ?_ ?_)) <;> first | exact rfl | exact pi (by omega)
    · obtain rfl : i = ps.length - 1 := by omega
      have hpw := hpe w h2
      have hf : fits w 1048576 := by unfold fits; omega
      have hg := spec_l2Good w hf
      cases hw : wayF w with
      | false =>
        rw [hw] at hg
        have hp : parseS s = none := by rw [hpw]; exact keepW_no1 hw
        obtain rfl : o = none := ho.symm.trans hp
        (repeat' (first | (first | refine awp_seq ?_ | refine awp_region ?_ | refine awp_block ?_ | refine awp_exit ?_ | refine awp_ret ?_ | refine awp_skip ?_ | refine ar_nil ?_ | refine dr_nil ?_ | (first | refine t_norm ?_ | refine t_exit ?_ | refine t_ret ?_ | refine b_norm ?_ | refine b_exit ?_ | refine b_exit_ne rfl ?_ | refine b_ret ?_)) | ((first | ((first | apply ar_q | apply dr_q); exact qOp1) | ((first | apply ar_gu | apply dr_gu); exact rfl) | ((first | apply ar_gn | apply dr_gn); exact rfl; exact bdOk) | (first | (apply ar_box; exact rfl) | (apply ar_store; exact rfl; exact rfl; exact rfl; (focus (first | decide | (simp; done) | exact Nat.le_refl _)); kernel_rfl; exact rfl)) | ((first | apply ar_qt | apply dr_qt); (focus (apply qt_call; kernel_rfl; exact (hg); exact rfl))) | ((first | apply ar_q | apply dr_q); (focus (apply q_build0 (ys := ([.slice none 0 0, .slice none 0 0] : List Value)); kernel_rfl; kernel_rfl)))); (first | refine ar_nrm (k := ?_) | refine dr_nrm (k := ?_))) | ((first | apply ar_gy | apply dr_gy); exact rfl; exact bdOk) | (first | (apply awp_cond_t; exact rfl; exact bdOk) | (apply awp_cond_f; exact rfl; exact bdOk)) | fail))
        (refine ⟨.inr rfl, aend_mk [] rfl (by decide) (by first | decide | (simp; done)) (ares_cell_a rfl rfl rfl (by kernel_rfl) (ares_tmp2 _ rfl ?_ ares_nil)) rfl rfl⟩) <;> exact rfl
      | true =>
        rw [hw] at hg
        have ht := spec_l2Text w hw
        cases hc : ((textW w).toList == s.toList) with
        | false =>
          have hc' : (!((textW w).toList == s.toList)) = true := by rw [hc]; rfl
          have hp : parseS s = none := by rw [hpw]; exact keepW_no2 (of_decide_eq_false (eqL hc))
          obtain rfl : o = none := ho.symm.trans hp
          (repeat' (first | (first | refine awp_seq ?_ | refine awp_region ?_ | refine awp_block ?_ | refine awp_exit ?_ | refine awp_ret ?_ | refine awp_skip ?_ | refine ar_nil ?_ | refine dr_nil ?_ | (first | refine t_norm ?_ | refine t_exit ?_ | refine t_ret ?_ | refine b_norm ?_ | refine b_exit ?_ | refine b_exit_ne rfl ?_ | refine b_ret ?_)) | ((first | ((first | apply ar_q | apply dr_q); exact qOp1) | ((first | apply ar_gu | apply dr_gu); exact rfl) | ((first | apply ar_gn | apply dr_gn); exact rfl; exact bdOk) | (first | (apply ar_box; exact rfl) | (apply ar_store; exact rfl; exact rfl; exact rfl; (focus (first | decide | (simp; done) | exact Nat.le_refl _)); kernel_rfl; exact rfl)) | ((first | apply ar_qt | apply dr_qt); (focus (apply qt_call; kernel_rfl; exact (hg); exact rfl))) | ((first | apply ar_q | apply dr_q); (focus (apply q_build0 (ys := ([.slice none 0 0, .slice none 0 0] : List Value)); kernel_rfl; kernel_rfl))) | ((first | apply ar_qt | apply dr_qt); (focus (apply qt_call; kernel_rfl; exact (ht); exact rfl)))); (first | refine ar_nrm (k := ?_) | refine dr_nrm (k := ?_))) | ((first | apply ar_gy | apply dr_gy); exact rfl; exact bdOk) | (first | (apply awp_cond_t; exact rfl; exact bdOk) | (apply awp_cond_f; exact rfl; exact bdOk)) | fail))
          (refine ⟨.inr rfl, aend_mk [] rfl (by decide) (by first | decide | (simp; done)) (ares_cell_a rfl rfl rfl (by kernel_rfl) (ares_tmp2 _ rfl ?_ ares_nil)) rfl rfl⟩) <;> exact rfl
        | true =>
          have hc' : (!((textW w).toList == s.toList)) = false := by rw [hc]; rfl
          have hp : parseS s = some w := by rw [hpw]; exact keepW_yes hw (of_decide_eq_true (eqL hc))
          obtain rfl : o = some w := ho.symm.trans hp
          (repeat' (first | (first | refine awp_seq ?_ | refine awp_region ?_ | refine awp_block ?_ | refine awp_exit ?_ | refine awp_ret ?_ | refine awp_skip ?_ | refine ar_nil ?_ | refine dr_nil ?_ | (first | refine t_norm ?_ | refine t_exit ?_ | refine t_ret ?_ | refine b_norm ?_ | refine b_exit ?_ | refine b_exit_ne rfl ?_ | refine b_ret ?_)) | ((first | ((first | apply ar_q | apply dr_q); exact qOp1) | ((first | apply ar_gu | apply dr_gu); exact rfl) | ((first | apply ar_gn | apply dr_gn); exact rfl; exact bdOk) | (first | (apply ar_box; exact rfl) | (apply ar_store; exact rfl; exact rfl; exact rfl; (focus (first | decide | (simp; done) | exact Nat.le_refl _)); kernel_rfl; exact rfl)) | ((first | apply ar_qt | apply dr_qt); (focus (apply qt_call; kernel_rfl; exact (hg); exact rfl))) | ((first | apply ar_q | apply dr_q); (focus (apply q_build0 (ys := ([.slice none 0 0, .slice none 0 0] : List Value)); kernel_rfl; kernel_rfl))) | ((first | apply ar_qt | apply dr_qt); (focus (apply qt_call; kernel_rfl; exact (ht); exact rfl)))); (first | refine ar_nrm (k := ?_) | refine dr_nrm (k := ?_))) | ((first | apply ar_gy | apply dr_gy); exact rfl; exact bdOk) | (first | (apply awp_cond_t; exact rfl; exact bdOk) | (apply awp_cond_f; exact rfl; exact bdOk)) | fail))
          (refine ⟨.inr rfl, aend_mk [0, 1] rfl (by decide) (by first | decide | (simp; done)) (ares_cell_a rfl rfl rfl (by kernel_rfl) (ares_tmp2 _ rfl ?_ ares_nil)) rfl rfl⟩) <;> exact rfl
  · have hp : parseS s = none := if_neg h12
    rw [← one_wsP]; refine acalls_of (ws := wsP o) Tryd.func36 rfl (by cases o <;> rfl) (by cases o <;> rfl) rfl fun w0 B m hm0 => ?_; (refine awp_norm (τ := ?_) ?_ ?_; rotate_left; (focus (simp only [AV.top, Tryd.ntmps36, List.length_cons, List.length_nil, Nat.reduceAdd, Nat.reduceSub, List.replicate_succ, List.replicate_zero, List.cons_append, List.nil_append]; exact rfl)))
    (repeat' (first | (first | refine awp_seq ?_ | refine awp_region ?_ | refine awp_block ?_ | refine awp_exit ?_ | refine awp_ret ?_ | refine awp_skip ?_ | refine ar_nil ?_ | refine dr_nil ?_ | (first | refine t_norm ?_ | refine t_exit ?_ | refine t_ret ?_ | refine b_norm ?_ | refine b_exit ?_ | refine b_exit_ne rfl ?_ | refine b_ret ?_)) | ((first | ((first | apply ar_q | apply dr_q); exact qOp1) | ((first | apply ar_gu | apply dr_gu); exact rfl) | ((first | apply ar_gn | apply dr_gn); exact rfl; exact bdOk) | (first | (apply ar_box; exact rfl) | (apply ar_store; exact rfl; exact rfl; exact rfl; (focus (first | decide | (simp; done) | exact Nat.le_refl _)); kernel_rfl; exact rfl)) | (apply ar_alloc (ys := ([.slice none 0 0, .slice none 0 0] : List Value)); kernel_rfl) | (apply ar_call; kernel_rfl; exact (hsp); exact rfl) | (apply ar_bslice (e := 65) 3; kernel_rfl; (focus (decide +kernel)); kernel_rfl; exact rfl; exact rfl; exact rfl; exact rfl; decide) | (apply ar_bslice (e := 3) 1; kernel_rfl; (focus (decide +kernel)); kernel_rfl; exact rfl; exact rfl; exact rfl; exact rfl; decide) | ((first | apply ar_q | apply dr_q); (focus (apply q_build (n := 2) (zs := ([.slice none 0 0, .slice none 0 0] : List Value)); kernel_rfl; kernel_rfl; exact rfl; exact rfl))) | ((first | apply ar_q | apply dr_q); (focus (apply q_build0 (ys := ([.slice none 0 0, .slice none 0 0] : List Value)); kernel_rfl; kernel_rfl)))); (first | refine ar_nrm (k := ?_) | refine dr_nrm (k := ?_))) | ((first | apply ar_gy | apply dr_gy); exact rfl; exact bdOk) | (first | (apply awp_cond_t; exact rfl; exact bdOk) | (apply awp_cond_f; exact rfl; exact bdOk)) | fail))
    obtain rfl : o = none := ho.symm.trans hp
    (refine ⟨.inr rfl, aend_mk [] rfl (by decide) (by first | decide | (simp; done)) (ares_cell_a rfl rfl rfl (by kernel_rfl) (ares_tmp2 _ rfl ?_ ares_nil)) rfl rfl⟩) <;> exact rfl
end Go.Proofs.YtkdbkddlbahceaaDoor
