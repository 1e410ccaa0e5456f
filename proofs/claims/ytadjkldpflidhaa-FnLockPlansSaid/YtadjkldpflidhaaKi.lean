/- The law of lock plans. -/
import Derived.Test.YtadjkldpflidhaaKh0






namespace Go.Proofs.Ytadjkldpflidhaa
open Go.RowKit
set_option linter.unusedVariables false
set_option linter.unusedSimpArgs false
attribute [local irreducible] AR DR AWp QOp Qt ACalls ARes Exit.thenA Exit.inBlockA
attribute [local irreducible] AG0 AG AGs
attribute [local irreducible] AT ATs
attribute [local irreducible] preA
theorem law_vInts (l : List Int) (hl : l.length ≤ 1048576) : ACalls Try.prog 40 [.c (.sl 3 .ro (its l)), .c (.sl 3 .ro (its l))] [] (.c (.p (.bool (true)))) [] 0 := by
  have hlen : (its l).length = l.length := by simp [its]
  refine acalls_of (ws := [.c (.p (.bool (true)))]) Try.func40 rfl rfl rfl rfl fun w0 B m hm0 => ?_; (refine awp_norm (τ := ?_) ?_ ?_; rotate_left; (focus (simp only [AV.top, Try.ntmps40, List.length_cons, List.length_nil, Nat.reduceAdd, Nat.reduceSub, List.replicate_succ, List.replicate_zero, List.cons_append, List.nil_append]; exact rfl)))
  (repeat (first | (first | refine awp_seq ?_ | refine awp_region ?_ | refine awp_block ?_ | refine awp_exit ?_ | refine awp_ret ?_ | refine awp_skip ?_ | refine ar_nil ?_ | refine dr_nil ?_ | (refine awp_region_draw ?_ ?_ ?_; kernel_rfl; kernel_rfl) | (first | refine t_norm ?_ | refine t_exit ?_ | refine t_ret ?_ | refine b_norm ?_ | refine b_exit ?_ | refine b_exit_ne rfl ?_ | refine b_ret ?_)) | ((first | ((first | apply ar_q | apply dr_q); exact qOp1) | ((first | apply ar_gu | apply dr_gu); exact rfl) | ((first | apply ar_gn | apply dr_gn); exact rfl; exact bdOk)); (first | refine ar_nrm (k := ?_) | refine dr_nrm (k := ?_))) | ((first | apply ar_gy | apply dr_gy); exact rfl; exact bdOk) | (first | (apply awp_cond_t; exact rfl; exact bdOk) | (apply awp_cond_f; exact rfl; exact bdOk)) | fail))
  refine awp_loopH [0, 1] (fun i : Nat => [(5, .c (.p (.int .i64 (i))))]) (fun _ => []) (fun _ => 0) (fun n i => i ≤ l.length ∧ n = l.length - i) _ 0 ⟨by omega, rfl⟩ ?_ ?_
  · refine le_nrm (k := ?_); refine le_mk hsLe ?_; (repeat (first | exact AVs.le.nil | (with_reducible refine AVs.le.top _ ?_) | (with_reducible refine AVs.le.eq _ ?_) | refine AVs.le.eqv ?_ ?_)) <;> first | exact rfl | exact pi (by omega)
  rintro n i ⟨h1, rfl⟩
  refine nh_nrm (k := ?_)
  by_cases hi : i < l.length
  · have e1 : (its l)[(i : Int).toNat]? = some [Value.int .i64 l[i]] := its_at hi
    (repeat' (first | (first | refine awp_seq ?_ | refine awp_region ?_ | refine awp_block ?_ | refine awp_exit ?_ | refine awp_ret ?_ | refine awp_skip ?_ | refine ar_nil ?_ | refine dr_nil ?_ | (refine awp_region_draw ?_ ?_ ?_; kernel_rfl; kernel_rfl) | (first | refine t_norm ?_ | refine t_exit ?_ | refine t_ret ?_ | refine b_norm ?_ | refine b_exit ?_ | refine b_exit_ne rfl ?_ | refine b_ret ?_)) | ((first | ((first | apply ar_q | apply dr_q); exact qOp1) | ((first | apply ar_gu | apply dr_gu); exact rfl) | ((first | apply ar_gn | apply dr_gn); exact rfl; exact bdOk)); (first | refine ar_nrm (k := ?_) | refine dr_nrm (k := ?_))) | ((first | apply ar_gy | apply dr_gy); exact rfl; exact bdOk) | (first | (apply awp_cond_t; exact rfl; exact bdOk) | (apply awp_cond_f; exact rfl; exact bdOk)) | ((first | apply ar_gs | apply dr_gs | apply awp_cond); (focus (exact rfl)); (all_goals (intro hc; (try simp only [decide_eq_true_eq, decide_eq_false_iff_not, Bool.not_eq_true', Bool.not_eq_false', Bool.not_true, Bool.not_false, bne_iff_ne, bne_eq_false_iff_eq, beq_iff_eq, beq_eq_false_iff_ne, ne_eq, Bool.cond_true_left, Bool.cond_false_right, Bool.or_eq_true, Bool.and_eq_true] at hc)))) | fail))
    refine ⟨_, i + 1, ?_, ⟨by omega, rfl⟩, ?_⟩
    · omega
    · refine le_nrm (k := ?_); refine le_mk hsLe ?_; (repeat (first | exact AVs.le.nil | (with_reducible refine AVs.le.top _ ?_) | (with_reducible refine AVs.le.eq _ ?_) | refine AVs.le.eqv ?_ ?_)) <;> first | exact rfl | exact pi (by omega)
  · (repeat' (first | (first | refine awp_seq ?_ | refine awp_region ?_ | refine awp_block ?_ | refine awp_exit ?_ | refine awp_ret ?_ | refine awp_skip ?_ | refine ar_nil ?_ | refine dr_nil ?_ | (refine awp_region_draw ?_ ?_ ?_; kernel_rfl; kernel_rfl) | (first | refine t_norm ?_ | refine t_exit ?_ | refine t_ret ?_ | refine b_norm ?_ | refine b_exit ?_ | refine b_exit_ne rfl ?_ | refine b_ret ?_)) | ((first | ((first | apply ar_q | apply dr_q); exact qOp1) | ((first | apply ar_gu | apply dr_gu); exact rfl) | ((first | apply ar_gn | apply dr_gn); exact rfl; exact bdOk)); (first | refine ar_nrm (k := ?_) | refine dr_nrm (k := ?_))) | ((first | apply ar_gy | apply dr_gy); exact rfl; exact bdOk) | (first | (apply awp_cond_t; exact rfl; exact bdOk) | (apply awp_cond_f; exact rfl; exact bdOk)) | ((first | apply ar_gs | apply dr_gs | apply awp_cond); (focus (exact rfl)); (all_goals (intro hc; (try simp only [decide_eq_true_eq, decide_eq_false_iff_not, Bool.not_eq_true', Bool.not_eq_false', Bool.not_true, Bool.not_false, bne_iff_ne, bne_eq_false_iff_eq, beq_iff_eq, beq_eq_false_iff_ne, ne_eq, Bool.cond_true_left, Bool.cond_false_right, Bool.or_eq_true, Bool.and_eq_true] at hc)))) | fail))
    refine ⟨.inr rfl, aend_mk [] rfl (by simp) (by first | (simp; done) | (simp; omega)) (ares_tmp2 _ rfl ?_ ares_nil) rfl rfl⟩
    exact rfl
theorem runR_made {s t : LS} {cs : List Int} {R : Int} (hs : safeS s = true) (hl : cs.length ≤ 60) (h : Made s cs t R) : runR s cs = (t, (cs.length : Int), true) ∧ drawnR s cs = (R, true) := by
  have hB : runB s cs.length = true := by unfold runB; simp [hs, hl]
  unfold Made at h
  exact ⟨by unfold runR; rw [if_pos hB, h], by unfold drawnR; rw [if_pos hB, h]⟩
set_option maxHeartbeats 8000000 in
set_option maxRecDepth 20000 in
theorem law_Plans (l : List Int) (hl : okBts l) : ACalls Try.prog 12 [.c (.sl 5 .ro (bts l))] [] (.c (.p (.bool (true)))) [] 0 := by
  have hl1 := hl.1
  refine acalls_of (ws := [.c (.p (.bool (true)))]) Try.func12 rfl rfl rfl rfl fun w0 B m hm0 => ?_; (refine awp_norm (τ := ?_) ?_ ?_; rotate_left; (focus (simp only [AV.top, Try.ntmps12, List.length_cons, List.length_nil, Nat.reduceAdd, Nat.reduceSub, List.replicate_succ, List.replicate_zero, List.cons_append, List.nil_append]; exact rfl)))
  refine awp_part 8 0 (Nat.le_of_eq hm0) rfl [0] [] [] 0 rfl ?_ ?_
  · (repeat' (first | refine pre_seq ?_ | (first | refine awp_seq ?_ | refine awp_region ?_ | refine awp_block ?_ | refine awp_exit ?_ | refine awp_ret ?_ | refine awp_skip ?_ | refine ar_nil ?_ | refine dr_nil ?_ | (first | refine t_norm ?_ | refine t_exit ?_ | refine t_ret ?_ | refine b_norm ?_ | refine b_exit ?_ | refine b_exit_ne rfl ?_ | refine b_ret ?_)) | ((first | ((first | apply ar_q | apply dr_q); exact qOp1) | ((first | apply ar_gu | apply dr_gu); exact rfl) | ((first | apply ar_gn | apply dr_gn); exact rfl; exact bdOk) | ((first | apply ar_qt | apply dr_qt); (focus (apply qt_call; kernel_rfl; exact (law_vBig l (by omega) false (decide_eq_false (by omega))); exact rfl))) | (apply ar_callE; kernel_rfl; exact (ACallsE.sv fun v => draw_Plan v l hl); (focus (intro x; exact rfl)); (rintro ⟨y1, y2⟩ hx; (try dsimp only at hx)))); (first | refine ar_nrm (k := ?_) | refine dr_nrm (k := ?_))) | ((first | apply ar_gy | apply dr_gy); exact rfl; exact bdOk) | (first | (apply awp_cond_t; exact rfl; exact bdOk) | (apply awp_cond_f; exact rfl; exact bdOk)) | fail))
    revert y1 y2
    intro s high hok
    have mi := k_mint_i s high
    have ms := k_mint_s s high
    cases hs : safeS s with
    | false =>
      have em : mintS s high = (0, false) := by
        unfold mintS minR; exact if_neg (by unfold safeS at hs; rw [hs]; decide)
      rw [em] at mi ms
      dsimp only at mi ms
      (repeat' (first | refine pre_seq ?_ | (first | refine awp_seq ?_ | refine awp_region ?_ | refine awp_block ?_ | refine awp_exit ?_ | refine awp_ret ?_ | refine awp_skip ?_ | refine ar_nil ?_ | refine dr_nil ?_ | (refine awp_region_draw ?_ ?_ ?_; kernel_rfl; kernel_rfl) | (first | refine t_norm ?_ | refine t_exit ?_ | refine t_ret ?_ | refine b_norm ?_ | refine b_exit ?_ | refine b_exit_ne rfl ?_ | refine b_ret ?_)) | ((first | ((first | apply ar_q | apply dr_q); exact qOp1) | ((first | apply ar_gu | apply dr_gu); exact rfl) | ((first | apply ar_gn | apply dr_gn); exact rfl; exact bdOk) | (first | (apply ar_box; exact rfl) | (apply ar_store; exact rfl; exact rfl; exact rfl; (focus (first | decide | (simp; done) | exact Nat.le_refl _)); kernel_rfl; exact rfl)) | (apply ar_alloc (ys := ([.int .i64 0, .int .i64 0, .int .i64 0, .bool false, .bool false, .bool false, .bool false] : List Value)); kernel_rfl) | (apply ar_call; kernel_rfl; exact (impl_PlanTo_no s high hs); exact rfl) | (apply ar_call; kernel_rfl; exact (spec_PlanTo_no s high hs); exact rfl) | ((first | apply ar_qt | apply dr_qt); (focus (apply qt_call; kernel_rfl; exact (ACalls.nl0 (law_vInts [] (by simp))); exact rfl))) | ((first | apply ar_qt | apply dr_qt); (focus (apply qt_call; kernel_rfl; exact (mi); exact rfl))) | ((first | apply ar_qt | apply dr_qt); (focus (apply qt_call; kernel_rfl; exact (ms); exact rfl)))); (first | refine ar_nrm (k := ?_) | refine dr_nrm (k := ?_))) | ((first | apply ar_gy | apply dr_gy); exact rfl; exact bdOk) | (first | (apply awp_cond_t; exact rfl; exact bdOk) | (apply awp_cond_f; exact rfl; exact bdOk)) | fail))
      (refine pre_zero ⟨[], by simp, by simp, ?_⟩; refine lkr_nrm (k := ?_); refine le_mk hsLe ?_; (repeat (first | exact AVs.le.nil | (with_reducible refine AVs.le.top _ ?_) | (with_reducible refine AVs.le.eq _ ?_) | refine AVs.le.eqv ?_ ?_)))
    | true =>
      have em : mintS s high = (minS s high, true) := if_pos hs
      rw [em] at mi ms
      dsimp only at mi ms
      have pi1 := impl_PlanTo_ok s high hs
      have ps1 := spec_PlanTo_ok s high hs
      have hlen := planF_len hs high
      have hw := plan_waits s high hs
      have hmb := minS_bd hs high
      obtain ⟨t, R, hm, hts, hgt, hR⟩ := plan_made s high hs
      obtain ⟨er, ed⟩ := runR_made hs (by omega) hm
      have kr := k_run_i s (planF s high)
      have kd := k_drawn_i s (planF s high)
      rw [er] at kr
      rw [ed] at kd
      dsimp only at kr kd
      have pi2 := impl_PlanTo_ok t high hts
      rw [plan_open hgt] at pi2
      have b1 := safe_bd hs
      have b2 := safe_bd hts
      clear er ed hm em
      generalize planF s high = p at *
      generalize minS s high = mm at *
      have hlp : (its p).length = p.length := by simp [its]
      have hcn : p.length = 0 → p.count 9 = 0 := by intro h; rw [List.length_eq_zero_iff.1 h]; rfl
      (repeat' (first | refine pre_seq ?_ | (first | refine awp_seq ?_ | refine awp_region ?_ | refine awp_block ?_ | refine awp_exit ?_ | refine awp_ret ?_ | refine awp_skip ?_ | refine ar_nil ?_ | refine dr_nil ?_ | (refine awp_region_draw ?_ ?_ ?_; kernel_rfl; kernel_rfl) | (first | refine t_norm ?_ | refine t_exit ?_ | refine t_ret ?_ | refine b_norm ?_ | refine b_exit ?_ | refine b_exit_ne rfl ?_ | refine b_ret ?_)) | ((first | ((first | apply ar_q | apply dr_q); exact qOp1) | ((first | apply ar_gu | apply dr_gu); exact rfl) | ((first | apply ar_gn | apply dr_gn); exact rfl; exact bdOk) | (first | (apply ar_box; exact rfl) | (apply ar_store; exact rfl; exact rfl; exact rfl; (focus (first | decide | (simp; done) | exact Nat.le_refl _)); kernel_rfl; exact rfl)) | (apply ar_alloc (ys := ([.int .i64 0, .int .i64 0, .int .i64 0, .bool false, .bool false, .bool false, .bool false] : List Value)); kernel_rfl) | (apply ar_call; kernel_rfl; exact (pi1); exact rfl) | (apply ar_call; kernel_rfl; exact (ps1); exact rfl) | ((first | apply ar_qt | apply dr_qt); (focus (apply qt_call; kernel_rfl; exact (law_vInts p (by omega)); exact rfl))) | ((first | apply ar_qt | apply dr_qt); (focus (apply qt_call; kernel_rfl; exact (mi); exact rfl))) | ((first | apply ar_qt | apply dr_qt); (focus (apply qt_call; kernel_rfl; exact (ms); exact rfl))) | ((first | apply ar_qt | apply dr_qt); (focus (apply qt_call; kernel_rfl; exact (kr); exact rfl))) | ((first | apply ar_qt | apply dr_qt); (focus (apply qt_call; kernel_rfl; exact (kd); exact rfl)))); (first | refine ar_nrm (k := ?_) | refine dr_nrm (k := ?_))) | ((first | apply ar_gy | apply dr_gy); exact rfl; exact bdOk) | (first | (apply awp_cond_t; exact rfl; exact bdOk) | (apply awp_cond_f; exact rfl; exact bdOk)) | fail))
      refine awp_loopH [0, 3, 4, 5, 9, 13, 14, 15, 16, 17] (fun i : Nat => [(18, .c (.p (.int .i64 ((p.take i).count 9)))), (19, .c (.p (.int .i64 (i))))]) (fun _ => [[.p (.int .i64 (s).lo), .p (.int .i64 (s).up), .p (.int .i64 (s).le), .p (.bool (s).lg), .p (.bool (s).hg), .p (.bool (s).lp), .p (.bool (s).hp)], [.p (.int .i64 (t).lo), .p (.int .i64 (t).up), .p (.int .i64 (t).le), .p (.bool (t).lg), .p (.bool (t).hg), .p (.bool (t).lp), .p (.bool (t).hp)]]) (fun _ => 2) (fun n i => i ≤ p.length ∧ n = p.length - i) _ 0 ⟨by omega, rfl⟩ ?_ ?_
      · refine le_nrm (k := ?_); refine le_mk hsLe ?_; (repeat (first | exact AVs.le.nil | (with_reducible refine AVs.le.top _ ?_) | (with_reducible refine AVs.le.eq _ ?_) | refine AVs.le.eqv ?_ ?_)) <;> first | exact rfl | exact pi (by simp)
      rintro n i ⟨hi, rfl⟩
      refine nh_nrm (k := ?_)
      by_cases hil : i < p.length
      · have e1 : (its p)[(i : Int).toNat]? = some [Value.int .i64 p[i]] := its_at hil
        have hct := count_take p i hil
        have hcl := List.count_le_length (a := 9) (l := p.take i)
        rw [List.length_take] at hcl
        by_cases h9 : p[i] = 9
        · rw [if_pos h9] at hct
          (repeat' (first | refine pre_seq ?_ | (first | refine awp_seq ?_ | refine awp_region ?_ | refine awp_block ?_ | refine awp_exit ?_ | refine awp_ret ?_ | refine awp_skip ?_ | refine ar_nil ?_ | refine dr_nil ?_ | (refine awp_region_draw ?_ ?_ ?_; kernel_rfl; kernel_rfl) | (first | refine t_norm ?_ | refine t_exit ?_ | refine t_ret ?_ | refine b_norm ?_ | refine b_exit ?_ | refine b_exit_ne rfl ?_ | refine b_ret ?_)) | ((first | ((first | apply ar_q | apply dr_q); exact qOp1) | ((first | apply ar_gu | apply dr_gu); exact rfl) | ((first | apply ar_gn | apply dr_gn); exact rfl; exact bdOk) | (first | (apply ar_box; exact rfl) | (apply ar_store; exact rfl; exact rfl; exact rfl; (focus (first | decide | (simp; done) | exact Nat.le_refl _)); kernel_rfl; exact rfl))); (first | refine ar_nrm (k := ?_) | refine dr_nrm (k := ?_))) | ((first | apply ar_gy | apply dr_gy); exact rfl; exact bdOk) | (first | (apply awp_cond_t; exact rfl; exact bdOk) | (apply awp_cond_f; exact rfl; exact bdOk)) | fail))
          refine ⟨_, i + 1, ?_, ⟨by omega, rfl⟩, ?_⟩
          · omega
          · refine le_nrm (k := ?_); refine le_mk hsLe ?_; (repeat (first | exact AVs.le.nil | (with_reducible refine AVs.le.top _ ?_) | (with_reducible refine AVs.le.eq _ ?_) | refine AVs.le.eqv ?_ ?_)) <;> first | exact rfl | exact pi (by omega)
        · rw [if_neg h9] at hct
          (repeat' (first | refine pre_seq ?_ | (first | refine awp_seq ?_ | refine awp_region ?_ | refine awp_block ?_ | refine awp_exit ?_ | refine awp_ret ?_ | refine awp_skip ?_ | refine ar_nil ?_ | refine dr_nil ?_ | (refine awp_region_draw ?_ ?_ ?_; kernel_rfl; kernel_rfl) | (first | refine t_norm ?_ | refine t_exit ?_ | refine t_ret ?_ | refine b_norm ?_ | refine b_exit ?_ | refine b_exit_ne rfl ?_ | refine b_ret ?_)) | ((first | ((first | apply ar_q | apply dr_q); exact qOp1) | ((first | apply ar_gu | apply dr_gu); exact rfl) | ((first | apply ar_gn | apply dr_gn); exact rfl; exact bdOk) | (first | (apply ar_box; exact rfl) | (apply ar_store; exact rfl; exact rfl; exact rfl; (focus (first | decide | (simp; done) | exact Nat.le_refl _)); kernel_rfl; exact rfl))); (first | refine ar_nrm (k := ?_) | refine dr_nrm (k := ?_))) | ((first | apply ar_gy | apply dr_gy); exact rfl; exact bdOk) | (first | (apply awp_cond_t; exact rfl; exact bdOk) | (apply awp_cond_f; exact rfl; exact bdOk)) | fail))
          refine ⟨_, i + 1, ?_, ⟨by omega, rfl⟩, ?_⟩
          · omega
          · refine le_nrm (k := ?_); refine le_mk hsLe ?_; (repeat (first | exact AVs.le.nil | (with_reducible refine AVs.le.top _ ?_) | (with_reducible refine AVs.le.eq _ ?_) | refine AVs.le.eqv ?_ ?_)) <;> first | exact rfl | exact pi (by omega)
      · obtain rfl : i = p.length := by omega
        rw [List.take_length]
        generalize p.count 9 = cn at *
        obtain ⟨lo, up, le, lg, hg, lp, hp⟩ := t
        have hw' : (cn : Int) = mm ∨ (p = [] ∧ ¬ (cn : Int) = mm) := by
          by_cases h : (cn : Int) = mm
          · exact .inl h
          · refine .inr ⟨?_, h⟩
            rcases hw with h1 | h1
            · exact h1
            · exact absurd h1 h
        clear hw
        cases high <;> dsimp only [cond] at hgt hR <;> subst hgt hR <;> rcases hw' with hw | ⟨rfl, hw2⟩ <;> dsimp only at b1 b2 pi2
        all_goals
          (repeat' (first | refine pre_seq ?_ | (first | refine awp_seq ?_ | refine awp_region ?_ | refine awp_block ?_ | refine awp_exit ?_ | refine awp_ret ?_ | refine awp_skip ?_ | refine ar_nil ?_ | refine dr_nil ?_ | (refine awp_region_draw ?_ ?_ ?_; kernel_rfl; kernel_rfl) | (first | refine t_norm ?_ | refine t_exit ?_ | refine t_ret ?_ | refine b_norm ?_ | refine b_exit ?_ | refine b_exit_ne rfl ?_ | refine b_ret ?_)) | ((first | ((first | apply ar_q | apply dr_q); exact qOp1) | ((first | apply ar_gu | apply dr_gu); exact rfl) | ((first | apply ar_gn | apply dr_gn); exact rfl; exact bdOk) | (first | (apply ar_box; exact rfl) | (apply ar_store; exact rfl; exact rfl; exact rfl; (focus (first | decide | (simp; done) | exact Nat.le_refl _)); kernel_rfl; exact rfl)) | (apply ar_call; kernel_rfl; exact (pi2); exact rfl)); (first | refine ar_nrm (k := ?_) | refine dr_nrm (k := ?_))) | ((first | apply ar_gy | apply dr_gy); exact rfl; exact bdOk) | (first | (apply awp_cond_t; exact rfl; exact bdOk) | (apply awp_cond_f; exact rfl; exact bdOk)) | fail))
          (refine pre_zero ⟨[], by simp, by simp, ?_⟩; refine lkr_nrm (k := ?_); refine le_mk hsLe ?_; (repeat (first | exact AVs.le.nil | (with_reducible refine AVs.le.top _ ?_) | (with_reducible refine AVs.le.eq _ ?_) | refine AVs.le.eqv ?_ ?_)))
  · refine nh_nrm (k := ?_)
    refine awp_part 3 0 (Nat.le_of_eq hm0) rfl [0] [] [] 0 rfl ?_ ?_
    · (repeat' (first | refine pre_seq ?_ | (first | refine awp_seq ?_ | refine awp_region ?_ | refine awp_block ?_ | refine awp_exit ?_ | refine awp_ret ?_ | refine awp_skip ?_ | refine ar_nil ?_ | refine dr_nil ?_ | (first | refine t_norm ?_ | refine t_exit ?_ | refine t_ret ?_ | refine b_norm ?_ | refine b_exit ?_ | refine b_exit_ne rfl ?_ | refine b_ret ?_)) | ((first | ((first | apply ar_q | apply dr_q); exact qOp1) | ((first | apply ar_gu | apply dr_gu); exact rfl) | ((first | apply ar_gn | apply dr_gn); exact rfl; exact bdOk) | (apply ar_callE; kernel_rfl; exact (ACallsE.sv fun v => draw_Water v l hl); (focus (intro x; exact rfl)); (rintro ⟨y1, y2⟩ hx; (try dsimp only at hx)))); (first | refine ar_nrm (k := ?_) | refine dr_nrm (k := ?_))) | ((first | apply ar_gy | apply dr_gy); exact rfl; exact bdOk) | (first | (apply awp_cond_t; exact rfl; exact bdOk) | (apply awp_cond_f; exact rfl; exact bdOk)) | fail))
      revert y1 y2
      intro x cs ⟨hx, hcs⟩
      (repeat' (first | refine pre_seq ?_ | (first | refine awp_seq ?_ | refine awp_region ?_ | refine awp_block ?_ | refine awp_exit ?_ | refine awp_ret ?_ | refine awp_skip ?_ | refine ar_nil ?_ | refine dr_nil ?_ | (refine awp_region_draw ?_ ?_ ?_; kernel_rfl; kernel_rfl) | (first | refine t_norm ?_ | refine t_exit ?_ | refine t_ret ?_ | refine b_norm ?_ | refine b_exit ?_ | refine b_exit_ne rfl ?_ | refine b_ret ?_)) | ((first | ((first | apply ar_q | apply dr_q); exact qOp1) | ((first | apply ar_gu | apply dr_gu); exact rfl) | ((first | apply ar_gn | apply dr_gn); exact rfl; exact bdOk) | (first | (apply ar_box; exact rfl) | (apply ar_store; exact rfl; exact rfl; exact rfl; (focus (first | decide | (simp; done) | exact Nat.le_refl _)); kernel_rfl; exact rfl)) | (apply ar_alloc (ys := ([.int .i64 0, .int .i64 0, .int .i64 0, .bool false, .bool false, .bool false, .bool false] : List Value)); kernel_rfl) | ((first | apply ar_qt | apply dr_qt); (focus (apply qt_call; kernel_rfl; exact (k_drawn_i x cs); exact rfl))) | ((first | apply ar_qt | apply dr_qt); (focus (apply qt_call; kernel_rfl; exact (k_drawn_s x cs); exact rfl)))); (first | refine ar_nrm (k := ?_) | refine dr_nrm (k := ?_))) | ((first | apply ar_gy | apply dr_gy); exact rfl; exact bdOk) | (first | (apply awp_cond_t; exact rfl; exact bdOk) | (apply awp_cond_f; exact rfl; exact bdOk)) | fail))
      (refine pre_zero ⟨[], by simp, by simp, ?_⟩; refine lkr_nrm (k := ?_); refine le_mk hsLe ?_; (repeat (first | exact AVs.le.nil | (with_reducible refine AVs.le.top _ ?_) | (with_reducible refine AVs.le.eq _ ?_) | refine AVs.le.eqv ?_ ?_)))
    · refine nh_nrm (k := ?_)
      (repeat' (first | refine pre_seq ?_ | (first | refine awp_seq ?_ | refine awp_region ?_ | refine awp_block ?_ | refine awp_exit ?_ | refine awp_ret ?_ | refine awp_skip ?_ | refine ar_nil ?_ | refine dr_nil ?_ | (refine awp_region_draw ?_ ?_ ?_; kernel_rfl; kernel_rfl) | (first | refine t_norm ?_ | refine t_exit ?_ | refine t_ret ?_ | refine b_norm ?_ | refine b_exit ?_ | refine b_exit_ne rfl ?_ | refine b_ret ?_)) | ((first | ((first | apply ar_q | apply dr_q); exact qOp1) | ((first | apply ar_gu | apply dr_gu); exact rfl) | ((first | apply ar_gn | apply dr_gn); exact rfl; exact bdOk) | (apply ar_callE; kernel_rfl; exact (ACallsE.sv fun v => draw_Head v l hl); (focus (intro x; exact rfl)); (rintro ⟨y1, y2⟩ hx; (try dsimp only at hx)))); (first | refine ar_nrm (k := ?_) | refine dr_nrm (k := ?_))) | ((first | apply ar_gy | apply dr_gy); exact rfl; exact bdOk) | (first | (apply awp_cond_t; exact rfl; exact bdOk) | (apply awp_cond_f; exact rfl; exact bdOk)) | fail))
      revert y1 y2
      intro x b hx
      (repeat' (first | refine pre_seq ?_ | (first | refine awp_seq ?_ | refine awp_region ?_ | refine awp_block ?_ | refine awp_exit ?_ | refine awp_ret ?_ | refine awp_skip ?_ | refine ar_nil ?_ | refine dr_nil ?_ | (refine awp_region_draw ?_ ?_ ?_; kernel_rfl; kernel_rfl) | (first | refine t_norm ?_ | refine t_exit ?_ | refine t_ret ?_ | refine b_norm ?_ | refine b_exit ?_ | refine b_exit_ne rfl ?_ | refine b_ret ?_)) | ((first | ((first | apply ar_q | apply dr_q); exact qOp1) | ((first | apply ar_gu | apply dr_gu); exact rfl) | ((first | apply ar_gn | apply dr_gn); exact rfl; exact bdOk) | (first | (apply ar_box; exact rfl) | (apply ar_store; exact rfl; exact rfl; exact rfl; (focus (first | decide | (simp; done) | exact Nat.le_refl _)); kernel_rfl; exact rfl)) | (apply ar_alloc (ys := ([.int .i64 0, .int .i64 0, .int .i64 0, .bool false, .bool false, .bool false, .bool false] : List Value)); kernel_rfl) | ((first | apply ar_qt | apply dr_qt); (focus (apply qt_call; kernel_rfl; exact (k_head_i x b); exact rfl))) | ((first | apply ar_qt | apply dr_qt); (focus (apply qt_call; kernel_rfl; exact (k_head_s x b); exact rfl)))); (first | refine ar_nrm (k := ?_) | refine dr_nrm (k := ?_))) | ((first | apply ar_gy | apply dr_gy); exact rfl; exact bdOk) | (first | (apply awp_cond_t; exact rfl; exact bdOk) | (apply awp_cond_f; exact rfl; exact bdOk)) | fail))
      refine ⟨.inr rfl, aend_mk [] rfl (by simp) (by first | (simp; done) | (simp; omega)) (ares_tmp2 _ rfl ?_ ares_nil) rfl rfl⟩
      exact pb (by simp)
set_option maxRecDepth 20000 in
theorem law_Plans_big (l : List Int) (hl : l.length ≤ 9223372036854775807) (hb : 65536 < l.length) : ACalls Try.prog 12 [.c (.sl 5 .ro (bts l))] [] (.c (.p (.bool (true)))) [] 0 := by
  refine acalls_of (ws := [.c (.p (.bool (true)))]) Try.func12 rfl rfl rfl rfl fun w0 B m hm0 => ?_; (refine awp_norm (τ := ?_) ?_ ?_; rotate_left; (focus (simp only [AV.top, Try.ntmps12, List.length_cons, List.length_nil, Nat.reduceAdd, Nat.reduceSub, List.replicate_succ, List.replicate_zero, List.cons_append, List.nil_append]; exact rfl)))
  (repeat' (first | (first | refine awp_seq ?_ | refine awp_region ?_ | refine awp_block ?_ | refine awp_exit ?_ | refine awp_ret ?_ | refine awp_skip ?_ | refine ar_nil ?_ | refine dr_nil ?_ | (first | refine t_norm ?_ | refine t_exit ?_ | refine t_ret ?_ | refine b_norm ?_ | refine b_exit ?_ | refine b_exit_ne rfl ?_ | refine b_ret ?_)) | ((first | ((first | apply ar_q | apply dr_q); exact qOp1) | ((first | apply ar_gu | apply dr_gu); exact rfl) | ((first | apply ar_gn | apply dr_gn); exact rfl; exact bdOk) | ((first | apply ar_qt | apply dr_qt); (focus (apply qt_call; kernel_rfl; exact (law_vBig l hl true (decide_eq_true hb)); exact rfl)))); (first | refine ar_nrm (k := ?_) | refine dr_nrm (k := ?_))) | ((first | apply ar_gy | apply dr_gy); exact rfl; exact bdOk) | (first | (apply awp_cond_t; exact rfl; exact bdOk) | (apply awp_cond_f; exact rfl; exact bdOk)) | fail))
  refine ⟨.inr rfl, aend_mk [] rfl (by simp) (by first | (simp; done) | (simp; omega)) (ares_tmp2 _ rfl ?_ ares_nil) rfl rfl⟩
  exact rfl
theorem fnLockPlans_walk (v : Value) (l : List Int) (hok : ∀ x ∈ l, (Lit.int .u8 x).wf = true) (hl : l.length ≤ 9223372036854775807) (w : World) (hr : ∀ B, RepC Try.prog (E0 B []) w (.sl 5 .ro (bts l)) v) : Calls Try.prog 12 #[v] w fun e w' => e = .returned (.bool true) ∧ Below w.heap.size w w' := by
  by_cases hb : 65536 < l.length
  · exact (law_Plans_big l hl hb).calls rfl ⟨hr _, trivial⟩
  · exact (law_Plans l ⟨by omega, fun x hx => by have := hok x hx; simp [Lit.wf] at this; exact this⟩).calls rfl ⟨hr _, trivial⟩
end Go.Proofs.Ytadjkldpflidhaa
