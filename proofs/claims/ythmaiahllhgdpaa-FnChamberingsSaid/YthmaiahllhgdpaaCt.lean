/- LockagesInOrder on both sides, its law. -/
import Derived.Test.YthmaiahllhgdpaaCt0




namespace Go.Proofs.Ythmaiahllhgdpaa
open Go.RowKit
set_option linter.unusedVariables false
set_option linter.unusedSimpArgs false
attribute [local irreducible] AR DR AWp QOp Qt ACalls ARes Exit.thenA Exit.inBlockA
attribute [local irreducible] AG0 AG AGs
def ordF (c : Chamber_) (hs : List Hull_) : Option (List Nat) := if chF c = true ∧ hullsF hs = true then (ordTo (fitP c hs) hs.length).map fun x => x.2.2 else none
theorem ordF_no {c : Chamber_} {hs : List Hull_} (h : chF c = false ∨ hullsF hs = false) : ordF c hs = none := by
  rw [ordF, if_neg]; rintro ⟨h1, h2⟩; rw [h1, h2] at h; simp at h
theorem ordF_yes {c : Chamber_} {hs : List Hull_} (hc : chF c = true) (hh : hullsF hs = true) : ordF c hs = (ordTo (fitP c hs) hs.length).map fun x => x.2.2 := if_pos ⟨hc, hh⟩
def inW : Option (List Nat) → List AW
  | some out => [.c (.sl 3 (.own 0) (nats (out))), .c (.p (.bool true))]
  | none => [.c .nl, .c (.p (.bool false))]
def inK : Option (List Nat) → Nat
  | some _ => 1
  | none => 0
def inL (v : Option (List Nat)) : List Nat := v.getD []
set_option maxHeartbeats 4000000 in
theorem spec_LockagesInOrder (c : Chamber_) (hs : List Hull_) (hl : hs.length ≤ 1048576) : ACalls Try.prog 42 [.agg [.p (.int .i64 (c).ln), .p (.int .i64 (c).wd)], .c (.sl 40 .ro (hulls hs))] [] (.tup [.c (.sl 3 (.own 0) (nats (inL (ordF c hs)))), .c (.p (.bool (ordF c hs).isSome))]) [] 1 := by
  have hl1 : (hulls hs).length = hs.length := by simp [hulls]
  have hg := spec_l4Good hs hl
  have hch := spec_l4Chamber c
  cases hc : chF c with
  | false =>
    rw [hc] at hch
    rw [ordF_no (.inl hc)]
    refine acalls_of (ws := [.c (.sl 3 (.own 0) (nats (inL ((none : Option (List Nat)))))), .c (.p (.bool ((none : Option (List Nat))).isSome))]) Try.func42 rfl rfl rfl rfl fun w0 B m hm0 => ?_; (refine awp_norm (τ := ?_) ?_ ?_; rotate_left; (focus (simp only [AV.top, Try.ntmps42, List.length_cons, List.length_nil, Nat.reduceAdd, Nat.reduceSub, List.replicate_succ, List.replicate_zero, List.cons_append, List.nil_append]; exact rfl)))
    (repeat (first | (first | refine awp_seq ?_ | refine awp_region ?_ | refine awp_block ?_ | refine awp_exit ?_ | refine awp_ret ?_ | refine awp_skip ?_ | refine ar_nil ?_ | refine dr_nil ?_ | (refine awp_region_draw ?_ ?_ ?_; kernel_rfl; kernel_rfl) | (first | refine t_norm ?_ | refine t_exit ?_ | refine t_ret ?_ | refine b_norm ?_ | refine b_exit ?_ | refine b_exit_ne rfl ?_ | refine b_ret ?_)) | ((first | ((first | apply ar_q | apply dr_q); exact qOp1) | ((first | apply ar_gu | apply dr_gu); exact rfl) | ((first | apply ar_gn | apply dr_gn); exact rfl; exact bdOk) | (first | (apply ar_box; exact rfl) | (apply ar_store; exact rfl; exact rfl; exact rfl; (focus (first | decide | (simp; done) | exact Nat.le_refl _)); kernel_rfl; exact rfl)) | ((first | apply ar_qt | apply dr_qt); (focus (apply qt_call; kernel_rfl; exact (hch); exact rfl))) | (apply ar_bslice (e := 3) 1; kernel_rfl; (focus (decide +kernel)); kernel_rfl; exact rfl; exact rfl; exact rfl; exact rfl; decide)); (first | refine ar_nrm (k := ?_) | refine dr_nrm (k := ?_))) | ((first | apply ar_gy | apply dr_gy); exact rfl; exact bdOk) | (first | (apply awp_cond_t; exact rfl; exact bdOk) | (apply awp_cond_f; exact rfl; exact bdOk)) | fail))
    refine ⟨.inr rfl, aend_mk [0] rfl (by simp) (by first | (simp; done) | (simp; omega)) (ares_tmp2 _ rfl ?_ (ares_tmp2 _ rfl ?_ ares_nil)) rfl rfl⟩ <;> exact rfl
  | true =>
    rw [hc] at hch
    cases hh : hullsF hs with
    | false =>
      rw [hh] at hg
      rw [ordF_no (.inr hh)]
      refine acalls_of (ws := [.c (.sl 3 (.own 0) (nats (inL ((none : Option (List Nat)))))), .c (.p (.bool ((none : Option (List Nat))).isSome))]) Try.func42 rfl rfl rfl rfl fun w0 B m hm0 => ?_; (refine awp_norm (τ := ?_) ?_ ?_; rotate_left; (focus (simp only [AV.top, Try.ntmps42, List.length_cons, List.length_nil, Nat.reduceAdd, Nat.reduceSub, List.replicate_succ, List.replicate_zero, List.cons_append, List.nil_append]; exact rfl)))
      (repeat (first | (first | refine awp_seq ?_ | refine awp_region ?_ | refine awp_block ?_ | refine awp_exit ?_ | refine awp_ret ?_ | refine awp_skip ?_ | refine ar_nil ?_ | refine dr_nil ?_ | (refine awp_region_draw ?_ ?_ ?_; kernel_rfl; kernel_rfl) | (first | refine t_norm ?_ | refine t_exit ?_ | refine t_ret ?_ | refine b_norm ?_ | refine b_exit ?_ | refine b_exit_ne rfl ?_ | refine b_ret ?_)) | ((first | ((first | apply ar_q | apply dr_q); exact qOp1) | ((first | apply ar_gu | apply dr_gu); exact rfl) | ((first | apply ar_gn | apply dr_gn); exact rfl; exact bdOk) | (first | (apply ar_box; exact rfl) | (apply ar_store; exact rfl; exact rfl; exact rfl; (focus (first | decide | (simp; done) | exact Nat.le_refl _)); kernel_rfl; exact rfl)) | ((first | apply ar_qt | apply dr_qt); (focus (apply qt_call; kernel_rfl; exact (hch); exact rfl))) | ((first | apply ar_qt | apply dr_qt); (focus (apply qt_call; kernel_rfl; exact (hg); exact rfl))) | (apply ar_bslice (e := 3) 1; kernel_rfl; (focus (decide +kernel)); kernel_rfl; exact rfl; exact rfl; exact rfl; exact rfl; decide)); (first | refine ar_nrm (k := ?_) | refine dr_nrm (k := ?_))) | ((first | apply ar_gy | apply dr_gy); exact rfl; exact bdOk) | (first | (apply awp_cond_t; exact rfl; exact bdOk) | (apply awp_cond_f; exact rfl; exact bdOk)) | fail))
      refine ⟨.inr rfl, aend_mk [0] rfl (by simp) (by first | (simp; done) | (simp; omega)) (ares_tmp2 _ rfl ?_ (ares_tmp2 _ rfl ?_ ares_nil)) rfl rfl⟩ <;> exact rfl
    | true =>
      rw [hh] at hg
      have h4 := (hullsF_iff.1 hh).2.2
      have hoy := ordF_yes hc hh
      refine acalls_of (ws := [.c (.sl 3 (.own 0) (nats (inL (ordF c hs)))), .c (.p (.bool (ordF c hs).isSome))]) Try.func42 rfl rfl rfl rfl fun w0 B m hm0 => ?_; (refine awp_norm (τ := ?_) ?_ ?_; rotate_left; (focus (simp only [AV.top, Try.ntmps42, List.length_cons, List.length_nil, Nat.reduceAdd, Nat.reduceSub, List.replicate_succ, List.replicate_zero, List.cons_append, List.nil_append]; exact rfl)))
      (repeat (first | (first | refine awp_seq ?_ | refine awp_region ?_ | refine awp_block ?_ | refine awp_exit ?_ | refine awp_ret ?_ | refine awp_skip ?_ | refine ar_nil ?_ | refine dr_nil ?_ | (refine awp_region_draw ?_ ?_ ?_; kernel_rfl; kernel_rfl) | (first | refine t_norm ?_ | refine t_exit ?_ | refine t_ret ?_ | refine b_norm ?_ | refine b_exit ?_ | refine b_exit_ne rfl ?_ | refine b_ret ?_)) | ((first | ((first | apply ar_q | apply dr_q); exact qOp1) | ((first | apply ar_gu | apply dr_gu); exact rfl) | ((first | apply ar_gn | apply dr_gn); exact rfl; exact bdOk) | (first | (apply ar_box; exact rfl) | (apply ar_store; exact rfl; exact rfl; exact rfl; (focus (first | decide | (simp; done) | exact Nat.le_refl _)); kernel_rfl; exact rfl)) | ((first | apply ar_qt | apply dr_qt); (focus (apply qt_call; kernel_rfl; exact (hch); exact rfl))) | ((first | apply ar_qt | apply dr_qt); (focus (apply qt_call; kernel_rfl; exact (hg); exact rfl))) | (apply ar_bslice (e := 3) 1; kernel_rfl; (focus (decide +kernel)); kernel_rfl; exact rfl; exact rfl; exact rfl; exact rfl; decide)); (first | refine ar_nrm (k := ?_) | refine dr_nrm (k := ?_))) | ((first | apply ar_gy | apply dr_gy); exact rfl; exact bdOk) | (first | (apply awp_cond_t; exact rfl; exact bdOk) | (apply awp_cond_f; exact rfl; exact bdOk)) | fail))
      refine awp_loopR 1 (Nat.le_trans (Nat.le_of_eq hm0) (Nat.zero_le 1)) rfl [1, 2] (fun s : Nat × Nat × Nat × List Nat => [(6, .c (.sl 3 (.own 0) (nats (s.2.2.2)))), (7, .c (.p (.int .i64 s.2.1))), (8, .c (.p (.int .i64 s.2.2.1))), (9, .c (.p (.int .i64 s.1)))]) (fun _ => [[.p (.int .i64 (c).ln), .p (.int .i64 (c).wd)]]) (fun _ => 1) (fun q s => s.1 ≤ hs.length ∧ ordTo (fitP c hs) s.1 = some (s.2.1, s.2.2.1, s.2.2.2) ∧ q = hs.length - s.1) _ (0, 0, 0, []) ⟨by omega, rfl, rfl⟩ ?_ ?_
      · refine le_nrm (k := ?_); refine le_mk hsLe ?_; (repeat (first | exact AVs.le.nil | (with_reducible refine AVs.le.top _ ?_) | (with_reducible refine AVs.le.eq _ ?_) | refine AVs.le.eqv ?_ ?_)) <;> first | exact rfl | exact pi (by omega)
      rintro q ⟨i, l, b, out⟩ ⟨g1, g2, rfl⟩
      dsimp only at g1 g2
      refine nh_nrm (k := ?_)
      have hlen := ordTo_len g2
      by_cases hi : i < hs.length
      · have hf1 := spec_l4Fits c (partH hs i (i + 1)) hc (hullsF_sub (partH_sub _ _ _) hh)
        have hf2 := spec_l4Fits c (partH hs b (i + 1)) hc (hullsF_sub (partH_sub _ _ _) hh)
        rw [partH_hulls (x := (i : Int)) (y := (i : Int) + 1) rfl (by omega)] at hf1
        rw [partH_hulls (x := (b : Int)) (y := (i : Int) + 1) rfl (by omega)] at hf2
        cases ha : fitP c hs i (i + 1) with
        | false =>
          have ha' := ha
          rw [fitP] at ha'
          rw [ha'] at hf1
          have e : ordTo (fitP c hs) hs.length = none := by
            have := ordTo_none (ordTo_no ha) (hs.length - (i + 1))
            rwa [show i + 1 + (hs.length - (i + 1)) = hs.length by omega] at this
          (repeat' (first | (first | refine awp_seq ?_ | refine awp_region ?_ | refine awp_block ?_ | refine awp_exit ?_ | refine awp_ret ?_ | refine awp_skip ?_ | refine ar_nil ?_ | refine dr_nil ?_ | (first | refine t_norm ?_ | refine t_exit ?_ | refine t_ret ?_ | refine b_norm ?_ | refine b_exit ?_ | refine b_exit_ne rfl ?_ | refine b_ret ?_)) | ((first | (first | ((first | apply ar_q | apply dr_q); exact qOp1) | (apply ag0_take; exact rfl; rotate_left 3; (focus (decide +kernel)); (focus (first | exact .inl rfl | (refine .inr ⟨_, _, _, rfl, rfl, ?_⟩; exact bdOk))); exact qOp1; rotate_left 1; kernel_rfl; (focus (decide +kernel)); (focus (decide +kernel)))) | ((first | apply ar_gu | apply dr_gu); exact rfl) | ((first | apply ar_gn | apply dr_gn); exact rfl; exact bdOk) | (apply ag0_miss; (focus (exact rfl)); (focus (kernel_rfl)); (focus (decide +kernel)); (focus (decide +kernel)); (focus (decide +kernel)); (focus (first | exact .inr rfl | (refine .inl ⟨_, rfl, ?_⟩; exact bdOk)))) | (first | (apply ar_box; exact rfl) | (apply ar_store; exact rfl; exact rfl; exact rfl; (focus (first | decide | (simp; done) | exact Nat.le_refl _)); kernel_rfl; exact rfl)) | ((first | apply ar_qt | apply dr_qt); (focus (apply qt_call; kernel_rfl; exact (hf1); exact rfl))) | (apply ar_bslice (e := 3) 1; kernel_rfl; (focus (decide +kernel)); kernel_rfl; exact rfl; exact rfl; exact rfl; exact rfl; decide)); (first | refine ar_nrm (k := ?_) | refine dr_nrm (k := ?_) | refine ag0_nrm (k := ?_))) | ((first | apply ar_gy | apply dr_gy); exact rfl; exact bdOk) | (first | (apply awp_cond_t; exact rfl; exact bdOk) | (apply awp_cond_f; exact rfl; exact bdOk)) | ((first | apply ar_gs | apply dr_gs | apply awp_cond); (focus (exact rfl)); (all_goals (intro hc; (try simp only [decide_eq_true_eq, decide_eq_false_iff_not, Bool.not_eq_true', Bool.not_eq_false', Bool.not_true, Bool.not_false, bne_iff_ne, bne_eq_false_iff_eq, beq_iff_eq, beq_eq_false_iff_ne, ne_eq, Bool.cond_true_left, Bool.cond_false_right, Bool.or_eq_true, Bool.and_eq_true] at hc)))) | exact ags_nil | exact als_nil | ((first | apply ags_no | apply als_no); (focus (decide +kernel))) | (apply ags_yes; (focus (exact rfl)); (focus (kernel_rfl))) | (apply als_yes; (focus (exact rfl)); (focus (decide +kernel))) | (((first | (apply ag_done []; (focus (exact rfl)); (focus (decide +kernel))) | (apply ag_done [0]; (focus (exact rfl)); (focus (decide +kernel))) | (apply ag_done [0, 1]; (focus (exact rfl)); (focus (decide +kernel))) | (apply ag_done [0, 1, 2]; (focus (exact rfl)); (focus (decide +kernel))) | (apply ag_late []; (focus (decide +kernel)); (focus (exact rfl))) | (apply ag_late [0]; (focus (decide +kernel)); (focus (exact rfl))) | (apply ag_late [0, 1]; (focus (decide +kernel)); (focus (exact rfl))) | (apply ag_late [0, 1, 2]; (focus (decide +kernel)); (focus (exact rfl))))); (focus (decide)); (focus (first | decide | (simp; done))); (focus (simp only [AS.back, backT, Nat.reduceAdd, Nat.zero_add, Nat.add_zero, List.elem, List.idxOf, List.findIdx, List.findIdx.go, Nat.reduceBEq, beq_self_eq_true, reduceIte, if_true, if_false, Bool.false_eq_true, cond_true, cond_false, AV.bk, AW.bk, AC.bk, List.map_cons, List.map_nil, List.length_cons, List.length_nil, List.append_nil, List.nil_append, List.cons_append, AV.top]; exact rfl))) | (apply al_done; (focus (decide +kernel))) | ((first | apply ag_all | apply al_all); (focus (simp only [idxs, Nat.reduceAdd]; exact rfl)); (focus (decide +kernel))) | (refine fun w1 B1 => ?_) | (refine ⟨rfl, ?_⟩; (first | apply ag_norm | apply al_norm); (focus (simp only [List.set_cons_succ, List.set_cons_zero]; exact rfl))) | (apply awp_region_any; (focus (kernel_rfl)); (focus (intro c σ h; simp [Exit.thenA, Exit.inBlockA] at h)); (focus (simp only [idxs, Nat.reduceAdd]; exact rfl)); (focus (simp only [List.map_cons, List.map_nil]; exact rfl)); (focus (exact rfl))) | apply ag0_skip | (apply ag0_done; (focus (decide +kernel))) | (apply ag0_late; (focus (decide +kernel))) | (apply ag_start; (focus (simp only [dsOf, List.zip_cons_cons, List.zip_nil_left, List.filter_cons, List.filter_nil, List.filterMap_cons, List.filterMap_nil, Bool.not_true, Bool.not_false, Bool.false_eq_true, if_true, if_false, reduceIte]; exact rfl)); (focus (simp only [AS.inn, List.map_cons, List.map_nil, AV.roB, plainB, plainC, rpO, Option.map_some, List.drop_zero, List.drop_succ_cons, AW.ro, AC.ro, AV.top]; exact rfl)))))
          all_goals
            refine ⟨.inr rfl, aend_mk [1] rfl (by simp) (by first | (simp; done) | (simp; omega)) (ares_tmp2 _ rfl ?_ (ares_tmp2 _ rfl ?_ ares_nil)) rfl rfl⟩
            · exact pl (by rw [hoy, e]; rfl)
            · exact pb (by rw [hoy, e]; rfl)
        | true =>
          have ha' := ha
          rw [fitP] at ha'
          rw [ha'] at hf1
          cases hb : fitP c hs b (i + 1) with
          | false =>
            have hb' := hb
            rw [fitP] at hb'
            rw [hb'] at hf2
            (repeat' (first | (first | refine awp_seq ?_ | refine awp_region ?_ | refine awp_block ?_ | refine awp_exit ?_ | refine awp_ret ?_ | refine awp_skip ?_ | refine ar_nil ?_ | refine dr_nil ?_ | (first | refine t_norm ?_ | refine t_exit ?_ | refine t_ret ?_ | refine b_norm ?_ | refine b_exit ?_ | refine b_exit_ne rfl ?_ | refine b_ret ?_)) | ((first | (first | ((first | apply ar_q | apply dr_q); exact qOp1) | (apply ag0_take; exact rfl; rotate_left 3; (focus (decide +kernel)); (focus (first | exact .inl rfl | (refine .inr ⟨_, _, _, rfl, rfl, ?_⟩; exact bdOk))); exact qOp1; rotate_left 1; kernel_rfl; (focus (decide +kernel)); (focus (decide +kernel)))) | ((first | apply ar_gu | apply dr_gu); exact rfl) | ((first | apply ar_gn | apply dr_gn); exact rfl; exact bdOk) | (apply ag0_miss; (focus (exact rfl)); (focus (kernel_rfl)); (focus (decide +kernel)); (focus (decide +kernel)); (focus (decide +kernel)); (focus (first | exact .inr rfl | (refine .inl ⟨_, rfl, ?_⟩; exact bdOk)))) | (first | (apply ar_box; exact rfl) | (apply ar_store; exact rfl; exact rfl; exact rfl; (focus (first | decide | (simp; done) | exact Nat.le_refl _)); kernel_rfl; exact rfl)) | ((first | apply ar_qt | apply dr_qt); (focus (apply qt_call; kernel_rfl; exact (hf1); exact rfl))) | ((first | apply ar_qt | apply dr_qt); (focus (apply qt_call; kernel_rfl; exact (hf2); exact rfl))) | (apply ar_bslice (e := 3) 1; kernel_rfl; (focus (decide +kernel)); kernel_rfl; exact rfl; exact rfl; exact rfl; exact rfl; decide) | (apply ar_append; kernel_rfl; kernel_rfl; exact rfl; exact rfl; exact ((by first | exact its_ok _ | exact its_one _)); (focus ((rw [nats_len]; simp; omega))); exact rfl)); (first | refine ar_nrm (k := ?_) | refine dr_nrm (k := ?_) | refine ag0_nrm (k := ?_))) | ((first | apply ar_gy | apply dr_gy); exact rfl; exact bdOk) | (first | (apply awp_cond_t; exact rfl; exact bdOk) | (apply awp_cond_f; exact rfl; exact bdOk)) | ((first | apply ar_gs | apply dr_gs | apply awp_cond); (focus (exact rfl)); (all_goals (intro hc; (try simp only [decide_eq_true_eq, decide_eq_false_iff_not, Bool.not_eq_true', Bool.not_eq_false', Bool.not_true, Bool.not_false, bne_iff_ne, bne_eq_false_iff_eq, beq_iff_eq, beq_eq_false_iff_ne, ne_eq, Bool.cond_true_left, Bool.cond_false_right, Bool.or_eq_true, Bool.and_eq_true] at hc)))) | exact ags_nil | exact als_nil | ((first | apply ags_no | apply als_no); (focus (decide +kernel))) | (apply ags_yes; (focus (exact rfl)); (focus (kernel_rfl))) | (apply als_yes; (focus (exact rfl)); (focus (decide +kernel))) | (((first | (apply ag_done []; (focus (exact rfl)); (focus (decide +kernel))) | (apply ag_done [0]; (focus (exact rfl)); (focus (decide +kernel))) | (apply ag_done [0, 1]; (focus (exact rfl)); (focus (decide +kernel))) | (apply ag_done [0, 1, 2]; (focus (exact rfl)); (focus (decide +kernel))) | (apply ag_late []; (focus (decide +kernel)); (focus (exact rfl))) | (apply ag_late [0]; (focus (decide +kernel)); (focus (exact rfl))) | (apply ag_late [0, 1]; (focus (decide +kernel)); (focus (exact rfl))) | (apply ag_late [0, 1, 2]; (focus (decide +kernel)); (focus (exact rfl))))); (focus (decide)); (focus (first | decide | (simp; done))); (focus (simp only [AS.back, backT, Nat.reduceAdd, Nat.zero_add, Nat.add_zero, List.elem, List.idxOf, List.findIdx, List.findIdx.go, Nat.reduceBEq, beq_self_eq_true, reduceIte, if_true, if_false, Bool.false_eq_true, cond_true, cond_false, AV.bk, AW.bk, AC.bk, List.map_cons, List.map_nil, List.length_cons, List.length_nil, List.append_nil, List.nil_append, List.cons_append, AV.top]; exact rfl))) | (apply al_done; (focus (decide +kernel))) | ((first | apply ag_all | apply al_all); (focus (simp only [idxs, Nat.reduceAdd]; exact rfl)); (focus (decide +kernel))) | (refine fun w1 B1 => ?_) | (refine ⟨rfl, ?_⟩; (first | apply ag_norm | apply al_norm); (focus (simp only [List.set_cons_succ, List.set_cons_zero]; exact rfl))) | (apply awp_region_any; (focus (kernel_rfl)); (focus (intro c σ h; simp [Exit.thenA, Exit.inBlockA] at h)); (focus (simp only [idxs, Nat.reduceAdd]; exact rfl)); (focus (simp only [List.map_cons, List.map_nil]; exact rfl)); (focus (exact rfl))) | apply ag0_skip | (apply ag0_done; (focus (decide +kernel))) | (apply ag0_late; (focus (decide +kernel))) | (apply ag_start; (focus (simp only [dsOf, List.zip_cons_cons, List.zip_nil_left, List.filter_cons, List.filter_nil, List.filterMap_cons, List.filterMap_nil, Bool.not_true, Bool.not_false, Bool.false_eq_true, if_true, if_false, reduceIte]; exact rfl)); (focus (simp only [AS.inn, List.map_cons, List.map_nil, AV.roB, plainB, plainC, rpO, Option.map_some, List.drop_zero, List.drop_succ_cons, AW.ro, AC.ro, AV.top]; exact rfl)))))
            all_goals
              refine ⟨_, (i + 1, l + 1, i, out ++ [l + 1]), [0], ?_, ⟨?_, ordTo_new g2 ha hb, rfl⟩, by simp, by simp, ?_⟩
              · dsimp only; omega
              · dsimp only; omega
              · refine lkr_nrm (k := ?_); refine le_mk hsLe ?_; (repeat (first | exact AVs.le.nil | (with_reducible refine AVs.le.top _ ?_) | (with_reducible refine AVs.le.eq _ ?_) | refine AVs.le.eqv ?_ ?_)) <;> first | exact rfl | exact pi (by omega) | exact pl (nats_put _ _)
          | true =>
            have hb' := hb
            rw [fitP] at hb'
            rw [hb'] at hf2
            (repeat' (first | (first | refine awp_seq ?_ | refine awp_region ?_ | refine awp_block ?_ | refine awp_exit ?_ | refine awp_ret ?_ | refine awp_skip ?_ | refine ar_nil ?_ | refine dr_nil ?_ | (first | refine t_norm ?_ | refine t_exit ?_ | refine t_ret ?_ | refine b_norm ?_ | refine b_exit ?_ | refine b_exit_ne rfl ?_ | refine b_ret ?_)) | ((first | (first | ((first | apply ar_q | apply dr_q); exact qOp1) | (apply ag0_take; exact rfl; rotate_left 3; (focus (decide +kernel)); (focus (first | exact .inl rfl | (refine .inr ⟨_, _, _, rfl, rfl, ?_⟩; exact bdOk))); exact qOp1; rotate_left 1; kernel_rfl; (focus (decide +kernel)); (focus (decide +kernel)))) | ((first | apply ar_gu | apply dr_gu); exact rfl) | ((first | apply ar_gn | apply dr_gn); exact rfl; exact bdOk) | (apply ag0_miss; (focus (exact rfl)); (focus (kernel_rfl)); (focus (decide +kernel)); (focus (decide +kernel)); (focus (decide +kernel)); (focus (first | exact .inr rfl | (refine .inl ⟨_, rfl, ?_⟩; exact bdOk)))) | (first | (apply ar_box; exact rfl) | (apply ar_store; exact rfl; exact rfl; exact rfl; (focus (first | decide | (simp; done) | exact Nat.le_refl _)); kernel_rfl; exact rfl)) | ((first | apply ar_qt | apply dr_qt); (focus (apply qt_call; kernel_rfl; exact (hf1); exact rfl))) | ((first | apply ar_qt | apply dr_qt); (focus (apply qt_call; kernel_rfl; exact (hf2); exact rfl))) | (apply ar_bslice (e := 3) 1; kernel_rfl; (focus (decide +kernel)); kernel_rfl; exact rfl; exact rfl; exact rfl; exact rfl; decide) | (apply ar_append; kernel_rfl; kernel_rfl; exact rfl; exact rfl; exact ((by first | exact its_ok _ | exact its_one _)); (focus ((rw [nats_len]; simp; omega))); exact rfl)); (first | refine ar_nrm (k := ?_) | refine dr_nrm (k := ?_) | refine ag0_nrm (k := ?_))) | ((first | apply ar_gy | apply dr_gy); exact rfl; exact bdOk) | (first | (apply awp_cond_t; exact rfl; exact bdOk) | (apply awp_cond_f; exact rfl; exact bdOk)) | ((first | apply ar_gs | apply dr_gs | apply awp_cond); (focus (exact rfl)); (all_goals (intro hc; (try simp only [decide_eq_true_eq, decide_eq_false_iff_not, Bool.not_eq_true', Bool.not_eq_false', Bool.not_true, Bool.not_false, bne_iff_ne, bne_eq_false_iff_eq, beq_iff_eq, beq_eq_false_iff_ne, ne_eq, Bool.cond_true_left, Bool.cond_false_right, Bool.or_eq_true, Bool.and_eq_true] at hc)))) | exact ags_nil | exact als_nil | ((first | apply ags_no | apply als_no); (focus (decide +kernel))) | (apply ags_yes; (focus (exact rfl)); (focus (kernel_rfl))) | (apply als_yes; (focus (exact rfl)); (focus (decide +kernel))) | (((first | (apply ag_done []; (focus (exact rfl)); (focus (decide +kernel))) | (apply ag_done [0]; (focus (exact rfl)); (focus (decide +kernel))) | (apply ag_done [0, 1]; (focus (exact rfl)); (focus (decide +kernel))) | (apply ag_done [0, 1, 2]; (focus (exact rfl)); (focus (decide +kernel))) | (apply ag_late []; (focus (decide +kernel)); (focus (exact rfl))) | (apply ag_late [0]; (focus (decide +kernel)); (focus (exact rfl))) | (apply ag_late [0, 1]; (focus (decide +kernel)); (focus (exact rfl))) | (apply ag_late [0, 1, 2]; (focus (decide +kernel)); (focus (exact rfl))))); (focus (decide)); (focus (first | decide | (simp; done))); (focus (simp only [AS.back, backT, Nat.reduceAdd, Nat.zero_add, Nat.add_zero, List.elem, List.idxOf, List.findIdx, List.findIdx.go, Nat.reduceBEq, beq_self_eq_true, reduceIte, if_true, if_false, Bool.false_eq_true, cond_true, cond_false, AV.bk, AW.bk, AC.bk, List.map_cons, List.map_nil, List.length_cons, List.length_nil, List.append_nil, List.nil_append, List.cons_append, AV.top]; exact rfl))) | (apply al_done; (focus (decide +kernel))) | ((first | apply ag_all | apply al_all); (focus (simp only [idxs, Nat.reduceAdd]; exact rfl)); (focus (decide +kernel))) | (refine fun w1 B1 => ?_) | (refine ⟨rfl, ?_⟩; (first | apply ag_norm | apply al_norm); (focus (simp only [List.set_cons_succ, List.set_cons_zero]; exact rfl))) | (apply awp_region_any; (focus (kernel_rfl)); (focus (intro c σ h; simp [Exit.thenA, Exit.inBlockA] at h)); (focus (simp only [idxs, Nat.reduceAdd]; exact rfl)); (focus (simp only [List.map_cons, List.map_nil]; exact rfl)); (focus (exact rfl))) | apply ag0_skip | (apply ag0_done; (focus (decide +kernel))) | (apply ag0_late; (focus (decide +kernel))) | (apply ag_start; (focus (simp only [dsOf, List.zip_cons_cons, List.zip_nil_left, List.filter_cons, List.filter_nil, List.filterMap_cons, List.filterMap_nil, Bool.not_true, Bool.not_false, Bool.false_eq_true, if_true, if_false, reduceIte]; exact rfl)); (focus (simp only [AS.inn, List.map_cons, List.map_nil, AV.roB, plainB, plainC, rpO, Option.map_some, List.drop_zero, List.drop_succ_cons, AW.ro, AC.ro, AV.top]; exact rfl)))))
            all_goals
              refine ⟨_, (i + 1, l, b, out ++ [l]), [0], ?_, ⟨?_, ordTo_on g2 ha hb, rfl⟩, by simp, by simp, ?_⟩
              · dsimp only; omega
              · dsimp only; omega
              · refine lkr_nrm (k := ?_); refine le_mk hsLe ?_; (repeat (first | exact AVs.le.nil | (with_reducible refine AVs.le.top _ ?_) | (with_reducible refine AVs.le.eq _ ?_) | refine AVs.le.eqv ?_ ?_)) <;> first | exact rfl | exact pi (by omega) | exact pl (nats_put _ _)
      · obtain rfl : i = hs.length := by omega
        (repeat (first | (first | refine awp_seq ?_ | refine awp_region ?_ | refine awp_block ?_ | refine awp_exit ?_ | refine awp_ret ?_ | refine awp_skip ?_ | refine ar_nil ?_ | refine dr_nil ?_ | (refine awp_region_draw ?_ ?_ ?_; kernel_rfl; kernel_rfl) | (first | refine t_norm ?_ | refine t_exit ?_ | refine t_ret ?_ | refine b_norm ?_ | refine b_exit ?_ | refine b_exit_ne rfl ?_ | refine b_ret ?_)) | ((first | ((first | apply ar_q | apply dr_q); exact qOp1) | ((first | apply ar_gu | apply dr_gu); exact rfl) | ((first | apply ar_gn | apply dr_gn); exact rfl; exact bdOk) | (first | (apply ar_box; exact rfl) | (apply ar_store; exact rfl; exact rfl; exact rfl; (focus (first | decide | (simp; done) | exact Nat.le_refl _)); kernel_rfl; exact rfl))); (first | refine ar_nrm (k := ?_) | refine dr_nrm (k := ?_))) | ((first | apply ar_gy | apply dr_gy); exact rfl; exact bdOk) | (first | (apply awp_cond_t; exact rfl; exact bdOk) | (apply awp_cond_f; exact rfl; exact bdOk)) | fail))
        refine ⟨.inr rfl, aend_mk [0] rfl (by simp) (by first | (simp; done) | (simp; omega)) (ares_tmp2 _ rfl ?_ (ares_tmp2 _ rfl ?_ ares_nil)) rfl rfl⟩
        · exact pl (by rw [hoy, g2]; rfl)
        · exact pb (by rw [hoy, g2]; rfl)
set_option maxHeartbeats 4000000 in
theorem impl_LockagesInOrder (c : Chamber_) (hs : List Hull_) (hl : hs.length ≤ 1048576) : ACallsE Try.prog 43 [.agg [.p (.int .i64 (c).ln), .p (.int .i64 (c).wd)], .c (.sl 40 .ro (hulls hs))] [] (fun x => x = ordF c hs) (fun x => one (inW x)) (fun _ => []) inK := by
  have hl1 : (hulls hs).length = hs.length := by simp [hulls]
  have hcp := impl_canPack c hs hl
  cases hq : (chF c && hullsF hs) with
  | false =>
    rw [hq] at hcp
    refine acallsE_of (ws := inW) (k := inK) (hp' := fun _ => []) Try.func43 rfl (fun x => by cases x <;> rfl) (fun x => by cases x <;> rfl) (fun x => rfl) fun w0 B m hm0 => ?_; (refine awp_norm (τ := ?_) ?_ ?_; rotate_left; (focus (simp only [AV.top, Try.ntmps43, List.length_cons, List.length_nil, Nat.reduceAdd, Nat.reduceSub, List.replicate_succ, List.replicate_zero, List.cons_append, List.nil_append]; exact rfl)))
    (repeat (first | (first | refine awp_seq ?_ | refine awp_region ?_ | refine awp_block ?_ | refine awp_exit ?_ | refine awp_ret ?_ | refine awp_skip ?_ | refine ar_nil ?_ | refine dr_nil ?_ | (refine awp_region_draw ?_ ?_ ?_; kernel_rfl; kernel_rfl) | (first | refine t_norm ?_ | refine t_exit ?_ | refine t_ret ?_ | refine b_norm ?_ | refine b_exit ?_ | refine b_exit_ne rfl ?_ | refine b_ret ?_)) | ((first | ((first | apply ar_q | apply dr_q); exact qOp1) | ((first | apply ar_gu | apply dr_gu); exact rfl) | ((first | apply ar_gn | apply dr_gn); exact rfl; exact bdOk) | (first | (apply ar_box; exact rfl) | (apply ar_store; exact rfl; exact rfl; exact rfl; (focus (first | decide | (simp; done) | exact Nat.le_refl _)); kernel_rfl; exact rfl)) | ((first | apply ar_qt | apply dr_qt); (focus (apply qt_call; kernel_rfl; exact (hcp); exact rfl)))); (first | refine ar_nrm (k := ?_) | refine dr_nrm (k := ?_))) | ((first | apply ar_gy | apply dr_gy); exact rfl; exact bdOk) | (first | (apply awp_cond_t; exact rfl; exact bdOk) | (apply awp_cond_f; exact rfl; exact bdOk)) | fail))
    refine ⟨.inr rfl, none, ?_, aend_mk [] rfl (by simp) (by first | (simp; done) | (simp; omega)) (ares_tmp2 _ rfl ?_ (ares_tmp2 _ rfl ?_ ares_nil)) rfl rfl⟩
    · refine (ordF_no ?_).symm
      cases h1 : chF c with
      | false => exact .inl rfl
      | true => rw [h1] at hq; exact .inr hq
    · exact rfl
    · exact rfl
  | true =>
    have hq' := hq
    rw [Bool.and_eq_true] at hq'
    obtain ⟨hc, hh⟩ := hq'
    rw [hq] at hcp
    have h4 := (hullsF_iff.1 hh).2.2
    have hoy := ordF_yes hc hh
    refine acallsE_of (ws := inW) (k := inK) (hp' := fun _ => []) Try.func43 rfl (fun x => by cases x <;> rfl) (fun x => by cases x <;> rfl) (fun x => rfl) fun w0 B m hm0 => ?_; (refine awp_norm (τ := ?_) ?_ ?_; rotate_left; (focus (simp only [AV.top, Try.ntmps43, List.length_cons, List.length_nil, Nat.reduceAdd, Nat.reduceSub, List.replicate_succ, List.replicate_zero, List.cons_append, List.nil_append]; exact rfl)))
    (repeat (first | (first | refine awp_seq ?_ | refine awp_region ?_ | refine awp_block ?_ | refine awp_exit ?_ | refine awp_ret ?_ | refine awp_skip ?_ | refine ar_nil ?_ | refine dr_nil ?_ | (refine awp_region_draw ?_ ?_ ?_; kernel_rfl; kernel_rfl) | (first | refine t_norm ?_ | refine t_exit ?_ | refine t_ret ?_ | refine b_norm ?_ | refine b_exit ?_ | refine b_exit_ne rfl ?_ | refine b_ret ?_)) | ((first | ((first | apply ar_q | apply dr_q); exact qOp1) | ((first | apply ar_gu | apply dr_gu); exact rfl) | ((first | apply ar_gn | apply dr_gn); exact rfl; exact bdOk) | (first | (apply ar_box; exact rfl) | (apply ar_store; exact rfl; exact rfl; exact rfl; (focus (first | decide | (simp; done) | exact Nat.le_refl _)); kernel_rfl; exact rfl)) | ((first | apply ar_qt | apply dr_qt); (focus (apply qt_call; kernel_rfl; exact (hcp); exact rfl))) | (apply ar_bslice (e := 3) 1; kernel_rfl; (focus (decide +kernel)); kernel_rfl; exact rfl; exact rfl; exact rfl; exact rfl; decide)); (first | refine ar_nrm (k := ?_) | refine dr_nrm (k := ?_))) | ((first | apply ar_gy | apply dr_gy); exact rfl; exact bdOk) | (first | (apply awp_cond_t; exact rfl; exact bdOk) | (apply awp_cond_f; exact rfl; exact bdOk)) | fail))
    refine awp_loopR 1 (Nat.le_trans (Nat.le_of_eq hm0) (Nat.zero_le 1)) rfl [1, 2] (fun s : Nat × Nat × List Nat => [(6, .c (.sl 3 (.own 0) (nats (s.2.2)))), (7, .c (.p (.int .i64 s.1))), (8, .c (.p (.int .i64 s.2.1)))]) (fun _ => [[.p (.int .i64 (c).ln), .p (.int .i64 (c).wd)]]) (fun _ => 1) (fun q s => s.1 ≤ hs.length ∧ (∃ l b, ordTo (fitP c hs) s.1 = some (l, b, s.2.2) ∧ (s.1 < hs.length → (s.1 = 0 ∧ s.2.1 = 0) ∨ (s.2.1 = l + 1 ∧ fitP c hs b (s.1 + 1) = false))) ∧ q = hs.length - s.1) _ (0, 0, []) ⟨by omega, ⟨0, 0, rfl, fun _ => .inl ⟨rfl, rfl⟩⟩, rfl⟩ ?_ ?_
    · refine le_nrm (k := ?_); refine le_mk hsLe ?_; (repeat (first | exact AVs.le.nil | (with_reducible refine AVs.le.top _ ?_) | (with_reducible refine AVs.le.eq _ ?_) | refine AVs.le.eqv ?_ ?_)) <;> first | exact rfl | exact pi (by omega)
    rintro q ⟨i, n, out⟩ ⟨g1, ⟨l, b, g2, g3⟩, rfl⟩
    dsimp only at g1 g2 g3
    refine nh_nrm (k := ?_)
    have hlen := ordTo_len g2
    by_cases hi : i < hs.length
    · have hn : n ≤ 5 := by rcases g3 hi with h | h <;> omega
      (repeat (first | (first | refine awp_seq ?_ | refine awp_region ?_ | refine awp_block ?_ | refine awp_exit ?_ | refine awp_ret ?_ | refine awp_skip ?_ | refine ar_nil ?_ | refine dr_nil ?_ | (refine awp_region_draw ?_ ?_ ?_; kernel_rfl; kernel_rfl) | (first | refine t_norm ?_ | refine t_exit ?_ | refine t_ret ?_ | refine b_norm ?_ | refine b_exit ?_ | refine b_exit_ne rfl ?_ | refine b_ret ?_)) | ((first | ((first | apply ar_q | apply dr_q); exact qOp1) | ((first | apply ar_gu | apply dr_gu); exact rfl) | ((first | apply ar_gn | apply dr_gn); exact rfl; exact bdOk) | (first | (apply ar_box; exact rfl) | (apply ar_store; exact rfl; exact rfl; exact rfl; (focus (first | decide | (simp; done) | exact Nat.le_refl _)); kernel_rfl; exact rfl))); (first | refine ar_nrm (k := ?_) | refine dr_nrm (k := ?_))) | ((first | apply ar_gy | apply dr_gy); exact rfl; exact bdOk) | (first | (apply awp_cond_t; exact rfl; exact bdOk) | (apply awp_cond_f; exact rfl; exact bdOk)) | fail))
      refine awp_loopR 1 (Nat.le_trans (Nat.le_of_eq hm0) (Nat.zero_le 1)) rfl [1, 2, 7, 8] (fun s : Nat × List Nat => [(6, .c (.sl 3 (.own 0) (nats (s.2)))), (9, .c (.p (.int .i64 s.1)))]) (fun _ => [[.p (.int .i64 (c).ln), .p (.int .i64 (c).wd)]]) (fun _ => 1) (fun q s => s.1 ≤ hs.length ∧ ((s.1 = i ∧ s.2 = out) ∨ (i < s.1 ∧ ordTo (fitP c hs) s.1 = some (n, i, s.2))) ∧ q = hs.length - s.1) _ (i, out) ⟨by omega, .inl ⟨rfl, rfl⟩, rfl⟩ ?_ ?_
      · refine le_nrm (k := ?_); refine le_mk hsLe ?_; (repeat (first | exact AVs.le.nil | (with_reducible refine AVs.le.top _ ?_) | (with_reducible refine AVs.le.eq _ ?_) | refine AVs.le.eqv ?_ ?_)) <;> first | exact rfl | exact pi (by omega)
      rintro q ⟨t, ou⟩ ⟨f1, f2, rfl⟩
      dsimp only at f1 f2
      refine nh_nrm (k := ?_)
      have hlo : ou.length ≤ 4 := by
        rcases f2 with ⟨_, rfl⟩ | ⟨_, h⟩
        · omega
        · have := ordTo_len h; omega
      have hti : i ≤ t := by rcases f2 with h | h <;> omega
      have hexit : (t < hs.length → fitP c hs i (t + 1) = false) → t ≠ i → ∃ l b, ordTo (fitP c hs) t = some (l, b, ou) ∧ (t < hs.length → (t = 0 ∧ n + 1 = 0) ∨ (n + 1 = l + 1 ∧ fitP c hs b (t + 1) = false)) := fun h1 h2 => by
        rcases f2 with h | h
        · omega
        · exact ⟨n, i, h.2, fun h3 => .inr ⟨rfl, h1 h3⟩⟩
      by_cases ht : t < hs.length
      · have hf := impl_goesTogether c (partH hs i (t + 1)) hc (hullsF_sub (partH_sub _ _ _) hh)
        rw [partH_hulls (x := (i : Int)) (y := (t : Int) + 1) rfl (by omega)] at hf
        cases ha : fitP c hs i (t + 1) with
        | true =>
          have ha' := ha
          rw [fitP] at ha'
          rw [ha'] at hf
          have hnext : ordTo (fitP c hs) (t + 1) = some (n, i, ou ++ [n]) := by
            rcases f2 with ⟨rfl, rfl⟩ | h
            · rcases g3 ht with ⟨h1, h2⟩ | ⟨h1, h2⟩
              · subst h1 h2
                simp only [ordTo, Option.some.injEq, Prod.mk.injEq] at g2
                obtain ⟨rfl, rfl, rfl⟩ := g2
                exact ordTo_on (by rfl) ha ha
              · subst h1; exact ordTo_new g2 ha h2
            · exact ordTo_on h.2 (fitP_one hh hti ha) ha
          (repeat' (first | (first | refine awp_seq ?_ | refine awp_region ?_ | refine awp_block ?_ | refine awp_exit ?_ | refine awp_ret ?_ | refine awp_skip ?_ | refine ar_nil ?_ | refine dr_nil ?_ | (refine awp_region_draw ?_ ?_ ?_; kernel_rfl; kernel_rfl) | (first | refine t_norm ?_ | refine t_exit ?_ | refine t_ret ?_ | refine b_norm ?_ | refine b_exit ?_ | refine b_exit_ne rfl ?_ | refine b_ret ?_)) | ((first | ((first | apply ar_q | apply dr_q); exact qOp1) | ((first | apply ar_gu | apply dr_gu); exact rfl) | ((first | apply ar_gn | apply dr_gn); exact rfl; exact bdOk) | (first | (apply ar_box; exact rfl) | (apply ar_store; exact rfl; exact rfl; exact rfl; (focus (first | decide | (simp; done) | exact Nat.le_refl _)); kernel_rfl; exact rfl)) | ((first | apply ar_qt | apply dr_qt); (focus (apply qt_call; kernel_rfl; exact (hf); exact rfl))) | (apply ar_bslice (e := 3) 1; kernel_rfl; (focus (decide +kernel)); kernel_rfl; exact rfl; exact rfl; exact rfl; exact rfl; decide) | (apply ar_append; kernel_rfl; kernel_rfl; exact rfl; exact rfl; exact ((by first | exact its_ok _ | exact its_one _)); (focus ((rw [nats_len]; simp; omega))); exact rfl)); (first | refine ar_nrm (k := ?_) | refine dr_nrm (k := ?_))) | ((first | apply ar_gy | apply dr_gy); exact rfl; exact bdOk) | (first | (apply awp_cond_t; exact rfl; exact bdOk) | (apply awp_cond_f; exact rfl; exact bdOk)) | ((first | apply ar_gs | apply dr_gs | apply awp_cond); (focus (exact rfl)); (all_goals (intro hc; (try simp only [decide_eq_true_eq, decide_eq_false_iff_not, Bool.not_eq_true', Bool.not_eq_false', Bool.not_true, Bool.not_false, bne_iff_ne, bne_eq_false_iff_eq, beq_iff_eq, beq_eq_false_iff_ne, ne_eq, Bool.cond_true_left, Bool.cond_false_right, Bool.or_eq_true, Bool.and_eq_true] at hc)))) | fail))
          all_goals
            refine ⟨_, (t + 1, ou ++ [n]), [0], ?_, ⟨?_, .inr ⟨?_, hnext⟩, rfl⟩, by simp, by simp, ?_⟩
            · dsimp only; omega
            · dsimp only; omega
            · dsimp only; omega
            · refine lkr_nrm (k := ?_); refine le_mk hsLe ?_; (repeat (first | exact AVs.le.nil | (with_reducible refine AVs.le.top _ ?_) | (with_reducible refine AVs.le.eq _ ?_) | refine AVs.le.eqv ?_ ?_)) <;> first | exact rfl | exact pi (by omega) | exact pl (nats_put _ _)
        | false =>
          have ha' := ha
          rw [fitP] at ha'
          rw [ha'] at hf
          by_cases hti2 : t = i
          · subst hti2
            (repeat' (first | (first | refine awp_seq ?_ | refine awp_region ?_ | refine awp_block ?_ | refine awp_exit ?_ | refine awp_ret ?_ | refine awp_skip ?_ | refine ar_nil ?_ | refine dr_nil ?_ | (refine awp_region_draw ?_ ?_ ?_; kernel_rfl; kernel_rfl) | (first | refine t_norm ?_ | refine t_exit ?_ | refine t_ret ?_ | refine b_norm ?_ | refine b_exit ?_ | refine b_exit_ne rfl ?_ | refine b_ret ?_)) | ((first | ((first | apply ar_q | apply dr_q); exact qOp1) | ((first | apply ar_gu | apply dr_gu); exact rfl) | ((first | apply ar_gn | apply dr_gn); exact rfl; exact bdOk) | (first | (apply ar_box; exact rfl) | (apply ar_store; exact rfl; exact rfl; exact rfl; (focus (first | decide | (simp; done) | exact Nat.le_refl _)); kernel_rfl; exact rfl)) | ((first | apply ar_qt | apply dr_qt); (focus (apply qt_call; kernel_rfl; exact (hf); exact rfl)))); (first | refine ar_nrm (k := ?_) | refine dr_nrm (k := ?_))) | ((first | apply ar_gy | apply dr_gy); exact rfl; exact bdOk) | (first | (apply awp_cond_t; exact rfl; exact bdOk) | (apply awp_cond_f; exact rfl; exact bdOk)) | ((first | apply ar_gs | apply dr_gs | apply awp_cond); (focus (exact rfl)); (all_goals (intro hc; (try simp only [decide_eq_true_eq, decide_eq_false_iff_not, Bool.not_eq_true', Bool.not_eq_false', Bool.not_true, Bool.not_false, bne_iff_ne, bne_eq_false_iff_eq, beq_iff_eq, beq_eq_false_iff_ne, ne_eq, Bool.cond_true_left, Bool.cond_false_right, Bool.or_eq_true, Bool.and_eq_true] at hc)))) | fail))
            all_goals
              refine ⟨.inr rfl, none, ?_, aend_mk [] rfl (by simp) (by first | (simp; done) | (simp; omega)) (ares_tmp2 _ rfl ?_ (ares_tmp2 _ rfl ?_ ares_nil)) rfl rfl⟩
              · have := ordTo_none (ordTo_no ha) (hs.length - (t + 1))
                rw [show t + 1 + (hs.length - (t + 1)) = hs.length by omega] at this
                rw [hoy, this]; rfl
              · exact rfl
              · exact rfl
          · (repeat' (first | (first | refine awp_seq ?_ | refine awp_region ?_ | refine awp_block ?_ | refine awp_exit ?_ | refine awp_ret ?_ | refine awp_skip ?_ | refine ar_nil ?_ | refine dr_nil ?_ | (refine awp_region_draw ?_ ?_ ?_; kernel_rfl; kernel_rfl) | (first | refine t_norm ?_ | refine t_exit ?_ | refine t_ret ?_ | refine b_norm ?_ | refine b_exit ?_ | refine b_exit_ne rfl ?_ | refine b_ret ?_)) | ((first | ((first | apply ar_q | apply dr_q); exact qOp1) | ((first | apply ar_gu | apply dr_gu); exact rfl) | ((first | apply ar_gn | apply dr_gn); exact rfl; exact bdOk) | (first | (apply ar_box; exact rfl) | (apply ar_store; exact rfl; exact rfl; exact rfl; (focus (first | decide | (simp; done) | exact Nat.le_refl _)); kernel_rfl; exact rfl)) | ((first | apply ar_qt | apply dr_qt); (focus (apply qt_call; kernel_rfl; exact (hf); exact rfl)))); (first | refine ar_nrm (k := ?_) | refine dr_nrm (k := ?_))) | ((first | apply ar_gy | apply dr_gy); exact rfl; exact bdOk) | (first | (apply awp_cond_t; exact rfl; exact bdOk) | (apply awp_cond_f; exact rfl; exact bdOk)) | ((first | apply ar_gs | apply dr_gs | apply awp_cond); (focus (exact rfl)); (all_goals (intro hc; (try simp only [decide_eq_true_eq, decide_eq_false_iff_not, Bool.not_eq_true', Bool.not_eq_false', Bool.not_true, Bool.not_false, bne_iff_ne, bne_eq_false_iff_eq, beq_iff_eq, beq_eq_false_iff_ne, ne_eq, Bool.cond_true_left, Bool.cond_false_right, Bool.or_eq_true, Bool.and_eq_true] at hc)))) | fail))
            all_goals
              refine ⟨_, (t, n + 1, ou), [0], ?_, ⟨f1, hexit (fun _ => ha) hti2, rfl⟩, by simp, by simp, ?_⟩
              · dsimp only; omega
              · refine lkr_nrm (k := ?_); refine le_mk hsLe ?_; (repeat (first | exact AVs.le.nil | (with_reducible refine AVs.le.top _ ?_) | (with_reducible refine AVs.le.eq _ ?_) | refine AVs.le.eqv ?_ ?_)) <;> first | exact rfl | exact pi (by omega)
      · have hti2 : t ≠ i := by omega
        (repeat' (first | (first | refine awp_seq ?_ | refine awp_region ?_ | refine awp_block ?_ | refine awp_exit ?_ | refine awp_ret ?_ | refine awp_skip ?_ | refine ar_nil ?_ | refine dr_nil ?_ | (refine awp_region_draw ?_ ?_ ?_; kernel_rfl; kernel_rfl) | (first | refine t_norm ?_ | refine t_exit ?_ | refine t_ret ?_ | refine b_norm ?_ | refine b_exit ?_ | refine b_exit_ne rfl ?_ | refine b_ret ?_)) | ((first | ((first | apply ar_q | apply dr_q); exact qOp1) | ((first | apply ar_gu | apply dr_gu); exact rfl) | ((first | apply ar_gn | apply dr_gn); exact rfl; exact bdOk) | (first | (apply ar_box; exact rfl) | (apply ar_store; exact rfl; exact rfl; exact rfl; (focus (first | decide | (simp; done) | exact Nat.le_refl _)); kernel_rfl; exact rfl))); (first | refine ar_nrm (k := ?_) | refine dr_nrm (k := ?_))) | ((first | apply ar_gy | apply dr_gy); exact rfl; exact bdOk) | (first | (apply awp_cond_t; exact rfl; exact bdOk) | (apply awp_cond_f; exact rfl; exact bdOk)) | ((first | apply ar_gs | apply dr_gs | apply awp_cond); (focus (exact rfl)); (all_goals (intro hc; (try simp only [decide_eq_true_eq, decide_eq_false_iff_not, Bool.not_eq_true', Bool.not_eq_false', Bool.not_true, Bool.not_false, bne_iff_ne, bne_eq_false_iff_eq, beq_iff_eq, beq_eq_false_iff_ne, ne_eq, Bool.cond_true_left, Bool.cond_false_right, Bool.or_eq_true, Bool.and_eq_true] at hc)))) | fail))
        all_goals
          refine ⟨_, (t, n + 1, ou), [0], ?_, ⟨f1, hexit (fun h => absurd h ht) hti2, rfl⟩, by simp, by simp, ?_⟩
          · dsimp only; omega
          · refine lkr_nrm (k := ?_); refine le_mk hsLe ?_; (repeat (first | exact AVs.le.nil | (with_reducible refine AVs.le.top _ ?_) | (with_reducible refine AVs.le.eq _ ?_) | refine AVs.le.eqv ?_ ?_)) <;> first | exact rfl | exact pi (by omega)
    · obtain rfl : i = hs.length := by omega
      (repeat (first | (first | refine awp_seq ?_ | refine awp_region ?_ | refine awp_block ?_ | refine awp_exit ?_ | refine awp_ret ?_ | refine awp_skip ?_ | refine ar_nil ?_ | refine dr_nil ?_ | (refine awp_region_draw ?_ ?_ ?_; kernel_rfl; kernel_rfl) | (first | refine t_norm ?_ | refine t_exit ?_ | refine t_ret ?_ | refine b_norm ?_ | refine b_exit ?_ | refine b_exit_ne rfl ?_ | refine b_ret ?_)) | ((first | ((first | apply ar_q | apply dr_q); exact qOp1) | ((first | apply ar_gu | apply dr_gu); exact rfl) | ((first | apply ar_gn | apply dr_gn); exact rfl; exact bdOk) | (first | (apply ar_box; exact rfl) | (apply ar_store; exact rfl; exact rfl; exact rfl; (focus (first | decide | (simp; done) | exact Nat.le_refl _)); kernel_rfl; exact rfl))); (first | refine ar_nrm (k := ?_) | refine dr_nrm (k := ?_))) | ((first | apply ar_gy | apply dr_gy); exact rfl; exact bdOk) | (first | (apply awp_cond_t; exact rfl; exact bdOk) | (apply awp_cond_f; exact rfl; exact bdOk)) | fail))
      refine ⟨.inr rfl, some out, ?_, aend_mk [0] rfl (by simp) (by first | (simp; done) | (simp; omega)) (ares_tmp2 _ rfl ?_ (ares_tmp2 _ rfl ?_ ares_nil)) rfl rfl⟩
      · rw [hoy, g2]; rfl
      · exact rfl
      · exact rfl
theorem ordF_len {c : Chamber_} {hs : List Hull_} {out : List Nat} (h : ordF c hs = some out) : out.length ≤ 4 := by
  rw [ordF] at h
  split at h
  · rename_i hq
    have h4 := (hullsF_iff.1 hq.2).2.2
    cases ho : ordTo (fitP c hs) hs.length with
    | none => rw [ho] at h; cases h
    | some x =>
      obtain ⟨l, b, o⟩ := x
      rw [ho] at h
      injection h with h
      have := ordTo_len ho
      rw [← h]; simp only; omega
  · cases h
end Go.Proofs.Ythmaiahllhgdpaa
