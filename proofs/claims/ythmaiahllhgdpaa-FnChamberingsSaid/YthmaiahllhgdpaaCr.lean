/- ShiftSpots on both sides, its law. -/
import Derived.Test.YthmaiahllhgdpaaCm
import Derived.Test.YthmaiahllhgdpaaCf




namespace Go.Proofs.Ythmaiahllhgdpaa
open Go.RowKit
set_option linter.unusedVariables false
set_option linter.unusedSimpArgs false
attribute [local irreducible] AR DR AWp QOp Qt ACalls ARes Exit.thenA Exit.inBlockA
attribute [local irreducible] AG0 AG AGs
def shiftL (ss : List Spot_) (b : Int) : List Spot_ := ss.map fun s => ⟨s.at_ + b, s.sd⟩
theorem shiftL_len (ss : List Spot_) (b : Int) : (shiftL ss b).length = ss.length := by simp [shiftL]
theorem shift_step (ss : List Spot_) (b : Int) {i : Nat} (hi : i < ss.length) : spots (shiftL (ss.take i) b) ++ [([.int .i64 (⟨(sAt ss i).at_ + b, (sAt ss i).sd⟩ : Spot_).at_, .int .i64 (⟨(sAt ss i).at_ + b, (sAt ss i).sd⟩ : Spot_).sd] : List Value)] = spots (shiftL (ss.take (i + 1)) b) := by
  rw [List.take_add_one, List.getElem?_eq_getElem hi, sAt_eq hi]
  simp only [spots, shiftL, List.map_append, Option.toList_some, List.map_cons, List.map_nil, Spot_.cells]
def shR (c : Chamber_) (hs : List Hull_) (ss : List Spot_) (b : Int) : Option (List Spot_) := if askB c hs ss = true ∧ inB b (-6) 6 = true ∧ packB c hs (shiftL ss b) = true then some (shiftL ss b) else none
theorem ask_shift {c : Chamber_} {hs : List Hull_} {ss : List Spot_} {b : Int} (h : askB c hs ss = true) : askB c hs (shiftL ss b) = packB c hs (shiftL ss b) := by
  obtain ⟨h1, h2, h3, h4⟩ := askB_iff.1 h
  rw [askB, h1, h2, shiftL_len, h3]; simp
theorem shR_no {c : Chamber_} {hs : List Hull_} {ss : List Spot_} {b : Int} (h : askB c hs ss = false ∨ inB b (-6) 6 = false ∨ packB c hs (shiftL ss b) = false) : shR c hs ss b = none := by
  rw [shR, if_neg]; rintro ⟨h1, h2, h3⟩; rw [h1, h2, h3] at h; simp at h
theorem shR_yes {c : Chamber_} {hs : List Hull_} {ss : List Spot_} {b : Int} (h1 : askB c hs ss = true) (h2 : inB b (-6) 6 = true) (h3 : packB c hs (shiftL ss b) = true) : shR c hs ss b = some (shiftL ss b) := if_pos ⟨h1, h2, h3⟩
set_option maxHeartbeats 4000000 in
theorem impl_ShiftSpots (c : Chamber_) (hs : List Hull_) (ss : List Spot_) (b : Int) (hl : hs.length ≤ 1048576) (hl' : ss.length ≤ 1048576) : ACallsE Try.prog 39 [.agg [.p (.int .i64 (c).ln), .p (.int .i64 (c).wd)], .c (.sl 40 .ro (hulls hs)), .c (.sl 42 .ro (spots ss)), .c (.p (.int .i64 b))] [] (fun x => x = shR c hs ss b) (fun x => one (pkW x)) (fun _ => []) pkK := by
  have hl2 : (spots ss).length = ss.length := by simp [spots]
  have h1 := impl_IsPacking c hs ss hl hl'
  have h2 := impl_inside b (-6) 6
  cases hq : askB c hs ss with
  | false =>
    rw [hq] at h1
    refine acallsE_of (ws := pkW) (k := pkK) (hp' := fun _ => []) Try.func39 rfl (fun x => by cases x <;> rfl) (fun x => by cases x <;> rfl) (fun x => rfl) fun w0 B m hm0 => ?_; (refine awp_norm (τ := ?_) ?_ ?_; rotate_left; (focus (simp only [AV.top, Try.ntmps39, List.length_cons, List.length_nil, Nat.reduceAdd, Nat.reduceSub, List.replicate_succ, List.replicate_zero, List.cons_append, List.nil_append]; exact rfl)))
    (repeat (first | (first | refine awp_seq ?_ | refine awp_region ?_ | refine awp_block ?_ | refine awp_exit ?_ | refine awp_ret ?_ | refine awp_skip ?_ | refine ar_nil ?_ | refine dr_nil ?_ | (refine awp_region_draw ?_ ?_ ?_; kernel_rfl; kernel_rfl) | (first | refine t_norm ?_ | refine t_exit ?_ | refine t_ret ?_ | refine b_norm ?_ | refine b_exit ?_ | refine b_exit_ne rfl ?_ | refine b_ret ?_)) | ((first | ((first | apply ar_q | apply dr_q); exact qOp1) | ((first | apply ar_gu | apply dr_gu); exact rfl) | ((first | apply ar_gn | apply dr_gn); exact rfl; exact bdOk) | (first | (apply ar_box; exact rfl) | (apply ar_store; exact rfl; exact rfl; exact rfl; (focus (first | decide | (simp; done) | exact Nat.le_refl _)); kernel_rfl; exact rfl)) | ((first | apply ar_qt | apply dr_qt); (focus (apply qt_call; kernel_rfl; exact (h1); exact rfl)))); (first | refine ar_nrm (k := ?_) | refine dr_nrm (k := ?_))) | ((first | apply ar_gy | apply dr_gy); exact rfl; exact bdOk) | (first | (apply awp_cond_t; exact rfl; exact bdOk) | (apply awp_cond_f; exact rfl; exact bdOk)) | fail))
    refine ⟨.inr rfl, none, ?_, aend_mk [] rfl (by simp) (by first | (simp; done) | (simp; omega)) (ares_tmp2 _ rfl ?_ (ares_tmp2 _ rfl ?_ ares_nil)) rfl rfl⟩
    · exact (shR_no (.inl hq)).symm
    · exact rfl
    · exact rfl
  | true =>
    rw [hq] at h1
    cases hb : inB b (-6) 6 with
    | false =>
      rw [hb] at h2
      refine acallsE_of (ws := pkW) (k := pkK) (hp' := fun _ => []) Try.func39 rfl (fun x => by cases x <;> rfl) (fun x => by cases x <;> rfl) (fun x => rfl) fun w0 B m hm0 => ?_; (refine awp_norm (τ := ?_) ?_ ?_; rotate_left; (focus (simp only [AV.top, Try.ntmps39, List.length_cons, List.length_nil, Nat.reduceAdd, Nat.reduceSub, List.replicate_succ, List.replicate_zero, List.cons_append, List.nil_append]; exact rfl)))
      (repeat (first | (first | refine awp_seq ?_ | refine awp_region ?_ | refine awp_block ?_ | refine awp_exit ?_ | refine awp_ret ?_ | refine awp_skip ?_ | refine ar_nil ?_ | refine dr_nil ?_ | (refine awp_region_draw ?_ ?_ ?_; kernel_rfl; kernel_rfl) | (first | refine t_norm ?_ | refine t_exit ?_ | refine t_ret ?_ | refine b_norm ?_ | refine b_exit ?_ | refine b_exit_ne rfl ?_ | refine b_ret ?_)) | ((first | ((first | apply ar_q | apply dr_q); exact qOp1) | ((first | apply ar_gu | apply dr_gu); exact rfl) | ((first | apply ar_gn | apply dr_gn); exact rfl; exact bdOk) | (first | (apply ar_box; exact rfl) | (apply ar_store; exact rfl; exact rfl; exact rfl; (focus (first | decide | (simp; done) | exact Nat.le_refl _)); kernel_rfl; exact rfl)) | ((first | apply ar_qt | apply dr_qt); (focus (apply qt_call; kernel_rfl; exact (h1); exact rfl))) | ((first | apply ar_qt | apply dr_qt); (focus (apply qt_call; kernel_rfl; exact (h2); exact rfl)))); (first | refine ar_nrm (k := ?_) | refine dr_nrm (k := ?_))) | ((first | apply ar_gy | apply dr_gy); exact rfl; exact bdOk) | (first | (apply awp_cond_t; exact rfl; exact bdOk) | (apply awp_cond_f; exact rfl; exact bdOk)) | fail))
      refine ⟨.inr rfl, none, ?_, aend_mk [] rfl (by simp) (by first | (simp; done) | (simp; omega)) (ares_tmp2 _ rfl ?_ (ares_tmp2 _ rfl ?_ ares_nil)) rfl rfl⟩
      · exact (shR_no (.inr (.inl hb))).symm
      · exact rfl
      · exact rfl
    | true =>
      rw [hb] at h2
      obtain ⟨hc, hh, hn, hp⟩ := askB_iff.1 hq
      have h4 := (hullsF_iff.1 hh).2.2
      have hcc := chF_iff.1 hc
      have hbb := inB_iff.1 hb
      have h3 := impl_IsPacking c hs (shiftL ss b) hl (by rw [shiftL_len]; exact hl')
      rw [ask_shift hq] at h3
      refine acallsE_of (ws := pkW) (k := pkK) (hp' := fun _ => []) Try.func39 rfl (fun x => by cases x <;> rfl) (fun x => by cases x <;> rfl) (fun x => rfl) fun w0 B m hm0 => ?_; (refine awp_norm (τ := ?_) ?_ ?_; rotate_left; (focus (simp only [AV.top, Try.ntmps39, List.length_cons, List.length_nil, Nat.reduceAdd, Nat.reduceSub, List.replicate_succ, List.replicate_zero, List.cons_append, List.nil_append]; exact rfl)))
      (repeat (first | (first | refine awp_seq ?_ | refine awp_region ?_ | refine awp_block ?_ | refine awp_exit ?_ | refine awp_ret ?_ | refine awp_skip ?_ | refine ar_nil ?_ | refine dr_nil ?_ | (refine awp_region_draw ?_ ?_ ?_; kernel_rfl; kernel_rfl) | (first | refine t_norm ?_ | refine t_exit ?_ | refine t_ret ?_ | refine b_norm ?_ | refine b_exit ?_ | refine b_exit_ne rfl ?_ | refine b_ret ?_)) | ((first | ((first | apply ar_q | apply dr_q); exact qOp1) | ((first | apply ar_gu | apply dr_gu); exact rfl) | ((first | apply ar_gn | apply dr_gn); exact rfl; exact bdOk) | (first | (apply ar_box; exact rfl) | (apply ar_store; exact rfl; exact rfl; exact rfl; (focus (first | decide | (simp; done) | exact Nat.le_refl _)); kernel_rfl; exact rfl)) | ((first | apply ar_qt | apply dr_qt); (focus (apply qt_call; kernel_rfl; exact (h1); exact rfl))) | ((first | apply ar_qt | apply dr_qt); (focus (apply qt_call; kernel_rfl; exact (h2); exact rfl))) | (apply ar_bslice (e := 42) 2; kernel_rfl; (focus (decide +kernel)); kernel_rfl; exact rfl; exact rfl; exact rfl; exact rfl; decide)); (first | refine ar_nrm (k := ?_) | refine dr_nrm (k := ?_))) | ((first | apply ar_gy | apply dr_gy); exact rfl; exact bdOk) | (first | (apply awp_cond_t; exact rfl; exact bdOk) | (apply awp_cond_f; exact rfl; exact bdOk)) | fail))
      refine awp_loopR 1 (Nat.le_trans (Nat.le_of_eq hm0) (Nat.zero_le 1)) rfl [1, 2, 3, 4, 24, 25] (fun i : Nat => [(10, .c (.sl 42 (.own 0) (spots (shiftL (ss.take i) b)))), (26, .c (.p (.int .i64 i)))]) (fun _ => [[.p (.int .i64 (c).ln), .p (.int .i64 (c).wd)]]) (fun _ => 1) (fun q i => i ≤ ss.length ∧ q = ss.length - i) _ 0 ⟨by omega, rfl⟩ ?_ ?_
      · refine le_nrm (k := ?_); refine le_mk hsLe ?_; (repeat (first | exact AVs.le.nil | (with_reducible refine AVs.le.top _ ?_) | (with_reducible refine AVs.le.eq _ ?_) | refine AVs.le.eqv ?_ ?_)) <;> first | exact rfl | exact pi (by omega)
      rintro q i ⟨g1, rfl⟩
      refine nh_nrm (k := ?_)
      by_cases hi : i < ss.length
      · have e2 := spots_sAt hi
        have b1 := ins_bd hcc (hAt_ok hh (i := i) (by omega)).2 (fitB_iff.1 (packB_iff.1 hp i hi)).1
        (repeat (first | (first | refine awp_seq ?_ | refine awp_region ?_ | refine awp_block ?_ | refine awp_exit ?_ | refine awp_ret ?_ | refine awp_skip ?_ | refine ar_nil ?_ | refine dr_nil ?_ | (refine awp_region_draw ?_ ?_ ?_; kernel_rfl; kernel_rfl) | (first | refine t_norm ?_ | refine t_exit ?_ | refine t_ret ?_ | refine b_norm ?_ | refine b_exit ?_ | refine b_exit_ne rfl ?_ | refine b_ret ?_)) | ((first | ((first | apply ar_q | apply dr_q); exact qOp1) | ((first | apply ar_gu | apply dr_gu); exact rfl) | ((first | apply ar_gn | apply dr_gn); exact rfl; exact bdOk) | (first | (apply ar_box; exact rfl) | (apply ar_store; exact rfl; exact rfl; exact rfl; (focus (first | decide | (simp; done) | exact Nat.le_refl _)); kernel_rfl; exact rfl)) | (apply ar_alloc (e := 42) (ys := ([.int .i64 0, .int .i64 0] : List Value)); kernel_rfl) | (apply ar_bslice (e := 42) 2; kernel_rfl; (focus (decide +kernel)); kernel_rfl; exact rfl; exact rfl; exact rfl; exact rfl; decide) | (apply ar_append; kernel_rfl; kernel_rfl; exact rfl; exact rfl; exact ((by first | exact spots_ok _ | exact spots_ok [⟨(sAt ss i).at_ + b, (sAt ss i).sd⟩])); (focus ((simp [spots, shiftL]; omega))); exact rfl)); (first | refine ar_nrm (k := ?_) | refine dr_nrm (k := ?_))) | ((first | apply ar_gy | apply dr_gy); exact rfl; exact bdOk) | (first | (apply awp_cond_t; exact rfl; exact bdOk) | (apply awp_cond_f; exact rfl; exact bdOk)) | fail))
        refine ⟨_, i + 1, [0], ?_, ⟨by omega, rfl⟩, by simp, by simp, ?_⟩
        · omega
        · refine lkr_nrm (k := ?_); refine le_mk hsLe ?_; (repeat (first | exact AVs.le.nil | (with_reducible refine AVs.le.top _ ?_) | (with_reducible refine AVs.le.eq _ ?_) | refine AVs.le.eqv ?_ ?_)) <;> first | exact rfl | exact pi (by omega) | exact pl (shift_step ss b hi)
      · obtain rfl : i = ss.length := by omega
        rw [List.take_length]
        cases hk : packB c hs (shiftL ss b) with
        | false =>
          rw [hk] at h3
          (repeat (first | (first | refine awp_seq ?_ | refine awp_region ?_ | refine awp_block ?_ | refine awp_exit ?_ | refine awp_ret ?_ | refine awp_skip ?_ | refine ar_nil ?_ | refine dr_nil ?_ | (refine awp_region_draw ?_ ?_ ?_; kernel_rfl; kernel_rfl) | (first | refine t_norm ?_ | refine t_exit ?_ | refine t_ret ?_ | refine b_norm ?_ | refine b_exit ?_ | refine b_exit_ne rfl ?_ | refine b_ret ?_)) | ((first | ((first | apply ar_q | apply dr_q); exact qOp1) | ((first | apply ar_gu | apply dr_gu); exact rfl) | ((first | apply ar_gn | apply dr_gn); exact rfl; exact bdOk) | (first | (apply ar_box; exact rfl) | (apply ar_store; exact rfl; exact rfl; exact rfl; (focus (first | decide | (simp; done) | exact Nat.le_refl _)); kernel_rfl; exact rfl)) | ((first | apply ar_qt | apply dr_qt); (focus (apply qt_call; kernel_rfl; exact (h3); exact rfl)))); (first | refine ar_nrm (k := ?_) | refine dr_nrm (k := ?_))) | ((first | apply ar_gy | apply dr_gy); exact rfl; exact bdOk) | (first | (apply awp_cond_t; exact rfl; exact bdOk) | (apply awp_cond_f; exact rfl; exact bdOk)) | fail))
          refine ⟨.inr rfl, none, ?_, aend_mk [] rfl (by simp) (by first | (simp; done) | (simp; omega)) (ares_tmp2 _ rfl ?_ (ares_tmp2 _ rfl ?_ ares_nil)) rfl rfl⟩
          · exact (shR_no (.inr (.inr hk))).symm
          · exact rfl
          · exact rfl
        | true =>
          rw [hk] at h3
          (repeat (first | (first | refine awp_seq ?_ | refine awp_region ?_ | refine awp_block ?_ | refine awp_exit ?_ | refine awp_ret ?_ | refine awp_skip ?_ | refine ar_nil ?_ | refine dr_nil ?_ | (refine awp_region_draw ?_ ?_ ?_; kernel_rfl; kernel_rfl) | (first | refine t_norm ?_ | refine t_exit ?_ | refine t_ret ?_ | refine b_norm ?_ | refine b_exit ?_ | refine b_exit_ne rfl ?_ | refine b_ret ?_)) | ((first | ((first | apply ar_q | apply dr_q); exact qOp1) | ((first | apply ar_gu | apply dr_gu); exact rfl) | ((first | apply ar_gn | apply dr_gn); exact rfl; exact bdOk) | (first | (apply ar_box; exact rfl) | (apply ar_store; exact rfl; exact rfl; exact rfl; (focus (first | decide | (simp; done) | exact Nat.le_refl _)); kernel_rfl; exact rfl)) | ((first | apply ar_qt | apply dr_qt); (focus (apply qt_call; kernel_rfl; exact (h3); exact rfl)))); (first | refine ar_nrm (k := ?_) | refine dr_nrm (k := ?_))) | ((first | apply ar_gy | apply dr_gy); exact rfl; exact bdOk) | (first | (apply awp_cond_t; exact rfl; exact bdOk) | (apply awp_cond_f; exact rfl; exact bdOk)) | fail))
          refine ⟨.inr rfl, some (shiftL ss b), ?_, aend_mk [0] rfl (by simp) (by first | (simp; done) | (simp; omega)) (ares_tmp2 _ rfl ?_ (ares_tmp2 _ rfl ?_ ares_nil)) rfl rfl⟩
          · exact (shR_yes hq hb hk).symm
          · exact rfl
          · exact rfl
set_option maxHeartbeats 4000000 in
theorem spec_ShiftSpots (c : Chamber_) (hs : List Hull_) (ss : List Spot_) (b : Int) (hl : hs.length ≤ 1048576) (hl' : ss.length ≤ 1048576) : ACalls Try.prog 38 [.agg [.p (.int .i64 (c).ln), .p (.int .i64 (c).wd)], .c (.sl 40 .ro (hulls hs)), .c (.sl 42 .ro (spots ss)), .c (.p (.int .i64 b))] [] (.tup [.c (.sl 42 (.own 0) (spots (spL (shR c hs ss b)))), .c (.p (.bool (shR c hs ss b).isSome))]) [] 1 := by
  have hl2 : (spots ss).length = ss.length := by simp [spots]
  have h1 := spec_l4Asked c hs ss hl hl'
  have h2 := spec_in b (-6) 6
  cases hq : askB c hs ss with
  | false =>
    rw [hq] at h1
    rw [shR_no (.inl hq)]
    refine acalls_of (ws := [.c (.sl 42 (.own 0) (spots (spL ((none : Option (List Spot_)))))), .c (.p (.bool ((none : Option (List Spot_))).isSome))]) Try.func38 rfl rfl rfl rfl fun w0 B m hm0 => ?_; (refine awp_norm (τ := ?_) ?_ ?_; rotate_left; (focus (simp only [AV.top, Try.ntmps38, List.length_cons, List.length_nil, Nat.reduceAdd, Nat.reduceSub, List.replicate_succ, List.replicate_zero, List.cons_append, List.nil_append]; exact rfl)))
    (repeat (first | (first | refine awp_seq ?_ | refine awp_region ?_ | refine awp_block ?_ | refine awp_exit ?_ | refine awp_ret ?_ | refine awp_skip ?_ | refine ar_nil ?_ | refine dr_nil ?_ | (refine awp_region_draw ?_ ?_ ?_; kernel_rfl; kernel_rfl) | (first | refine t_norm ?_ | refine t_exit ?_ | refine t_ret ?_ | refine b_norm ?_ | refine b_exit ?_ | refine b_exit_ne rfl ?_ | refine b_ret ?_)) | ((first | ((first | apply ar_q | apply dr_q); exact qOp1) | ((first | apply ar_gu | apply dr_gu); exact rfl) | ((first | apply ar_gn | apply dr_gn); exact rfl; exact bdOk) | (first | (apply ar_box; exact rfl) | (apply ar_store; exact rfl; exact rfl; exact rfl; (focus (first | decide | (simp; done) | exact Nat.le_refl _)); kernel_rfl; exact rfl)) | ((first | apply ar_qt | apply dr_qt); (focus (apply qt_call; kernel_rfl; exact (h1); exact rfl))) | (apply ar_bslice (e := 42) 2; kernel_rfl; (focus (decide +kernel)); kernel_rfl; exact rfl; exact rfl; exact rfl; exact rfl; decide)); (first | refine ar_nrm (k := ?_) | refine dr_nrm (k := ?_))) | ((first | apply ar_gy | apply dr_gy); exact rfl; exact bdOk) | (first | (apply awp_cond_t; exact rfl; exact bdOk) | (apply awp_cond_f; exact rfl; exact bdOk)) | fail))
    refine ⟨.inr rfl, aend_mk [0] rfl (by simp) (by first | (simp; done) | (simp; omega)) (ares_tmp2 _ rfl ?_ (ares_tmp2 _ rfl ?_ ares_nil)) rfl rfl⟩ <;> exact rfl
  | true =>
    rw [hq] at h1
    cases hb : inB b (-6) 6 with
    | false =>
      rw [hb] at h2
      rw [shR_no (.inr (.inl hb))]
      refine acalls_of (ws := [.c (.sl 42 (.own 0) (spots (spL ((none : Option (List Spot_)))))), .c (.p (.bool ((none : Option (List Spot_))).isSome))]) Try.func38 rfl rfl rfl rfl fun w0 B m hm0 => ?_; (refine awp_norm (τ := ?_) ?_ ?_; rotate_left; (focus (simp only [AV.top, Try.ntmps38, List.length_cons, List.length_nil, Nat.reduceAdd, Nat.reduceSub, List.replicate_succ, List.replicate_zero, List.cons_append, List.nil_append]; exact rfl)))
      (repeat (first | (first | refine awp_seq ?_ | refine awp_region ?_ | refine awp_block ?_ | refine awp_exit ?_ | refine awp_ret ?_ | refine awp_skip ?_ | refine ar_nil ?_ | refine dr_nil ?_ | (refine awp_region_draw ?_ ?_ ?_; kernel_rfl; kernel_rfl) | (first | refine t_norm ?_ | refine t_exit ?_ | refine t_ret ?_ | refine b_norm ?_ | refine b_exit ?_ | refine b_exit_ne rfl ?_ | refine b_ret ?_)) | ((first | ((first | apply ar_q | apply dr_q); exact qOp1) | ((first | apply ar_gu | apply dr_gu); exact rfl) | ((first | apply ar_gn | apply dr_gn); exact rfl; exact bdOk) | (first | (apply ar_box; exact rfl) | (apply ar_store; exact rfl; exact rfl; exact rfl; (focus (first | decide | (simp; done) | exact Nat.le_refl _)); kernel_rfl; exact rfl)) | ((first | apply ar_qt | apply dr_qt); (focus (apply qt_call; kernel_rfl; exact (h1); exact rfl))) | ((first | apply ar_qt | apply dr_qt); (focus (apply qt_call; kernel_rfl; exact (h2); exact rfl))) | (apply ar_bslice (e := 42) 2; kernel_rfl; (focus (decide +kernel)); kernel_rfl; exact rfl; exact rfl; exact rfl; exact rfl; decide)); (first | refine ar_nrm (k := ?_) | refine dr_nrm (k := ?_))) | ((first | apply ar_gy | apply dr_gy); exact rfl; exact bdOk) | (first | (apply awp_cond_t; exact rfl; exact bdOk) | (apply awp_cond_f; exact rfl; exact bdOk)) | fail))
      refine ⟨.inr rfl, aend_mk [0] rfl (by simp) (by first | (simp; done) | (simp; omega)) (ares_tmp2 _ rfl ?_ (ares_tmp2 _ rfl ?_ ares_nil)) rfl rfl⟩ <;> exact rfl
    | true =>
      rw [hb] at h2
      obtain ⟨hc, hh, hn, hp⟩ := askB_iff.1 hq
      have h4 := (hullsF_iff.1 hh).2.2
      have hcc := chF_iff.1 hc
      have hbb := inB_iff.1 hb
      have h3 := spec_l4Packing c hs (shiftL ss b) hc hh (by rw [shiftL_len]; omega)
      refine acalls_of (ws := [.c (.sl 42 (.own 0) (spots (spL (shR c hs ss b)))), .c (.p (.bool (shR c hs ss b).isSome))]) Try.func38 rfl rfl rfl rfl fun w0 B m hm0 => ?_; (refine awp_norm (τ := ?_) ?_ ?_; rotate_left; (focus (simp only [AV.top, Try.ntmps38, List.length_cons, List.length_nil, Nat.reduceAdd, Nat.reduceSub, List.replicate_succ, List.replicate_zero, List.cons_append, List.nil_append]; exact rfl)))
      (repeat (first | (first | refine awp_seq ?_ | refine awp_region ?_ | refine awp_block ?_ | refine awp_exit ?_ | refine awp_ret ?_ | refine awp_skip ?_ | refine ar_nil ?_ | refine dr_nil ?_ | (refine awp_region_draw ?_ ?_ ?_; kernel_rfl; kernel_rfl) | (first | refine t_norm ?_ | refine t_exit ?_ | refine t_ret ?_ | refine b_norm ?_ | refine b_exit ?_ | refine b_exit_ne rfl ?_ | refine b_ret ?_)) | ((first | ((first | apply ar_q | apply dr_q); exact qOp1) | ((first | apply ar_gu | apply dr_gu); exact rfl) | ((first | apply ar_gn | apply dr_gn); exact rfl; exact bdOk) | (first | (apply ar_box; exact rfl) | (apply ar_store; exact rfl; exact rfl; exact rfl; (focus (first | decide | (simp; done) | exact Nat.le_refl _)); kernel_rfl; exact rfl)) | ((first | apply ar_qt | apply dr_qt); (focus (apply qt_call; kernel_rfl; exact (h1); exact rfl))) | ((first | apply ar_qt | apply dr_qt); (focus (apply qt_call; kernel_rfl; exact (h2); exact rfl))) | (apply ar_bslice (e := 42) 2; kernel_rfl; (focus (decide +kernel)); kernel_rfl; exact rfl; exact rfl; exact rfl; exact rfl; decide)); (first | refine ar_nrm (k := ?_) | refine dr_nrm (k := ?_))) | ((first | apply ar_gy | apply dr_gy); exact rfl; exact bdOk) | (first | (apply awp_cond_t; exact rfl; exact bdOk) | (apply awp_cond_f; exact rfl; exact bdOk)) | fail))
      refine awp_loopR 1 (Nat.le_trans (Nat.le_of_eq hm0) (Nat.zero_le 1)) rfl [1, 2, 3, 4] (fun i : Nat => [(10, .c (.sl 42 (.own 0) (spots (shiftL (ss.take i) b)))), (11, .c (.p (.int .i64 i)))]) (fun _ => [[.p (.int .i64 (c).ln), .p (.int .i64 (c).wd)]]) (fun _ => 1) (fun q i => i ≤ ss.length ∧ q = ss.length - i) _ 0 ⟨by omega, rfl⟩ ?_ ?_
      · refine le_nrm (k := ?_); refine le_mk hsLe ?_; (repeat (first | exact AVs.le.nil | (with_reducible refine AVs.le.top _ ?_) | (with_reducible refine AVs.le.eq _ ?_) | refine AVs.le.eqv ?_ ?_)) <;> first | exact rfl | exact pi (by omega)
      rintro q i ⟨g1, rfl⟩
      refine nh_nrm (k := ?_)
      by_cases hi : i < ss.length
      · have e2 := spots_sAt hi
        have b1 := ins_bd hcc (hAt_ok hh (i := i) (by omega)).2 (fitB_iff.1 (packB_iff.1 hp i hi)).1
        (repeat' (first | (first | refine awp_seq ?_ | refine awp_region ?_ | refine awp_block ?_ | refine awp_exit ?_ | refine awp_ret ?_ | refine awp_skip ?_ | refine ar_nil ?_ | refine dr_nil ?_ | (first | refine t_norm ?_ | refine t_exit ?_ | refine t_ret ?_ | refine b_norm ?_ | refine b_exit ?_ | refine b_exit_ne rfl ?_ | refine b_ret ?_)) | ((first | (first | ((first | apply ar_q | apply dr_q); exact qOp1) | (apply ag0_take; exact rfl; rotate_left 3; (focus (decide +kernel)); (focus (first | exact .inl rfl | (refine .inr ⟨_, _, _, rfl, rfl, ?_⟩; exact bdOk))); exact qOp1; rotate_left 1; kernel_rfl; (focus (decide +kernel)); (focus (decide +kernel)))) | ((first | apply ar_gu | apply dr_gu); exact rfl) | ((first | apply ar_gn | apply dr_gn); exact rfl; exact bdOk) | (apply ag0_miss; (focus (exact rfl)); (focus (kernel_rfl)); (focus (decide +kernel)); (focus (decide +kernel)); (focus (decide +kernel)); (focus (first | exact .inr rfl | (refine .inl ⟨_, rfl, ?_⟩; exact bdOk)))) | (first | (apply ar_box; exact rfl) | (apply ar_store; exact rfl; exact rfl; exact rfl; (focus (first | decide | (simp; done) | exact Nat.le_refl _)); kernel_rfl; exact rfl)) | (apply ar_bslice (e := 42) 2; kernel_rfl; (focus (decide +kernel)); kernel_rfl; exact rfl; exact rfl; exact rfl; exact rfl; decide) | ((first | apply ar_q | apply dr_q); (focus (apply q_build (n := 2) (zs := ([.int .i64 0, .int .i64 0] : List Value)); kernel_rfl; kernel_rfl; exact rfl; exact rfl))) | (apply ar_append; kernel_rfl; kernel_rfl; exact rfl; exact rfl; exact ((by first | exact spots_ok _ | exact spots_ok [⟨(sAt ss i).at_ + b, (sAt ss i).sd⟩])); (focus ((simp [spots, shiftL]; omega))); exact rfl)); (first | refine ar_nrm (k := ?_) | refine dr_nrm (k := ?_) | refine ag0_nrm (k := ?_))) | ((first | apply ar_gy | apply dr_gy); exact rfl; exact bdOk) | (first | (apply awp_cond_t; exact rfl; exact bdOk) | (apply awp_cond_f; exact rfl; exact bdOk)) | ((first | apply ar_gs | apply dr_gs | apply awp_cond); (focus (exact rfl)); (all_goals (intro hc; (try simp only [decide_eq_true_eq, decide_eq_false_iff_not, Bool.not_eq_true', Bool.not_eq_false', Bool.not_true, Bool.not_false, bne_iff_ne, bne_eq_false_iff_eq, beq_iff_eq, beq_eq_false_iff_ne, ne_eq, Bool.cond_true_left, Bool.cond_false_right, Bool.or_eq_true, Bool.and_eq_true] at hc)))) | exact ags_nil | exact als_nil | ((first | apply ags_no | apply als_no); (focus (decide +kernel))) | (apply ags_yes; (focus (exact rfl)); (focus (kernel_rfl))) | (apply als_yes; (focus (exact rfl)); (focus (decide +kernel))) | (((first | (apply ag_done []; (focus (exact rfl)); (focus (decide +kernel))) | (apply ag_done [0]; (focus (exact rfl)); (focus (decide +kernel))) | (apply ag_done [0, 1]; (focus (exact rfl)); (focus (decide +kernel))) | (apply ag_done [0, 1, 2]; (focus (exact rfl)); (focus (decide +kernel))) | (apply ag_late []; (focus (decide +kernel)); (focus (exact rfl))) | (apply ag_late [0]; (focus (decide +kernel)); (focus (exact rfl))) | (apply ag_late [0, 1]; (focus (decide +kernel)); (focus (exact rfl))) | (apply ag_late [0, 1, 2]; (focus (decide +kernel)); (focus (exact rfl))))); (focus (decide)); (focus (first | decide | (simp; done))); (focus (simp only [AS.back, backT, Nat.reduceAdd, Nat.zero_add, Nat.add_zero, List.elem, List.idxOf, List.findIdx, List.findIdx.go, Nat.reduceBEq, beq_self_eq_true, reduceIte, if_true, if_false, Bool.false_eq_true, cond_true, cond_false, AV.bk, AW.bk, AC.bk, List.map_cons, List.map_nil, List.length_cons, List.length_nil, List.append_nil, List.nil_append, List.cons_append, AV.top]; exact rfl))) | (apply al_done; (focus (decide +kernel))) | ((first | apply ag_all | apply al_all); (focus (simp only [idxs, Nat.reduceAdd]; exact rfl)); (focus (decide +kernel))) | (refine fun w1 B1 => ?_) | (refine ⟨rfl, ?_⟩; (first | apply ag_norm | apply al_norm); (focus (simp only [List.set_cons_succ, List.set_cons_zero]; exact rfl))) | (apply awp_region_any; (focus (kernel_rfl)); (focus (intro c σ h; simp [Exit.thenA, Exit.inBlockA] at h)); (focus (simp only [idxs, Nat.reduceAdd]; exact rfl)); (focus (simp only [List.map_cons, List.map_nil]; exact rfl)); (focus (exact rfl))) | apply ag0_skip | (apply ag0_done; (focus (decide +kernel))) | (apply ag0_late; (focus (decide +kernel))) | (apply ag_start; (focus (simp only [dsOf, List.zip_cons_cons, List.zip_nil_left, List.filter_cons, List.filter_nil, List.filterMap_cons, List.filterMap_nil, Bool.not_true, Bool.not_false, Bool.false_eq_true, if_true, if_false, reduceIte]; exact rfl)); (focus (simp only [AS.inn, List.map_cons, List.map_nil, AV.roB, plainB, plainC, rpO, Option.map_some, List.drop_zero, List.drop_succ_cons, AW.ro, AC.ro, AV.top]; exact rfl)))))
        all_goals
          refine ⟨_, i + 1, [0], ?_, ⟨by omega, rfl⟩, by simp, by simp, ?_⟩
          · omega
          · refine lkr_nrm (k := ?_); refine le_mk hsLe ?_; (repeat (first | exact AVs.le.nil | (with_reducible refine AVs.le.top _ ?_) | (with_reducible refine AVs.le.eq _ ?_) | refine AVs.le.eqv ?_ ?_)) <;> first | exact rfl | exact pi (by omega) | exact pl (shift_step ss b hi)
      · obtain rfl : i = ss.length := by omega
        rw [List.take_length]
        cases hk : packB c hs (shiftL ss b) with
        | false =>
          rw [hk] at h3
          (repeat (first | (first | refine awp_seq ?_ | refine awp_region ?_ | refine awp_block ?_ | refine awp_exit ?_ | refine awp_ret ?_ | refine awp_skip ?_ | refine ar_nil ?_ | refine dr_nil ?_ | (refine awp_region_draw ?_ ?_ ?_; kernel_rfl; kernel_rfl) | (first | refine t_norm ?_ | refine t_exit ?_ | refine t_ret ?_ | refine b_norm ?_ | refine b_exit ?_ | refine b_exit_ne rfl ?_ | refine b_ret ?_)) | ((first | ((first | apply ar_q | apply dr_q); exact qOp1) | ((first | apply ar_gu | apply dr_gu); exact rfl) | ((first | apply ar_gn | apply dr_gn); exact rfl; exact bdOk) | (first | (apply ar_box; exact rfl) | (apply ar_store; exact rfl; exact rfl; exact rfl; (focus (first | decide | (simp; done) | exact Nat.le_refl _)); kernel_rfl; exact rfl)) | ((first | apply ar_qt | apply dr_qt); (focus (apply qt_call; kernel_rfl; exact (h3); exact rfl))) | (apply ar_bslice (e := 42) 2; kernel_rfl; (focus (decide +kernel)); kernel_rfl; exact rfl; exact rfl; exact rfl; exact rfl; decide)); (first | refine ar_nrm (k := ?_) | refine dr_nrm (k := ?_))) | ((first | apply ar_gy | apply dr_gy); exact rfl; exact bdOk) | (first | (apply awp_cond_t; exact rfl; exact bdOk) | (apply awp_cond_f; exact rfl; exact bdOk)) | fail))
          rw [shR_no (.inr (.inr hk))]
          refine ⟨.inr rfl, aend_mk [1] rfl (by simp) (by first | (simp; done) | (simp; omega)) (ares_tmp2 _ rfl ?_ (ares_tmp2 _ rfl ?_ ares_nil)) rfl rfl⟩ <;> exact rfl
        | true =>
          rw [hk] at h3
          (repeat (first | (first | refine awp_seq ?_ | refine awp_region ?_ | refine awp_block ?_ | refine awp_exit ?_ | refine awp_ret ?_ | refine awp_skip ?_ | refine ar_nil ?_ | refine dr_nil ?_ | (refine awp_region_draw ?_ ?_ ?_; kernel_rfl; kernel_rfl) | (first | refine t_norm ?_ | refine t_exit ?_ | refine t_ret ?_ | refine b_norm ?_ | refine b_exit ?_ | refine b_exit_ne rfl ?_ | refine b_ret ?_)) | ((first | ((first | apply ar_q | apply dr_q); exact qOp1) | ((first | apply ar_gu | apply dr_gu); exact rfl) | ((first | apply ar_gn | apply dr_gn); exact rfl; exact bdOk) | (first | (apply ar_box; exact rfl) | (apply ar_store; exact rfl; exact rfl; exact rfl; (focus (first | decide | (simp; done) | exact Nat.le_refl _)); kernel_rfl; exact rfl)) | ((first | apply ar_qt | apply dr_qt); (focus (apply qt_call; kernel_rfl; exact (h3); exact rfl)))); (first | refine ar_nrm (k := ?_) | refine dr_nrm (k := ?_))) | ((first | apply ar_gy | apply dr_gy); exact rfl; exact bdOk) | (first | (apply awp_cond_t; exact rfl; exact bdOk) | (apply awp_cond_f; exact rfl; exact bdOk)) | fail))
          rw [shR_yes hq hb hk]
          refine ⟨.inr rfl, aend_mk [0] rfl (by simp) (by first | (simp; done) | (simp; omega)) (ares_tmp2 _ rfl ?_ (ares_tmp2 _ rfl ?_ ares_nil)) rfl rfl⟩ <;> exact rfl
theorem shR_len {c : Chamber_} {hs : List Hull_} {ss out : List Spot_} {b : Int} (h : shR c hs ss b = some out) : out.length ≤ 4 := by
  rw [shR] at h
  split at h
  · rename_i hq
    injection h with h
    obtain ⟨_, hh, hn, _⟩ := askB_iff.1 hq.1
    have := (hullsF_iff.1 hh).2.2
    rw [← h, shiftL_len]; omega
  · cases h
end Go.Proofs.Ythmaiahllhgdpaa
