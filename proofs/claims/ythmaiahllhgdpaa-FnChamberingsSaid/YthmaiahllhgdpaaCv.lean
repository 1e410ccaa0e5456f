/- Sets of hulls in the program and the reference. -/
import Derived.Test.YthmaiahllhgdpaaCt0




namespace Go.Proofs.Ythmaiahllhgdpaa
open Go.RowKit
set_option linter.unusedVariables false
set_option linter.unusedSimpArgs false
attribute [local irreducible] AR DR AWp QOp Qt ACalls ARes Exit.thenA Exit.inBlockA
attribute [local irreducible] AG0 AG AGs
theorem hulls_put (hs : List Hull_) (s : Nat) {i : Nat} (hb : s.testBit i = true) : hulls (chosenTo hs s i) ++ [([.int .i64 (hAt hs i).id, .int .i64 (hAt hs i).ln, .int .i64 (hAt hs i).wd] : List Value)] = hulls (chosenTo hs s (i + 1)) := by
  rw [chosen_yes hb]; simp [hulls, Hull_.cells]
theorem chosen_len (hs : List Hull_) (s : Nat) : ∀ i, (chosenTo hs s i).length ≤ i
  | 0 => Nat.le_refl _
  | i + 1 => by
    have := chosen_len hs s i
    cases hb : s.testBit i with
    | true => rw [chosen_yes hb]; simp; omega
    | false => rw [chosen_no hb]; omega
theorem bit4 : ∀ s : Fin 16, ∀ i : Fin 4, (IntKind.i64.wrap (BitVec.ofInt IntKind.i64.bits (Int.fdiv (s.1 : Int) (2 ^ (min (Int.toNat (i.1 : Int)) IntKind.i64.bits))) &&& BitVec.ofInt IntKind.i64.bits 1).toNat = 1) ↔ s.1.testBit i.1 = true := by decide +kernel
theorem bit_yes {s i : Nat} (hs : s < 16) (hi : i < 4) (h : IntKind.i64.wrap (BitVec.ofInt IntKind.i64.bits (Int.fdiv (s : Int) (2 ^ (min (Int.toNat (i : Int)) IntKind.i64.bits))) &&& BitVec.ofInt IntKind.i64.bits 1).toNat = 1) : s.testBit i = true := (bit4 ⟨s, hs⟩ ⟨i, hi⟩).1 h
theorem bit_no {s i : Nat} (hs : s < 16) (hi : i < 4) (h : ¬ (IntKind.i64.wrap (BitVec.ofInt IntKind.i64.bits (Int.fdiv (s : Int) (2 ^ (min (Int.toNat (i : Int)) IntKind.i64.bits))) &&& BitVec.ofInt IntKind.i64.bits 1).toNat = 1)) : s.testBit i = false := by
  cases hb : s.testBit i with
  | false => rfl
  | true => exact absurd ((bit4 ⟨s, hs⟩ ⟨i, hi⟩).2 hb) h
theorem u64_small {i : Nat} (h : i ≤ 4) : IntKind.u64.wrap (i : Int) = i := by
  have : i = 0 ∨ i = 1 ∨ i = 2 ∨ i = 3 ∨ i = 4 := by omega
  rcases this with rfl | rfl | rfl | rfl | rfl <;> rfl
theorem impl_subset (hs : List Hull_) (s : Nat) (h4 : hs.length ≤ 4) (hs16 : s < 16) : ACalls Try.prog 74 [.c (.sl 40 .ro (hulls hs)), .c (.p (.int .i64 s))] [] (.c (.sl 40 (.own 0) (hulls (chosen hs s)))) [] 1 := by
  have hl1 : (hulls hs).length = hs.length := by simp [hulls]
  refine acalls_of (ws := [.c (.sl 40 (.own 0) (hulls (chosen hs s)))]) Try.func74 rfl rfl rfl rfl fun w0 B m hm0 => ?_; (refine awp_norm (τ := ?_) ?_ ?_; rotate_left; (focus (simp only [AV.top, Try.ntmps74, List.length_cons, List.length_nil, Nat.reduceAdd, Nat.reduceSub, List.replicate_succ, List.replicate_zero, List.cons_append, List.nil_append]; exact rfl)))
  (repeat (first | (first | refine awp_seq ?_ | refine awp_region ?_ | refine awp_block ?_ | refine awp_exit ?_ | refine awp_ret ?_ | refine awp_skip ?_ | refine ar_nil ?_ | refine dr_nil ?_ | (refine awp_region_draw ?_ ?_ ?_; kernel_rfl; kernel_rfl) | (first | refine t_norm ?_ | refine t_exit ?_ | refine t_ret ?_ | refine b_norm ?_ | refine b_exit ?_ | refine b_exit_ne rfl ?_ | refine b_ret ?_)) | ((first | ((first | apply ar_q | apply dr_q); exact qOp1) | ((first | apply ar_gu | apply dr_gu); exact rfl) | ((first | apply ar_gn | apply dr_gn); exact rfl; exact bdOk) | (first | (apply ar_box; exact rfl) | (apply ar_store; exact rfl; exact rfl; exact rfl; (focus (first | decide | (simp; done) | exact Nat.le_refl _)); kernel_rfl; exact rfl)) | (apply ar_bslice (e := 40) 3; kernel_rfl; (focus (decide +kernel)); kernel_rfl; exact rfl; exact rfl; exact rfl; exact rfl; decide)); (first | refine ar_nrm (k := ?_) | refine dr_nrm (k := ?_))) | ((first | apply ar_gy | apply dr_gy); exact rfl; exact bdOk) | (first | (apply awp_cond_t; exact rfl; exact bdOk) | (apply awp_cond_f; exact rfl; exact bdOk)) | fail))
  refine awp_loopR 0 (Nat.le_of_eq hm0) rfl [0, 1, 9, 10] (fun i : Nat => [(5, .c (.sl 40 (.own 0) (hulls (chosenTo hs s i)))), (11, .c (.p (.int .i64 i)))]) (fun _ => []) (fun _ => 1) (fun q i => i ≤ hs.length ∧ q = hs.length - i) _ 0 ⟨by omega, rfl⟩ ?_ ?_
  · refine le_nrm (k := ?_); refine le_mk hsLe ?_; (repeat (first | exact AVs.le.nil | (with_reducible refine AVs.le.top _ ?_) | (with_reducible refine AVs.le.eq _ ?_) | refine AVs.le.eqv ?_ ?_)) <;> first | exact rfl | exact pi (by omega)
  rintro q i ⟨g1, rfl⟩
  refine nh_nrm (k := ?_)
  have hcl := chosen_len hs s i
  by_cases hi : i < hs.length
  · have e1 := hulls_hAt hi
    (repeat' (first | (first | refine awp_seq ?_ | refine awp_region ?_ | refine awp_block ?_ | refine awp_exit ?_ | refine awp_ret ?_ | refine awp_skip ?_ | refine ar_nil ?_ | refine dr_nil ?_ | (refine awp_region_draw ?_ ?_ ?_; kernel_rfl; kernel_rfl) | (first | refine t_norm ?_ | refine t_exit ?_ | refine t_ret ?_ | refine b_norm ?_ | refine b_exit ?_ | refine b_exit_ne rfl ?_ | refine b_ret ?_)) | ((first | ((first | apply ar_q | apply dr_q); exact qOp1) | ((first | apply ar_gu | apply dr_gu); exact rfl) | ((first | apply ar_gn | apply dr_gn); exact rfl; exact bdOk) | (first | (apply ar_box; exact rfl) | (apply ar_store; exact rfl; exact rfl; exact rfl; (focus (first | decide | (simp; done) | exact Nat.le_refl _)); kernel_rfl; exact rfl)) | (apply ar_alloc (e := 40) (ys := ([.int .i64 0, .int .i64 0, .int .i64 0] : List Value)); kernel_rfl) | (apply ar_bslice (e := 40) 3; kernel_rfl; (focus (decide +kernel)); kernel_rfl; exact rfl; exact rfl; exact rfl; exact rfl; decide) | (apply ar_append; kernel_rfl; kernel_rfl; exact rfl; exact rfl; exact ((by first | exact hulls_ok _ | exact hulls_ok [hAt hs i])); (focus ((simp [hulls]; omega))); exact rfl) | ((first | apply ar_q | apply dr_q); (focus ((first | apply q_shr | apply q_shl); exact rfl; exact rfl; omega)))); (first | refine ar_nrm (k := ?_) | refine dr_nrm (k := ?_))) | ((first | apply ar_gy | apply dr_gy); exact rfl; exact bdOk) | (first | (apply awp_cond_t; exact rfl; exact bdOk) | (apply awp_cond_f; exact rfl; exact bdOk)) | ((first | apply ar_gs | apply dr_gs | apply awp_cond); (focus (exact rfl)); (all_goals (intro hc; (try simp only [decide_eq_true_eq, decide_eq_false_iff_not, Bool.not_eq_true', Bool.not_eq_false', Bool.not_true, Bool.not_false, bne_iff_ne, bne_eq_false_iff_eq, beq_iff_eq, beq_eq_false_iff_ne, ne_eq, Bool.cond_true_left, Bool.cond_false_right, Bool.or_eq_true, Bool.and_eq_true] at hc)))) | fail))
    · have hb := bit_yes hs16 (by omega) hc
      refine ⟨_, i + 1, [0], ?_, ⟨by omega, rfl⟩, by simp, by simp, ?_⟩
      · omega
      · refine lkr_nrm (k := ?_); refine le_mk hsLe ?_; (repeat (first | exact AVs.le.nil | (with_reducible refine AVs.le.top _ ?_) | (with_reducible refine AVs.le.eq _ ?_) | refine AVs.le.eqv ?_ ?_)) <;> first | exact rfl | exact pi (by omega) | exact pl (hulls_put hs s hb)
    · have hb := bit_no hs16 (by omega) hc
      refine ⟨_, i + 1, [0], ?_, ⟨by omega, rfl⟩, by simp, by simp, ?_⟩
      · omega
      · refine lkr_nrm (k := ?_); refine le_mk hsLe ?_; (repeat (first | exact AVs.le.nil | (with_reducible refine AVs.le.top _ ?_) | (with_reducible refine AVs.le.eq _ ?_) | refine AVs.le.eqv ?_ ?_)) <;> first | exact rfl | exact pi (by omega) | exact pl (by rw [chosen_no hb])
  · obtain rfl : i = hs.length := by omega
    (repeat (first | (first | refine awp_seq ?_ | refine awp_region ?_ | refine awp_block ?_ | refine awp_exit ?_ | refine awp_ret ?_ | refine awp_skip ?_ | refine ar_nil ?_ | refine dr_nil ?_ | (refine awp_region_draw ?_ ?_ ?_; kernel_rfl; kernel_rfl) | (first | refine t_norm ?_ | refine t_exit ?_ | refine t_ret ?_ | refine b_norm ?_ | refine b_exit ?_ | refine b_exit_ne rfl ?_ | refine b_ret ?_)) | ((first | ((first | apply ar_q | apply dr_q); exact qOp1) | ((first | apply ar_gu | apply dr_gu); exact rfl) | ((first | apply ar_gn | apply dr_gn); exact rfl; exact bdOk) | (first | (apply ar_box; exact rfl) | (apply ar_store; exact rfl; exact rfl; exact rfl; (focus (first | decide | (simp; done) | exact Nat.le_refl _)); kernel_rfl; exact rfl))); (first | refine ar_nrm (k := ?_) | refine dr_nrm (k := ?_))) | ((first | apply ar_gy | apply dr_gy); exact rfl; exact bdOk) | (first | (apply awp_cond_t; exact rfl; exact bdOk) | (apply awp_cond_f; exact rfl; exact bdOk)) | fail))
    refine ⟨.inr rfl, aend_mk [0] rfl (by simp) (by first | (simp; done) | (simp; omega)) (ares_tmp2 _ rfl ?_ ares_nil) rfl rfl⟩
    exact rfl
def idsF (l : List Hull_) : List Int := l.map Hull_.id
theorem ids_put (hs : List Hull_) (s : Nat) {i : Nat} (hb : s.testBit i = true) : its (idsF (chosenTo hs s i)) ++ [[Value.int .i64 (hAt hs i).id]] = its (idsF (chosenTo hs s (i + 1))) := by
  rw [chosen_yes hb]; simp [its, idsF]
theorem spec_l4Chosen (hs : List Hull_) (s : Nat) (h4 : hs.length ≤ 4) (hs16 : s < 16) : ACalls Try.prog 75 [.c (.sl 40 .ro (hulls hs)), .c (.p (.int .i64 s))] [] (.tup [.c (.sl 40 (.own 0) (hulls (chosen hs s))), .c (.sl 3 (.own 1) (its (idsF (chosen hs s))))]) [] 2 := by
  have hl1 : (hulls hs).length = hs.length := by simp [hulls]
  refine acalls_of (ws := [.c (.sl 40 (.own 0) (hulls (chosen hs s))), .c (.sl 3 (.own 1) (its (idsF (chosen hs s))))]) Try.func75 rfl rfl rfl rfl fun w0 B m hm0 => ?_; (refine awp_norm (τ := ?_) ?_ ?_; rotate_left; (focus (simp only [AV.top, Try.ntmps75, List.length_cons, List.length_nil, Nat.reduceAdd, Nat.reduceSub, List.replicate_succ, List.replicate_zero, List.cons_append, List.nil_append]; exact rfl)))
  (repeat (first | (first | refine awp_seq ?_ | refine awp_region ?_ | refine awp_block ?_ | refine awp_exit ?_ | refine awp_ret ?_ | refine awp_skip ?_ | refine ar_nil ?_ | refine dr_nil ?_ | (refine awp_region_draw ?_ ?_ ?_; kernel_rfl; kernel_rfl) | (first | refine t_norm ?_ | refine t_exit ?_ | refine t_ret ?_ | refine b_norm ?_ | refine b_exit ?_ | refine b_exit_ne rfl ?_ | refine b_ret ?_)) | ((first | ((first | apply ar_q | apply dr_q); exact qOp1) | ((first | apply ar_gu | apply dr_gu); exact rfl) | ((first | apply ar_gn | apply dr_gn); exact rfl; exact bdOk) | (first | (apply ar_box; exact rfl) | (apply ar_store; exact rfl; exact rfl; exact rfl; (focus (first | decide | (simp; done) | exact Nat.le_refl _)); kernel_rfl; exact rfl)) | (apply ar_bslice (e := 40) 3; kernel_rfl; (focus (decide +kernel)); kernel_rfl; exact rfl; exact rfl; exact rfl; exact rfl; decide) | (apply ar_bslice (e := 3) 1; kernel_rfl; (focus (decide +kernel)); kernel_rfl; exact rfl; exact rfl; exact rfl; exact rfl; decide)); (first | refine ar_nrm (k := ?_) | refine dr_nrm (k := ?_))) | ((first | apply ar_gy | apply dr_gy); exact rfl; exact bdOk) | (first | (apply awp_cond_t; exact rfl; exact bdOk) | (apply awp_cond_f; exact rfl; exact bdOk)) | fail))
  refine awp_loopR 0 (Nat.le_of_eq hm0) rfl [0, 1] (fun i : Nat => [(6, .c (.sl 40 (.own 0) (hulls (chosenTo hs s i)))), (7, .c (.sl 3 (.own 1) (its (idsF (chosenTo hs s i))))), (8, .c (.p (.int .i64 i)))]) (fun _ => []) (fun _ => 2) (fun q i => i ≤ hs.length ∧ q = hs.length - i) _ 0 ⟨by omega, rfl⟩ ?_ ?_
  · refine le_nrm (k := ?_); refine le_mk hsLe ?_; (repeat (first | exact AVs.le.nil | (with_reducible refine AVs.le.top _ ?_) | (with_reducible refine AVs.le.eq _ ?_) | refine AVs.le.eqv ?_ ?_)) <;> first | exact rfl | exact pi (by omega)
  rintro q i ⟨g1, rfl⟩
  refine nh_nrm (k := ?_)
  have hcl := chosen_len hs s i
  by_cases hi : i < hs.length
  · have e1 := hulls_hAt hi
    have hu := u64_small (i := i) (by omega)
    (repeat' (first | (first | refine awp_seq ?_ | refine awp_region ?_ | refine awp_block ?_ | refine awp_exit ?_ | refine awp_ret ?_ | refine awp_skip ?_ | refine ar_nil ?_ | refine dr_nil ?_ | (refine awp_region_draw ?_ ?_ ?_; kernel_rfl; kernel_rfl) | (first | refine t_norm ?_ | refine t_exit ?_ | refine t_ret ?_ | refine b_norm ?_ | refine b_exit ?_ | refine b_exit_ne rfl ?_ | refine b_ret ?_)) | ((first | ((first | apply ar_q | apply dr_q); exact qOp1) | ((first | apply ar_gu | apply dr_gu); exact rfl) | ((first | apply ar_gn | apply dr_gn); exact rfl; exact bdOk) | (first | (apply ar_box; exact rfl) | (apply ar_store; exact rfl; exact rfl; exact rfl; (focus (first | decide | (simp; done) | exact Nat.le_refl _)); kernel_rfl; exact rfl)) | (apply ar_bslice (e := 40) 3; kernel_rfl; (focus (decide +kernel)); kernel_rfl; exact rfl; exact rfl; exact rfl; exact rfl; decide) | (apply ar_bslice (e := 3) 1; kernel_rfl; (focus (decide +kernel)); kernel_rfl; exact rfl; exact rfl; exact rfl; exact rfl; decide) | (apply ar_append; kernel_rfl; kernel_rfl; exact rfl; exact rfl; exact ((by first | exact hulls_ok _ | exact hulls_ok [hAt hs i])); (focus ((simp [hulls]; omega))); exact rfl) | (apply ar_append; kernel_rfl; kernel_rfl; exact rfl; exact rfl; exact ((its_one _)); (focus ((simp [its, idsF]; omega))); exact rfl) | ((first | apply ar_q | apply dr_q); (focus ((first | apply q_shr | apply q_shl); exact rfl; exact rfl; omega)))); (first | refine ar_nrm (k := ?_) | refine dr_nrm (k := ?_))) | ((first | apply ar_gy | apply dr_gy); exact rfl; exact bdOk) | (first | (apply awp_cond_t; exact rfl; exact bdOk) | (apply awp_cond_f; exact rfl; exact bdOk)) | ((first | apply ar_gs | apply dr_gs | apply awp_cond); (focus (exact rfl)); (all_goals (intro hc; (try simp only [decide_eq_true_eq, decide_eq_false_iff_not, Bool.not_eq_true', Bool.not_eq_false', Bool.not_true, Bool.not_false, bne_iff_ne, bne_eq_false_iff_eq, beq_iff_eq, beq_eq_false_iff_ne, ne_eq, Bool.cond_true_left, Bool.cond_false_right, Bool.or_eq_true, Bool.and_eq_true] at hc)))) | fail))
    · rw [hu] at hc
      have hb := bit_yes hs16 (by omega) hc
      refine ⟨_, i + 1, [0, 1], ?_, ⟨by omega, rfl⟩, by simp, by simp, ?_⟩
      · omega
      · refine lkr_nrm (k := ?_); refine le_mk hsLe ?_; (repeat (first | exact AVs.le.nil | (with_reducible refine AVs.le.top _ ?_) | (with_reducible refine AVs.le.eq _ ?_) | refine AVs.le.eqv ?_ ?_)) <;> first | exact rfl | exact pi (by omega) | exact pl (hulls_put hs s hb) | exact pl (ids_put hs s hb)
    · rw [hu] at hc
      have hb := bit_no hs16 (by omega) hc
      refine ⟨_, i + 1, [0, 1], ?_, ⟨by omega, rfl⟩, by simp, by simp, ?_⟩
      · omega
      · refine lkr_nrm (k := ?_); refine le_mk hsLe ?_; (repeat (first | exact AVs.le.nil | (with_reducible refine AVs.le.top _ ?_) | (with_reducible refine AVs.le.eq _ ?_) | refine AVs.le.eqv ?_ ?_)) <;> first | exact rfl | exact pi (by omega) | exact pl (by rw [chosen_no hb])
  · obtain rfl : i = hs.length := by omega
    (repeat (first | (first | refine awp_seq ?_ | refine awp_region ?_ | refine awp_block ?_ | refine awp_exit ?_ | refine awp_ret ?_ | refine awp_skip ?_ | refine ar_nil ?_ | refine dr_nil ?_ | (refine awp_region_draw ?_ ?_ ?_; kernel_rfl; kernel_rfl) | (first | refine t_norm ?_ | refine t_exit ?_ | refine t_ret ?_ | refine b_norm ?_ | refine b_exit ?_ | refine b_exit_ne rfl ?_ | refine b_ret ?_)) | ((first | ((first | apply ar_q | apply dr_q); exact qOp1) | ((first | apply ar_gu | apply dr_gu); exact rfl) | ((first | apply ar_gn | apply dr_gn); exact rfl; exact bdOk) | (first | (apply ar_box; exact rfl) | (apply ar_store; exact rfl; exact rfl; exact rfl; (focus (first | decide | (simp; done) | exact Nat.le_refl _)); kernel_rfl; exact rfl))); (first | refine ar_nrm (k := ?_) | refine dr_nrm (k := ?_))) | ((first | apply ar_gy | apply dr_gy); exact rfl; exact bdOk) | (first | (apply awp_cond_t; exact rfl; exact bdOk) | (apply awp_cond_f; exact rfl; exact bdOk)) | fail))
    refine ⟨.inr rfl, aend_mk [0, 1] rfl (by simp) (by first | (simp; done) | (simp; omega)) (ares_tmp2 _ rfl ?_ (ares_tmp2 _ rfl ?_ ares_nil)) rfl rfl⟩ <;> exact rfl
end Go.Proofs.Ythmaiahllhgdpaa
