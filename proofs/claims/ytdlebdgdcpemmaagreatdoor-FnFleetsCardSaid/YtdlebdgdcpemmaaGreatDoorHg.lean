/- ParseInt: the reference's side. -/
import Derived.Test.YtdlebdgdcpemmaaGreatDoorHs
namespace Go.Proofs.YtdlebdgdcpemmaaGreatDoor
open Go.RowKit
set_option linter.unusedVariables false
set_option linter.unusedSimpArgs false
theorem ba_get (s : ByteArray) {k : Nat} (h : k < s.size) : ∃ c, s[k]? = some c ∧ s.toList.take (k + 1) = s.toList.take k ++ [c] := by
  rw [ByteArray.toList_eq]
  exact ba_getH s h
theorem eqL {a b : ByteArray} {o : Bool} (h : (a.toList == b.toList) = o) : decide (a = b) = o := by
  cases o with
  | true => 
    have := beq_iff_eq.1 h
    rw [ByteArray.toList_eq, ByteArray.toList_eq] at this
    exact decide_eq_true (ByteArray.ext (Array.toList_inj.1 this))
  | false =>
    refine decide_eq_false fun e => ?_
    subst e
    simp at h
instance (s : ByteArray) : Decidable (okT s) := by unfold okT; infer_instance
def readR (s : ByteArray) : Int × Bool := if okT s ∧ numS (numT s) = s then (numT s, true) else (0, false)
theorem u8_dig {d : UInt8} (h : isD d) : IntKind.u8.wrap ((d.toNat : Int) - 48) = ((d.toNat - 48 : Nat) : Int) := by
  have e : ∀ i : Fin 10, IntKind.u8.wrap (((48 + i.1 : Nat) : Int) - 48) = (i.1 : Int) := by decide +kernel
  unfold isD at h
  have := e ⟨d.toNat - 48, by omega⟩
  rw [show (48 + (d.toNat - 48)) = d.toNat by omega] at this
  exact this
theorem readR_no {s : ByteArray} (h : ¬ okT s) : readR s = (0, false) := if_neg fun k => h k.1
attribute [local irreducible] AR DR AWp QOp Qt ACalls ARes Exit.thenA Exit.inBlockA
theorem spec_read_neg (s t : ByteArray) (hs : s.size ≤ 1048576) (hb : bodyT s = t) (hl : 1 < s.size) (c : UInt8) (e0' : s[(0 : Int).toNat]? = some c) (hc : (c.toNat : Int) = 45) (ht : t = s.extract 1 s.size) (hlt : t.size < s.size) : ACalls Tryz.prog 36 [.c (.p (.string (s)))] [] (.tup [.c (.p (.int .i64 ((readR s).1))), .c (.p (.bool ((readR s).2)))]) [] 0 := by
  by_cases hl2 : 1 ≤ t.size ∧ t.size ≤ 6
  · refine acalls_of (ws := [.c (.p (.int .i64 ((readR s).1))), .c (.p (.bool ((readR s).2)))]) Tryz.func36 rfl rfl rfl rfl fun w0 B m hm0 => ?_; (refine awp_norm (τ := ?_) ?_ ?_; rotate_left; (focus (simp only [AV.top, Tryz.ntmps36, List.length_cons, List.length_nil, Nat.reduceAdd, Nat.reduceSub, List.replicate_succ, List.replicate_zero, List.cons_append, List.nil_append]; exact rfl)))
    have hin := spec_l1In (t.size : Int) 1 6 true (decide_eq_true (by omega))
    rw [ht] at hin
    (repeat' (first | (first | refine awp_seq ?_ | refine awp_region ?_ | refine awp_block ?_ | refine awp_exit ?_ | refine awp_ret ?_ | refine awp_skip ?_ | refine ar_nil ?_ | refine dr_nil ?_ | (refine awp_region_draw ?_ ?_ ?_; kernel_rfl; kernel_rfl) | (first | refine t_norm ?_ | refine t_exit ?_ | refine t_ret ?_ | refine b_norm ?_ | refine b_exit ?_ | refine b_exit_ne rfl ?_ | refine b_ret ?_)) | ((first | ((first | apply ar_q | apply dr_q); exact qOp1) | ((first | apply ar_gu | apply dr_gu); exact rfl) | ((first | apply ar_gn | apply dr_gn); exact rfl; exact bdOk) | ((first | apply ar_qt | apply dr_qt); (focus (apply qt_call; kernel_rfl; exact (hin); exact rfl)))); (first | refine ar_nrm (k := ?_) | refine dr_nrm (k := ?_))) | ((first | apply ar_gy | apply dr_gy); exact rfl; exact bdOk) | (first | (apply awp_cond_t; exact rfl; exact bdOk) | (apply awp_cond_f; exact rfl; exact bdOk)) | ((first | apply ar_gs | apply dr_gs | apply awp_cond); (focus (exact rfl)); (all_goals (intro hc; (try simp only [decide_eq_true_eq, decide_eq_false_iff_not, Bool.not_eq_true', Bool.not_eq_false', Bool.not_true, Bool.not_false, bne_iff_ne, bne_eq_false_iff_eq, beq_iff_eq, beq_eq_false_iff_ne, ne_eq, Bool.cond_true_left, Bool.cond_false_right, Bool.or_eq_true, Bool.and_eq_true] at hc)))) | fail))
    refine awp_loopH [0] (fun i : Nat => [(4, .c (.p (.string (t)))), (5, .c (.p (.int .i64 (valD (t.data.toList.take i))))), (6, .c (.p (.int .i64 (i))))]) (fun _ => []) (fun _ => 0) (fun n i => i ≤ t.size ∧ (∀ c ∈ t.data.toList.take i, isD c) ∧ n = t.size - i) _ 0 ⟨by omega, by simp, rfl⟩ ?_ ?_
    · refine le_nrm (k := ?_); refine le_mk hsLe ?_; (repeat (first | exact AVs.le.nil | (with_reducible refine AVs.le.top _ ?_) | (with_reducible refine AVs.le.eq _ ?_) | refine AVs.le.eqv ?_ ?_)) <;> first | exact rfl | exact ps ht.symm | exact pi (by simp [valD])
    rintro n i ⟨h3, h4, rfl⟩
    refine nh_nrm (k := ?_)
    by_cases hi : i < t.size
    · obtain ⟨d, e2, e3⟩ := ba_get t hi
      have e2' : t[(i : Int).toNat]? = some d := e2
      have e4 : t.data.toList.take (i + 1) = t.data.toList.take i ++ [d] := by rw [← ByteArray.toList_eq]; exact e3
      have hdl := d.toNat_lt
      have hv : valD (t.data.toList.take i) < 1000000 := by
        have a1 := valD_lt _ h4
        have a2 : 10 ^ (t.data.toList.take i).length ≤ 10 ^ 6 := Nat.pow_le_pow_right (by decide) (by rw [List.length_take]; omega)
        have : (10 : Nat) ^ 6 = 1000000 := rfl
        omega
      by_cases hd : isD d
      · have hd' := hd
        unfold isD at hd'
        (repeat' (first | (first | refine awp_seq ?_ | refine awp_region ?_ | refine awp_block ?_ | refine awp_exit ?_ | refine awp_ret ?_ | refine awp_skip ?_ | refine ar_nil ?_ | refine dr_nil ?_ | (refine awp_region_draw ?_ ?_ ?_; kernel_rfl; kernel_rfl) | (first | refine t_norm ?_ | refine t_exit ?_ | refine t_ret ?_ | refine b_norm ?_ | refine b_exit ?_ | refine b_exit_ne rfl ?_ | refine b_ret ?_)) | ((first | ((first | apply ar_q | apply dr_q); exact qOp1) | ((first | apply ar_gu | apply dr_gu); exact rfl) | ((first | apply ar_gn | apply dr_gn); exact rfl; exact bdOk)); (first | refine ar_nrm (k := ?_) | refine dr_nrm (k := ?_))) | ((first | apply ar_gy | apply dr_gy); exact rfl; exact bdOk) | (first | (apply awp_cond_t; exact rfl; exact bdOk) | (apply awp_cond_f; exact rfl; exact bdOk)) | ((first | apply ar_gs | apply dr_gs | apply awp_cond); (focus (exact rfl)); (all_goals (intro hc; (try simp only [decide_eq_true_eq, decide_eq_false_iff_not, Bool.not_eq_true', Bool.not_eq_false', Bool.not_true, Bool.not_false, bne_iff_ne, bne_eq_false_iff_eq, beq_iff_eq, beq_eq_false_iff_ne, ne_eq, Bool.cond_true_left, Bool.cond_false_right, Bool.or_eq_true, Bool.and_eq_true] at hc)))) | fail))
        refine ⟨_, i + 1, ?_, ⟨by omega, ?_, rfl⟩, ?_⟩
        · omega
        · intro c hc
          rw [e4, List.mem_append, List.mem_singleton] at hc
          rcases hc with hc | rfl
          · exact h4 c hc
          · exact hd
        · have w8 := u8_dig hd
          have w64 : IntKind.i64.wrap ((d.toNat - 48 : Nat) : Int) = ((d.toNat - 48 : Nat) : Int) := IntWalk.i64_in _ (by omega)
          rw [e4, valD_snoc]
          refine le_nrm (k := ?_); refine le_mk hsLe ?_; (repeat (first | exact AVs.le.nil | (with_reducible refine AVs.le.top _ ?_) | (with_reducible refine AVs.le.eq _ ?_) | refine AVs.le.eqv ?_ ?_)) <;> first | exact rfl | exact pi (by first | omega | (rw [w8, w64, IntWalk.i64_in _ (by omega)]; omega))
      · have e : readR s = (0, false) := readR_no fun k => hd (k.2.2 d (by
          rw [hb]
          refine List.mem_of_mem_take (i := i + 1) ?_
          rw [e4]; simp))
        unfold isD at hd
        rw [e]
        by_cases hd2 : d.toNat < 48
        all_goals ((repeat' (first | (first | refine awp_seq ?_ | refine awp_region ?_ | refine awp_block ?_ | refine awp_exit ?_ | refine awp_ret ?_ | refine awp_skip ?_ | refine ar_nil ?_ | refine dr_nil ?_ | (refine awp_region_draw ?_ ?_ ?_; kernel_rfl; kernel_rfl) | (first | refine t_norm ?_ | refine t_exit ?_ | refine t_ret ?_ | refine b_norm ?_ | refine b_exit ?_ | refine b_exit_ne rfl ?_ | refine b_ret ?_)) | ((first | ((first | apply ar_q | apply dr_q); exact qOp1) | ((first | apply ar_gu | apply dr_gu); exact rfl) | ((first | apply ar_gn | apply dr_gn); exact rfl; exact bdOk)); (first | refine ar_nrm (k := ?_) | refine dr_nrm (k := ?_))) | ((first | apply ar_gy | apply dr_gy); exact rfl; exact bdOk) | (first | (apply awp_cond_t; exact rfl; exact bdOk) | (apply awp_cond_f; exact rfl; exact bdOk)) | ((first | apply ar_gs | apply dr_gs | apply awp_cond); (focus (exact rfl)); (all_goals (intro hc; (try simp only [decide_eq_true_eq, decide_eq_false_iff_not, Bool.not_eq_true', Bool.not_eq_false', Bool.not_true, Bool.not_false, bne_iff_ne, bne_eq_false_iff_eq, beq_iff_eq, beq_eq_false_iff_ne, ne_eq, Bool.cond_true_left, Bool.cond_false_right, Bool.or_eq_true, Bool.and_eq_true] at hc)))) | fail)))
        all_goals first | (exfalso; omega) | (refine ⟨.inr rfl, aend_mk [] rfl (by simp) (by first | (simp; done) | (simp; omega)) (ares_tmp2 _ rfl ?_ (ares_tmp2 _ rfl ?_ ares_nil)) rfl rfl⟩ <;> exact rfl)
    · have ei : t.data.toList.take i = t.data.toList := List.take_of_length_le (by rw [Array.length_toList]; show t.size ≤ i; omega)
      rw [ei] at h4 ⊢
      have hok : okT s := by unfold okT; rw [hb]; exact ⟨hl2.1, hl2.2, h4⟩
      have hbd := numT_bd hok
      have hnum : numT s = -(valD t.data.toList : Int) := by rw [numT, hb, if_pos hlt]
      have hcs := spec_l1Num (numT s) (by omega)
      cases hc : ((numS (numT s)).toList == s.toList) with
      | true =>
        have hc' : (!((numS (numT s)).toList == s.toList)) = false := by rw [hc]; rfl
        have e : readR s = (numT s, true) := if_pos ⟨hok, of_decide_eq_true (eqL hc)⟩
        rw [e]
        rw [hnum] at hcs hc' hbd ⊢
        (repeat' (first | (first | refine awp_seq ?_ | refine awp_region ?_ | refine awp_block ?_ | refine awp_exit ?_ | refine awp_ret ?_ | refine awp_skip ?_ | refine ar_nil ?_ | refine dr_nil ?_ | (refine awp_region_draw ?_ ?_ ?_; kernel_rfl; kernel_rfl) | (first | refine t_norm ?_ | refine t_exit ?_ | refine t_ret ?_ | refine b_norm ?_ | refine b_exit ?_ | refine b_exit_ne rfl ?_ | refine b_ret ?_)) | ((first | ((first | apply ar_q | apply dr_q); exact qOp1) | ((first | apply ar_gu | apply dr_gu); exact rfl) | ((first | apply ar_gn | apply dr_gn); exact rfl; exact bdOk) | ((first | apply ar_qt | apply dr_qt); (focus (apply qt_call; kernel_rfl; exact (hcs); exact rfl)))); (first | refine ar_nrm (k := ?_) | refine dr_nrm (k := ?_))) | ((first | apply ar_gy | apply dr_gy); exact rfl; exact bdOk) | (first | (apply awp_cond_t; exact rfl; exact bdOk) | (apply awp_cond_f; exact rfl; exact bdOk)) | ((first | apply ar_gs | apply dr_gs | apply awp_cond); (focus (exact rfl)); (all_goals (intro hc; (try simp only [decide_eq_true_eq, decide_eq_false_iff_not, Bool.not_eq_true', Bool.not_eq_false', Bool.not_true, Bool.not_false, bne_iff_ne, bne_eq_false_iff_eq, beq_iff_eq, beq_eq_false_iff_ne, ne_eq, Bool.cond_true_left, Bool.cond_false_right, Bool.or_eq_true, Bool.and_eq_true] at hc)))) | fail))
        refine ⟨.inr rfl, aend_mk [] rfl (by simp) (by first | (simp; done) | (simp; omega)) (ares_tmp2 _ rfl ?_ (ares_tmp2 _ rfl ?_ ares_nil)) rfl rfl⟩ <;> exact rfl
      | false =>
        have hc' : (!((numS (numT s)).toList == s.toList)) = true := by rw [hc]; rfl
        have e : readR s = (0, false) := if_neg fun k => of_decide_eq_false (eqL hc) k.2
        rw [e]
        rw [hnum] at hcs hc' hbd
        (repeat' (first | (first | refine awp_seq ?_ | refine awp_region ?_ | refine awp_block ?_ | refine awp_exit ?_ | refine awp_ret ?_ | refine awp_skip ?_ | refine ar_nil ?_ | refine dr_nil ?_ | (refine awp_region_draw ?_ ?_ ?_; kernel_rfl; kernel_rfl) | (first | refine t_norm ?_ | refine t_exit ?_ | refine t_ret ?_ | refine b_norm ?_ | refine b_exit ?_ | refine b_exit_ne rfl ?_ | refine b_ret ?_)) | ((first | ((first | apply ar_q | apply dr_q); exact qOp1) | ((first | apply ar_gu | apply dr_gu); exact rfl) | ((first | apply ar_gn | apply dr_gn); exact rfl; exact bdOk) | ((first | apply ar_qt | apply dr_qt); (focus (apply qt_call; kernel_rfl; exact (hcs); exact rfl)))); (first | refine ar_nrm (k := ?_) | refine dr_nrm (k := ?_))) | ((first | apply ar_gy | apply dr_gy); exact rfl; exact bdOk) | (first | (apply awp_cond_t; exact rfl; exact bdOk) | (apply awp_cond_f; exact rfl; exact bdOk)) | ((first | apply ar_gs | apply dr_gs | apply awp_cond); (focus (exact rfl)); (all_goals (intro hc; (try simp only [decide_eq_true_eq, decide_eq_false_iff_not, Bool.not_eq_true', Bool.not_eq_false', Bool.not_true, Bool.not_false, bne_iff_ne, bne_eq_false_iff_eq, beq_iff_eq, beq_eq_false_iff_ne, ne_eq, Bool.cond_true_left, Bool.cond_false_right, Bool.or_eq_true, Bool.and_eq_true] at hc)))) | fail))
        refine ⟨.inr rfl, aend_mk [] rfl (by simp) (by first | (simp; done) | (simp; omega)) (ares_tmp2 _ rfl ?_ (ares_tmp2 _ rfl ?_ ares_nil)) rfl rfl⟩ <;> exact rfl
  · have e : readR s = (0, false) := readR_no fun k => hl2 (by have := k.1; have := k.2.1; rw [hb] at *; omega)
    refine acalls_of (ws := [.c (.p (.int .i64 ((readR s).1))), .c (.p (.bool ((readR s).2)))]) Tryz.func36 rfl rfl rfl rfl fun w0 B m hm0 => ?_; (refine awp_norm (τ := ?_) ?_ ?_; rotate_left; (focus (simp only [AV.top, Tryz.ntmps36, List.length_cons, List.length_nil, Nat.reduceAdd, Nat.reduceSub, List.replicate_succ, List.replicate_zero, List.cons_append, List.nil_append]; exact rfl)))
    rw [e]
    have hin := spec_l1In (t.size : Int) 1 6 false (decide_eq_false (by omega))
    rw [ht] at hin
    (repeat' (first | (first | refine awp_seq ?_ | refine awp_region ?_ | refine awp_block ?_ | refine awp_exit ?_ | refine awp_ret ?_ | refine awp_skip ?_ | refine ar_nil ?_ | refine dr_nil ?_ | (refine awp_region_draw ?_ ?_ ?_; kernel_rfl; kernel_rfl) | (first | refine t_norm ?_ | refine t_exit ?_ | refine t_ret ?_ | refine b_norm ?_ | refine b_exit ?_ | refine b_exit_ne rfl ?_ | refine b_ret ?_)) | ((first | ((first | apply ar_q | apply dr_q); exact qOp1) | ((first | apply ar_gu | apply dr_gu); exact rfl) | ((first | apply ar_gn | apply dr_gn); exact rfl; exact bdOk) | ((first | apply ar_qt | apply dr_qt); (focus (apply qt_call; kernel_rfl; exact (hin); exact rfl)))); (first | refine ar_nrm (k := ?_) | refine dr_nrm (k := ?_))) | ((first | apply ar_gy | apply dr_gy); exact rfl; exact bdOk) | (first | (apply awp_cond_t; exact rfl; exact bdOk) | (apply awp_cond_f; exact rfl; exact bdOk)) | ((first | apply ar_gs | apply dr_gs | apply awp_cond); (focus (exact rfl)); (all_goals (intro hc; (try simp only [decide_eq_true_eq, decide_eq_false_iff_not, Bool.not_eq_true', Bool.not_eq_false', Bool.not_true, Bool.not_false, bne_iff_ne, bne_eq_false_iff_eq, beq_iff_eq, beq_eq_false_iff_ne, ne_eq, Bool.cond_true_left, Bool.cond_false_right, Bool.or_eq_true, Bool.and_eq_true] at hc)))) | fail))
    refine ⟨.inr rfl, aend_mk [] rfl (by simp) (by first | (simp; done) | (simp; omega)) (ares_tmp2 _ rfl ?_ (ares_tmp2 _ rfl ?_ ares_nil)) rfl rfl⟩ <;> exact rfl
theorem spec_read_pos (s t : ByteArray) (hs : s.size ≤ 1048576) (hb : bodyT s = t) (hl : 1 < s.size) (c : UInt8) (e0' : s[(0 : Int).toNat]? = some c) (hc : ¬ (c.toNat : Int) = 45) (ht : t = s) (hlt : ¬ t.size < s.size) : ACalls Tryz.prog 36 [.c (.p (.string (s)))] [] (.tup [.c (.p (.int .i64 ((readR s).1))), .c (.p (.bool ((readR s).2)))]) [] 0 := by
  by_cases hl2 : 1 ≤ t.size ∧ t.size ≤ 6
  · refine acalls_of (ws := [.c (.p (.int .i64 ((readR s).1))), .c (.p (.bool ((readR s).2)))]) Tryz.func36 rfl rfl rfl rfl fun w0 B m hm0 => ?_; (refine awp_norm (τ := ?_) ?_ ?_; rotate_left; (focus (simp only [AV.top, Tryz.ntmps36, List.length_cons, List.length_nil, Nat.reduceAdd, Nat.reduceSub, List.replicate_succ, List.replicate_zero, List.cons_append, List.nil_append]; exact rfl)))
    have hin := spec_l1In (t.size : Int) 1 6 true (decide_eq_true (by omega))
    rw [ht] at hin
    (repeat' (first | (first | refine awp_seq ?_ | refine awp_region ?_ | refine awp_block ?_ | refine awp_exit ?_ | refine awp_ret ?_ | refine awp_skip ?_ | refine ar_nil ?_ | refine dr_nil ?_ | (refine awp_region_draw ?_ ?_ ?_; kernel_rfl; kernel_rfl) | (first | refine t_norm ?_ | refine t_exit ?_ | refine t_ret ?_ | refine b_norm ?_ | refine b_exit ?_ | refine b_exit_ne rfl ?_ | refine b_ret ?_)) | ((first | ((first | apply ar_q | apply dr_q); exact qOp1) | ((first | apply ar_gu | apply dr_gu); exact rfl) | ((first | apply ar_gn | apply dr_gn); exact rfl; exact bdOk) | ((first | apply ar_qt | apply dr_qt); (focus (apply qt_call; kernel_rfl; exact (hin); exact rfl)))); (first | refine ar_nrm (k := ?_) | refine dr_nrm (k := ?_))) | ((first | apply ar_gy | apply dr_gy); exact rfl; exact bdOk) | (first | (apply awp_cond_t; exact rfl; exact bdOk) | (apply awp_cond_f; exact rfl; exact bdOk)) | ((first | apply ar_gs | apply dr_gs | apply awp_cond); (focus (exact rfl)); (all_goals (intro hc; (try simp only [decide_eq_true_eq, decide_eq_false_iff_not, Bool.not_eq_true', Bool.not_eq_false', Bool.not_true, Bool.not_false, bne_iff_ne, bne_eq_false_iff_eq, beq_iff_eq, beq_eq_false_iff_ne, ne_eq, Bool.cond_true_left, Bool.cond_false_right, Bool.or_eq_true, Bool.and_eq_true] at hc)))) | fail))
    refine awp_loopH [0] (fun i : Nat => [(4, .c (.p (.string (t)))), (5, .c (.p (.int .i64 (valD (t.data.toList.take i))))), (6, .c (.p (.int .i64 (i))))]) (fun _ => []) (fun _ => 0) (fun n i => i ≤ t.size ∧ (∀ c ∈ t.data.toList.take i, isD c) ∧ n = t.size - i) _ 0 ⟨by omega, by simp, rfl⟩ ?_ ?_
    · refine le_nrm (k := ?_); refine le_mk hsLe ?_; (repeat (first | exact AVs.le.nil | (with_reducible refine AVs.le.top _ ?_) | (with_reducible refine AVs.le.eq _ ?_) | refine AVs.le.eqv ?_ ?_)) <;> first | exact rfl | exact ps ht.symm | exact pi (by simp [valD])
    rintro n i ⟨h3, h4, rfl⟩
    refine nh_nrm (k := ?_)
    by_cases hi : i < t.size
    · obtain ⟨d, e2, e3⟩ := ba_get t hi
      have e2' : t[(i : Int).toNat]? = some d := e2
      have e4 : t.data.toList.take (i + 1) = t.data.toList.take i ++ [d] := by rw [← ByteArray.toList_eq]; exact e3
      have hdl := d.toNat_lt
      have hv : valD (t.data.toList.take i) < 1000000 := by
        have a1 := valD_lt _ h4
        have a2 : 10 ^ (t.data.toList.take i).length ≤ 10 ^ 6 := Nat.pow_le_pow_right (by decide) (by rw [List.length_take]; omega)
        have : (10 : Nat) ^ 6 = 1000000 := rfl
        omega
      by_cases hd : isD d
      · have hd' := hd
        unfold isD at hd'
        (repeat' (first | (first | refine awp_seq ?_ | refine awp_region ?_ | refine awp_block ?_ | refine awp_exit ?_ | refine awp_ret ?_ | refine awp_skip ?_ | refine ar_nil ?_ | refine dr_nil ?_ | (refine awp_region_draw ?_ ?_ ?_; kernel_rfl; kernel_rfl) | (first | refine t_norm ?_ | refine t_exit ?_ | refine t_ret ?_ | refine b_norm ?_ | refine b_exit ?_ | refine b_exit_ne rfl ?_ | refine b_ret ?_)) | ((first | ((first | apply ar_q | apply dr_q); exact qOp1) | ((first | apply ar_gu | apply dr_gu); exact rfl) | ((first | apply ar_gn | apply dr_gn); exact rfl; exact bdOk)); (first | refine ar_nrm (k := ?_) | refine dr_nrm (k := ?_))) | ((first | apply ar_gy | apply dr_gy); exact rfl; exact bdOk) | (first | (apply awp_cond_t; exact rfl; exact bdOk) | (apply awp_cond_f; exact rfl; exact bdOk)) | ((first | apply ar_gs | apply dr_gs | apply awp_cond); (focus (exact rfl)); (all_goals (intro hc; (try simp only [decide_eq_true_eq, decide_eq_false_iff_not, Bool.not_eq_true', Bool.not_eq_false', Bool.not_true, Bool.not_false, bne_iff_ne, bne_eq_false_iff_eq, beq_iff_eq, beq_eq_false_iff_ne, ne_eq, Bool.cond_true_left, Bool.cond_false_right, Bool.or_eq_true, Bool.and_eq_true] at hc)))) | fail))
        refine ⟨_, i + 1, ?_, ⟨by omega, ?_, rfl⟩, ?_⟩
        · omega
        · intro c hc
          rw [e4, List.mem_append, List.mem_singleton] at hc
          rcases hc with hc | rfl
          · exact h4 c hc
          · exact hd
        · have w8 := u8_dig hd
          have w64 : IntKind.i64.wrap ((d.toNat - 48 : Nat) : Int) = ((d.toNat - 48 : Nat) : Int) := IntWalk.i64_in _ (by omega)
          rw [e4, valD_snoc]
          refine le_nrm (k := ?_); refine le_mk hsLe ?_; (repeat (first | exact AVs.le.nil | (with_reducible refine AVs.le.top _ ?_) | (with_reducible refine AVs.le.eq _ ?_) | refine AVs.le.eqv ?_ ?_)) <;> first | exact rfl | exact pi (by first | omega | (rw [w8, w64, IntWalk.i64_in _ (by omega)]; omega))
      · have e : readR s = (0, false) := readR_no fun k => hd (k.2.2 d (by
          rw [hb]
          refine List.mem_of_mem_take (i := i + 1) ?_
          rw [e4]; simp))
        unfold isD at hd
        rw [e]
        by_cases hd2 : d.toNat < 48
        all_goals ((repeat' (first | (first | refine awp_seq ?_ | refine awp_region ?_ | refine awp_block ?_ | refine awp_exit ?_ | refine awp_ret ?_ | refine awp_skip ?_ | refine ar_nil ?_ | refine dr_nil ?_ | (refine awp_region_draw ?_ ?_ ?_; kernel_rfl; kernel_rfl) | (first | refine t_norm ?_ | refine t_exit ?_ | refine t_ret ?_ | refine b_norm ?_ | refine b_exit ?_ | refine b_exit_ne rfl ?_ | refine b_ret ?_)) | ((first | ((first | apply ar_q | apply dr_q); exact qOp1) | ((first | apply ar_gu | apply dr_gu); exact rfl) | ((first | apply ar_gn | apply dr_gn); exact rfl; exact bdOk)); (first | refine ar_nrm (k := ?_) | refine dr_nrm (k := ?_))) | ((first | apply ar_gy | apply dr_gy); exact rfl; exact bdOk) | (first | (apply awp_cond_t; exact rfl; exact bdOk) | (apply awp_cond_f; exact rfl; exact bdOk)) | ((first | apply ar_gs | apply dr_gs | apply awp_cond); (focus (exact rfl)); (all_goals (intro hc; (try simp only [decide_eq_true_eq, decide_eq_false_iff_not, Bool.not_eq_true', Bool.not_eq_false', Bool.not_true, Bool.not_false, bne_iff_ne, bne_eq_false_iff_eq, beq_iff_eq, beq_eq_false_iff_ne, ne_eq, Bool.cond_true_left, Bool.cond_false_right, Bool.or_eq_true, Bool.and_eq_true] at hc)))) | fail)))
        all_goals first | (exfalso; omega) | (refine ⟨.inr rfl, aend_mk [] rfl (by simp) (by first | (simp; done) | (simp; omega)) (ares_tmp2 _ rfl ?_ (ares_tmp2 _ rfl ?_ ares_nil)) rfl rfl⟩ <;> exact rfl)
    · have ei : t.data.toList.take i = t.data.toList := List.take_of_length_le (by rw [Array.length_toList]; show t.size ≤ i; omega)
      rw [ei] at h4 ⊢
      have hok : okT s := by unfold okT; rw [hb]; exact ⟨hl2.1, hl2.2, h4⟩
      have hbd := numT_bd hok
      have hnum : numT s = (valD t.data.toList : Int) := by rw [numT, hb, if_neg hlt]
      have hcs := spec_l1Num (numT s) (by omega)
      cases hc : ((numS (numT s)).toList == s.toList) with
      | true =>
        have hc' : (!((numS (numT s)).toList == s.toList)) = false := by rw [hc]; rfl
        have e : readR s = (numT s, true) := if_pos ⟨hok, of_decide_eq_true (eqL hc)⟩
        rw [e]
        rw [hnum] at hcs hc' hbd ⊢
        (repeat' (first | (first | refine awp_seq ?_ | refine awp_region ?_ | refine awp_block ?_ | refine awp_exit ?_ | refine awp_ret ?_ | refine awp_skip ?_ | refine ar_nil ?_ | refine dr_nil ?_ | (refine awp_region_draw ?_ ?_ ?_; kernel_rfl; kernel_rfl) | (first | refine t_norm ?_ | refine t_exit ?_ | refine t_ret ?_ | refine b_norm ?_ | refine b_exit ?_ | refine b_exit_ne rfl ?_ | refine b_ret ?_)) | ((first | ((first | apply ar_q | apply dr_q); exact qOp1) | ((first | apply ar_gu | apply dr_gu); exact rfl) | ((first | apply ar_gn | apply dr_gn); exact rfl; exact bdOk) | ((first | apply ar_qt | apply dr_qt); (focus (apply qt_call; kernel_rfl; exact (hcs); exact rfl)))); (first | refine ar_nrm (k := ?_) | refine dr_nrm (k := ?_))) | ((first | apply ar_gy | apply dr_gy); exact rfl; exact bdOk) | (first | (apply awp_cond_t; exact rfl; exact bdOk) | (apply awp_cond_f; exact rfl; exact bdOk)) | ((first | apply ar_gs | apply dr_gs | apply awp_cond); (focus (exact rfl)); (all_goals (intro hc; (try simp only [decide_eq_true_eq, decide_eq_false_iff_not, Bool.not_eq_true', Bool.not_eq_false', Bool.not_true, Bool.not_false, bne_iff_ne, bne_eq_false_iff_eq, beq_iff_eq, beq_eq_false_iff_ne, ne_eq, Bool.cond_true_left, Bool.cond_false_right, Bool.or_eq_true, Bool.and_eq_true] at hc)))) | fail))
        refine ⟨.inr rfl, aend_mk [] rfl (by simp) (by first | (simp; done) | (simp; omega)) (ares_tmp2 _ rfl ?_ (ares_tmp2 _ rfl ?_ ares_nil)) rfl rfl⟩ <;> exact rfl
      | false =>
        have hc' : (!((numS (numT s)).toList == s.toList)) = true := by rw [hc]; rfl
        have e : readR s = (0, false) := if_neg fun k => of_decide_eq_false (eqL hc) k.2
        rw [e]
        rw [hnum] at hcs hc' hbd
        (repeat' (first | (first | refine awp_seq ?_ | refine awp_region ?_ | refine awp_block ?_ | refine awp_exit ?_ | refine awp_ret ?_ | refine awp_skip ?_ | refine ar_nil ?_ | refine dr_nil ?_ | (refine awp_region_draw ?_ ?_ ?_; kernel_rfl; kernel_rfl) | (first | refine t_norm ?_ | refine t_exit ?_ | refine t_ret ?_ | refine b_norm ?_ | refine b_exit ?_ | refine b_exit_ne rfl ?_ | refine b_ret ?_)) | ((first | ((first | apply ar_q | apply dr_q); exact qOp1) | ((first | apply ar_gu | apply dr_gu); exact rfl) | ((first | apply ar_gn | apply dr_gn); exact rfl; exact bdOk) | ((first | apply ar_qt | apply dr_qt); (focus (apply qt_call; kernel_rfl; exact (hcs); exact rfl)))); (first | refine ar_nrm (k := ?_) | refine dr_nrm (k := ?_))) | ((first | apply ar_gy | apply dr_gy); exact rfl; exact bdOk) | (first | (apply awp_cond_t; exact rfl; exact bdOk) | (apply awp_cond_f; exact rfl; exact bdOk)) | ((first | apply ar_gs | apply dr_gs | apply awp_cond); (focus (exact rfl)); (all_goals (intro hc; (try simp only [decide_eq_true_eq, decide_eq_false_iff_not, Bool.not_eq_true', Bool.not_eq_false', Bool.not_true, Bool.not_false, bne_iff_ne, bne_eq_false_iff_eq, beq_iff_eq, beq_eq_false_iff_ne, ne_eq, Bool.cond_true_left, Bool.cond_false_right, Bool.or_eq_true, Bool.and_eq_true] at hc)))) | fail))
        refine ⟨.inr rfl, aend_mk [] rfl (by simp) (by first | (simp; done) | (simp; omega)) (ares_tmp2 _ rfl ?_ (ares_tmp2 _ rfl ?_ ares_nil)) rfl rfl⟩ <;> exact rfl
  · have e : readR s = (0, false) := readR_no fun k => hl2 (by have := k.1; have := k.2.1; rw [hb] at *; omega)
    refine acalls_of (ws := [.c (.p (.int .i64 ((readR s).1))), .c (.p (.bool ((readR s).2)))]) Tryz.func36 rfl rfl rfl rfl fun w0 B m hm0 => ?_; (refine awp_norm (τ := ?_) ?_ ?_; rotate_left; (focus (simp only [AV.top, Tryz.ntmps36, List.length_cons, List.length_nil, Nat.reduceAdd, Nat.reduceSub, List.replicate_succ, List.replicate_zero, List.cons_append, List.nil_append]; exact rfl)))
    rw [e]
    have hin := spec_l1In (t.size : Int) 1 6 false (decide_eq_false (by omega))
    rw [ht] at hin
    (repeat' (first | (first | refine awp_seq ?_ | refine awp_region ?_ | refine awp_block ?_ | refine awp_exit ?_ | refine awp_ret ?_ | refine awp_skip ?_ | refine ar_nil ?_ | refine dr_nil ?_ | (refine awp_region_draw ?_ ?_ ?_; kernel_rfl; kernel_rfl) | (first | refine t_norm ?_ | refine t_exit ?_ | refine t_ret ?_ | refine b_norm ?_ | refine b_exit ?_ | refine b_exit_ne rfl ?_ | refine b_ret ?_)) | ((first | ((first | apply ar_q | apply dr_q); exact qOp1) | ((first | apply ar_gu | apply dr_gu); exact rfl) | ((first | apply ar_gn | apply dr_gn); exact rfl; exact bdOk) | ((first | apply ar_qt | apply dr_qt); (focus (apply qt_call; kernel_rfl; exact (hin); exact rfl)))); (first | refine ar_nrm (k := ?_) | refine dr_nrm (k := ?_))) | ((first | apply ar_gy | apply dr_gy); exact rfl; exact bdOk) | (first | (apply awp_cond_t; exact rfl; exact bdOk) | (apply awp_cond_f; exact rfl; exact bdOk)) | ((first | apply ar_gs | apply dr_gs | apply awp_cond); (focus (exact rfl)); (all_goals (intro hc; (try simp only [decide_eq_true_eq, decide_eq_false_iff_not, Bool.not_eq_true', Bool.not_eq_false', Bool.not_true, Bool.not_false, bne_iff_ne, bne_eq_false_iff_eq, beq_iff_eq, beq_eq_false_iff_ne, ne_eq, Bool.cond_true_left, Bool.cond_false_right, Bool.or_eq_true, Bool.and_eq_true] at hc)))) | fail))
    refine ⟨.inr rfl, aend_mk [] rfl (by simp) (by first | (simp; done) | (simp; omega)) (ares_tmp2 _ rfl ?_ (ares_tmp2 _ rfl ?_ ares_nil)) rfl rfl⟩ <;> exact rfl
theorem spec_read_one (s t : ByteArray) (hs : s.size ≤ 1048576) (hb : bodyT s = t) (hl : ¬ 1 < s.size) (ht : t = s) (hlt : ¬ t.size < s.size) : ACalls Tryz.prog 36 [.c (.p (.string (s)))] [] (.tup [.c (.p (.int .i64 ((readR s).1))), .c (.p (.bool ((readR s).2)))]) [] 0 := by
  by_cases hl2 : 1 ≤ t.size ∧ t.size ≤ 6
  · refine acalls_of (ws := [.c (.p (.int .i64 ((readR s).1))), .c (.p (.bool ((readR s).2)))]) Tryz.func36 rfl rfl rfl rfl fun w0 B m hm0 => ?_; (refine awp_norm (τ := ?_) ?_ ?_; rotate_left; (focus (simp only [AV.top, Tryz.ntmps36, List.length_cons, List.length_nil, Nat.reduceAdd, Nat.reduceSub, List.replicate_succ, List.replicate_zero, List.cons_append, List.nil_append]; exact rfl)))
    have hin := spec_l1In (t.size : Int) 1 6 true (decide_eq_true (by omega))
    rw [ht] at hin
    (repeat' (first | (first | refine awp_seq ?_ | refine awp_region ?_ | refine awp_block ?_ | refine awp_exit ?_ | refine awp_ret ?_ | refine awp_skip ?_ | refine ar_nil ?_ | refine dr_nil ?_ | (refine awp_region_draw ?_ ?_ ?_; kernel_rfl; kernel_rfl) | (first | refine t_norm ?_ | refine t_exit ?_ | refine t_ret ?_ | refine b_norm ?_ | refine b_exit ?_ | refine b_exit_ne rfl ?_ | refine b_ret ?_)) | ((first | ((first | apply ar_q | apply dr_q); exact qOp1) | ((first | apply ar_gu | apply dr_gu); exact rfl) | ((first | apply ar_gn | apply dr_gn); exact rfl; exact bdOk) | ((first | apply ar_qt | apply dr_qt); (focus (apply qt_call; kernel_rfl; exact (hin); exact rfl)))); (first | refine ar_nrm (k := ?_) | refine dr_nrm (k := ?_))) | ((first | apply ar_gy | apply dr_gy); exact rfl; exact bdOk) | (first | (apply awp_cond_t; exact rfl; exact bdOk) | (apply awp_cond_f; exact rfl; exact bdOk)) | ((first | apply ar_gs | apply dr_gs | apply awp_cond); (focus (exact rfl)); (all_goals (intro hc; (try simp only [decide_eq_true_eq, decide_eq_false_iff_not, Bool.not_eq_true', Bool.not_eq_false', Bool.not_true, Bool.not_false, bne_iff_ne, bne_eq_false_iff_eq, beq_iff_eq, beq_eq_false_iff_ne, ne_eq, Bool.cond_true_left, Bool.cond_false_right, Bool.or_eq_true, Bool.and_eq_true] at hc)))) | fail))
    refine awp_loopH [0] (fun i : Nat => [(4, .c (.p (.string (t)))), (5, .c (.p (.int .i64 (valD (t.data.toList.take i))))), (6, .c (.p (.int .i64 (i))))]) (fun _ => []) (fun _ => 0) (fun n i => i ≤ t.size ∧ (∀ c ∈ t.data.toList.take i, isD c) ∧ n = t.size - i) _ 0 ⟨by omega, by simp, rfl⟩ ?_ ?_
    · refine le_nrm (k := ?_); refine le_mk hsLe ?_; (repeat (first | exact AVs.le.nil | (with_reducible refine AVs.le.top _ ?_) | (with_reducible refine AVs.le.eq _ ?_) | refine AVs.le.eqv ?_ ?_)) <;> first | exact rfl | exact ps ht.symm | exact pi (by simp [valD])
    rintro n i ⟨h3, h4, rfl⟩
    refine nh_nrm (k := ?_)
    by_cases hi : i < t.size
    · obtain ⟨d, e2, e3⟩ := ba_get t hi
      have e2' : t[(i : Int).toNat]? = some d := e2
      have e4 : t.data.toList.take (i + 1) = t.data.toList.take i ++ [d] := by rw [← ByteArray.toList_eq]; exact e3
      have hdl := d.toNat_lt
      have hv : valD (t.data.toList.take i) < 1000000 := by
        have a1 := valD_lt _ h4
        have a2 : 10 ^ (t.data.toList.take i).length ≤ 10 ^ 6 := Nat.pow_le_pow_right (by decide) (by rw [List.length_take]; omega)
        have : (10 : Nat) ^ 6 = 1000000 := rfl
        omega
      by_cases hd : isD d
      · have hd' := hd
        unfold isD at hd'
        (repeat' (first | (first | refine awp_seq ?_ | refine awp_region ?_ | refine awp_block ?_ | refine awp_exit ?_ | refine awp_ret ?_ | refine awp_skip ?_ | refine ar_nil ?_ | refine dr_nil ?_ | (refine awp_region_draw ?_ ?_ ?_; kernel_rfl; kernel_rfl) | (first | refine t_norm ?_ | refine t_exit ?_ | refine t_ret ?_ | refine b_norm ?_ | refine b_exit ?_ | refine b_exit_ne rfl ?_ | refine b_ret ?_)) | ((first | ((first | apply ar_q | apply dr_q); exact qOp1) | ((first | apply ar_gu | apply dr_gu); exact rfl) | ((first | apply ar_gn | apply dr_gn); exact rfl; exact bdOk)); (first | refine ar_nrm (k := ?_) | refine dr_nrm (k := ?_))) | ((first | apply ar_gy | apply dr_gy); exact rfl; exact bdOk) | (first | (apply awp_cond_t; exact rfl; exact bdOk) | (apply awp_cond_f; exact rfl; exact bdOk)) | ((first | apply ar_gs | apply dr_gs | apply awp_cond); (focus (exact rfl)); (all_goals (intro hc; (try simp only [decide_eq_true_eq, decide_eq_false_iff_not, Bool.not_eq_true', Bool.not_eq_false', Bool.not_true, Bool.not_false, bne_iff_ne, bne_eq_false_iff_eq, beq_iff_eq, beq_eq_false_iff_ne, ne_eq, Bool.cond_true_left, Bool.cond_false_right, Bool.or_eq_true, Bool.and_eq_true] at hc)))) | fail))
        refine ⟨_, i + 1, ?_, ⟨by omega, ?_, rfl⟩, ?_⟩
        · omega
        · intro c hc
          rw [e4, List.mem_append, List.mem_singleton] at hc
          rcases hc with hc | rfl
          · exact h4 c hc
          · exact hd
        · have w8 := u8_dig hd
          have w64 : IntKind.i64.wrap ((d.toNat - 48 : Nat) : Int) = ((d.toNat - 48 : Nat) : Int) := IntWalk.i64_in _ (by omega)
          rw [e4, valD_snoc]
          refine le_nrm (k := ?_); refine le_mk hsLe ?_; (repeat (first | exact AVs.le.nil | (with_reducible refine AVs.le.top _ ?_) | (with_reducible refine AVs.le.eq _ ?_) | refine AVs.le.eqv ?_ ?_)) <;> first | exact rfl | exact pi (by first | omega | (rw [w8, w64, IntWalk.i64_in _ (by omega)]; omega))
      · have e : readR s = (0, false) := readR_no fun k => hd (k.2.2 d (by
          rw [hb]
          refine List.mem_of_mem_take (i := i + 1) ?_
          rw [e4]; simp))
        unfold isD at hd
        rw [e]
        by_cases hd2 : d.toNat < 48
        all_goals ((repeat' (first | (first | refine awp_seq ?_ | refine awp_region ?_ | refine awp_block ?_ | refine awp_exit ?_ | refine awp_ret ?_ | refine awp_skip ?_ | refine ar_nil ?_ | refine dr_nil ?_ | (refine awp_region_draw ?_ ?_ ?_; kernel_rfl; kernel_rfl) | (first | refine t_norm ?_ | refine t_exit ?_ | refine t_ret ?_ | refine b_norm ?_ | refine b_exit ?_ | refine b_exit_ne rfl ?_ | refine b_ret ?_)) | ((first | ((first | apply ar_q | apply dr_q); exact qOp1) | ((first | apply ar_gu | apply dr_gu); exact rfl) | ((first | apply ar_gn | apply dr_gn); exact rfl; exact bdOk)); (first | refine ar_nrm (k := ?_) | refine dr_nrm (k := ?_))) | ((first | apply ar_gy | apply dr_gy); exact rfl; exact bdOk) | (first | (apply awp_cond_t; exact rfl; exact bdOk) | (apply awp_cond_f; exact rfl; exact bdOk)) | ((first | apply ar_gs | apply dr_gs | apply awp_cond); (focus (exact rfl)); (all_goals (intro hc; (try simp only [decide_eq_true_eq, decide_eq_false_iff_not, Bool.not_eq_true', Bool.not_eq_false', Bool.not_true, Bool.not_false, bne_iff_ne, bne_eq_false_iff_eq, beq_iff_eq, beq_eq_false_iff_ne, ne_eq, Bool.cond_true_left, Bool.cond_false_right, Bool.or_eq_true, Bool.and_eq_true] at hc)))) | fail)))
        all_goals first | (exfalso; omega) | (refine ⟨.inr rfl, aend_mk [] rfl (by simp) (by first | (simp; done) | (simp; omega)) (ares_tmp2 _ rfl ?_ (ares_tmp2 _ rfl ?_ ares_nil)) rfl rfl⟩ <;> exact rfl)
    · have ei : t.data.toList.take i = t.data.toList := List.take_of_length_le (by rw [Array.length_toList]; show t.size ≤ i; omega)
      rw [ei] at h4 ⊢
      have hok : okT s := by unfold okT; rw [hb]; exact ⟨hl2.1, hl2.2, h4⟩
      have hbd := numT_bd hok
      have hnum : numT s = (valD t.data.toList : Int) := by rw [numT, hb, if_neg hlt]
      have hcs := spec_l1Num (numT s) (by omega)
      cases hc : ((numS (numT s)).toList == s.toList) with
      | true =>
        have hc' : (!((numS (numT s)).toList == s.toList)) = false := by rw [hc]; rfl
        have e : readR s = (numT s, true) := if_pos ⟨hok, of_decide_eq_true (eqL hc)⟩
        rw [e]
        rw [hnum] at hcs hc' hbd ⊢
        (repeat' (first | (first | refine awp_seq ?_ | refine awp_region ?_ | refine awp_block ?_ | refine awp_exit ?_ | refine awp_ret ?_ | refine awp_skip ?_ | refine ar_nil ?_ | refine dr_nil ?_ | (refine awp_region_draw ?_ ?_ ?_; kernel_rfl; kernel_rfl) | (first | refine t_norm ?_ | refine t_exit ?_ | refine t_ret ?_ | refine b_norm ?_ | refine b_exit ?_ | refine b_exit_ne rfl ?_ | refine b_ret ?_)) | ((first | ((first | apply ar_q | apply dr_q); exact qOp1) | ((first | apply ar_gu | apply dr_gu); exact rfl) | ((first | apply ar_gn | apply dr_gn); exact rfl; exact bdOk) | ((first | apply ar_qt | apply dr_qt); (focus (apply qt_call; kernel_rfl; exact (hcs); exact rfl)))); (first | refine ar_nrm (k := ?_) | refine dr_nrm (k := ?_))) | ((first | apply ar_gy | apply dr_gy); exact rfl; exact bdOk) | (first | (apply awp_cond_t; exact rfl; exact bdOk) | (apply awp_cond_f; exact rfl; exact bdOk)) | ((first | apply ar_gs | apply dr_gs | apply awp_cond); (focus (exact rfl)); (all_goals (intro hc; (try simp only [decide_eq_true_eq, decide_eq_false_iff_not, Bool.not_eq_true', Bool.not_eq_false', Bool.not_true, Bool.not_false, bne_iff_ne, bne_eq_false_iff_eq, beq_iff_eq, beq_eq_false_iff_ne, ne_eq, Bool.cond_true_left, Bool.cond_false_right, Bool.or_eq_true, Bool.and_eq_true] at hc)))) | fail))
        refine ⟨.inr rfl, aend_mk [] rfl (by simp) (by first | (simp; done) | (simp; omega)) (ares_tmp2 _ rfl ?_ (ares_tmp2 _ rfl ?_ ares_nil)) rfl rfl⟩ <;> exact rfl
      | false =>
        have hc' : (!((numS (numT s)).toList == s.toList)) = true := by rw [hc]; rfl
        have e : readR s = (0, false) := if_neg fun k => of_decide_eq_false (eqL hc) k.2
        rw [e]
        rw [hnum] at hcs hc' hbd
        (repeat' (first | (first | refine awp_seq ?_ | refine awp_region ?_ | refine awp_block ?_ | refine awp_exit ?_ | refine awp_ret ?_ | refine awp_skip ?_ | refine ar_nil ?_ | refine dr_nil ?_ | (refine awp_region_draw ?_ ?_ ?_; kernel_rfl; kernel_rfl) | (first | refine t_norm ?_ | refine t_exit ?_ | refine t_ret ?_ | refine b_norm ?_ | refine b_exit ?_ | refine b_exit_ne rfl ?_ | refine b_ret ?_)) | ((first | ((first | apply ar_q | apply dr_q); exact qOp1) | ((first | apply ar_gu | apply dr_gu); exact rfl) | ((first | apply ar_gn | apply dr_gn); exact rfl; exact bdOk) | ((first | apply ar_qt | apply dr_qt); (focus (apply qt_call; kernel_rfl; exact (hcs); exact rfl)))); (first | refine ar_nrm (k := ?_) | refine dr_nrm (k := ?_))) | ((first | apply ar_gy | apply dr_gy); exact rfl; exact bdOk) | (first | (apply awp_cond_t; exact rfl; exact bdOk) | (apply awp_cond_f; exact rfl; exact bdOk)) | ((first | apply ar_gs | apply dr_gs | apply awp_cond); (focus (exact rfl)); (all_goals (intro hc; (try simp only [decide_eq_true_eq, decide_eq_false_iff_not, Bool.not_eq_true', Bool.not_eq_false', Bool.not_true, Bool.not_false, bne_iff_ne, bne_eq_false_iff_eq, beq_iff_eq, beq_eq_false_iff_ne, ne_eq, Bool.cond_true_left, Bool.cond_false_right, Bool.or_eq_true, Bool.and_eq_true] at hc)))) | fail))
        refine ⟨.inr rfl, aend_mk [] rfl (by simp) (by first | (simp; done) | (simp; omega)) (ares_tmp2 _ rfl ?_ (ares_tmp2 _ rfl ?_ ares_nil)) rfl rfl⟩ <;> exact rfl
  · have e : readR s = (0, false) := readR_no fun k => hl2 (by have := k.1; have := k.2.1; rw [hb] at *; omega)
    refine acalls_of (ws := [.c (.p (.int .i64 ((readR s).1))), .c (.p (.bool ((readR s).2)))]) Tryz.func36 rfl rfl rfl rfl fun w0 B m hm0 => ?_; (refine awp_norm (τ := ?_) ?_ ?_; rotate_left; (focus (simp only [AV.top, Tryz.ntmps36, List.length_cons, List.length_nil, Nat.reduceAdd, Nat.reduceSub, List.replicate_succ, List.replicate_zero, List.cons_append, List.nil_append]; exact rfl)))
    rw [e]
    have hin := spec_l1In (t.size : Int) 1 6 false (decide_eq_false (by omega))
    rw [ht] at hin
    (repeat' (first | (first | refine awp_seq ?_ | refine awp_region ?_ | refine awp_block ?_ | refine awp_exit ?_ | refine awp_ret ?_ | refine awp_skip ?_ | refine ar_nil ?_ | refine dr_nil ?_ | (refine awp_region_draw ?_ ?_ ?_; kernel_rfl; kernel_rfl) | (first | refine t_norm ?_ | refine t_exit ?_ | refine t_ret ?_ | refine b_norm ?_ | refine b_exit ?_ | refine b_exit_ne rfl ?_ | refine b_ret ?_)) | ((first | ((first | apply ar_q | apply dr_q); exact qOp1) | ((first | apply ar_gu | apply dr_gu); exact rfl) | ((first | apply ar_gn | apply dr_gn); exact rfl; exact bdOk) | ((first | apply ar_qt | apply dr_qt); (focus (apply qt_call; kernel_rfl; exact (hin); exact rfl)))); (first | refine ar_nrm (k := ?_) | refine dr_nrm (k := ?_))) | ((first | apply ar_gy | apply dr_gy); exact rfl; exact bdOk) | (first | (apply awp_cond_t; exact rfl; exact bdOk) | (apply awp_cond_f; exact rfl; exact bdOk)) | ((first | apply ar_gs | apply dr_gs | apply awp_cond); (focus (exact rfl)); (all_goals (intro hc; (try simp only [decide_eq_true_eq, decide_eq_false_iff_not, Bool.not_eq_true', Bool.not_eq_false', Bool.not_true, Bool.not_false, bne_iff_ne, bne_eq_false_iff_eq, beq_iff_eq, beq_eq_false_iff_ne, ne_eq, Bool.cond_true_left, Bool.cond_false_right, Bool.or_eq_true, Bool.and_eq_true] at hc)))) | fail))
    refine ⟨.inr rfl, aend_mk [] rfl (by simp) (by first | (simp; done) | (simp; omega)) (ares_tmp2 _ rfl ?_ (ares_tmp2 _ rfl ?_ ares_nil)) rfl rfl⟩ <;> exact rfl
theorem spec_l1Read (s : ByteArray) (hs : s.size ≤ 1048576) : ACalls Tryz.prog 36 [.c (.p (.string (s)))] [] (.tup [.c (.p (.int .i64 ((readR s).1))), .c (.p (.bool ((readR s).2)))]) [] 0 := by
  by_cases hl : 1 < s.size
  · obtain ⟨c, e0, _⟩ := ba_get s (k := 0) (by omega)
    by_cases hc : c = 45
    · subst hc
      have hb : bodyT s = s.extract 1 s.size := by rw [bodyT, if_pos ⟨hl, e0⟩]
      exact spec_read_neg s _ hs hb hl 45 e0 rfl rfl (by rw [ByteArray.size_extract]; omega)
    · have hb : bodyT s = s := by rw [bodyT, if_neg fun k => hc (by have := k.2; rw [e0] at this; injection this)]
      refine spec_read_pos s s hs hb hl c e0 (fun e => hc (u8_injH (b := 45) (by rw [e]; rfl))) rfl (Nat.lt_irrefl _)
  · have hb : bodyT s = s := by rw [bodyT, if_neg fun k => hl k.1]
    exact spec_read_one s s hs hb hl rfl (Nat.lt_irrefl _)
end Go.Proofs.YtdlebdgdcpemmaaGreatDoor
