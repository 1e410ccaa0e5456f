/- ParseVessel: what it calls on both sides. -/
import Derived.Test.YtdlebdgdcpemmaaGreatDoorGp
import Derived.Test.YtdlebdgdcpemmaaGreatDoorEC
import Derived.Test.YtdlebdgdcpemmaaGreatDoorEB
namespace Go.Proofs.YtdlebdgdcpemmaaGreatDoor
open Go.RowKit
set_option linter.unusedVariables false
set_option linter.unusedSimpArgs false
attribute [local irreducible] AR DR AWp QOp Qt ACalls ARes Exit.thenA Exit.inBlockA
theorem lite_Idx (s : ByteArray) : ACalls Tryz.prog 63 [.c (.p (.string (s))), .c (.p (.string (⟨#[120]⟩)))] [] (.c (.p (.int .i64 (posX s)))) [] 0 :=
  .ofPure (us := [.string s, .string ⟨#[120]⟩]) rfl rfl fun w => by
    have := Tryz.stringslite_Index_one s 120 w
    rw [← Lib.index_one] at this
    exact this
theorem posX_cases (s : ByteArray) : posX s < 0 ∨ ∃ i : Nat, posX s = i ∧ i < s.size := by
  by_cases h : posX s < 0
  · exact .inl h
  · obtain ⟨i, hi⟩ : ∃ i : Nat, posX s = i := ⟨(posX s).toNat, by omega⟩
    have e : Lib.indexByte s.data.toList 120 = i := by rw [← Lib.index_one]; exact hi
    have := (List.getElem?_eq_some_iff.1 (Lib.indexByte_some e).1).1
    rw [Array.length_toList] at this
    exact .inr ⟨i, hi, this⟩
theorem impl_Cut (s : ByteArray) (hs : s.size ≤ 1048576) : ACalls Tryz.prog 29 [.c (.p (.string (s))), .c (.p (.string (⟨#[120]⟩)))] [] (.tup [.c (.p (.string (cutA s))), .c (.p (.string (cutB s))), .c (.p (.bool (decide (0 ≤ posX s))))]) [] 0 := by
  have h : ACalls Tryz.prog 53 [.c (.p (.string (s))), .c (.p (.string (⟨#[120]⟩)))] [] (.tup [.c (.p (.string (cutA s))), .c (.p (.string (cutB s))), .c (.p (.bool (decide (0 ≤ posX s))))]) [] 0 := by
    rcases posX_cases s with hp | ⟨i, hp, hi⟩
    · have hx := lite_Idx s
      have a1 : cutA s = s := if_pos hp
      have a2 : cutB s = ⟨#[]⟩ := if_pos hp
      have a3 : decide (0 ≤ posX s) = false := decide_eq_false (by omega)
      rw [a1, a2, a3]
      refine acalls_of (ws := [.c (.p (.string (s))), .c (.p (.string (⟨#[]⟩))), .c (.p (.bool (false)))]) Tryz.func53 rfl rfl rfl rfl fun w0 B m hm0 => ?_; (refine awp_norm (τ := ?_) ?_ ?_; rotate_left; (focus (simp only [AV.top, Tryz.ntmps53, List.length_cons, List.length_nil, Nat.reduceAdd, Nat.reduceSub, List.replicate_succ, List.replicate_zero, List.cons_append, List.nil_append]; exact rfl)))
      (repeat' (first | (first | refine awp_seq ?_ | refine awp_region ?_ | refine awp_block ?_ | refine awp_exit ?_ | refine awp_ret ?_ | refine awp_skip ?_ | refine ar_nil ?_ | refine dr_nil ?_ | (first | refine t_norm ?_ | refine t_exit ?_ | refine t_ret ?_ | refine b_norm ?_ | refine b_exit ?_ | refine b_exit_ne rfl ?_ | refine b_ret ?_)) | ((first | ((first | apply ar_q | apply dr_q); exact qOp1) | ((first | apply ar_gu | apply dr_gu); exact rfl) | ((first | apply ar_gn | apply dr_gn); exact rfl; exact bdOk) | ((first | apply ar_qt | apply dr_qt); (focus (apply qt_call; kernel_rfl; exact (hx); exact rfl)))); (first | refine ar_nrm (k := ?_) | refine dr_nrm (k := ?_))) | ((first | apply ar_gy | apply dr_gy); exact rfl; exact bdOk) | (first | (apply awp_cond_t; exact rfl; exact bdOk) | (apply awp_cond_f; exact rfl; exact bdOk)) | fail))
      refine ⟨.inr rfl, aend_mk [] rfl (by simp) (by simp) (ares_tmp2 _ rfl ?_ (ares_tmp2 _ rfl ?_ (ares_tmp2 _ rfl ?_ ares_nil))) rfl rfl⟩ <;> exact rfl
    · have hx := lite_Idx s
      have h4 : (⟨#[120]⟩ : ByteArray).size = 1 := rfl
      have a1 : cutA s = s.extract 0 i := by rw [cutA, if_neg (by omega), hp]; rfl
      have a2 : cutB s = s.extract (i + 1) s.size := by rw [cutB, if_neg (by omega), hp]; rfl
      have a3 : decide (0 ≤ posX s) = true := decide_eq_true (by omega)
      rw [a1, a2, a3]
      rw [hp] at hx
      refine acalls_of (ws := [.c (.p (.string (s.extract 0 i))), .c (.p (.string (s.extract (i + 1) s.size))), .c (.p (.bool (true)))]) Tryz.func53 rfl rfl rfl rfl fun w0 B m hm0 => ?_; (refine awp_norm (τ := ?_) ?_ ?_; rotate_left; (focus (simp only [AV.top, Tryz.ntmps53, List.length_cons, List.length_nil, Nat.reduceAdd, Nat.reduceSub, List.replicate_succ, List.replicate_zero, List.cons_append, List.nil_append]; exact rfl)))
      (repeat' (first | (first | refine awp_seq ?_ | refine awp_region ?_ | refine awp_block ?_ | refine awp_exit ?_ | refine awp_ret ?_ | refine awp_skip ?_ | refine ar_nil ?_ | refine dr_nil ?_ | (refine awp_region_draw ?_ ?_ ?_; kernel_rfl; kernel_rfl) | (first | refine t_norm ?_ | refine t_exit ?_ | refine t_ret ?_ | refine b_norm ?_ | refine b_exit ?_ | refine b_exit_ne rfl ?_ | refine b_ret ?_)) | ((first | ((first | apply ar_q | apply dr_q); exact qOp1) | ((first | apply ar_gu | apply dr_gu); exact rfl) | ((first | apply ar_gn | apply dr_gn); exact rfl; exact bdOk) | ((first | apply ar_qt | apply dr_qt); (focus (apply qt_call; kernel_rfl; exact (hx); exact rfl)))); (first | refine ar_nrm (k := ?_) | refine dr_nrm (k := ?_))) | ((first | apply ar_gy | apply dr_gy); exact rfl; exact bdOk) | (first | (apply awp_cond_t; exact rfl; exact bdOk) | (apply awp_cond_f; exact rfl; exact bdOk)) | ((first | apply ar_gs | apply dr_gs | apply awp_cond); (focus (exact rfl)); (all_goals (intro hc; (try simp only [decide_eq_true_eq, decide_eq_false_iff_not, Bool.not_eq_true', Bool.not_eq_false', Bool.not_true, Bool.not_false, bne_iff_ne, bne_eq_false_iff_eq, beq_iff_eq, beq_eq_false_iff_ne, ne_eq, Bool.cond_true_left, Bool.cond_false_right, Bool.or_eq_true, Bool.and_eq_true] at hc)))) | fail))
      refine ⟨.inr rfl, aend_mk [] rfl (by simp) (by simp) (ares_tmp2 _ rfl ?_ (ares_tmp2 _ rfl ?_ (ares_tmp2 _ rfl ?_ ares_nil))) rfl rfl⟩ <;> exact rfl
  refine acalls_of (ws := [.c (.p (.string (cutA s))), .c (.p (.string (cutB s))), .c (.p (.bool (decide (0 ≤ posX s))))]) Tryz.func29 rfl rfl rfl rfl fun w0 B m hm0 => ?_; (refine awp_norm (τ := ?_) ?_ ?_; rotate_left; (focus (simp only [AV.top, Tryz.ntmps29, List.length_cons, List.length_nil, Nat.reduceAdd, Nat.reduceSub, List.replicate_succ, List.replicate_zero, List.cons_append, List.nil_append]; exact rfl)))
  (repeat' (first | (first | refine awp_seq ?_ | refine awp_region ?_ | refine awp_block ?_ | refine awp_exit ?_ | refine awp_ret ?_ | refine awp_skip ?_ | refine ar_nil ?_ | refine dr_nil ?_ | (first | refine t_norm ?_ | refine t_exit ?_ | refine t_ret ?_ | refine b_norm ?_ | refine b_exit ?_ | refine b_exit_ne rfl ?_ | refine b_ret ?_)) | ((first | ((first | apply ar_q | apply dr_q); exact qOp1) | ((first | apply ar_gu | apply dr_gu); exact rfl) | ((first | apply ar_gn | apply dr_gn); exact rfl; exact bdOk) | ((first | apply ar_qt | apply dr_qt); (focus (apply qt_call; kernel_rfl; exact (h); exact rfl)))); (first | refine ar_nrm (k := ?_) | refine dr_nrm (k := ?_))) | ((first | apply ar_gy | apply dr_gy); exact rfl; exact bdOk) | (first | (apply awp_cond_t; exact rfl; exact bdOk) | (apply awp_cond_f; exact rfl; exact bdOk)) | fail))
  refine ⟨.inr rfl, aend_mk [] rfl (by simp) (by simp) (ares_tmp2 _ rfl ?_ (ares_tmp2 _ rfl ?_ (ares_tmp2 _ rfl ?_ ares_nil))) rfl rfl⟩ <;> exact rfl
theorem list_eqB {a b : ByteArray} (h : a = b) : (a.toList == b.toList) = true := by subst h; simp
theorem list_neB {a b : ByteArray} (h : ¬ a = b) : (a.toList == b.toList) = false := by
  cases e : (a.toList == b.toList) with
  | false => rfl
  | true => exact absurd (of_decide_eq_true (eqL e)) h
theorem impl_Index (l : List ByteArray) (hl : l.length ≤ 1000) (s : ByteArray) : ACalls Tryz.prog 31 [.c (.sl 9 .ro (strs l)), .c (.p (.string (s)))] [] (.c (.p (.int .i64 (idxL l s)))) [] 0 := by
  have hlen := strs_len l
  refine acalls_of (ws := [.c (.p (.int .i64 (idxL l s)))]) Tryz.func31 rfl rfl rfl rfl fun w0 B m hm0 => ?_; (refine awp_norm (τ := ?_) ?_ ?_; rotate_left; (focus (simp only [AV.top, Tryz.ntmps31, List.length_cons, List.length_nil, Nat.reduceAdd, Nat.reduceSub, List.replicate_succ, List.replicate_zero, List.cons_append, List.nil_append]; exact rfl)))
  (repeat' (first | (first | refine awp_seq ?_ | refine awp_region ?_ | refine awp_block ?_ | refine awp_exit ?_ | refine awp_ret ?_ | refine awp_skip ?_ | refine ar_nil ?_ | refine dr_nil ?_ | (first | refine t_norm ?_ | refine t_exit ?_ | refine t_ret ?_ | refine b_norm ?_ | refine b_exit ?_ | refine b_exit_ne rfl ?_ | refine b_ret ?_)) | ((first | ((first | apply ar_q | apply dr_q); exact qOp1) | ((first | apply ar_gu | apply dr_gu); exact rfl) | ((first | apply ar_gn | apply dr_gn); exact rfl; exact bdOk) | fail); (first | refine ar_nrm (k := ?_) | refine dr_nrm (k := ?_))) | ((first | apply ar_gy | apply dr_gy); exact rfl; exact bdOk) | (first | (apply awp_cond_t; exact rfl; exact bdOk) | (apply awp_cond_f; exact rfl; exact bdOk)) | fail))
  refine awp_loopH [0, 1, 6, 7] (fun i : Nat => [(8, .c (.p (.int .i64 (i))))]) (fun _ => []) (fun _ => 0) (fun n i => i ≤ l.length ∧ (∀ j : Nat, j < i → l[j]? ≠ some s) ∧ n = l.length - i) _ 0 ⟨Nat.zero_le _, by simp, rfl⟩ ?_ ?_
  · refine le_nrm (k := ?_); refine le_mk hsLe ?_; (repeat (first | exact AVs.le.nil | (with_reducible refine AVs.le.top _ ?_) | (with_reducible refine AVs.le.eq _ ?_) | refine AVs.le.eqv ?_ ?_)) <;> first | exact rfl | exact pi (by omega)
  rintro n i ⟨h1, h2, rfl⟩
  refine nh_nrm (k := ?_)
  by_cases hi : i < l.length
  · have e1 : (strs l)[(i : Int).toNat]? = some [Value.string l[i]] := strs_at (List.getElem?_eq_getElem hi)
    by_cases he : s = l[i]
    · have hc := list_eqB he
      have hr : idxL l s = i := idxL_at (by rw [List.getElem?_eq_getElem hi, ← he]) h2
      (repeat' (first | (first | refine awp_seq ?_ | refine awp_region ?_ | refine awp_block ?_ | refine awp_exit ?_ | refine awp_ret ?_ | refine awp_skip ?_ | refine ar_nil ?_ | refine dr_nil ?_ | (first | refine t_norm ?_ | refine t_exit ?_ | refine t_ret ?_ | refine b_norm ?_ | refine b_exit ?_ | refine b_exit_ne rfl ?_ | refine b_ret ?_)) | ((first | ((first | apply ar_q | apply dr_q); exact qOp1) | ((first | apply ar_gu | apply dr_gu); exact rfl) | ((first | apply ar_gn | apply dr_gn); exact rfl; exact bdOk) | fail); (first | refine ar_nrm (k := ?_) | refine dr_nrm (k := ?_))) | ((first | apply ar_gy | apply dr_gy); exact rfl; exact bdOk) | (first | (apply awp_cond_t; exact rfl; exact bdOk) | (apply awp_cond_f; exact rfl; exact bdOk)) | fail))
      refine ⟨.inr rfl, aend_mk [] rfl (by simp) (by first | (simp; done) | (simp; omega)) (ares_tmp2 _ rfl ?_ ares_nil) rfl rfl⟩
      exact pi hr.symm
    · have hc := list_neB he
      (repeat' (first | (first | refine awp_seq ?_ | refine awp_region ?_ | refine awp_block ?_ | refine awp_exit ?_ | refine awp_ret ?_ | refine awp_skip ?_ | refine ar_nil ?_ | refine dr_nil ?_ | (first | refine t_norm ?_ | refine t_exit ?_ | refine t_ret ?_ | refine b_norm ?_ | refine b_exit ?_ | refine b_exit_ne rfl ?_ | refine b_ret ?_)) | ((first | ((first | apply ar_q | apply dr_q); exact qOp1) | ((first | apply ar_gu | apply dr_gu); exact rfl) | ((first | apply ar_gn | apply dr_gn); exact rfl; exact bdOk) | fail); (first | refine ar_nrm (k := ?_) | refine dr_nrm (k := ?_))) | ((first | apply ar_gy | apply dr_gy); exact rfl; exact bdOk) | (first | (apply awp_cond_t; exact rfl; exact bdOk) | (apply awp_cond_f; exact rfl; exact bdOk)) | fail))
      refine ⟨_, i + 1, ?_, ⟨by omega, fun j hj => ?_, rfl⟩, ?_⟩
      · omega
      · by_cases hji : j = i
        · subst hji; rw [List.getElem?_eq_getElem hi]; intro e; injection e with e; exact he e.symm
        · exact h2 j (by omega)
      · refine le_nrm (k := ?_); refine le_mk hsLe ?_; (repeat (first | exact AVs.le.nil | (with_reducible refine AVs.le.top _ ?_) | (with_reducible refine AVs.le.eq _ ?_) | refine AVs.le.eqv ?_ ?_)) <;> first | exact rfl | exact pi (by omega)
  · (repeat' (first | (first | refine awp_seq ?_ | refine awp_region ?_ | refine awp_block ?_ | refine awp_exit ?_ | refine awp_ret ?_ | refine awp_skip ?_ | refine ar_nil ?_ | refine dr_nil ?_ | (first | refine t_norm ?_ | refine t_exit ?_ | refine t_ret ?_ | refine b_norm ?_ | refine b_exit ?_ | refine b_exit_ne rfl ?_ | refine b_ret ?_)) | ((first | ((first | apply ar_q | apply dr_q); exact qOp1) | ((first | apply ar_gu | apply dr_gu); exact rfl) | ((first | apply ar_gn | apply dr_gn); exact rfl; exact bdOk) | fail); (first | refine ar_nrm (k := ?_) | refine dr_nrm (k := ?_))) | ((first | apply ar_gy | apply dr_gy); exact rfl; exact bdOk) | (first | (apply awp_cond_t; exact rfl; exact bdOk) | (apply awp_cond_f; exact rfl; exact bdOk)) | fail))
    refine ⟨.inr rfl, aend_mk [] rfl (by simp) (by first | (simp; done) | (simp; omega)) (ares_tmp2 _ rfl ?_ ares_nil) rfl rfl⟩
    exact pi (idxL_no fun j e => by
      have := (List.getElem?_eq_some_iff.1 e).1
      exact h2 j (by omega) e).symm
theorem spec_l3Index (l : List ByteArray) (hl : l.length ≤ 1000) (h0 : 1 ≤ l.length) (s : ByteArray) : ACalls Tryz.prog 37 [.c (.sl 9 .ro (strs l)), .c (.p (.string (s)))] [] (.c (.p (.int .i64 (idxS l s)))) [] 0 := by
  have hlen := strs_len l
  refine acalls_of (ws := [.c (.p (.int .i64 (idxS l s)))]) Tryz.func37 rfl rfl rfl rfl fun w0 B m hm0 => ?_; (refine awp_norm (τ := ?_) ?_ ?_; rotate_left; (focus (simp only [AV.top, Tryz.ntmps37, List.length_cons, List.length_nil, Nat.reduceAdd, Nat.reduceSub, List.replicate_succ, List.replicate_zero, List.cons_append, List.nil_append]; exact rfl)))
  (repeat' (first | (first | refine awp_seq ?_ | refine awp_region ?_ | refine awp_block ?_ | refine awp_exit ?_ | refine awp_ret ?_ | refine awp_skip ?_ | refine ar_nil ?_ | refine dr_nil ?_ | (first | refine t_norm ?_ | refine t_exit ?_ | refine t_ret ?_ | refine b_norm ?_ | refine b_exit ?_ | refine b_exit_ne rfl ?_ | refine b_ret ?_)) | ((first | ((first | apply ar_q | apply dr_q); exact qOp1) | ((first | apply ar_gu | apply dr_gu); exact rfl) | ((first | apply ar_gn | apply dr_gn); exact rfl; exact bdOk) | fail); (first | refine ar_nrm (k := ?_) | refine dr_nrm (k := ?_))) | ((first | apply ar_gy | apply dr_gy); exact rfl; exact bdOk) | (first | (apply awp_cond_t; exact rfl; exact bdOk) | (apply awp_cond_f; exact rfl; exact bdOk)) | fail))
  refine awp_loopH [0, 1] (fun i : Nat => [(5, .c (.p (.int .i64 (i))))]) (fun _ => []) (fun _ => 0) (fun n i => 1 ≤ i ∧ i ≤ l.length ∧ (∀ j : Nat, j < i - 1 → (l.drop 1)[j]? ≠ some s) ∧ n = l.length - i) _ 1 ⟨Nat.le_refl _, h0, by simp, rfl⟩ ?_ ?_
  · refine le_nrm (k := ?_); refine le_mk hsLe ?_; (repeat (first | exact AVs.le.nil | (with_reducible refine AVs.le.top _ ?_) | (with_reducible refine AVs.le.eq _ ?_) | refine AVs.le.eqv ?_ ?_)) <;> first | exact rfl | exact pi (by omega)
  rintro n i ⟨g1, h1, h2, rfl⟩
  refine nh_nrm (k := ?_)
  by_cases hi : i < l.length
  · have e1 : (strs l)[(i : Int).toNat]? = some [Value.string l[i]] := strs_at (List.getElem?_eq_getElem hi)
    have ed : (l.drop 1)[i - 1]? = some l[i] := by rw [List.getElem?_drop, show 1 + (i - 1) = i by omega, List.getElem?_eq_getElem hi]
    by_cases he : l[i] = s
    · have hc := list_eqB he
      have hr : idxS l s = i := by rw [idxS, idxL_at (by rw [ed, he]) h2]; omega
      (repeat' (first | (first | refine awp_seq ?_ | refine awp_region ?_ | refine awp_block ?_ | refine awp_exit ?_ | refine awp_ret ?_ | refine awp_skip ?_ | refine ar_nil ?_ | refine dr_nil ?_ | (first | refine t_norm ?_ | refine t_exit ?_ | refine t_ret ?_ | refine b_norm ?_ | refine b_exit ?_ | refine b_exit_ne rfl ?_ | refine b_ret ?_)) | ((first | ((first | apply ar_q | apply dr_q); exact qOp1) | ((first | apply ar_gu | apply dr_gu); exact rfl) | ((first | apply ar_gn | apply dr_gn); exact rfl; exact bdOk) | fail); (first | refine ar_nrm (k := ?_) | refine dr_nrm (k := ?_))) | ((first | apply ar_gy | apply dr_gy); exact rfl; exact bdOk) | (first | (apply awp_cond_t; exact rfl; exact bdOk) | (apply awp_cond_f; exact rfl; exact bdOk)) | fail))
      refine ⟨.inr rfl, aend_mk [] rfl (by simp) (by first | (simp; done) | (simp; omega)) (ares_tmp2 _ rfl ?_ ares_nil) rfl rfl⟩
      exact pi hr.symm
    · have hc := list_neB he
      (repeat' (first | (first | refine awp_seq ?_ | refine awp_region ?_ | refine awp_block ?_ | refine awp_exit ?_ | refine awp_ret ?_ | refine awp_skip ?_ | refine ar_nil ?_ | refine dr_nil ?_ | (first | refine t_norm ?_ | refine t_exit ?_ | refine t_ret ?_ | refine b_norm ?_ | refine b_exit ?_ | refine b_exit_ne rfl ?_ | refine b_ret ?_)) | ((first | ((first | apply ar_q | apply dr_q); exact qOp1) | ((first | apply ar_gu | apply dr_gu); exact rfl) | ((first | apply ar_gn | apply dr_gn); exact rfl; exact bdOk) | fail); (first | refine ar_nrm (k := ?_) | refine dr_nrm (k := ?_))) | ((first | apply ar_gy | apply dr_gy); exact rfl; exact bdOk) | (first | (apply awp_cond_t; exact rfl; exact bdOk) | (apply awp_cond_f; exact rfl; exact bdOk)) | fail))
      refine ⟨_, i + 1, ?_, ⟨by omega, by omega, fun j hj => ?_, rfl⟩, ?_⟩
      · omega
      · by_cases hji : j = i - 1
        · subst hji; rw [ed]; intro e; injection e with e; exact he e
        · exact h2 j (by omega)
      · refine le_nrm (k := ?_); refine le_mk hsLe ?_; (repeat (first | exact AVs.le.nil | (with_reducible refine AVs.le.top _ ?_) | (with_reducible refine AVs.le.eq _ ?_) | refine AVs.le.eqv ?_ ?_)) <;> first | exact rfl | exact pi (by omega)
  · (repeat' (first | (first | refine awp_seq ?_ | refine awp_region ?_ | refine awp_block ?_ | refine awp_exit ?_ | refine awp_ret ?_ | refine awp_skip ?_ | refine ar_nil ?_ | refine dr_nil ?_ | (first | refine t_norm ?_ | refine t_exit ?_ | refine t_ret ?_ | refine b_norm ?_ | refine b_exit ?_ | refine b_exit_ne rfl ?_ | refine b_ret ?_)) | ((first | ((first | apply ar_q | apply dr_q); exact qOp1) | ((first | apply ar_gu | apply dr_gu); exact rfl) | ((first | apply ar_gn | apply dr_gn); exact rfl; exact bdOk) | fail); (first | refine ar_nrm (k := ?_) | refine dr_nrm (k := ?_))) | ((first | apply ar_gy | apply dr_gy); exact rfl; exact bdOk) | (first | (apply awp_cond_t; exact rfl; exact bdOk) | (apply awp_cond_f; exact rfl; exact bdOk)) | fail))
    refine ⟨.inr rfl, aend_mk [] rfl (by simp) (by first | (simp; done) | (simp; omega)) (ares_tmp2 _ rfl ?_ ares_nil) rfl rfl⟩
    refine pi ?_
    rw [idxS, idxL_no fun j e => by
      have := (List.getElem?_eq_some_iff.1 e).1
      rw [List.length_drop] at this
      exact h2 j (by omega) e]
    rfl
/-- All that stands in old memory. -/
def T7 (w : World) : Prop := T6 w ∧ KW w
theorem keptT7 : KeptT T7 := fun w w' h hb => ⟨keptT6 w w' h.1 hb, keptKW w w' h.2 hb⟩
theorem impl_kind (s : ByteArray) : ACallsT Tryz.prog T7 31 [.c (.p (.slice (some ⟨0, 0, none⟩) 5 5)), .c (.p (.string (s)))] [] (.c (.p (.int .i64 (idxL kindL s)))) [] 0 := by
  intro m w vs hT hnd hlt hlen hhp hargs
  have hm : m = [] := List.eq_nil_of_length_eq_zero (by simpa using hlen)
  subst hm
  have hI := impl_Index kindL (by decide) s
  unfold ACalls at hI
  refine hI [] w vs hnd hlt hlen hhp ?_
  obtain ⟨vs⟩ := vs
  match vs, hargs with
  | [u, v], ⟨h1, h2, _⟩ =>
    have h1 : u = .slice (some ⟨0, 0, none⟩) 5 5 := h1
    subst h1
    have hc : Tryz.prog.cellsOf 9 = 1 := by kernel_rfl
    refine ⟨⟨by decide, .inr ⟨0, 0, 5, rfl, Nat.le_refl 5, ?_, ⟨by simp [E0], by simp [E0]⟩, fun i x hx => ?_⟩⟩, h2, trivial⟩
    · exact World.block_lt_of_cell? _ _ (hT.2.cell (i := 0) rfl)
    · rw [List.getElem?_map] at hx
      obtain ⟨y, hy, rfl⟩ := Option.map_eq_some_iff.1 hx
      refine ⟨hc.symm, fun j v hv => ?_⟩
      match j, hv with
      | 0, hv =>
        obtain rfl : Value.string y = v := by simpa using hv
        have := hT.2.cell hy
        rw [hc]
        simpa using this
end Go.Proofs.YtdlebdgdcpemmaaGreatDoor
