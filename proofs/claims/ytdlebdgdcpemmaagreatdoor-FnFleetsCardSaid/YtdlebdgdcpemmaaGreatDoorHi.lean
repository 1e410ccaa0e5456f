/- ParseInt: the program's side and the law. -/
import Derived.Test.YtdlebdgdcpemmaaGreatDoorEA
import Derived.Test.YtdlebdgdcpemmaaGreatDoorEQ
import Derived.Test.YtdlebdgdcpemmaaGreatDoorHg
import Derived.Test.YtdlebdgdcpemmaaGreatDoorFh
import Derived.Stop.LaidErr
import Derived.Lib.SmallJoins
namespace Go.Proofs.YtdlebdgdcpemmaaGreatDoor
open Go.RowKit
set_option linter.unusedVariables false
set_option linter.unusedSimpArgs false
/-- The table and the two sentinels stand in old memory. -/
def VE (n : String) (w : World) : Prop := ∃ tp p, w.var? Tryz.prog n = some #[.iface tp p]
def T5 (w : World) : Prop := TT w ∧ VE "strconv.ErrSyntax" w ∧ VE "strconv.ErrRange" w
theorem keptVE (n : String) : KeptT (VE n) := fun w w' ⟨tp, p, h⟩ hb => by
  refine ⟨tp, p, ?_⟩
  cases hg : Tryz.prog.globalNamed n with
  | none => simp [World.var?, hg] at h
  | some g =>
    refine var?_below hb hg ?_ h
    apply Classical.byContradiction
    intro hn
    have : w.heap[g]? = none := Array.getElem?_eq_none (by omega)
    simp [World.var?, hg, this] at h
theorem keptT5 : KeptT T5 := fun w w' h hb => ⟨keptTT w w' h.1 hb, keptVE _ w w' h.2.1 hb, keptVE _ w w' h.2.2 hb⟩
theorem atoi_ok (s : ByteArray) (hs : s.size ≤ 1048576) (v : Int) (h : Lib.atoiAll s.data.toList = .ok v) : ACallsT Tryz.prog T5 64 [.c (.p (.string (s)))] [] (.tup [.c (.p (.int .i64 (v))), .c (.p .nilIface)]) [] 0 :=
  .ofPlain (us := [.string s]) rfl rfl fun w hT => (Tryz.strconv_Atoi_ok s (by omega) v h w).mono fun e w' ⟨h1, h2⟩ => ⟨h1, by
    rcases h2 with rfl | ⟨t, rfl⟩
    · exact Below.refl _ _
    · first | exact below_bytesWorld _ _ _ _ (Nat.le_refl _) | exact Joins.below_bytesWorld _ _ _ _ (Nat.le_refl _) | exact Go.Lib.bytesWorld_below _ _ _ | exact Go.Shelf.below_bytesWorld _ _ _ _ (Nat.le_refl _)⟩
theorem atoi_bad (s : ByteArray) (hs : s.size ≤ 1048576) (h : ∀ v, Lib.atoiAll s.data.toList ≠ .ok v) : ACallsTE Tryz.prog T5 64 [.c (.p (.string (s)))] (fun x : Int × Value => True) (fun x => .tup [.c (.p (.int .i64 (x.1))), .c (.p (.iface 103 x.2))]) := by
  refine .ofPlain (us := [.string s]) rfl fun w hT => ?_
  cases hc : Lib.atoiAll s.data.toList with
  | ok v => exact absurd hc (h v)
  | range =>
    obtain ⟨tp, p, hv⟩ := hT.2.2
    exact (Any.strconv_Atoi_range_var Tryz.laysC172 s (by omega) hc tp p w hv).mono fun e w' ⟨N, h1, _, _, h2⟩ => ⟨(_, _), trivial, _, h1, rfl, h2⟩
  | _ =>
    obtain ⟨tp, p, hv⟩ := hT.2.1
    exact (Any.strconv_Atoi_syntax_var Tryz.laysC172 s (by omega) hc tp p w hv).mono fun e w' ⟨N, h1, _, _, h2⟩ => ⟨(_, _), trivial, _, h1, rfl, h2⟩
theorem readR_yes {s : ByteArray} {n : Int} (h : isNum s n) : readR s = (n, true) := by
  obtain ⟨h1, h2⟩ := isNum_read h
  rw [readR, if_pos ⟨h1, by rw [h2]; exact h.2.2⟩, h2]
theorem readR_not {s : ByteArray} (h : ∀ n, ¬ isNum s n) : readR s = (0, false) :=
  if_neg fun k => h (numT s) ⟨(numT_bd k.1).1, (numT_bd k.1).2, k.2⟩
attribute [local irreducible] AR DR AWp QOp Qt ACalls ARes Exit.thenA Exit.inBlockA
theorem impl_ParseInt (s : ByteArray) (hs : s.size ≤ 1048576) : ACallsT Tryz.prog T5 54 [.c (.p (.string (s)))] [] (.tup [.c (.p (.int .i64 ((readR s).1))), .c (.p (.bool ((readR s).2)))]) [] 0 := by
  by_cases h7 : s.size ≤ 7
  · by_cases hok : ∃ v, Lib.atoiAll s.data.toList = .ok v
    · obtain ⟨v, hv⟩ := hok
      have hA := atoi_ok s hs v hv
      have huniq : ∀ n, isNum s n → n = v := fun n hn => by
        have := atoi_num hn
        rw [hv] at this
        injection this with this
        exact this.symm
      by_cases hin : -999999 ≤ v ∧ v ≤ 999999
      · have hI := (impl_Itoa v (by omega)).weak (T' := T5) fun w h => h.1
        cases hc : ((numS v).toList == s.toList) with
        | true =>
          have hc' : (!((numS v).toList == s.toList)) = false := by rw [hc]; rfl
          have e : readR s = (v, true) := readR_yes ⟨hin.1, hin.2, of_decide_eq_true (eqL hc)⟩
          refine acallsT_of (ws := [.c (.p (.int .i64 ((readR s).1))), .c (.p (.bool ((readR s).2)))]) Tryz.func54 rfl rfl rfl rfl fun w0 B m hT hm0 => ?_; (obtain rfl : m = [] := List.eq_nil_of_length_eq_zero hm0); (refine awp_norm (τ := ?_) ?_ ?_; rotate_left; (focus (simp only [AV.top, Tryz.ntmps54, List.length_cons, List.length_nil, Nat.reduceAdd, Nat.reduceSub, List.replicate_succ, List.replicate_zero, List.cons_append, List.nil_append]; exact rfl)))
          rw [e]
          (repeat' (first | (first | refine awp_seq ?_ | refine awp_region ?_ | refine awp_block ?_ | refine awp_exit ?_ | refine awp_ret ?_ | refine awp_skip ?_ | refine ar_nil ?_ | refine dr_nil ?_ | (refine awp_region_draw ?_ ?_ ?_; kernel_rfl; kernel_rfl) | (first | refine t_norm ?_ | refine t_exit ?_ | refine t_ret ?_ | refine b_norm ?_ | refine b_exit ?_ | refine b_exit_ne rfl ?_ | refine b_ret ?_)) | ((first | ((first | apply ar_q | apply dr_q); exact qOp1) | ((first | apply ar_gu | apply dr_gu); exact rfl) | ((first | apply ar_gn | apply dr_gn); exact rfl; exact bdOk) | (apply ar_ct hT keptT5 rfl rfl; kernel_rfl; exact (hA); exact rfl) | ((first | apply ar_q | apply dr_q); (focus (first | (apply q_neq_err; exact rfl; kernel_rfl) | (apply q_neq_nil; exact rfl; kernel_rfl)))) | ((first | apply ar_qt | apply dr_qt); (focus (apply qt_call; kernel_rfl; exact (impl_insideT v (-999999) 999999 true (decide_eq_true hin)); exact rfl))) | (apply ar_ct hT keptT5 rfl rfl; kernel_rfl; exact (hI); exact rfl)); (first | refine ar_nrm (k := ?_) | refine dr_nrm (k := ?_))) | ((first | apply ar_gy | apply dr_gy); exact rfl; exact bdOk) | (first | (apply awp_cond_t; exact rfl; exact bdOk) | (apply awp_cond_f; exact rfl; exact bdOk)) | ((first | apply ar_gs | apply dr_gs | apply awp_cond); (focus (exact rfl)); (all_goals (intro hc; (try simp only [decide_eq_true_eq, decide_eq_false_iff_not, Bool.not_eq_true', Bool.not_eq_false', Bool.not_true, Bool.not_false, bne_iff_ne, bne_eq_false_iff_eq, beq_iff_eq, beq_eq_false_iff_ne, ne_eq, Bool.cond_true_left, Bool.cond_false_right, Bool.or_eq_true, Bool.and_eq_true] at hc)))) | fail))
          refine ⟨.inr rfl, aend_mk [] rfl (by simp) (by first | (simp; done) | (simp; omega)) (ares_tmp2 _ rfl ?_ (ares_tmp2 _ rfl ?_ ares_nil)) rfl rfl⟩ <;> exact rfl
        | false =>
          have hc' : (!((numS v).toList == s.toList)) = true := by rw [hc]; rfl
          have e : readR s = (0, false) := readR_not fun n hn => of_decide_eq_false (eqL hc) (by rw [← huniq n hn]; exact hn.2.2)
          refine acallsT_of (ws := [.c (.p (.int .i64 ((readR s).1))), .c (.p (.bool ((readR s).2)))]) Tryz.func54 rfl rfl rfl rfl fun w0 B m hT hm0 => ?_; (obtain rfl : m = [] := List.eq_nil_of_length_eq_zero hm0); (refine awp_norm (τ := ?_) ?_ ?_; rotate_left; (focus (simp only [AV.top, Tryz.ntmps54, List.length_cons, List.length_nil, Nat.reduceAdd, Nat.reduceSub, List.replicate_succ, List.replicate_zero, List.cons_append, List.nil_append]; exact rfl)))
          rw [e]
          (repeat' (first | (first | refine awp_seq ?_ | refine awp_region ?_ | refine awp_block ?_ | refine awp_exit ?_ | refine awp_ret ?_ | refine awp_skip ?_ | refine ar_nil ?_ | refine dr_nil ?_ | (refine awp_region_draw ?_ ?_ ?_; kernel_rfl; kernel_rfl) | (first | refine t_norm ?_ | refine t_exit ?_ | refine t_ret ?_ | refine b_norm ?_ | refine b_exit ?_ | refine b_exit_ne rfl ?_ | refine b_ret ?_)) | ((first | ((first | apply ar_q | apply dr_q); exact qOp1) | ((first | apply ar_gu | apply dr_gu); exact rfl) | ((first | apply ar_gn | apply dr_gn); exact rfl; exact bdOk) | (apply ar_ct hT keptT5 rfl rfl; kernel_rfl; exact (hA); exact rfl) | ((first | apply ar_q | apply dr_q); (focus (first | (apply q_neq_err; exact rfl; kernel_rfl) | (apply q_neq_nil; exact rfl; kernel_rfl)))) | ((first | apply ar_qt | apply dr_qt); (focus (apply qt_call; kernel_rfl; exact (impl_insideT v (-999999) 999999 true (decide_eq_true hin)); exact rfl))) | (apply ar_ct hT keptT5 rfl rfl; kernel_rfl; exact (hI); exact rfl)); (first | refine ar_nrm (k := ?_) | refine dr_nrm (k := ?_))) | ((first | apply ar_gy | apply dr_gy); exact rfl; exact bdOk) | (first | (apply awp_cond_t; exact rfl; exact bdOk) | (apply awp_cond_f; exact rfl; exact bdOk)) | ((first | apply ar_gs | apply dr_gs | apply awp_cond); (focus (exact rfl)); (all_goals (intro hc; (try simp only [decide_eq_true_eq, decide_eq_false_iff_not, Bool.not_eq_true', Bool.not_eq_false', Bool.not_true, Bool.not_false, bne_iff_ne, bne_eq_false_iff_eq, beq_iff_eq, beq_eq_false_iff_ne, ne_eq, Bool.cond_true_left, Bool.cond_false_right, Bool.or_eq_true, Bool.and_eq_true] at hc)))) | fail))
          refine ⟨.inr rfl, aend_mk [] rfl (by simp) (by first | (simp; done) | (simp; omega)) (ares_tmp2 _ rfl ?_ (ares_tmp2 _ rfl ?_ ares_nil)) rfl rfl⟩ <;> exact rfl
      · have e : readR s = (0, false) := readR_not fun n hn => hin (by rw [← huniq n hn]; exact ⟨hn.1, hn.2.1⟩)
        refine acallsT_of (ws := [.c (.p (.int .i64 ((readR s).1))), .c (.p (.bool ((readR s).2)))]) Tryz.func54 rfl rfl rfl rfl fun w0 B m hT hm0 => ?_; (obtain rfl : m = [] := List.eq_nil_of_length_eq_zero hm0); (refine awp_norm (τ := ?_) ?_ ?_; rotate_left; (focus (simp only [AV.top, Tryz.ntmps54, List.length_cons, List.length_nil, Nat.reduceAdd, Nat.reduceSub, List.replicate_succ, List.replicate_zero, List.cons_append, List.nil_append]; exact rfl)))
        rw [e]
        (repeat' (first | (first | refine awp_seq ?_ | refine awp_region ?_ | refine awp_block ?_ | refine awp_exit ?_ | refine awp_ret ?_ | refine awp_skip ?_ | refine ar_nil ?_ | refine dr_nil ?_ | (refine awp_region_draw ?_ ?_ ?_; kernel_rfl; kernel_rfl) | (first | refine t_norm ?_ | refine t_exit ?_ | refine t_ret ?_ | refine b_norm ?_ | refine b_exit ?_ | refine b_exit_ne rfl ?_ | refine b_ret ?_)) | ((first | ((first | apply ar_q | apply dr_q); exact qOp1) | ((first | apply ar_gu | apply dr_gu); exact rfl) | ((first | apply ar_gn | apply dr_gn); exact rfl; exact bdOk) | (apply ar_ct hT keptT5 rfl rfl; kernel_rfl; exact (hA); exact rfl) | ((first | apply ar_q | apply dr_q); (focus (first | (apply q_neq_err; exact rfl; kernel_rfl) | (apply q_neq_nil; exact rfl; kernel_rfl)))) | ((first | apply ar_qt | apply dr_qt); (focus (apply qt_call; kernel_rfl; exact (impl_insideT v (-999999) 999999 false (decide_eq_false hin)); exact rfl)))); (first | refine ar_nrm (k := ?_) | refine dr_nrm (k := ?_))) | ((first | apply ar_gy | apply dr_gy); exact rfl; exact bdOk) | (first | (apply awp_cond_t; exact rfl; exact bdOk) | (apply awp_cond_f; exact rfl; exact bdOk)) | ((first | apply ar_gs | apply dr_gs | apply awp_cond); (focus (exact rfl)); (all_goals (intro hc; (try simp only [decide_eq_true_eq, decide_eq_false_iff_not, Bool.not_eq_true', Bool.not_eq_false', Bool.not_true, Bool.not_false, bne_iff_ne, bne_eq_false_iff_eq, beq_iff_eq, beq_eq_false_iff_ne, ne_eq, Bool.cond_true_left, Bool.cond_false_right, Bool.or_eq_true, Bool.and_eq_true] at hc)))) | fail))
        refine ⟨.inr rfl, aend_mk [] rfl (by simp) (by first | (simp; done) | (simp; omega)) (ares_tmp2 _ rfl ?_ (ares_tmp2 _ rfl ?_ ares_nil)) rfl rfl⟩ <;> exact rfl
    · have hA := atoi_bad s hs fun v hv => hok ⟨v, hv⟩
      have e : readR s = (0, false) := readR_not fun n hn => hok ⟨n, atoi_num hn⟩
      refine acallsT_of (ws := [.c (.p (.int .i64 ((readR s).1))), .c (.p (.bool ((readR s).2)))]) Tryz.func54 rfl rfl rfl rfl fun w0 B m hT hm0 => ?_; (obtain rfl : m = [] := List.eq_nil_of_length_eq_zero hm0); (refine awp_norm (τ := ?_) ?_ ?_; rotate_left; (focus (simp only [AV.top, Tryz.ntmps54, List.length_cons, List.length_nil, Nat.reduceAdd, Nat.reduceSub, List.replicate_succ, List.replicate_zero, List.cons_append, List.nil_append]; exact rfl)))
      rw [e]
      (repeat' (first | (first | refine awp_seq ?_ | refine awp_region ?_ | refine awp_block ?_ | refine awp_exit ?_ | refine awp_ret ?_ | refine awp_skip ?_ | refine ar_nil ?_ | refine dr_nil ?_ | (refine awp_region_draw ?_ ?_ ?_; kernel_rfl; kernel_rfl) | (first | refine t_norm ?_ | refine t_exit ?_ | refine t_ret ?_ | refine b_norm ?_ | refine b_exit ?_ | refine b_exit_ne rfl ?_ | refine b_ret ?_)) | ((first | ((first | apply ar_q | apply dr_q); exact qOp1) | ((first | apply ar_gu | apply dr_gu); exact rfl) | ((first | apply ar_gn | apply dr_gn); exact rfl; exact bdOk) | (apply ar_cte hT keptT5 rfl rfl; kernel_rfl; exact (hA); (rintro ⟨y1, y2⟩ hx)) | ((first | apply ar_q | apply dr_q); (focus (first | (apply q_neq_err; exact rfl; kernel_rfl) | (apply q_neq_nil; exact rfl; kernel_rfl))))); (first | refine ar_nrm (k := ?_) | refine dr_nrm (k := ?_))) | ((first | apply ar_gy | apply dr_gy); exact rfl; exact bdOk) | (first | (apply awp_cond_t; exact rfl; exact bdOk) | (apply awp_cond_f; exact rfl; exact bdOk)) | ((first | apply ar_gs | apply dr_gs | apply awp_cond); (focus (exact rfl)); (all_goals (intro hc; (try simp only [decide_eq_true_eq, decide_eq_false_iff_not, Bool.not_eq_true', Bool.not_eq_false', Bool.not_true, Bool.not_false, bne_iff_ne, bne_eq_false_iff_eq, beq_iff_eq, beq_eq_false_iff_ne, ne_eq, Bool.cond_true_left, Bool.cond_false_right, Bool.or_eq_true, Bool.and_eq_true] at hc)))) | fail))
      refine ⟨.inr rfl, aend_mk [] rfl (by simp) (by first | (simp; done) | (simp; omega)) (ares_tmp2 _ rfl ?_ (ares_tmp2 _ rfl ?_ ares_nil)) rfl rfl⟩ <;> exact rfl
  · have e : readR s = (0, false) := readR_no fun k => by
      have h2 := k.2.1
      unfold bodyT at h2
      split at h2
      · rw [ByteArray.size_extract] at h2; omega
      · omega
    refine acallsT_of (ws := [.c (.p (.int .i64 ((readR s).1))), .c (.p (.bool ((readR s).2)))]) Tryz.func54 rfl rfl rfl rfl fun w0 B m hT hm0 => ?_; (obtain rfl : m = [] := List.eq_nil_of_length_eq_zero hm0); (refine awp_norm (τ := ?_) ?_ ?_; rotate_left; (focus (simp only [AV.top, Tryz.ntmps54, List.length_cons, List.length_nil, Nat.reduceAdd, Nat.reduceSub, List.replicate_succ, List.replicate_zero, List.cons_append, List.nil_append]; exact rfl)))
    rw [e]
    (repeat' (first | (first | refine awp_seq ?_ | refine awp_region ?_ | refine awp_block ?_ | refine awp_exit ?_ | refine awp_ret ?_ | refine awp_skip ?_ | refine ar_nil ?_ | refine dr_nil ?_ | (refine awp_region_draw ?_ ?_ ?_; kernel_rfl; kernel_rfl) | (first | refine t_norm ?_ | refine t_exit ?_ | refine t_ret ?_ | refine b_norm ?_ | refine b_exit ?_ | refine b_exit_ne rfl ?_ | refine b_ret ?_)) | ((first | ((first | apply ar_q | apply dr_q); exact qOp1) | ((first | apply ar_gu | apply dr_gu); exact rfl) | ((first | apply ar_gn | apply dr_gn); exact rfl; exact bdOk)); (first | refine ar_nrm (k := ?_) | refine dr_nrm (k := ?_))) | ((first | apply ar_gy | apply dr_gy); exact rfl; exact bdOk) | (first | (apply awp_cond_t; exact rfl; exact bdOk) | (apply awp_cond_f; exact rfl; exact bdOk)) | ((first | apply ar_gs | apply dr_gs | apply awp_cond); (focus (exact rfl)); (all_goals (intro hc; (try simp only [decide_eq_true_eq, decide_eq_false_iff_not, Bool.not_eq_true', Bool.not_eq_false', Bool.not_true, Bool.not_false, bne_iff_ne, bne_eq_false_iff_eq, beq_iff_eq, beq_eq_false_iff_ne, ne_eq, Bool.cond_true_left, Bool.cond_false_right, Bool.or_eq_true, Bool.and_eq_true] at hc)))) | fail))
    refine ⟨.inr rfl, aend_mk [] rfl (by simp) (by first | (simp; done) | (simp; omega)) (ares_tmp2 _ rfl ?_ (ares_tmp2 _ rfl ?_ ares_nil)) rfl rfl⟩ <;> exact rfl
end Go.Proofs.YtdlebdgdcpemmaaGreatDoor
