/- Numbers read out of words: what the program's side gives. -/
import Derived.Test.YtdlebdgdcpemmaaGreatDoorHj
import Derived.Test.YtdlebdgdcpemmaaGreatDoorMi
namespace Go.Proofs.YtdlebdgdcpemmaaGreatDoor
open Go.RowKit
set_option linter.unusedVariables false
set_option linter.unusedSimpArgs false
/-- The table, the sentinels and the library's number stand in old memory. -/
def T6 (w : World) : Prop := T5 w ∧ MX w
theorem keptT6 : KeptT T6 := fun w w' h hb => ⟨keptT5 w w' h.1 hb, keptMX w w' h.2 hb⟩
/-- The number of the word at a place. -/
def numA (ws : List ByteArray) (i : Int) : Option Int := match ws[i.toNat]? with
  | some s => if (readR s).2 then some (readR s).1 else none
  | none => none
def numsTo (ws : List ByteArray) (ps : List Int) : Nat → Option (List Int)
  | 0 => some []
  | k + 1 => match numsTo ws ps k, ps[k]? with
    | some l, some i => (numA ws i).map fun n => l ++ [n]
    | _, _ => none
def numsR (ws : List ByteArray) (ps : List Int) : Option (List Int) := numsTo ws ps ps.length
theorem numsTo_len {ws : List ByteArray} {ps : List Int} : ∀ {k : Nat} {l : List Int}, numsTo ws ps k = some l → l.length = k
  | 0, l, h => by injection h with h; subst h; rfl
  | k + 1, l, h => by
    rw [numsTo] at h
    split at h
    · rename_i l' i h1 h2
      obtain ⟨n, _, rfl⟩ := Option.map_eq_some_iff.1 h
      rw [List.length_append, numsTo_len h1]; rfl
    · cases h
theorem numsTo_none {ws : List ByteArray} {ps : List Int} {k : Nat} (h : numsTo ws ps k = none) : ∀ d, numsTo ws ps (k + d) = none
  | 0 => h
  | d + 1 => by
    rw [← Nat.add_assoc, numsTo, numsTo_none h d]
theorem numsTo_step {ws : List ByteArray} {ps : List Int} {k : Nat} {l : List Int} (h : numsTo ws ps k = some l) (hk : k < ps.length) : numsTo ws ps (k + 1) = (numA ws ps[k]).map fun n => l ++ [n] := by
  rw [numsTo, h, List.getElem?_eq_getElem hk]
theorem numsR_none {ws : List ByteArray} {ps : List Int} {k : Nat} (hk : k ≤ ps.length) (h : numsTo ws ps k = none) : numsR ws ps = none := by
  have := numsTo_none h (ps.length - k)
  rwa [show k + (ps.length - k) = ps.length by omega] at this
theorem its_len (l : List Int) : (its l).length = l.length := by simp [its]
theorem strs_len (l : List ByteArray) : (strs l).length = l.length := by simp [strs]
attribute [local irreducible] AR DR AWp QOp Qt ACalls ARes Exit.thenA Exit.inBlockA
theorem impl_numbers (ws : List ByteArray) (hws : ∀ x ∈ ws, x.size ≤ 1048576) (hl : ws.length ≤ 1048577) (ps : List Int) (hp : ps.length ≤ 100) (hp0 : ∀ y ∈ ps, 0 ≤ y) (o : Option (List Int)) (ho : numsR ws ps = o) : match o with
    | some l => ACallsT Tryz.prog T6 30 [.c (.sl 9 .ro (strs ws)), .c (.sl 3 .ro (its ps))] [] (.tup [.c (.sl 3 (.own 0) (its l)), .c (.p (.bool (true)))]) [] 1
    | none => ACallsT Tryz.prog T6 30 [.c (.sl 9 .ro (strs ws)), .c (.sl 3 .ro (its ps))] [] (.tup [.c .nl, .c (.p (.bool (false)))]) [] 0 := by
  have h1 := its_len ps
  have h2 := strs_len ws
  cases o with
  | some r =>
    dsimp only
    refine acallsT_of (ws := [.c (.sl 3 (.own 0) (its r)), .c (.p (.bool (true)))]) Tryz.func30 rfl rfl rfl rfl fun w0 B m hT hm0 => ?_; (obtain rfl : m = [] := List.eq_nil_of_length_eq_zero hm0); (refine awp_norm (τ := ?_) ?_ ?_; rotate_left; (focus (simp only [AV.top, Tryz.ntmps30, List.length_cons, List.length_nil, Nat.reduceAdd, Nat.reduceSub, List.replicate_succ, List.replicate_zero, List.cons_append, List.nil_append]; exact rfl)))
    (repeat' (first | (first | refine awp_seq ?_ | refine awp_region ?_ | refine awp_block ?_ | refine awp_exit ?_ | refine awp_ret ?_ | refine awp_skip ?_ | refine ar_nil ?_ | refine dr_nil ?_ | (first | refine t_norm ?_ | refine t_exit ?_ | refine t_ret ?_ | refine b_norm ?_ | refine b_exit ?_ | refine b_exit_ne rfl ?_ | refine b_ret ?_)) | ((first | ((first | apply ar_q | apply dr_q); exact qOp1) | ((first | apply ar_gu | apply dr_gu); exact rfl) | ((first | apply ar_gn | apply dr_gn); exact rfl; exact bdOk) | (first | (apply ar_box; exact rfl) | (apply ar_store; exact rfl; exact rfl; exact rfl; (focus (first | decide | (simp; done) | exact Nat.le_refl _)); kernel_rfl; exact rfl)) | (apply ar_bslice (e := 3) 1; kernel_rfl; (focus (decide +kernel)); kernel_rfl; exact rfl; exact rfl; exact rfl; exact rfl; decide)); (first | refine ar_nrm (k := ?_) | refine dr_nrm (k := ?_))) | ((first | apply ar_gy | apply dr_gy); exact rfl; exact bdOk) | (first | (apply awp_cond_t; exact rfl; exact bdOk) | (apply awp_cond_f; exact rfl; exact bdOk)) | fail)); refine awp_loopH [0, 1, 12, 13] (fun x : Nat × List Int × Nat => [(6, .c (.sl 3 (.own 0) (its x.2.1))), (14, .c (.p (.int .i64 (x.1))))]) (fun _ => []) (fun x => x.2.2) (fun n x => x.1 ≤ ps.length ∧ numsTo ws ps x.1 = some x.2.1 ∧ 1 ≤ x.2.2 ∧ n = ps.length - x.1) _ (0, [], 1) ⟨Nat.zero_le _, rfl, Nat.le_refl _, rfl⟩ ?_ ?_
    · refine le_nrm (k := ?_); refine le_mk hsLe ?_; (repeat (first | exact AVs.le.nil | (with_reducible refine AVs.le.top _ ?_) | (with_reducible refine AVs.le.eq _ ?_) | refine AVs.le.eqv ?_ ?_)) <;> first | exact rfl | exact pi (by omega)
    rintro n ⟨k, l, nx⟩ ⟨h3, h4, hx1, rfl⟩
    dsimp only at h3 h4 hx1 ⊢
    have h5 := numsTo_len h4
    have h6 := its_len l
    refine nh_nrm (k := ?_)
    by_cases hk : k < ps.length
    · have hst := numsTo_step h4 hk
      have e1 : (its ps)[(k : Int).toNat]? = some [Value.int .i64 ps[k]] := its_at hk
      have hy := hp0 _ (List.getElem_mem hk)
      generalize ps[k] = y at *
      cases hA : numA ws y with
      | none =>
        rw [hA] at hst
        rw [numsR_none (k := k + 1) hk hst] at ho
        cases ho
      | some v =>
        rw [hA] at hst
        have hA' := hA
        unfold numA at hA'
        split at hA'
        · rename_i s hs
          split at hA'
          · rename_i hr
            injection hA' with hA'
            have e2 := strs_at hs
            have hlt : y.toNat < ws.length := (List.getElem?_eq_some_iff.1 hs).1
            have hz := hws s (List.mem_of_getElem? hs)
            have hc := (impl_ParseInt s hz).weak (T' := T6) fun w h => h.1
            rw [hr, hA'] at hc
            (repeat' (first | (first | refine awp_seq ?_ | refine awp_region ?_ | refine awp_block ?_ | refine awp_exit ?_ | refine awp_ret ?_ | refine awp_skip ?_ | refine ar_nil ?_ | refine dr_nil ?_ | (first | refine t_norm ?_ | refine t_exit ?_ | refine t_ret ?_ | refine b_norm ?_ | refine b_exit ?_ | refine b_exit_ne rfl ?_ | refine b_ret ?_)) | ((first | ((first | apply ar_q | apply dr_q); exact qOp1) | ((first | apply ar_gu | apply dr_gu); exact rfl) | ((first | apply ar_gn | apply dr_gn); exact rfl; exact bdOk) | (first | (apply ar_box; exact rfl) | (apply ar_store; exact rfl; exact rfl; exact rfl; (focus (first | decide | (simp; done) | exact Nat.le_refl _)); kernel_rfl; exact rfl)) | ((first | (apply ar_ct hT keptT6 rfl rfl) | (apply dr_ct hT keptT6 rfl rfl)); kernel_rfl; exact (hc); exact rfl) | (apply ar_bslice (e := 3) 1; kernel_rfl; (focus (decide +kernel)); kernel_rfl; exact rfl; exact rfl; exact rfl; exact rfl; decide) | (apply ar_append; kernel_rfl; kernel_rfl; exact rfl; exact rfl; exact (its_one v); (focus (simp; omega)); exact rfl)); (first | refine ar_nrm (k := ?_) | refine dr_nrm (k := ?_))) | ((first | apply ar_gy | apply dr_gy); exact rfl; exact bdOk) | (first | (apply awp_cond_t; exact rfl; exact bdOk) | (apply awp_cond_f; exact rfl; exact bdOk)) | fail))
            refine ⟨_, (k + 1, l ++ [v], nx + 1), ?_, ⟨by dsimp only; omega, hst, by dsimp only; omega, rfl⟩, ?_⟩
            · dsimp only; omega
            · refine le_nrm (k := ?_); refine le_mk hsLe ?_; (repeat (first | exact AVs.le.nil | (with_reducible refine AVs.le.top _ ?_) | (with_reducible refine AVs.le.eq _ ?_) | refine AVs.le.eqv ?_ ?_)) <;> first | exact rfl | exact pi (by omega) | exact pl (by simp [its])
          · cases hA'
        · cases hA'
    · obtain rfl : k = ps.length := by omega
      rw [numsR, h4] at ho
      injection ho with ho
      subst ho
      (repeat' (first | (first | refine awp_seq ?_ | refine awp_region ?_ | refine awp_block ?_ | refine awp_exit ?_ | refine awp_ret ?_ | refine awp_skip ?_ | refine ar_nil ?_ | refine dr_nil ?_ | (first | refine t_norm ?_ | refine t_exit ?_ | refine t_ret ?_ | refine b_norm ?_ | refine b_exit ?_ | refine b_exit_ne rfl ?_ | refine b_ret ?_)) | ((first | ((first | apply ar_q | apply dr_q); exact qOp1) | ((first | apply ar_gu | apply dr_gu); exact rfl) | ((first | apply ar_gn | apply dr_gn); exact rfl; exact bdOk) | (first | (apply ar_box; exact rfl) | (apply ar_store; exact rfl; exact rfl; exact rfl; (focus (first | decide | (simp; done) | exact Nat.le_refl _)); kernel_rfl; exact rfl))); (first | refine ar_nrm (k := ?_) | refine dr_nrm (k := ?_))) | ((first | apply ar_gy | apply dr_gy); exact rfl; exact bdOk) | (first | (apply awp_cond_t; exact rfl; exact bdOk) | (apply awp_cond_f; exact rfl; exact bdOk)) | fail))
      refine ⟨.inr rfl, aend_mk [0] rfl (by simp) (by first | (simp; done) | (simp; omega)) (ares_tmp2 _ rfl ?_ (ares_tmp2 _ rfl ?_ ares_nil)) rfl rfl⟩ <;> exact rfl
  | none =>
    dsimp only
    refine acallsT_of (ws := [.c .nl, .c (.p (.bool (false)))]) Tryz.func30 rfl rfl rfl rfl fun w0 B m hT hm0 => ?_; (obtain rfl : m = [] := List.eq_nil_of_length_eq_zero hm0); (refine awp_norm (τ := ?_) ?_ ?_; rotate_left; (focus (simp only [AV.top, Tryz.ntmps30, List.length_cons, List.length_nil, Nat.reduceAdd, Nat.reduceSub, List.replicate_succ, List.replicate_zero, List.cons_append, List.nil_append]; exact rfl)))
    (repeat' (first | (first | refine awp_seq ?_ | refine awp_region ?_ | refine awp_block ?_ | refine awp_exit ?_ | refine awp_ret ?_ | refine awp_skip ?_ | refine ar_nil ?_ | refine dr_nil ?_ | (first | refine t_norm ?_ | refine t_exit ?_ | refine t_ret ?_ | refine b_norm ?_ | refine b_exit ?_ | refine b_exit_ne rfl ?_ | refine b_ret ?_)) | ((first | ((first | apply ar_q | apply dr_q); exact qOp1) | ((first | apply ar_gu | apply dr_gu); exact rfl) | ((first | apply ar_gn | apply dr_gn); exact rfl; exact bdOk) | (first | (apply ar_box; exact rfl) | (apply ar_store; exact rfl; exact rfl; exact rfl; (focus (first | decide | (simp; done) | exact Nat.le_refl _)); kernel_rfl; exact rfl)) | (apply ar_bslice (e := 3) 1; kernel_rfl; (focus (decide +kernel)); kernel_rfl; exact rfl; exact rfl; exact rfl; exact rfl; decide)); (first | refine ar_nrm (k := ?_) | refine dr_nrm (k := ?_))) | ((first | apply ar_gy | apply dr_gy); exact rfl; exact bdOk) | (first | (apply awp_cond_t; exact rfl; exact bdOk) | (apply awp_cond_f; exact rfl; exact bdOk)) | fail)); refine awp_loopH [0, 1, 12, 13] (fun x : Nat × List Int × Nat => [(6, .c (.sl 3 (.own 0) (its x.2.1))), (14, .c (.p (.int .i64 (x.1))))]) (fun _ => []) (fun x => x.2.2) (fun n x => x.1 ≤ ps.length ∧ numsTo ws ps x.1 = some x.2.1 ∧ 1 ≤ x.2.2 ∧ n = ps.length - x.1) _ (0, [], 1) ⟨Nat.zero_le _, rfl, Nat.le_refl _, rfl⟩ ?_ ?_
    · refine le_nrm (k := ?_); refine le_mk hsLe ?_; (repeat (first | exact AVs.le.nil | (with_reducible refine AVs.le.top _ ?_) | (with_reducible refine AVs.le.eq _ ?_) | refine AVs.le.eqv ?_ ?_)) <;> first | exact rfl | exact pi (by omega)
    rintro n ⟨k, l, nx⟩ ⟨h3, h4, hx1, rfl⟩
    dsimp only at h3 h4 hx1 ⊢
    have h5 := numsTo_len h4
    have h6 := its_len l
    refine nh_nrm (k := ?_)
    by_cases hk : k < ps.length
    · have hst := numsTo_step h4 hk
      have e1 : (its ps)[(k : Int).toNat]? = some [Value.int .i64 ps[k]] := its_at hk
      have hy := hp0 _ (List.getElem_mem hk)
      generalize ps[k] = y at *
      cases hs : ws[y.toNat]? with
      | none =>
        have hge : ws.length ≤ y.toNat := List.getElem?_eq_none_iff.1 hs
        (repeat' (first | (first | refine awp_seq ?_ | refine awp_region ?_ | refine awp_block ?_ | refine awp_exit ?_ | refine awp_ret ?_ | refine awp_skip ?_ | refine ar_nil ?_ | refine dr_nil ?_ | (first | refine t_norm ?_ | refine t_exit ?_ | refine t_ret ?_ | refine b_norm ?_ | refine b_exit ?_ | refine b_exit_ne rfl ?_ | refine b_ret ?_)) | ((first | ((first | apply ar_q | apply dr_q); exact qOp1) | ((first | apply ar_gu | apply dr_gu); exact rfl) | ((first | apply ar_gn | apply dr_gn); exact rfl; exact bdOk) | (first | (apply ar_box; exact rfl) | (apply ar_store; exact rfl; exact rfl; exact rfl; (focus (first | decide | (simp; done) | exact Nat.le_refl _)); kernel_rfl; exact rfl))); (first | refine ar_nrm (k := ?_) | refine dr_nrm (k := ?_))) | ((first | apply ar_gy | apply dr_gy); exact rfl; exact bdOk) | (first | (apply awp_cond_t; exact rfl; exact bdOk) | (apply awp_cond_f; exact rfl; exact bdOk)) | fail))
        refine ⟨.inr rfl, aend_mk [] rfl (by simp) (by first | (simp; done) | (simp; omega)) (ares_tmp2 _ rfl ?_ (ares_tmp2 _ rfl ?_ ares_nil)) rfl rfl⟩ <;> exact rfl
      | some s =>
        have e2 := strs_at hs
        have hlt : y.toNat < ws.length := (List.getElem?_eq_some_iff.1 hs).1
        have hz := hws s (List.mem_of_getElem? hs)
        have hc := (impl_ParseInt s hz).weak (T' := T6) fun w h => h.1
        have hA : numA ws y = if (readR s).2 then some (readR s).1 else none := by rw [numA, hs]
        cases hr : (readR s).2 with
        | true =>
          rw [hr] at hc
          rw [hr, if_pos rfl] at hA
          rw [hA] at hst
          generalize (readR s).1 = v at *
          (repeat' (first | (first | refine awp_seq ?_ | refine awp_region ?_ | refine awp_block ?_ | refine awp_exit ?_ | refine awp_ret ?_ | refine awp_skip ?_ | refine ar_nil ?_ | refine dr_nil ?_ | (first | refine t_norm ?_ | refine t_exit ?_ | refine t_ret ?_ | refine b_norm ?_ | refine b_exit ?_ | refine b_exit_ne rfl ?_ | refine b_ret ?_)) | ((first | ((first | apply ar_q | apply dr_q); exact qOp1) | ((first | apply ar_gu | apply dr_gu); exact rfl) | ((first | apply ar_gn | apply dr_gn); exact rfl; exact bdOk) | (first | (apply ar_box; exact rfl) | (apply ar_store; exact rfl; exact rfl; exact rfl; (focus (first | decide | (simp; done) | exact Nat.le_refl _)); kernel_rfl; exact rfl)) | ((first | (apply ar_ct hT keptT6 rfl rfl) | (apply dr_ct hT keptT6 rfl rfl)); kernel_rfl; exact (hc); exact rfl) | (apply ar_bslice (e := 3) 1; kernel_rfl; (focus (decide +kernel)); kernel_rfl; exact rfl; exact rfl; exact rfl; exact rfl; decide) | (apply ar_append; kernel_rfl; kernel_rfl; exact rfl; exact rfl; exact (its_one v); (focus (simp; omega)); exact rfl)); (first | refine ar_nrm (k := ?_) | refine dr_nrm (k := ?_))) | ((first | apply ar_gy | apply dr_gy); exact rfl; exact bdOk) | (first | (apply awp_cond_t; exact rfl; exact bdOk) | (apply awp_cond_f; exact rfl; exact bdOk)) | fail))
          refine ⟨_, (k + 1, l ++ [v], nx + 1), ?_, ⟨by dsimp only; omega, hst, by dsimp only; omega, rfl⟩, ?_⟩
          · dsimp only; omega
          · refine le_nrm (k := ?_); refine le_mk hsLe ?_; (repeat (first | exact AVs.le.nil | (with_reducible refine AVs.le.top _ ?_) | (with_reducible refine AVs.le.eq _ ?_) | refine AVs.le.eqv ?_ ?_)) <;> first | exact rfl | exact pi (by omega) | exact pl (by simp [its])
        | false =>
          rw [hr] at hc
          (repeat' (first | (first | refine awp_seq ?_ | refine awp_region ?_ | refine awp_block ?_ | refine awp_exit ?_ | refine awp_ret ?_ | refine awp_skip ?_ | refine ar_nil ?_ | refine dr_nil ?_ | (first | refine t_norm ?_ | refine t_exit ?_ | refine t_ret ?_ | refine b_norm ?_ | refine b_exit ?_ | refine b_exit_ne rfl ?_ | refine b_ret ?_)) | ((first | ((first | apply ar_q | apply dr_q); exact qOp1) | ((first | apply ar_gu | apply dr_gu); exact rfl) | ((first | apply ar_gn | apply dr_gn); exact rfl; exact bdOk) | (first | (apply ar_box; exact rfl) | (apply ar_store; exact rfl; exact rfl; exact rfl; (focus (first | decide | (simp; done) | exact Nat.le_refl _)); kernel_rfl; exact rfl)) | ((first | (apply ar_ct hT keptT6 rfl rfl) | (apply dr_ct hT keptT6 rfl rfl)); kernel_rfl; exact (hc); exact rfl)); (first | refine ar_nrm (k := ?_) | refine dr_nrm (k := ?_))) | ((first | apply ar_gy | apply dr_gy); exact rfl; exact bdOk) | (first | (apply awp_cond_t; exact rfl; exact bdOk) | (apply awp_cond_f; exact rfl; exact bdOk)) | fail))
          refine ⟨.inr rfl, aend_mk [] rfl (by simp) (by first | (simp; done) | (simp; omega)) (ares_tmp2 _ rfl ?_ (ares_tmp2 _ rfl ?_ ares_nil)) rfl rfl⟩ <;> exact rfl
    · obtain rfl : k = ps.length := by omega
      rw [numsR, h4] at ho
      cases ho
end Go.Proofs.YtdlebdgdcpemmaaGreatDoor
