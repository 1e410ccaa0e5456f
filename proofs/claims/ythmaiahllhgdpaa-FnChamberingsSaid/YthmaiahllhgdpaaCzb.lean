/- MostHulls on both sides. -/
import Derived.Test.YthmaiahllhgdpaaCza




namespace Go.Proofs.Ythmaiahllhgdpaa
open Go.RowKit
set_option linter.unusedVariables false
set_option linter.unusedSimpArgs false
attribute [local irreducible] AR DR AWp QOp Qt ACalls ARes Exit.thenA Exit.inBlockA
attribute [local irreducible] AG0 AG AGs
def cntB (s : Nat) : Nat → Nat
  | 0 => 0
  | n + 1 => cntB s n + (s.testBit n).toNat
theorem chosen_cnt (hs : List Hull_) (s : Nat) : ∀ n, (chosenTo hs s n).length = cntB s n
  | 0 => rfl
  | n + 1 => by
    cases hb : s.testBit n with
    | true => rw [chosen_yes hb, cntB, hb, List.length_append, chosen_cnt hs s n]; rfl
    | false => rw [chosen_no hb, cntB, hb, chosen_cnt hs s n]; rfl
theorem cnt4 : ∀ n : Fin 5, ∀ s : Fin 16, s.1 < 2 ^ n.1 → cntB s.1 n.1 = pop4 s.1 := by decide +kernel
def idsM (hs : List Hull_) (s : Nat) : List Int := idsF (chosen hs s)
theorem idsM_len {hs : List Hull_} {s : Nat} (h4 : hs.length ≤ 4) (h : s < 2 ^ hs.length) : (idsM hs s).length = pop4 s := by
  have := two16 h4
  rw [idsM, idsF, List.length_map, chosen, chosen_cnt]
  exact cnt4 ⟨hs.length, by omega⟩ ⟨s, by omega⟩ h
/-- The best ids among the sets below a number. -/
def mostTo (c : Chamber_) (hs : List Hull_) : Nat → List Int
  | 0 => []
  | s + 1 => if (idsM hs s).length < (mostTo c hs s).length ∨ ((idsM hs s).length = (mostTo c hs s).length ∧ lessL (idsM hs s) (mostTo c hs s) = false) ∨ fitM c hs s = false then mostTo c hs s else idsM hs s
theorem mostTo_no {c : Chamber_} {hs : List Hull_} {s : Nat} (h : (idsM hs s).length < (mostTo c hs s).length ∨ ((idsM hs s).length = (mostTo c hs s).length ∧ lessL (idsM hs s) (mostTo c hs s) = false) ∨ fitM c hs s = false) : mostTo c hs (s + 1) = mostTo c hs s := by rw [mostTo, if_pos h]
theorem mostTo_yes {c : Chamber_} {hs : List Hull_} {s : Nat} (h1 : ¬ (idsM hs s).length < (mostTo c hs s).length) (h2 : (idsM hs s).length = (mostTo c hs s).length → lessL (idsM hs s) (mostTo c hs s) = true) (h3 : fitM c hs s = true) : mostTo c hs (s + 1) = idsM hs s := by
  rw [mostTo, if_neg]
  rintro (h | ⟨h, h'⟩ | h)
  · exact h1 h
  · rw [h2 h] at h'; cases h'
  · rw [h3] at h; cases h
theorem mostTo_len {c : Chamber_} {hs : List Hull_} (h4 : hs.length ≤ 4) : ∀ s, s ≤ 2 ^ hs.length → (mostTo c hs s).length ≤ 4
  | 0, _ => by simp [mostTo]
  | s + 1, h => by
    have ih := mostTo_len (c := c) h4 s (by omega)
    rw [mostTo]; split
    · exact ih
    · rw [idsM_len h4 (by omega)]; exact pop4_le s
def mostR (c : Chamber_) (hs : List Hull_) : Option (List Int) := if chF c = true ∧ hullsF hs = true then some (mostTo c hs (2 ^ hs.length)) else none
theorem mostR_no {c : Chamber_} {hs : List Hull_} (h : chF c = false ∨ hullsF hs = false) : mostR c hs = none := by
  rw [mostR, if_neg]; rintro ⟨h1, h2⟩; rw [h1, h2] at h; simp at h
theorem mostR_yes {c : Chamber_} {hs : List Hull_} (hc : chF c = true) (hh : hullsF hs = true) : mostR c hs = some (mostTo c hs (2 ^ hs.length)) := if_pos ⟨hc, hh⟩
theorem mostR_len {c : Chamber_} {hs : List Hull_} {l : List Int} (h : mostR c hs = some l) : l.length ≤ 4 := by
  rw [mostR] at h; split at h
  · rename_i hq
    injection h with h
    rw [← h]; exact mostTo_len (hullsF_iff.1 hq.2).2.2 _ (Nat.le_refl _)
  · cases h
theorem u64_16 : ∀ s : Fin 16, IntKind.u64.wrap (s.1 : Int) = s.1 := by decide +kernel
def miW : Option (List Int) → List AW
  | some out => [.c (.sl 3 (.own 0) (its (out))), .c (.p (.bool true))]
  | none => [.c .nl, .c (.p (.bool false))]
def miK : Option (List Int) → Nat
  | some _ => 1
  | none => 0
def miL (v : Option (List Int)) : List Int := v.getD []
set_option maxHeartbeats 4000000 in
theorem spec_MostHulls (c : Chamber_) (hs : List Hull_) (hl : hs.length ≤ 1048576) : ACalls Try.prog 47 [.agg [.p (.int .i64 (c).ln), .p (.int .i64 (c).wd)], .c (.sl 40 .ro (hulls hs))] [] (.tup [.c (.sl 3 (.own 0) (its (miL (mostR c hs)))), .c (.p (.bool (mostR c hs).isSome))]) [] 1 := by
  have hl1 : (hulls hs).length = hs.length := by simp [hulls]
  have hg := spec_l4Good hs hl
  have hch := spec_l4Chamber c
  cases hc : chF c with
  | false =>
    rw [hc] at hch
    rw [mostR_no (.inl hc)]
    refine acalls_of (ws := [.c (.sl 3 (.own 0) (its (miL ((none : Option (List Int)))))), .c (.p (.bool ((none : Option (List Int))).isSome))]) Try.func47 rfl rfl rfl rfl fun w0 B m hm0 => ?_; (refine awp_norm (τ := ?_) ?_ ?_; rotate_left; (focus (simp only [AV.top, Try.ntmps47, List.length_cons, List.length_nil, Nat.reduceAdd, Nat.reduceSub, List.replicate_succ, List.replicate_zero, List.cons_append, List.nil_append]; exact rfl)))
    (repeat (first | (first | refine awp_seq ?_ | refine awp_region ?_ | refine awp_block ?_ | refine awp_exit ?_ | refine awp_ret ?_ | refine awp_skip ?_ | refine ar_nil ?_ | refine dr_nil ?_ | (refine awp_region_draw ?_ ?_ ?_; kernel_rfl; kernel_rfl) | (first | refine t_norm ?_ | refine t_exit ?_ | refine t_ret ?_ | refine b_norm ?_ | refine b_exit ?_ | refine b_exit_ne rfl ?_ | refine b_ret ?_)) | ((first | ((first | apply ar_q | apply dr_q); exact qOp1) | ((first | apply ar_gu | apply dr_gu); exact rfl) | ((first | apply ar_gn | apply dr_gn); exact rfl; exact bdOk) | (first | (apply ar_box; exact rfl) | (apply ar_store; exact rfl; exact rfl; exact rfl; (focus (first | decide | (simp; done) | exact Nat.le_refl _)); kernel_rfl; exact rfl)) | ((first | apply ar_qt | apply dr_qt); (focus (apply qt_call; kernel_rfl; exact (hch); exact rfl))) | (apply ar_bslice (e := 3) 1; kernel_rfl; (focus (decide +kernel)); kernel_rfl; exact rfl; exact rfl; exact rfl; exact rfl; decide)); (first | refine ar_nrm (k := ?_) | refine dr_nrm (k := ?_))) | ((first | apply ar_gy | apply dr_gy); exact rfl; exact bdOk) | (first | (apply awp_cond_t; exact rfl; exact bdOk) | (apply awp_cond_f; exact rfl; exact bdOk)) | fail))
    refine ⟨.inr rfl, aend_mk [0] rfl (by simp) (by first | (simp; done) | (simp; omega)) (ares_tmp2 _ rfl ?_ (ares_tmp2 _ rfl ?_ ares_nil)) rfl rfl⟩ <;> exact rfl
  | true =>
    rw [hc] at hch
    cases hh : hullsF hs with
    | false =>
      rw [hh] at hg
      rw [mostR_no (.inr hh)]
      refine acalls_of (ws := [.c (.sl 3 (.own 0) (its (miL ((none : Option (List Int)))))), .c (.p (.bool ((none : Option (List Int))).isSome))]) Try.func47 rfl rfl rfl rfl fun w0 B m hm0 => ?_; (refine awp_norm (τ := ?_) ?_ ?_; rotate_left; (focus (simp only [AV.top, Try.ntmps47, List.length_cons, List.length_nil, Nat.reduceAdd, Nat.reduceSub, List.replicate_succ, List.replicate_zero, List.cons_append, List.nil_append]; exact rfl)))
      (repeat (first | (first | refine awp_seq ?_ | refine awp_region ?_ | refine awp_block ?_ | refine awp_exit ?_ | refine awp_ret ?_ | refine awp_skip ?_ | refine ar_nil ?_ | refine dr_nil ?_ | (refine awp_region_draw ?_ ?_ ?_; kernel_rfl; kernel_rfl) | (first | refine t_norm ?_ | refine t_exit ?_ | refine t_ret ?_ | refine b_norm ?_ | refine b_exit ?_ | refine b_exit_ne rfl ?_ | refine b_ret ?_)) | ((first | ((first | apply ar_q | apply dr_q); exact qOp1) | ((first | apply ar_gu | apply dr_gu); exact rfl) | ((first | apply ar_gn | apply dr_gn); exact rfl; exact bdOk) | (first | (apply ar_box; exact rfl) | (apply ar_store; exact rfl; exact rfl; exact rfl; (focus (first | decide | (simp; done) | exact Nat.le_refl _)); kernel_rfl; exact rfl)) | ((first | apply ar_qt | apply dr_qt); (focus (apply qt_call; kernel_rfl; exact (hch); exact rfl))) | ((first | apply ar_qt | apply dr_qt); (focus (apply qt_call; kernel_rfl; exact (hg); exact rfl))) | (apply ar_bslice (e := 3) 1; kernel_rfl; (focus (decide +kernel)); kernel_rfl; exact rfl; exact rfl; exact rfl; exact rfl; decide)); (first | refine ar_nrm (k := ?_) | refine dr_nrm (k := ?_))) | ((first | apply ar_gy | apply dr_gy); exact rfl; exact bdOk) | (first | (apply awp_cond_t; exact rfl; exact bdOk) | (apply awp_cond_f; exact rfl; exact bdOk)) | fail))
      refine ⟨.inr rfl, aend_mk [0] rfl (by simp) (by first | (simp; done) | (simp; omega)) (ares_tmp2 _ rfl ?_ (ares_tmp2 _ rfl ?_ ares_nil)) rfl rfl⟩ <;> exact rfl
    | true =>
      rw [hh] at hg
      have h4 := (hullsF_iff.1 hh).2.2
      have h16 := two16 h4
      have hsh := shl4u h4
      have hu := u64_small h4
      rw [← hl1] at hsh h16 hu
      rw [mostR_yes hc hh]
      refine acalls_of (ws := [.c (.sl 3 (.own 0) (its (miL ((some (mostTo c hs (2 ^ hs.length))))))), .c (.p (.bool ((some (mostTo c hs (2 ^ hs.length)))).isSome))]) Try.func47 rfl rfl rfl rfl fun w0 B m hm0 => ?_; (refine awp_norm (τ := ?_) ?_ ?_; rotate_left; (focus (simp only [AV.top, Try.ntmps47, List.length_cons, List.length_nil, Nat.reduceAdd, Nat.reduceSub, List.replicate_succ, List.replicate_zero, List.cons_append, List.nil_append]; exact rfl)))
      (repeat (first | (first | refine awp_seq ?_ | refine awp_region ?_ | refine awp_block ?_ | refine awp_exit ?_ | refine awp_ret ?_ | refine awp_skip ?_ | refine ar_nil ?_ | refine dr_nil ?_ | (refine awp_region_draw ?_ ?_ ?_; kernel_rfl; kernel_rfl) | (first | refine t_norm ?_ | refine t_exit ?_ | refine t_ret ?_ | refine b_norm ?_ | refine b_exit ?_ | refine b_exit_ne rfl ?_ | refine b_ret ?_)) | ((first | ((first | apply ar_q | apply dr_q); exact qOp1) | ((first | apply ar_gu | apply dr_gu); exact rfl) | ((first | apply ar_gn | apply dr_gn); exact rfl; exact bdOk) | (first | (apply ar_box; exact rfl) | (apply ar_store; exact rfl; exact rfl; exact rfl; (focus (first | decide | (simp; done) | exact Nat.le_refl _)); kernel_rfl; exact rfl)) | ((first | apply ar_qt | apply dr_qt); (focus (apply qt_call; kernel_rfl; exact (hch); exact rfl))) | ((first | apply ar_qt | apply dr_qt); (focus (apply qt_call; kernel_rfl; exact (hg); exact rfl))) | (apply ar_bslice (e := 3) 1; kernel_rfl; (focus (decide +kernel)); kernel_rfl; exact rfl; exact rfl; exact rfl; exact rfl; decide)); (first | refine ar_nrm (k := ?_) | refine dr_nrm (k := ?_))) | ((first | apply ar_gy | apply dr_gy); exact rfl; exact bdOk) | (first | (apply awp_cond_t; exact rfl; exact bdOk) | (apply awp_cond_f; exact rfl; exact bdOk)) | fail))
      refine awp_loopR 1 (Nat.le_trans (Nat.le_of_eq hm0) (Nat.zero_le 1)) rfl [1, 2] (fun s : Nat => [(6, .c (.sl 3 (.own 0) (its (mostTo c hs s)))), (7, .c (.p (.int .i64 s)))]) (fun _ => [[.p (.int .i64 (c).ln), .p (.int .i64 (c).wd)]]) (fun _ => 1) (fun q s => s ≤ 2 ^ (hulls hs).length ∧ q = 2 ^ (hulls hs).length - s) _ 0 ⟨by omega, rfl⟩ ?_ ?_
      · refine le_nrm (k := ?_); refine le_mk hsLe ?_; (repeat (first | exact AVs.le.nil | (with_reducible refine AVs.le.top _ ?_) | (with_reducible refine AVs.le.eq _ ?_) | refine AVs.le.eqv ?_ ?_)) <;> first | exact rfl | exact pi (by omega)
      rintro q s ⟨g1, rfl⟩
      refine nh_nrm (k := ?_)
      by_cases hi : s < 2 ^ (hulls hs).length
      · have hs16 : s < 16 := by omega
        have hi' : s < 2 ^ hs.length := by rw [← hl1]; exact hi
        have hcond : (decide ((s : Int) < IntKind.i64.wrap (1 * 2 ^ (min (Int.toNat (IntKind.u64.wrap ((hulls hs).length : Int))) IntKind.i64.bits)))) = true := by rw [hsh]; exact decide_eq_true (Int.ofNat_lt.2 hi)
        have hchs := spec_l4Chosen hs s h4 hs16
        rw [show idsF (chosen hs s) = idsM hs s from rfl] at hchs
        have hft := spec_l4Fits c (chosen hs s) hc (hullsF_sub (chosen_sub hs s) hh)
        rw [show fitsF c (chosen hs s) = fitM c hs s from rfl] at hft
        have hil := idsM_len h4 hi'
        have hp4 := pop4_le s
        have hml := mostTo_len (c := c) h4 s (by omega)
        have hls := spec_l4Less (idsM hs s) (mostTo c hs s) (by omega) (by omega)
        have h8 : (its (idsM hs s)).length = (idsM hs s).length := by simp [its]
        have h9 : (its (mostTo c hs s)).length = (mostTo c hs s).length := by simp [its]
        cases hf : fitM c hs s <;> cases h3 : lessL (idsM hs s) (mostTo c hs s) <;> (rw [h3] at hls; rw [hf] at hft; (repeat' (first | (first | refine awp_seq ?_ | refine awp_region ?_ | refine awp_block ?_ | refine awp_exit ?_ | refine awp_ret ?_ | refine awp_skip ?_ | refine ar_nil ?_ | refine dr_nil ?_ | (refine awp_region_draw ?_ ?_ ?_; kernel_rfl; kernel_rfl) | (first | refine t_norm ?_ | refine t_exit ?_ | refine t_ret ?_ | refine b_norm ?_ | refine b_exit ?_ | refine b_exit_ne rfl ?_ | refine b_ret ?_)) | ((first | ((first | apply ar_q | apply dr_q); exact qOp1) | ((first | apply ar_gu | apply dr_gu); exact rfl) | ((first | apply ar_gn | apply dr_gn); exact rfl; exact bdOk) | (first | (apply ar_box; exact rfl) | (apply ar_store; exact rfl; exact rfl; exact rfl; (focus (first | decide | (simp; done) | exact Nat.le_refl _)); kernel_rfl; exact rfl)) | ((first | apply ar_q | apply dr_q); (focus ((first | apply q_shr | apply q_shl); exact rfl; exact rfl; omega))) | (apply ar_call; kernel_rfl; exact (hchs); exact rfl) | ((first | apply ar_qt | apply dr_qt); (focus (apply qt_call; kernel_rfl; exact (hls); exact rfl))) | ((first | apply ar_qt | apply dr_qt); (focus (apply qt_call; kernel_rfl; exact (hft); exact rfl)))); (first | refine ar_nrm (k := ?_) | refine dr_nrm (k := ?_))) | ((first | apply ar_gy | apply dr_gy); exact rfl; exact bdOk) | (first | (apply awp_cond_t; exact rfl; exact bdOk) | (apply awp_cond_f; exact rfl; exact bdOk)) | ((first | apply ar_gs | apply dr_gs | apply awp_cond); (focus (exact rfl)); (all_goals (intro hc; (try simp only [decide_eq_true_eq, decide_eq_false_iff_not, Bool.not_eq_true', Bool.not_eq_false', Bool.not_true, Bool.not_false, bne_iff_ne, bne_eq_false_iff_eq, beq_iff_eq, beq_eq_false_iff_ne, ne_eq, Bool.cond_true_left, Bool.cond_false_right, Bool.or_eq_true, Bool.and_eq_true] at hc)))) | fail)))
        all_goals first
          | (have hm : mostTo c hs (s + 1) = mostTo c hs s := mostTo_no (by first | exact .inl (by omega) | exact .inr (.inl ⟨by omega, h3⟩) | exact .inr (.inr hf))
             refine ⟨_, s + 1, [0], ?_, ⟨by omega, rfl⟩, by simp, by simp, ?_⟩
             · omega
             · refine lkr_nrm (k := ?_); refine le_mk hsLe ?_; (repeat (first | exact AVs.le.nil | (with_reducible refine AVs.le.top _ ?_) | (with_reducible refine AVs.le.eq _ ?_) | refine AVs.le.eqv ?_ ?_)) <;> first | exact rfl | exact pi (by omega) | exact pl (by rw [hm]))
          | (have hm : mostTo c hs (s + 1) = idsM hs s := mostTo_yes (by omega) (by first | exact (fun _ => h3) | (intro _; omega)) hf
             refine ⟨_, s + 1, [2], ?_, ⟨by omega, rfl⟩, by simp, by simp, ?_⟩
             · omega
             · refine lkr_nrm (k := ?_); refine le_mk hsLe ?_; (repeat (first | exact AVs.le.nil | (with_reducible refine AVs.le.top _ ?_) | (with_reducible refine AVs.le.eq _ ?_) | refine AVs.le.eqv ?_ ?_)) <;> first | exact rfl | exact pi (by omega) | exact pl (by rw [hm]))
      · obtain rfl : s = 2 ^ (hulls hs).length := by omega
        have hcond : (decide (((2 ^ (hulls hs).length : Nat) : Int) < IntKind.i64.wrap (1 * 2 ^ (min (Int.toNat (IntKind.u64.wrap ((hulls hs).length : Int))) IntKind.i64.bits)))) = false := by rw [hsh]; exact decide_eq_false (Int.lt_irrefl _)
        (repeat (first | (first | refine awp_seq ?_ | refine awp_region ?_ | refine awp_block ?_ | refine awp_exit ?_ | refine awp_ret ?_ | refine awp_skip ?_ | refine ar_nil ?_ | refine dr_nil ?_ | (refine awp_region_draw ?_ ?_ ?_; kernel_rfl; kernel_rfl) | (first | refine t_norm ?_ | refine t_exit ?_ | refine t_ret ?_ | refine b_norm ?_ | refine b_exit ?_ | refine b_exit_ne rfl ?_ | refine b_ret ?_)) | ((first | ((first | apply ar_q | apply dr_q); exact qOp1) | ((first | apply ar_gu | apply dr_gu); exact rfl) | ((first | apply ar_gn | apply dr_gn); exact rfl; exact bdOk) | (first | (apply ar_box; exact rfl) | (apply ar_store; exact rfl; exact rfl; exact rfl; (focus (first | decide | (simp; done) | exact Nat.le_refl _)); kernel_rfl; exact rfl)) | ((first | apply ar_q | apply dr_q); (focus ((first | apply q_shr | apply q_shl); exact rfl; exact rfl; omega)))); (first | refine ar_nrm (k := ?_) | refine dr_nrm (k := ?_))) | ((first | apply ar_gy | apply dr_gy); exact rfl; exact bdOk) | (first | (apply awp_cond_t; exact rfl; exact bdOk) | (apply awp_cond_f; exact rfl; exact bdOk)) | fail))
        refine ⟨.inr rfl, aend_mk [0] rfl (by simp) (by first | (simp; done) | (simp; omega)) (ares_tmp2 _ rfl ?_ (ares_tmp2 _ rfl ?_ ares_nil)) rfl rfl⟩
        · exact pl (by rw [hl1]; rfl)
        · exact rfl
end Go.Proofs.Ythmaiahllhgdpaa
