/- The law of fleets. -/
import Derived.Test.YtdlebdgdcpemmaaGreatDoorQx
import Derived.Test.YtdlebdgdcpemmaaGreatDoorQy
import Derived.Test.YtdlebdgdcpemmaaGreatDoorQi5
import Derived.Test.YtdlebdgdcpemmaaGreatDoorGr
import Derived.Test.YtdlebdgdcpemmaaGreatDoorGs
namespace Go.Proofs.YtdlebdgdcpemmaaGreatDoor
open Go.RowKit
set_option linter.unusedVariables false
set_option linter.unusedSimpArgs false
attribute [local irreducible] AR DR AWp QOp Qt ACalls ARes Exit.thenA Exit.inBlockA
attribute [local irreducible] AG0 AG AGs
attribute [local irreducible] AT ATs
attribute [local irreducible] preA
theorem both_Named (l : List Vessel_) (nm : ByteArray) (hl : l.length ≤ 1048576) (hn : ∀ x ∈ l, x.len) : (ACalls Tryz.prog 16 [.c (.sl 25 .ro (vss l)), .c (.p (.string (nm)))] [] (.tup [.agg [.p (.int .i64 0), .p (.string ByteArray.empty), .p (.int .i64 0), .p (.int .i64 0), .p (.int .i64 0), .p (.int .i64 0)], .c (.p (.bool (false)))]) [] 0 ∧ ACalls Tryz.prog 20 [.c (.sl 25 .ro (vss l)), .c (.p (.string (nm)))] [] (.tup [.agg [.p (.int .i64 0), .p (.string ByteArray.empty), .p (.int .i64 0), .p (.int .i64 0), .p (.int .i64 0), .p (.int .i64 0)], .c (.p (.bool (false)))]) [] 0) ∨
    (∃ x : Vessel_, ACalls Tryz.prog 16 [.c (.sl 25 .ro (vss l)), .c (.p (.string (nm)))] [] (.tup [.agg [.p (.int .i64 (x).id), .p (.string (x).nm), .p (.int .i64 (x).ln), .p (.int .i64 (x).wd), .p (.int .i64 (x).dr), .p (.int .i64 (x).kd)], .c (.p (.bool (true)))]) [] 0 ∧ ACalls Tryz.prog 20 [.c (.sl 25 .ro (vss l)), .c (.p (.string (nm)))] [] (.tup [.agg [.p (.int .i64 (x).id), .p (.string (x).nm), .p (.int .i64 (x).ln), .p (.int .i64 (x).wd), .p (.int .i64 (x).dr), .p (.int .i64 (x).kd)], .c (.p (.bool (true)))]) [] 0) := by
  cases hF : fleetF l with
  | false => exact .inl ⟨impl_Named_no l nm hl hn hF, spec_Named_no l nm hl hn hF⟩
  | true =>
    by_cases hx : ∀ j (hj : j < l.length), isNm nm l[j] = false
    · exact .inl ⟨impl_Named_none l nm hl hn hF hx, spec_Named_none l nm hl hn hF hx⟩
    · have hi : l.findIdx (isNm nm) < l.length := by
        rw [List.findIdx_lt_length]
        apply Classical.byContradiction
        intro h
        exact hx fun j hj => by
          cases hv : isNm nm l[j] with
          | false => rfl
          | true => exact absurd ⟨l[j], List.getElem_mem hj, hv⟩ h
      have hp : isNm nm (l[l.findIdx (isNm nm)]'hi) = true := List.findIdx_getElem
      have hb : ∀ j (hj : j < l.length), j < l.findIdx (isNm nm) → isNm nm l[j] = false := fun j hj hji => by
        simpa using List.not_of_lt_findIdx hji
      exact .inr ⟨_, impl_Named_ok l nm hl hn hF _ hi hp hb, spec_Named_ok l nm hl hn hF _ hi hp hb⟩
set_option maxHeartbeats 80000000 in
set_option maxRecDepth 20000 in
theorem law_Fleets (l : List Int) (hl : okBts l) : ACallsT Tryz.prog T7 3 [.c (.sl 5 .ro (bts l))] [] (.c (.p (.bool (true)))) [] 0 := by
  have hl1 := hl.1
  refine acallsT_of (ws := [.c (.p (.bool (true)))]) Tryz.func3 rfl rfl rfl rfl fun w0 B m hT hm0 => ?_; (obtain rfl : m = [] := List.eq_nil_of_length_eq_zero hm0); (refine awp_norm (τ := ?_) ?_ ?_; rotate_left; (focus (simp only [AV.top, Tryz.ntmps3, List.length_cons, List.length_nil, Nat.reduceAdd, Nat.reduceSub, List.replicate_succ, List.replicate_zero, List.cons_append, List.nil_append]; exact rfl)))
  refine awp_part 6 0 (Nat.le_refl 0) rfl [0] [] [] 0 rfl ?_ ?_
  · (repeat' (first | refine pre_seq ?_ | (first | refine awp_seq ?_ | refine awp_region ?_ | refine awp_block ?_ | refine awp_exit ?_ | refine awp_ret ?_ | refine awp_skip ?_ | refine ar_nil ?_ | refine dr_nil ?_ | (first | refine t_norm ?_ | refine t_exit ?_ | refine t_ret ?_ | refine b_norm ?_ | refine b_exit ?_ | refine b_exit_ne rfl ?_ | refine b_ret ?_)) | ((first | ((first | apply ar_q | apply dr_q); exact qOp1) | ((first | apply ar_gu | apply dr_gu); exact rfl) | ((first | apply ar_gn | apply dr_gn); exact rfl; exact bdOk) | (first | (apply ar_box; exact rfl) | (apply ar_store; exact rfl; exact rfl; exact rfl; (focus (first | decide | (simp; done) | exact Nat.le_refl _)); kernel_rfl; exact rfl)) | (apply ar_alloc (ys := ([.int .i64 0, .string ByteArray.empty, .int .i64 0, .int .i64 0, .int .i64 0, .int .i64 0] : List Value)); kernel_rfl) | ((first | apply ar_q | apply dr_q); (focus (apply q_neq_same; exact rfl; exact rfl; exact rfl; kernel_rfl))) | ((first | apply ar_qt | apply dr_qt); (focus (apply qt_call; kernel_rfl; exact (law_rBig l (by omega) false (decide_eq_false (by omega))); exact rfl))) | (apply ar_callE; kernel_rfl; exact (ACallsE.sv fun v => draw_TextV v l hl); (focus (intro x; exact rfl)); (intro y1 hx; (try dsimp only at hx)))); (first | refine ar_nrm (k := ?_) | refine dr_nrm (k := ?_))) | ((first | apply ar_gy | apply dr_gy); exact rfl; exact bdOk) | (first | (apply awp_cond_t; exact rfl; exact bdOk) | (apply awp_cond_f; exact rfl; exact bdOk)) | fail))
    revert y1
    intro x hok
    have hlen := hok.len
    have c1 := (impl_VesselText x hlen).weak (T' := T7) fun w h => ⟨h.1.1.1, h.2⟩
    have c3 := spec_VesselText x hlen
    have c4 := impl_IsValidVessel x hlen
    cases hw : vesF x with
    | false =>
      have e : txtR x = (⟨#[]⟩, false) := by unfold txtR; rw [hw]; rfl
      have c2 := impl_ParseV ⟨#[]⟩ (by decide) none parse_emptyV
      dsimp only [wsV] at c2
      rw [e] at c1 c3
      rw [hw] at c4
      dsimp only at c1 c3
      (repeat' (first | refine pre_seq ?_ | (first | refine awp_seq ?_ | refine awp_region ?_ | refine awp_block ?_ | refine awp_exit ?_ | refine awp_ret ?_ | refine awp_skip ?_ | refine ar_nil ?_ | refine dr_nil ?_ | (refine awp_region_draw ?_ ?_ ?_; kernel_rfl; kernel_rfl) | (first | refine t_norm ?_ | refine t_exit ?_ | refine t_ret ?_ | refine b_norm ?_ | refine b_exit ?_ | refine b_exit_ne rfl ?_ | refine b_ret ?_)) | ((first | ((first | apply ar_q | apply dr_q); exact qOp1) | ((first | apply ar_gu | apply dr_gu); exact rfl) | ((first | apply ar_gn | apply dr_gn); exact rfl; exact bdOk) | (first | (apply ar_box; exact rfl) | (apply ar_store; exact rfl; exact rfl; exact rfl; (focus (first | decide | (simp; done) | exact Nat.le_refl _)); kernel_rfl; exact rfl)) | (apply ar_alloc (ys := ([.int .i64 0, .string ByteArray.empty, .int .i64 0, .int .i64 0, .int .i64 0, .int .i64 0] : List Value)); kernel_rfl) | ((first | apply ar_q | apply dr_q); (focus (apply q_neq_same; exact rfl; exact rfl; exact rfl; kernel_rfl))) | ((first | (apply ar_ct hT keptT7 rfl rfl) | (apply dr_ct hT keptT7 rfl rfl)); kernel_rfl; exact (c1); exact rfl) | ((first | (apply ar_ct hT keptT7 rfl rfl) | (apply dr_ct hT keptT7 rfl rfl)); kernel_rfl; exact (c2); exact rfl) | ((first | apply ar_qt | apply dr_qt); (focus (apply qt_call; kernel_rfl; exact (c3); exact rfl))) | ((first | apply ar_qt | apply dr_qt); (focus (apply qt_call; kernel_rfl; exact (c4); exact rfl)))); (first | refine ar_nrm (k := ?_) | refine dr_nrm (k := ?_))) | ((first | apply ar_gy | apply dr_gy); exact rfl; exact bdOk) | (first | (apply awp_cond_t; exact rfl; exact bdOk) | (apply awp_cond_f; exact rfl; exact bdOk)) | fail))
      (refine pre_zero ⟨[], by simp, by simp, ?_⟩; refine lkr_nrm (k := ?_); refine le_mk hsLe ?_; (repeat (first | exact AVs.le.nil | (with_reducible refine AVs.le.top _ ?_) | (with_reducible refine AVs.le.eq _ ?_) | refine AVs.le.eqv ?_ ?_)))
    | true =>
      have e : txtR x = (textV x, true) := by unfold txtR; rw [hw]; rfl
      have hsz := textV_sz hw
      have c2 := impl_ParseV (textV x) (by omega) (some x) (parseV_text hw).1
      dsimp only [wsV] at c2
      rw [e] at c1 c3
      rw [hw] at c4
      dsimp only at c1 c3
      generalize textV x = t at *
      (repeat' (first | refine pre_seq ?_ | (first | refine awp_seq ?_ | refine awp_region ?_ | refine awp_block ?_ | refine awp_exit ?_ | refine awp_ret ?_ | refine awp_skip ?_ | refine ar_nil ?_ | refine dr_nil ?_ | (refine awp_region_draw ?_ ?_ ?_; kernel_rfl; kernel_rfl) | (first | refine t_norm ?_ | refine t_exit ?_ | refine t_ret ?_ | refine b_norm ?_ | refine b_exit ?_ | refine b_exit_ne rfl ?_ | refine b_ret ?_)) | ((first | ((first | apply ar_q | apply dr_q); exact qOp1) | ((first | apply ar_gu | apply dr_gu); exact rfl) | ((first | apply ar_gn | apply dr_gn); exact rfl; exact bdOk) | (first | (apply ar_box; exact rfl) | (apply ar_store; exact rfl; exact rfl; exact rfl; (focus (first | decide | (simp; done) | exact Nat.le_refl _)); kernel_rfl; exact rfl)) | (apply ar_alloc (ys := ([.int .i64 0, .string ByteArray.empty, .int .i64 0, .int .i64 0, .int .i64 0, .int .i64 0] : List Value)); kernel_rfl) | ((first | apply ar_q | apply dr_q); (focus (apply q_neq_same; exact rfl; exact rfl; exact rfl; kernel_rfl))) | ((first | (apply ar_ct hT keptT7 rfl rfl) | (apply dr_ct hT keptT7 rfl rfl)); kernel_rfl; exact (c1); exact rfl) | ((first | (apply ar_ct hT keptT7 rfl rfl) | (apply dr_ct hT keptT7 rfl rfl)); kernel_rfl; exact (c2); exact rfl) | ((first | apply ar_qt | apply dr_qt); (focus (apply qt_call; kernel_rfl; exact (c3); exact rfl))) | ((first | apply ar_qt | apply dr_qt); (focus (apply qt_call; kernel_rfl; exact (c4); exact rfl)))); (first | refine ar_nrm (k := ?_) | refine dr_nrm (k := ?_))) | ((first | apply ar_gy | apply dr_gy); exact rfl; exact bdOk) | (first | (apply awp_cond_t; exact rfl; exact bdOk) | (apply awp_cond_f; exact rfl; exact bdOk)) | fail))
      (refine pre_zero ⟨[], by simp, by simp, ?_⟩; refine lkr_nrm (k := ?_); refine le_mk hsLe ?_; (repeat (first | exact AVs.le.nil | (with_reducible refine AVs.le.top _ ?_) | (with_reducible refine AVs.le.eq _ ?_) | refine AVs.le.eqv ?_ ?_)))
  refine nh_nrm (k := ?_)
  refine awp_part 3 0 (Nat.le_refl 0) rfl [0] [] [] 0 rfl ?_ ?_
  · (repeat' (first | refine pre_seq ?_ | (first | refine awp_seq ?_ | refine awp_region ?_ | refine awp_block ?_ | refine awp_exit ?_ | refine awp_ret ?_ | refine awp_skip ?_ | refine ar_nil ?_ | refine dr_nil ?_ | (first | refine t_norm ?_ | refine t_exit ?_ | refine t_ret ?_ | refine b_norm ?_ | refine b_exit ?_ | refine b_exit_ne rfl ?_ | refine b_ret ?_)) | ((first | ((first | apply ar_q | apply dr_q); exact qOp1) | ((first | apply ar_gu | apply dr_gu); exact rfl) | ((first | apply ar_gn | apply dr_gn); exact rfl; exact bdOk) | (apply ar_callE; kernel_rfl; exact (ACallsE.sv fun v => draw_ParseV v l hl); (focus (intro x; exact rfl)); (intro y1 hx; (try dsimp only at hx)))); (first | refine ar_nrm (k := ?_) | refine dr_nrm (k := ?_))) | ((first | apply ar_gy | apply dr_gy); exact rfl; exact bdOk) | (first | (apply awp_cond_t; exact rfl; exact bdOk) | (apply awp_cond_f; exact rfl; exact bdOk)) | fail))
    revert y1
    intro t ht
    cases hp : parseVI t with
    | none =>
      have c1 := impl_ParseV t (by omega) none hp
      have c2 := spec_ParseV t (by omega) none (by rw [parseV_eq, hp])
      dsimp only [wsV] at c1 c2
      (repeat' (first | refine pre_seq ?_ | (first | refine awp_seq ?_ | refine awp_region ?_ | refine awp_block ?_ | refine awp_exit ?_ | refine awp_ret ?_ | refine awp_skip ?_ | refine ar_nil ?_ | refine dr_nil ?_ | (refine awp_region_draw ?_ ?_ ?_; kernel_rfl; kernel_rfl) | (first | refine t_norm ?_ | refine t_exit ?_ | refine t_ret ?_ | refine b_norm ?_ | refine b_exit ?_ | refine b_exit_ne rfl ?_ | refine b_ret ?_)) | ((first | ((first | apply ar_q | apply dr_q); exact qOp1) | ((first | apply ar_gu | apply dr_gu); exact rfl) | ((first | apply ar_gn | apply dr_gn); exact rfl; exact bdOk) | (first | (apply ar_box; exact rfl) | (apply ar_store; exact rfl; exact rfl; exact rfl; (focus (first | decide | (simp; done) | exact Nat.le_refl _)); kernel_rfl; exact rfl)) | (apply ar_alloc (ys := ([.int .i64 0, .string ByteArray.empty, .int .i64 0, .int .i64 0, .int .i64 0, .int .i64 0] : List Value)); kernel_rfl) | ((first | apply ar_q | apply dr_q); (focus (apply q_neq_same; exact rfl; exact rfl; exact rfl; kernel_rfl))) | ((first | (apply ar_ct hT keptT7 rfl rfl) | (apply dr_ct hT keptT7 rfl rfl)); kernel_rfl; exact (c1); exact rfl) | ((first | apply ar_qt | apply dr_qt); (focus (apply qt_call; kernel_rfl; exact (c2); exact rfl)))); (first | refine ar_nrm (k := ?_) | refine dr_nrm (k := ?_))) | ((first | apply ar_gy | apply dr_gy); exact rfl; exact bdOk) | (first | (apply awp_cond_t; exact rfl; exact bdOk) | (apply awp_cond_f; exact rfl; exact bdOk)) | fail))
      (refine pre_zero ⟨[], by simp, by simp, ?_⟩; refine lkr_nrm (k := ?_); refine le_mk hsLe ?_; (repeat (first | exact AVs.le.nil | (with_reducible refine AVs.le.top _ ?_) | (with_reducible refine AVs.le.eq _ ?_) | refine AVs.le.eqv ?_ ?_)))
    | some x =>
      have c1 := impl_ParseV t (by omega) (some x) hp
      have c2 := spec_ParseV t (by omega) (some x) (by rw [parseV_eq, hp])
      dsimp only [wsV] at c1 c2
      (repeat' (first | refine pre_seq ?_ | (first | refine awp_seq ?_ | refine awp_region ?_ | refine awp_block ?_ | refine awp_exit ?_ | refine awp_ret ?_ | refine awp_skip ?_ | refine ar_nil ?_ | refine dr_nil ?_ | (refine awp_region_draw ?_ ?_ ?_; kernel_rfl; kernel_rfl) | (first | refine t_norm ?_ | refine t_exit ?_ | refine t_ret ?_ | refine b_norm ?_ | refine b_exit ?_ | refine b_exit_ne rfl ?_ | refine b_ret ?_)) | ((first | ((first | apply ar_q | apply dr_q); exact qOp1) | ((first | apply ar_gu | apply dr_gu); exact rfl) | ((first | apply ar_gn | apply dr_gn); exact rfl; exact bdOk) | (first | (apply ar_box; exact rfl) | (apply ar_store; exact rfl; exact rfl; exact rfl; (focus (first | decide | (simp; done) | exact Nat.le_refl _)); kernel_rfl; exact rfl)) | (apply ar_alloc (ys := ([.int .i64 0, .string ByteArray.empty, .int .i64 0, .int .i64 0, .int .i64 0, .int .i64 0] : List Value)); kernel_rfl) | ((first | apply ar_q | apply dr_q); (focus (apply q_neq_same; exact rfl; exact rfl; exact rfl; kernel_rfl))) | ((first | (apply ar_ct hT keptT7 rfl rfl) | (apply dr_ct hT keptT7 rfl rfl)); kernel_rfl; exact (c1); exact rfl) | ((first | apply ar_qt | apply dr_qt); (focus (apply qt_call; kernel_rfl; exact (c2); exact rfl)))); (first | refine ar_nrm (k := ?_) | refine dr_nrm (k := ?_))) | ((first | apply ar_gy | apply dr_gy); exact rfl; exact bdOk) | (first | (apply awp_cond_t; exact rfl; exact bdOk) | (apply awp_cond_f; exact rfl; exact bdOk)) | fail))
      (refine pre_zero ⟨[], by simp, by simp, ?_⟩; refine lkr_nrm (k := ?_); refine le_mk hsLe ?_; (repeat (first | exact AVs.le.nil | (with_reducible refine AVs.le.top _ ?_) | (with_reducible refine AVs.le.eq _ ?_) | refine AVs.le.eqv ?_ ?_)))
  refine nh_nrm (k := ?_)
  refine awp_part 4 0 (Nat.le_refl 0) rfl [0] [] [] 0 rfl ?_ ?_
  · (repeat' (first | refine pre_seq ?_ | (first | refine awp_seq ?_ | refine awp_region ?_ | refine awp_block ?_ | refine awp_exit ?_ | refine awp_ret ?_ | refine awp_skip ?_ | refine ar_nil ?_ | refine dr_nil ?_ | (first | refine t_norm ?_ | refine t_exit ?_ | refine t_ret ?_ | refine b_norm ?_ | refine b_exit ?_ | refine b_exit_ne rfl ?_ | refine b_ret ?_)) | ((first | ((first | apply ar_q | apply dr_q); exact qOp1) | ((first | apply ar_gu | apply dr_gu); exact rfl) | ((first | apply ar_gn | apply dr_gn); exact rfl; exact bdOk) | (first | (apply ar_box; exact rfl) | (apply ar_store; exact rfl; exact rfl; exact rfl; (focus (first | decide | (simp; done) | exact Nat.le_refl _)); kernel_rfl; exact rfl)) | (apply ar_alloc (ys := ([.int .i64 0, .string ByteArray.empty, .int .i64 0, .int .i64 0, .int .i64 0, .int .i64 0] : List Value)); kernel_rfl) | ((first | apply ar_q | apply dr_q); (focus (apply q_neq_same; exact rfl; exact rfl; exact rfl; kernel_rfl))) | (apply ar_callE; kernel_rfl; exact (ACallsE.sv fun v => draw_Add v l hl); (focus (intro x; exact rfl)); (rintro ⟨y1, y2⟩ hx; (try dsimp only at hx)))); (first | refine ar_nrm (k := ?_) | refine dr_nrm (k := ?_))) | ((first | apply ar_gy | apply dr_gy); exact rfl; exact bdOk) | (first | (apply awp_cond_t; exact rfl; exact bdOk) | (apply awp_cond_f; exact rfl; exact bdOk)) | fail))
    revert y1 y2
    intro o x ⟨ho, hx⟩
    have ho1 := ho.1
    have hn := ho.lens
    have hcs := spec_Add o x (by omega) hn hx.len
    by_cases hy : fleetF o = true ∧ fleetF (addV o x) = true
    · have hci := impl_Add_yes o x (by omega) hn hx.len hy.1 hy.2
      have h8 := fleet_len hy.2
      have hnA : ∀ y ∈ addV o x, y.len := fun y h => (addV_mem h).elim (fun e => e ▸ hx.len) (hn y)
      rw [addR_yes hy.1 hy.2] at hcs
      dsimp only at hcs
      obtain ⟨f1, f2⟩ := add_found hy.2
      have hv := addV_at o x
      have hlt := addV_lt o x
      have hnm := impl_Named_ok (addV o x) x.nm (by omega) hnA hy.2 _ hlt f1 f2
      rw [hv] at hnm
      have hk1 := impl_CellsOf_ok o (by omega) hn hy.1
      have hk2 := impl_CellsOf_ok (addV o x) (by omega) hnA hy.2
      have hb1 := cellsN_bd hy.1 o.length
      have hb2 := cellsN_bd hy.2 (addV o x).length
      have hsum := add_cells o x
      have hfl := impl_IsFleet (addV o x) (by omega) hnA
      rw [hy.2] at hfl
      have har := ves_area (fleet_at hy.2 hlt)
      rw [hv] at har
      have hrv := law_rVessels (addV o x) (by omega)
      have hne : (cellsN (addV o x) (addV o x).length - cellsN o o.length != x.ln * x.wd) = false := by simp [hsum]
      clear f1 f2 hv hlt
      generalize cellsN o o.length = u1 at *
      generalize cellsN (addV o x) (addV o x).length = u2 at *
      generalize addV o x = g at *
      (repeat' (first | refine pre_seq ?_ | (first | refine awp_seq ?_ | refine awp_region ?_ | refine awp_block ?_ | refine awp_exit ?_ | refine awp_ret ?_ | refine awp_skip ?_ | refine ar_nil ?_ | refine dr_nil ?_ | (refine awp_region_draw ?_ ?_ ?_; kernel_rfl; kernel_rfl) | (first | refine t_norm ?_ | refine t_exit ?_ | refine t_ret ?_ | refine b_norm ?_ | refine b_exit ?_ | refine b_exit_ne rfl ?_ | refine b_ret ?_)) | ((first | ((first | apply ar_q | apply dr_q); exact qOp1) | ((first | apply ar_gu | apply dr_gu); exact rfl) | ((first | apply ar_gn | apply dr_gn); exact rfl; exact bdOk) | (first | (apply ar_box; exact rfl) | (apply ar_store; exact rfl; exact rfl; exact rfl; (focus (first | decide | (simp; done) | exact Nat.le_refl _)); kernel_rfl; exact rfl)) | (apply ar_alloc (ys := ([.int .i64 0, .string ByteArray.empty, .int .i64 0, .int .i64 0, .int .i64 0, .int .i64 0] : List Value)); kernel_rfl) | ((first | apply ar_q | apply dr_q); (focus (apply q_neq_same; exact rfl; exact rfl; exact rfl; kernel_rfl))) | (apply ar_call; kernel_rfl; exact (hci); exact rfl) | (apply ar_call; kernel_rfl; exact (hcs); exact rfl) | ((first | apply ar_qt | apply dr_qt); (focus (apply qt_call; kernel_rfl; exact (hrv); exact rfl))) | ((first | apply ar_qt | apply dr_qt); (focus (apply qt_call; kernel_rfl; exact (hnm); exact rfl))) | ((first | apply ar_qt | apply dr_qt); (focus (apply qt_call; kernel_rfl; exact (hk1); exact rfl))) | ((first | apply ar_qt | apply dr_qt); (focus (apply qt_call; kernel_rfl; exact (hk2); exact rfl))) | ((first | apply ar_qt | apply dr_qt); (focus (apply qt_call; kernel_rfl; exact (hfl); exact rfl)))); (first | refine ar_nrm (k := ?_) | refine dr_nrm (k := ?_))) | ((first | apply ar_gy | apply dr_gy); exact rfl; exact bdOk) | (first | (apply awp_cond_t; exact rfl; exact bdOk) | (apply awp_cond_f; exact rfl; exact bdOk)) | fail))
      (refine pre_zero ⟨[], by simp, by simp, ?_⟩; refine lkr_nrm (k := ?_); refine le_mk hsLe ?_; (repeat (first | exact AVs.le.nil | (with_reducible refine AVs.le.top _ ?_) | (with_reducible refine AVs.le.eq _ ?_) | refine AVs.le.eqv ?_ ?_)))
    · have hr : addR o x = ([], false) := by
        cases hF : fleetF o with
        | false => exact addR_no hF
        | true => exact addR_no2 (by
            cases h2 : fleetF (addV o x) with
            | false => rfl
            | true => exact absurd ⟨hF, h2⟩ hy)
      have hci : ACalls Tryz.prog 13 [.c (.sl 25 .ro (vss o)), .agg [.p (.int .i64 (x).id), .p (.string (x).nm), .p (.int .i64 (x).ln), .p (.int .i64 (x).wd), .p (.int .i64 (x).dr), .p (.int .i64 (x).kd)]] [] (.tup [.c .nl, .c (.p (.bool (false)))]) [] 0 := by
        cases hF : fleetF o with
        | false => exact impl_Add_no1 o x (by omega) hn hF
        | true => exact impl_Add_no2 o x (by omega) hn hx.len hF (by
            cases h2 : fleetF (addV o x) with
            | false => rfl
            | true => exact absurd ⟨hF, h2⟩ hy)
      rw [hr] at hcs
      dsimp only at hcs
      (repeat' (first | refine pre_seq ?_ | (first | refine awp_seq ?_ | refine awp_region ?_ | refine awp_block ?_ | refine awp_exit ?_ | refine awp_ret ?_ | refine awp_skip ?_ | refine ar_nil ?_ | refine dr_nil ?_ | (refine awp_region_draw ?_ ?_ ?_; kernel_rfl; kernel_rfl) | (first | refine t_norm ?_ | refine t_exit ?_ | refine t_ret ?_ | refine b_norm ?_ | refine b_exit ?_ | refine b_exit_ne rfl ?_ | refine b_ret ?_)) | ((first | ((first | apply ar_q | apply dr_q); exact qOp1) | ((first | apply ar_gu | apply dr_gu); exact rfl) | ((first | apply ar_gn | apply dr_gn); exact rfl; exact bdOk) | (first | (apply ar_box; exact rfl) | (apply ar_store; exact rfl; exact rfl; exact rfl; (focus (first | decide | (simp; done) | exact Nat.le_refl _)); kernel_rfl; exact rfl)) | (apply ar_alloc (ys := ([.int .i64 0, .string ByteArray.empty, .int .i64 0, .int .i64 0, .int .i64 0, .int .i64 0] : List Value)); kernel_rfl) | ((first | apply ar_q | apply dr_q); (focus (apply q_neq_same; exact rfl; exact rfl; exact rfl; kernel_rfl))) | (apply ar_call; kernel_rfl; exact (hci); exact rfl) | (apply ar_call; kernel_rfl; exact (hcs); exact rfl) | ((first | apply ar_qt | apply dr_qt); (focus (apply qt_call; kernel_rfl; exact (ACalls.nl0 (law_rVessels [] (by simp))); exact rfl)))); (first | refine ar_nrm (k := ?_) | refine dr_nrm (k := ?_))) | ((first | apply ar_gy | apply dr_gy); exact rfl; exact bdOk) | (first | (apply awp_cond_t; exact rfl; exact bdOk) | (apply awp_cond_f; exact rfl; exact bdOk)) | fail))
      (refine pre_zero ⟨[], by simp, by simp, ?_⟩; refine lkr_nrm (k := ?_); refine le_mk hsLe ?_; (repeat (first | exact AVs.le.nil | (with_reducible refine AVs.le.top _ ?_) | (with_reducible refine AVs.le.eq _ ?_) | refine AVs.le.eqv ?_ ?_)))
  refine nh_nrm (k := ?_)
  (repeat' (first | (first | refine awp_seq ?_ | refine awp_region ?_ | refine awp_block ?_ | refine awp_exit ?_ | refine awp_ret ?_ | refine awp_skip ?_ | refine ar_nil ?_ | refine dr_nil ?_ | (first | refine t_norm ?_ | refine t_exit ?_ | refine t_ret ?_ | refine b_norm ?_ | refine b_exit ?_ | refine b_exit_ne rfl ?_ | refine b_ret ?_)) | ((first | ((first | apply ar_q | apply dr_q); exact qOp1) | ((first | apply ar_gu | apply dr_gu); exact rfl) | ((first | apply ar_gn | apply dr_gn); exact rfl; exact bdOk) | (first | (apply ar_box; exact rfl) | (apply ar_store; exact rfl; exact rfl; exact rfl; (focus (first | decide | (simp; done) | exact Nat.le_refl _)); kernel_rfl; exact rfl)) | (apply ar_alloc (ys := ([.int .i64 0, .string ByteArray.empty, .int .i64 0, .int .i64 0, .int .i64 0, .int .i64 0] : List Value)); kernel_rfl) | ((first | apply ar_q | apply dr_q); (focus (apply q_neq_same; exact rfl; exact rfl; exact rfl; kernel_rfl))) | (apply ar_callE; kernel_rfl; exact (ACallsE.sv fun v => draw_Named v l hl); (focus (intro x; exact rfl)); (rintro ⟨y1, y2⟩ hx; (try dsimp only at hx)))); (first | refine ar_nrm (k := ?_) | refine dr_nrm (k := ?_))) | ((first | apply ar_gy | apply dr_gy); exact rfl; exact bdOk) | (first | (apply awp_cond_t; exact rfl; exact bdOk) | (apply awp_cond_f; exact rfl; exact bdOk)) | fail))
  revert y1 y2
  intro o nm ⟨ho, hm⟩
  have ho1 := ho.1
  rcases both_Named o nm (by omega) ho.lens with ⟨c1, c2⟩ | ⟨x, c1, c2⟩
  · (repeat' (first | (first | refine awp_seq ?_ | refine awp_region ?_ | refine awp_block ?_ | refine awp_exit ?_ | refine awp_ret ?_ | refine awp_skip ?_ | refine ar_nil ?_ | refine dr_nil ?_ | (first | refine t_norm ?_ | refine t_exit ?_ | refine t_ret ?_ | refine b_norm ?_ | refine b_exit ?_ | refine b_exit_ne rfl ?_ | refine b_ret ?_)) | ((first | ((first | apply ar_q | apply dr_q); exact qOp1) | ((first | apply ar_gu | apply dr_gu); exact rfl) | ((first | apply ar_gn | apply dr_gn); exact rfl; exact bdOk) | (first | (apply ar_box; exact rfl) | (apply ar_store; exact rfl; exact rfl; exact rfl; (focus (first | decide | (simp; done) | exact Nat.le_refl _)); kernel_rfl; exact rfl)) | (apply ar_alloc (ys := ([.int .i64 0, .string ByteArray.empty, .int .i64 0, .int .i64 0, .int .i64 0, .int .i64 0] : List Value)); kernel_rfl) | ((first | apply ar_q | apply dr_q); (focus (apply q_neq_same; exact rfl; exact rfl; exact rfl; kernel_rfl))) | ((first | apply ar_q | apply dr_q); (focus (apply q_eql_same; exact rfl; exact rfl; exact rfl; kernel_rfl))) | ((first | apply ar_qt | apply dr_qt); (focus (apply qt_call; kernel_rfl; exact (c1); exact rfl))) | ((first | apply ar_qt | apply dr_qt); (focus (apply qt_call; kernel_rfl; exact (c2); exact rfl)))); (first | refine ar_nrm (k := ?_) | refine dr_nrm (k := ?_))) | ((first | apply ar_gy | apply dr_gy); exact rfl; exact bdOk) | (first | (apply awp_cond_t; exact rfl; exact bdOk) | (apply awp_cond_f; exact rfl; exact bdOk)) | fail))
    refine ⟨.inr rfl, aend_mk [] rfl (by simp) (by first | (simp; done) | (simp; omega)) (ares_tmp2 _ rfl ?_ ares_nil) rfl rfl⟩
    exact rfl
  · (repeat' (first | (first | refine awp_seq ?_ | refine awp_region ?_ | refine awp_block ?_ | refine awp_exit ?_ | refine awp_ret ?_ | refine awp_skip ?_ | refine ar_nil ?_ | refine dr_nil ?_ | (first | refine t_norm ?_ | refine t_exit ?_ | refine t_ret ?_ | refine b_norm ?_ | refine b_exit ?_ | refine b_exit_ne rfl ?_ | refine b_ret ?_)) | ((first | ((first | apply ar_q | apply dr_q); exact qOp1) | ((first | apply ar_gu | apply dr_gu); exact rfl) | ((first | apply ar_gn | apply dr_gn); exact rfl; exact bdOk) | (first | (apply ar_box; exact rfl) | (apply ar_store; exact rfl; exact rfl; exact rfl; (focus (first | decide | (simp; done) | exact Nat.le_refl _)); kernel_rfl; exact rfl)) | (apply ar_alloc (ys := ([.int .i64 0, .string ByteArray.empty, .int .i64 0, .int .i64 0, .int .i64 0, .int .i64 0] : List Value)); kernel_rfl) | ((first | apply ar_q | apply dr_q); (focus (apply q_neq_same; exact rfl; exact rfl; exact rfl; kernel_rfl))) | ((first | apply ar_q | apply dr_q); (focus (apply q_eql_same; exact rfl; exact rfl; exact rfl; kernel_rfl))) | ((first | apply ar_qt | apply dr_qt); (focus (apply qt_call; kernel_rfl; exact (c1); exact rfl))) | ((first | apply ar_qt | apply dr_qt); (focus (apply qt_call; kernel_rfl; exact (c2); exact rfl)))); (first | refine ar_nrm (k := ?_) | refine dr_nrm (k := ?_))) | ((first | apply ar_gy | apply dr_gy); exact rfl; exact bdOk) | (first | (apply awp_cond_t; exact rfl; exact bdOk) | (apply awp_cond_f; exact rfl; exact bdOk)) | fail))
    refine ⟨.inr rfl, aend_mk [] rfl (by simp) (by first | (simp; done) | (simp; omega)) (ares_tmp2 _ rfl ?_ ares_nil) rfl rfl⟩
    exact rfl
set_option maxRecDepth 20000 in
theorem law_Fleets_big (l : List Int) (hl : l.length ≤ 9223372036854775807) (hb : 65536 < l.length) : ACallsT Tryz.prog T7 3 [.c (.sl 5 .ro (bts l))] [] (.c (.p (.bool (true)))) [] 0 := by
  refine acallsT_of (ws := [.c (.p (.bool (true)))]) Tryz.func3 rfl rfl rfl rfl fun w0 B m hT hm0 => ?_; (obtain rfl : m = [] := List.eq_nil_of_length_eq_zero hm0); (refine awp_norm (τ := ?_) ?_ ?_; rotate_left; (focus (simp only [AV.top, Tryz.ntmps3, List.length_cons, List.length_nil, Nat.reduceAdd, Nat.reduceSub, List.replicate_succ, List.replicate_zero, List.cons_append, List.nil_append]; exact rfl)))
  (repeat' (first | (first | refine awp_seq ?_ | refine awp_region ?_ | refine awp_block ?_ | refine awp_exit ?_ | refine awp_ret ?_ | refine awp_skip ?_ | refine ar_nil ?_ | refine dr_nil ?_ | (first | refine t_norm ?_ | refine t_exit ?_ | refine t_ret ?_ | refine b_norm ?_ | refine b_exit ?_ | refine b_exit_ne rfl ?_ | refine b_ret ?_)) | ((first | ((first | apply ar_q | apply dr_q); exact qOp1) | ((first | apply ar_gu | apply dr_gu); exact rfl) | ((first | apply ar_gn | apply dr_gn); exact rfl; exact bdOk) | ((first | apply ar_qt | apply dr_qt); (focus (apply qt_call; kernel_rfl; exact (law_rBig l hl true (decide_eq_true hb)); exact rfl)))); (first | refine ar_nrm (k := ?_) | refine dr_nrm (k := ?_))) | ((first | apply ar_gy | apply dr_gy); exact rfl; exact bdOk) | (first | (apply awp_cond_t; exact rfl; exact bdOk) | (apply awp_cond_f; exact rfl; exact bdOk)) | fail))
  refine ⟨.inr rfl, aend_mk [] rfl (by simp) (by first | (simp; done) | (simp; omega)) (ares_tmp2 _ rfl ?_ ares_nil) rfl rfl⟩
  exact rfl
theorem fnFleets_walk (v : Value) (l : List Int) (hok : ∀ x ∈ l, (Lit.int .u8 x).wf = true) (hl : l.length ≤ 9223372036854775807) (w : World) (hr : ∀ B, RepC Tryz.prog (E0 B []) w (.sl 5 .ro (bts l)) v) (hT : T7 w) : Calls Tryz.prog 3 #[v] w fun e w' => e = .returned (.bool true) ∧ Below w.heap.size w w' := by
  by_cases hb : 65536 < l.length
  · exact (law_Fleets_big l hl hb).calls hT rfl ⟨hr _, trivial⟩
  · exact (law_Fleets l ⟨by omega, fun x hx => by have := hok x hx; simp [Lit.wf] at this; exact this⟩).calls hT rfl ⟨hr _, trivial⟩
end Go.Proofs.YtdlebdgdcpemmaaGreatDoor
