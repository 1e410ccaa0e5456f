/- FnExactParseVessel: for every input the law returns true, and each argument reads behind the call as it read before. No condition. -/
import Derived.Test.YtjomahmkennljaaDoorHn
import Derived.Handed
import Derived.Shelf.Vars
import Derived.Test.YtjomahmkennljaaDoorGr
import Derived.Test.YtjomahmkennljaaDoorGs
import Derived.Test.YtjomahmkennljaaDoorTy
import Derived.Test.YtjomahmkennljaaDoorCards
import Derived.Test.YtjomahmkennljaaDoorTie
import Derived.SevenTiedAt
import Derived.LaidMore
import Derived.MakeChecks
import Derived.Stop.Joined
import Derived.Lay
import Derived.ChangeVars
namespace Go.Proofs.YtjomahmkennljaaDoor
open Go.RowKit Go.ChangeShapes Go.WideShapes Go.ChangeAt
theorem mx_of_shape {W : World} (h : W.ShapedOpen Tryd.prog) : MX W :=
  Go.Proofs.cell_of_shapedOpen_int (zero := #[.int .i64 0]) (t := 3) h (of_decide_eq_true (by kernel_rfl)) (by kernel_rfl) rfl (by kernel_rfl) (by kernel_rfl) Tryd.underlying3
theorem t6_of_laid {W : World} {n0 n1 n3 : String} {d0 d1 d3 : DataW Unit} {r : List (String × DataW Unit)} (h : laidMet Tryd.prog ((n0, d0) :: (n1, d1) :: ("internal/strconv.uint64pow10", Rows.laid_internal_strconv_uint64pow10) :: (n3, d3) :: ("strconv.ErrRange", Rows.laid_strconv_ErrRange) :: ("strconv.ErrSyntax", Rows.laid_strconv_ErrSyntax) :: r) W) (hs : W.ShapedOpen Tryd.prog) : T6 W :=
  ⟨⟨tab_of_laid3 h, sent_of_laid (g := 4) (by kernel_rfl) (by kernel_rfl) h.tail.tail.tail.tail.tail, sent_of_laid (g := 5) (by kernel_rfl) (by kernel_rfl) h.tail.tail.tail.tail⟩, mx_of_shape hs⟩
/-- A row's form out of the calls, where the world's shape is handed on. -/
theorem handed_shaped {H : Type} {enc : TypeId × Value → H} {a : Assume} {C : Checked} {os : Os} {f : FuncId} {fn : Func} {s : ChangeSpec} {conds : List PathCond} {apart fresh handsOn again : Bool} {X : World → Array Value → Prop}
    (hX : ∀ (w w' : World) (args : Array Value), w.heap = w'.heap → X w args → X w' args)
    (own : ownKnob C.prog.godebug = none) (started : os.Started) (noInit : C.prog.inits.idxOf? f = none) (hfn : C.prog.funcs[f]? = some fn)
    (witness : ∃ (w : World) (tape : Tape) (i : Input), w.os = os ∧ (w.forCall tape i).Shaped C.prog ∧ i.vars = [] ∧ Input.okWide C.prog (w.forCall tape i) .any w.heap.size f i ∧
      ((s.pre enc C.prog fn conds apart (w.forCall tape i).memory i.args ∧ X (w.forCall tape i).memory i.args) ∧ sizedMet enc C.prog fn (OpenSpec.ofChange s) apart (w.forCall tape i).memory i.args) ∧ a.holds C.prog (lone (Frame.enter C.prog f i.args .normal) [] (w.forCall tape i)))
    (contract : ∀ (W : World) (base : Nat) (args : Array Value) (ds gs : List (DataW H)) (before : List MemPlace),
      (∀ (j : Nat) t v, fn.params[j]? = some t → args[j]? = some v → Value.okWide C.prog W .any base t v) →
      DataW.Whole enc C.prog fn.params.toList s.vars apart W args.toList ds gs before → X W args → W.ShapedOpen C.prog →
      Calls C.prog f args W fun e W' => ∃ v, e = .returned v ∧ s.post enc C.prog fn apart fresh handsOn again W args v W') :
    ReturnsInHanded a C os f .any (fun w args => (s.pre enc C.prog fn conds apart w args ∧ X w args) ∧ sizedMet enc C.prog fn (OpenSpec.ofChange s) apart w args) (s.post enc C.prog fn apart fresh handsOn again) := by
  refine returnsInHanded_of_calls own started noInit witness ?_
  intro w tape i _ hsh _ hok hpre _
  obtain ⟨_, _, _, fn', hfn', _, _, _, _, hval⟩ := hok
  obtain rfl : fn' = fn := Option.some.inj (hfn'.symm.trans hfn)
  obtain ⟨⟨⟨ds, gs, before, hw, _⟩, hx⟩, _⟩ := hpre
  refine (contract (w.forCall tape i) w.heap.size i.args ds gs before hval (DataW.Whole.of_heap (w' := w.forCall tape i) (by rfl) hw) (hX _ _ _ (by rfl) hx) hsh).mono fun e W' ⟨v, he, hp⟩ => ?_
  subst he
  exact ChangeSpec.post_blind hp
end Go.Proofs.YtjomahmkennljaaDoor
namespace Go.Proofs.YtjomahmkennljaaDoor
open Go.RowKit
set_option linter.unusedVariables false
set_option linter.unusedSimpArgs false
attribute [local irreducible] AR DR AWp QOp Qt ACalls ARes Exit.thenA Exit.inBlockA
theorem law_eqVessel (x : Vessel_) : ACalls Tryd.prog 6 [.agg [.p (.int .i64 (x).id), .p (.string (x).nm), .p (.int .i64 (x).ln), .p (.int .i64 (x).wd), .p (.int .i64 (x).dr), .p (.int .i64 (x).kd)], .agg [.p (.int .i64 (x).id), .p (.string (x).nm), .p (.int .i64 (x).ln), .p (.int .i64 (x).wd), .p (.int .i64 (x).dr), .p (.int .i64 (x).kd)]] [] (.c (.p (.bool (true)))) [] 0 := by
  have hc : (!(x.nm.toList == x.nm.toList)) = false := by simp
  refine acalls_of (ws := [.c (.p (.bool (true)))]) Tryd.func6 rfl rfl rfl rfl fun w0 B m hm0 => ?_; (refine awp_norm (τ := ?_) ?_ ?_; rotate_left; (focus (simp only [AV.top, Tryd.ntmps6, List.length_cons, List.length_nil, Nat.reduceAdd, Nat.reduceSub, List.replicate_succ, List.replicate_zero, List.cons_append, List.nil_append]; exact rfl)))
  (repeat' (first | (first | refine awp_seq ?_ | refine awp_region ?_ | refine awp_block ?_ | refine awp_exit ?_ | refine awp_ret ?_ | refine awp_skip ?_ | refine ar_nil ?_ | refine dr_nil ?_ | (refine awp_region_draw ?_ ?_ ?_; kernel_rfl; kernel_rfl) | (first | refine t_norm ?_ | refine t_exit ?_ | refine t_ret ?_ | refine b_norm ?_ | refine b_exit ?_ | refine b_exit_ne rfl ?_ | refine b_ret ?_)) | ((first | ((first | apply ar_q | apply dr_q); exact qOp1) | ((first | apply ar_gu | apply dr_gu); exact rfl) | ((first | apply ar_gn | apply dr_gn); exact rfl; exact bdOk) | (first | (apply ar_box; exact rfl) | (apply ar_store; exact rfl; exact rfl; exact rfl; (focus (first | decide | (simp; done) | exact Nat.le_refl _)); kernel_rfl; exact rfl))); (first | refine ar_nrm (k := ?_) | refine dr_nrm (k := ?_))) | ((first | apply ar_gy | apply dr_gy); exact rfl; exact bdOk) | (first | (apply awp_cond_t; exact rfl; exact bdOk) | (apply awp_cond_f; exact rfl; exact bdOk)) | ((first | apply ar_gs | apply dr_gs | apply awp_cond); (focus (exact rfl)); (all_goals (intro hc; (try simp only [decide_eq_true_eq, decide_eq_false_iff_not, Bool.not_eq_true', Bool.not_eq_false', Bool.not_true, Bool.not_false, bne_iff_ne, bne_eq_false_iff_eq, beq_iff_eq, beq_eq_false_iff_ne, ne_eq, Bool.cond_true_left, Bool.cond_false_right, Bool.or_eq_true, Bool.and_eq_true] at hc)))) | fail))
  all_goals first | (exfalso; simp_all; done) | (exfalso; omega) | (refine ⟨.inr rfl, aend_mk [] rfl (by simp) (by first | (simp; done) | (simp; omega)) (ares_tmp2 _ rfl ?_ ares_nil) rfl rfl⟩; exact rfl)
theorem law_ParseVessel (s : ByteArray) (hs : s.size ≤ 9223372036854775807) : ACallsT Tryd.prog T7 3 [.c (.p (.string (s)))] [] (.c (.p (.bool (true)))) [] 0 := by
  by_cases hb : 1048576 < s.size
  · refine acallsT_of (ws := [.c (.p (.bool (true)))]) Tryd.func3 rfl rfl rfl rfl fun w0 B m hT hm0 => ?_; (obtain rfl : m = [] := List.eq_nil_of_length_eq_zero hm0); (refine awp_norm (τ := ?_) ?_ ?_; rotate_left; (focus (simp only [AV.top, Tryd.ntmps3, List.length_cons, List.length_nil, Nat.reduceAdd, Nat.reduceSub, List.replicate_succ, List.replicate_zero, List.cons_append, List.nil_append]; exact rfl)))
    (repeat' (first | (first | refine awp_seq ?_ | refine awp_region ?_ | refine awp_block ?_ | refine awp_exit ?_ | refine awp_ret ?_ | refine awp_skip ?_ | refine ar_nil ?_ | refine dr_nil ?_ | (first | refine t_norm ?_ | refine t_exit ?_ | refine t_ret ?_ | refine b_norm ?_ | refine b_exit ?_ | refine b_exit_ne rfl ?_ | refine b_ret ?_)) | ((first | ((first | apply ar_q | apply dr_q); exact qOp1) | ((first | apply ar_gu | apply dr_gu); exact rfl) | ((first | apply ar_gn | apply dr_gn); exact rfl; exact bdOk) | (first | (apply ar_box; exact rfl) | (apply ar_store; exact rfl; exact rfl; exact rfl; (focus (first | decide | (simp; done) | exact Nat.le_refl _)); kernel_rfl; exact rfl))); (first | refine ar_nrm (k := ?_) | refine dr_nrm (k := ?_))) | ((first | apply ar_gy | apply dr_gy); exact rfl; exact bdOk) | (first | (apply awp_cond_t; exact rfl; exact bdOk) | (apply awp_cond_f; exact rfl; exact bdOk)) | fail))
    refine ⟨.inr rfl, aend_mk [] rfl (by simp) (by first | (simp; done) | (simp; omega)) (ares_tmp2 _ rfl ?_ ares_nil) rfl rfl⟩
    exact rfl
  · have hs' : s.size ≤ 1048576 := by omega
    cases hp : parseVI s with
    | none =>
      have c1 := spec_ParseV s hs' none (by rw [parseV_eq, hp])
      have c2 := impl_ParseV s hs' none hp
      dsimp only [wsV] at c1 c2
      refine acallsT_of (ws := [.c (.p (.bool (true)))]) Tryd.func3 rfl rfl rfl rfl fun w0 B m hT hm0 => ?_; (obtain rfl : m = [] := List.eq_nil_of_length_eq_zero hm0); (refine awp_norm (τ := ?_) ?_ ?_; rotate_left; (focus (simp only [AV.top, Tryd.ntmps3, List.length_cons, List.length_nil, Nat.reduceAdd, Nat.reduceSub, List.replicate_succ, List.replicate_zero, List.cons_append, List.nil_append]; exact rfl)))
      (repeat' (first | (first | refine awp_seq ?_ | refine awp_region ?_ | refine awp_block ?_ | refine awp_exit ?_ | refine awp_ret ?_ | refine awp_skip ?_ | refine ar_nil ?_ | refine dr_nil ?_ | (first | refine t_norm ?_ | refine t_exit ?_ | refine t_ret ?_ | refine b_norm ?_ | refine b_exit ?_ | refine b_exit_ne rfl ?_ | refine b_ret ?_)) | ((first | ((first | apply ar_q | apply dr_q); exact qOp1) | ((first | apply ar_gu | apply dr_gu); exact rfl) | ((first | apply ar_gn | apply dr_gn); exact rfl; exact bdOk) | (first | (apply ar_box; exact rfl) | (apply ar_store; exact rfl; exact rfl; exact rfl; (focus (first | decide | (simp; done) | exact Nat.le_refl _)); kernel_rfl; exact rfl)) | (apply ar_alloc (ys := ([.int .i64 0, .string ByteArray.empty, .int .i64 0, .int .i64 0, .int .i64 0, .int .i64 0] : List Value)); kernel_rfl) | ((first | apply ar_qt | apply dr_qt); (focus (apply qt_call; kernel_rfl; exact (c1); exact rfl))) | ((first | (apply ar_ct hT keptT7 rfl rfl) | (apply dr_ct hT keptT7 rfl rfl)); kernel_rfl; exact (c2); exact rfl) | ((first | apply ar_qt | apply dr_qt); (focus (apply qt_call; kernel_rfl; exact (law_eqVessel Vessel_.zero); exact rfl)))); (first | refine ar_nrm (k := ?_) | refine dr_nrm (k := ?_))) | ((first | apply ar_gy | apply dr_gy); exact rfl; exact bdOk) | (first | (apply awp_cond_t; exact rfl; exact bdOk) | (apply awp_cond_f; exact rfl; exact bdOk)) | fail))
      refine ⟨.inr rfl, aend_mk [] rfl (by simp) (by first | (simp; done) | (simp; omega)) (ares_tmp2 _ rfl ?_ ares_nil) rfl rfl⟩
      exact rfl
    | some x =>
      have c1 := spec_ParseV s hs' (some x) (by rw [parseV_eq, hp])
      have c2 := impl_ParseV s hs' (some x) hp
      dsimp only [wsV] at c1 c2
      refine acallsT_of (ws := [.c (.p (.bool (true)))]) Tryd.func3 rfl rfl rfl rfl fun w0 B m hT hm0 => ?_; (obtain rfl : m = [] := List.eq_nil_of_length_eq_zero hm0); (refine awp_norm (τ := ?_) ?_ ?_; rotate_left; (focus (simp only [AV.top, Tryd.ntmps3, List.length_cons, List.length_nil, Nat.reduceAdd, Nat.reduceSub, List.replicate_succ, List.replicate_zero, List.cons_append, List.nil_append]; exact rfl)))
      (repeat' (first | (first | refine awp_seq ?_ | refine awp_region ?_ | refine awp_block ?_ | refine awp_exit ?_ | refine awp_ret ?_ | refine awp_skip ?_ | refine ar_nil ?_ | refine dr_nil ?_ | (first | refine t_norm ?_ | refine t_exit ?_ | refine t_ret ?_ | refine b_norm ?_ | refine b_exit ?_ | refine b_exit_ne rfl ?_ | refine b_ret ?_)) | ((first | ((first | apply ar_q | apply dr_q); exact qOp1) | ((first | apply ar_gu | apply dr_gu); exact rfl) | ((first | apply ar_gn | apply dr_gn); exact rfl; exact bdOk) | (first | (apply ar_box; exact rfl) | (apply ar_store; exact rfl; exact rfl; exact rfl; (focus (first | decide | (simp; done) | exact Nat.le_refl _)); kernel_rfl; exact rfl)) | (apply ar_alloc (ys := ([.int .i64 0, .string ByteArray.empty, .int .i64 0, .int .i64 0, .int .i64 0, .int .i64 0] : List Value)); kernel_rfl) | ((first | apply ar_qt | apply dr_qt); (focus (apply qt_call; kernel_rfl; exact (c1); exact rfl))) | ((first | (apply ar_ct hT keptT7 rfl rfl) | (apply dr_ct hT keptT7 rfl rfl)); kernel_rfl; exact (c2); exact rfl) | ((first | apply ar_qt | apply dr_qt); (focus (apply qt_call; kernel_rfl; exact (law_eqVessel x); exact rfl)))); (first | refine ar_nrm (k := ?_) | refine dr_nrm (k := ?_))) | ((first | apply ar_gy | apply dr_gy); exact rfl; exact bdOk) | (first | (apply awp_cond_t; exact rfl; exact bdOk) | (apply awp_cond_f; exact rfl; exact bdOk)) | fail))
      refine ⟨.inr rfl, aend_mk [] rfl (by simp) (by first | (simp; done) | (simp; omega)) (ares_tmp2 _ rfl ?_ ares_nil) rfl rfl⟩
      exact rfl
theorem fnExactParseVessel_walk (s : ByteArray) (hs : s.size ≤ maxLen) (w : World) (hT : T7 w) : Calls Tryd.prog 3 #[.string s] w fun e w' => e = .returned (.bool true) ∧ Below w.heap.size w w' := by
  unfold maxLen at hs
  exact (law_ParseVessel s (by omega)).calls hT rfl ⟨rfl, trivial⟩
end Go.Proofs.YtjomahmkennljaaDoor
namespace Go.Proofs.YtjomahmkennljaaDoor.fnExactParseVessel
open Go.ChangeShapes Go.WideShapes Go.ChangeAt Go.RowKit Go.Deep
open Go.ChangeMaps (open_string shut_string)
set_option linter.unusedVariables false
theorem door_met (os : Os) (args : Array Value) : laidMetH Tryd.prog Rows.fnExactParseVesselRow.laid ((World.laidAll Tryd.prog os Rows.fnExactParseVesselRow.laid).forCall (fun _ _ => 0) ⟨#[], args, []⟩).memory := by
  rw [MakeChecks.laidMetH_plain _ _ _ (by kernel_rfl)]
  exact laidMet_laidAll _ (by kernel_rfl) (by kernel_rfl)
theorem tab_of_laid {W : World} (h : laidMetH Tryd.prog Rows.fnExactParseVesselRow.laid W) (hs : W.ShapedOpen Tryd.prog) : T7 W := by
  rw [MakeChecks.laidMetH_plain _ _ _ (by kernel_rfl)] at h
  exact ⟨t6_of_laid h hs, kw_of_laid h.tail.tail.tail.tail.tail.tail⟩
set_option maxRecDepth 100000 in
theorem lifted (os : Os) (started : os.Started) (H : Type) (enc : TypeId × Value → H) :
    ReturnsInHanded {} Tryd.checked os 3 .any (fun w args => (Rows.fnExactParseVesselSpec.pre enc Tryd.prog Tryd.f3 [] false w args ∧ laidMetH Tryd.prog Rows.fnExactParseVesselRow.laid w) ∧ sizedMet enc Tryd.prog Tryd.f3 (OpenSpec.ofChange Rows.fnExactParseVesselSpec) false w args) (Rows.fnExactParseVesselSpec.post enc Tryd.prog Tryd.f3 false true false false) := by
  refine handed_shaped (C := Tryd.checked) (X := fun w _ => laidMetH Tryd.prog Rows.fnExactParseVesselRow.laid w) (fun _ _ _ hh h => h.of_heap hh) own started (by kernel_rfl) Tryd.func3
    (ChangeSpec.witness_shaped (enc := enc) (C := Tryd.checked) (os := os) (X := fun w _ => laidMetH Tryd.prog Rows.fnExactParseVesselRow.laid w) false (World.laidAll Tryd.prog os Rows.fnExactParseVesselRow.laid) #[.string ByteArray.empty] 8 (World.laidAll_os _ _ _) (World.shaped_of_ZipB (by kernel_rfl) (by kernel_rfl)) (by kernel_rfl) (by kernel_rfl) (by kernel_rfl) (door_met os _)) ?_
  intro W base args ds gs before hval0 hW hL hsh
  have hval : ∀ (j : Nat) t v, Tryd.f3.params[j]? = some t → args[j]? = some v → Value.okWide Tryd.prog W .any base t v := hval0
  have hW' := hW
  obtain ⟨p, q, hA0, hV, rfl, hfz, hnd⟩ := hW
  have hA : DataW.TrodAll enc Tryd.prog W 0 (fun _ => true) true Tryd.f3.params.toList args.toList ds p := hA0
  rw [Tryd.params3] at hA hval
  obtain ⟨v0, vs0, d0, ds0, p0, q0, hargs, rfl, rfl, h0, r0⟩ := trodAll_cons hA
  obtain ⟨rfl, rfl, rfl⟩ := trodAll_nil r0
  obtain rfl : args = #[v0] := by cases args; simp_all
  obtain ⟨gK, tK, csK, fuelK, dK, pK, rfl, hgK, htK, hvarK, hdK, rfl⟩ := trodVars_one hV
  obtain rfl := Option.some.inj ((show Tryd.prog.globalNamed "loop.example/g00924/impl.kindWords" = some 0 by kernel_rfl).symm.trans hgK)
  obtain rfl := Option.some.inj ((show (Tryd.prog.globals[0]?).map (·.type) = some 42 by kernel_rfl).symm.trans htK)
  have hltK : ∀ x ∈ pK, x.block < W.heap.size := fun x hx => hW'.lt x (List.mem_append_right _ (List.mem_append_right _ hx))
  have h0K : 0 < W.heap.size := by
    apply Classical.byContradiction
    intro hn
    have : W.heap[0]? = none := Array.getElem?_eq_none (by omega)
    simp [World.var?, hgK, this] at hvarK
  have k0 := h0
  have lt0 : ∀ x ∈ p0, x.block < W.heap.size := by obtain ⟨m, hm⟩ := k0; exact DataW.trod_lt m _ _ _ hm
  obtain ⟨a0, rfl, _, _, w0⟩ := open_string Tryd.underlying9 (hval 0 9 v0 rfl rfl) h0
  clear hA0 hval0
  refine (fnExactParseVessel_walk a0 w0 W  (tab_of_laid hL hsh)).mono fun e W' ⟨he, bel⟩ => ?_
  subst he
  obtain ⟨fuel', hd'⟩ := Below.trod laidOut (by kernel_rfl) (of_decide_eq_true (by kernel_rfl)) (v := .agg csK) (⟨fuelK, hdK⟩ : DataW.Trod enc Tryd.prog W 0 (fun _ => true) true 42 (.agg csK) dK pK) bel hltK
  have hv' := trodVars_mk1 (enc := enc) (spare := fun b => decide (b < W.heap.size)) hgK htK (var?_below bel hgK h0K hvarK) hd'
  exact ⟨_, rfl, _, _, _, [], _, _, hW', trodAll_mk1 (shut_bool Tryd.underlying4 _), (trodAll_cons_mk (Below.trod laidOut (by kernel_rfl) (of_decide_eq_true (by kernel_rfl)) k0 bel lt0) trodAll_mk0), hv', bel.frame _, fun h => by cases h⟩

theorem over : Rows.fnExactParseVesselRow.holds Tryd.pinned (OpenSpec.ofChange Rows.fnExactParseVesselSpec) :=
  OpenClaim.holds_of_wide 3 Tryd.f3 rfl rfl rfl rfl rfl rfl rfl ⟨rfl, rfl, rfl, rfl, rfl⟩ rfl rfl rfl rfl rfl (by kernel_rfl) Tryd.func3 (by kernel_rfl)
    (of_decide_eq_true (by kernel_rfl)) (by unfold Func.isWrapper; first | (rw [if_pos (by decide +kernel)]; kernel_rfl) | (rw [if_neg (by decide +kernel)]; exact ⟨rfl, rfl⟩))
    (fun os started H enc _ => lifted os started H enc)

theorem proved : Rows.FnExactParseVesselCardSaid :=
  Claim7.holds_tied_plain_at .later [] [.data, .data, .data, .data, .sentinel, .sentinel, .widerDeep, .pinned] true Rows.fnExactParseVesselCard.stood.harness true
    over (fun _ h => by cases h) (by kernel_rfl) (fun _ h => by cases h) fnExactParseVessel_row_tie rfl ⟨rfl, rfl⟩ (by kernel_rfl) rfl
    (fun f fn hf hfn => by
      obtain rfl : f = 3 := Option.some.inj ((show Tryd.prog.funcNamed "loop.example/g00924/laws.FnExactParseVessel" = some 3 by kernel_rfl).symm.trans hf) |>.symm
      obtain rfl : fn = Tryd.f3 := (Option.some.inj (Tryd.func3.symm.trans hfn)).symm
      exact ⟨by kernel_rfl, fun j t ht => by
        have hm : t ∈ Tryd.f3.params.toList := by simpa using Array.mem_of_getElem? ht
        have hall : (Tryd.f3.params.toList.all fun u => !Tryd.prog.wantsStandIn u) = true := by kernel_rfl
        exact (show Tryd.prog.wantsStandIn t = false by simpa using List.all_eq_true.1 hall t hm)⟩)
    (by kernel_rfl)
end Go.Proofs.YtjomahmkennljaaDoor.fnExactParseVessel
