/- The abstract machine: contracts that lean on what old memory holds (tables, laid variables). -/
import Derived.Test.YtdlebdgdcpemmaaGreatDoorEM
namespace Go.Proofs.YtdlebdgdcpemmaaGreatDoor
open Go.RowKit
set_option linter.unusedVariables false
set_option linter.unusedSimpArgs false
section
variable {P : Program} {σ : AS} {w0 : World} {m0 : Gv} {ρ : Env} {a : Act} {w : World}
variable {ops : Array Oper} {Q : Exit → AS → Prop} {rest : List Oper} {d : Option Tmp} {ty : TypeId} {pos : String} {af : Array Edge}
/-- A contract under a condition on the world. -/
def ACallsT (P : Program) (T : World → Prop) (f : FuncId) (args : List AV) (hp : List (List AC)) (r : AV) (hp' : List (List AC)) (k : Nat) : Prop :=
  ∀ (m : List Nat) (w : World) (vs : Array Value), T w → m.Nodup → (∀ g ∈ m, g < w.heap.size) → m.length = hp.length → (∀ (b : Nat) cs, hp[b]? = some cs → ∃ g : Nat, m[b]? = some g ∧ HpAt P (E0 w.heap.size m) w cs g) →
    RepVs P (E0 w.heap.size m) w args vs.toList →
    Calls P f vs w (fun e w' => ∃ (u : Value) (om : List Nat) (ov : Nat → Value), e = .returned u ∧ om.Nodup ∧ om.length = k ∧ (∀ g ∈ om, w.heap.size ≤ g ∧ g < w'.heap.size) ∧ RepV P ⟨w.heap.size, m, om, ov⟩ w' r u ∧
      hp'.length = hp.length ∧ (∀ (b : Nat) cs, hp'[b]? = some cs → ∃ g : Nat, m[b]? = some g ∧ HpAt P (E0 w.heap.size m) w' cs g) ∧ Framed m w w')
/-- It stays so while old memory stays. -/
def KeptT (T : World → Prop) : Prop := ∀ w w', T w → Below w.heap.size w w' → T w'
theorem ACallsT.ofPlain {T : World → Prop} {f : FuncId} {args : List AV} {us : List Value} {r : AV} {v : Value} (ha : plainVs args = Option.some us) (hr : plainV r = Option.some v) (h : ∀ w, T w → Calls P f us.toArray w fun e w' => e = .returned v ∧ Below w.heap.size w w') : ACallsT P T f args [] r [] 0 := by
  intro m w vs hT hnd hlt hlen hhp hargs
  have hm : m = [] := List.eq_nil_of_length_eq_zero (by simpa using hlen)
  subst hm
  have e := plainVs_rep ha hargs
  have e2 : vs = us.toArray := by rw [← e]
  rw [e2]
  refine (h w hT).mono fun en w' ⟨h1, h2⟩ => ⟨v, [], fun _ => .tuple #[], h1, List.nodup_nil, rfl, by simp, (plainV_rep hr).2 rfl, rfl, by simp, .of_below h2⟩
theorem ACallsT.calls {T : World → Prop} {f : FuncId} {args : List AV} {v : Value} {r : AV} {vs : Array Value} (h : ACallsT P T f args [] r [] 0) (hT : T w) (hv : plainV r = some v) (hargs : RepVs P (E0 w.heap.size []) w args vs.toList) :
    Calls P f vs w fun e w' => e = .returned v ∧ Below w.heap.size w w' :=
  (h [] w vs hT List.nodup_nil (by simp) rfl (by simp) hargs).mono fun e w' ⟨u, om, ov, he, _, _, _, h1, _, _, hfr⟩ => by
    rw [plainV_rep hv] at h1
    subst h1
    exact ⟨he, hfr.below⟩
theorem ar_ct {T : World → Prop} {f : FuncId} {xs : List Operand} {ts : Array TypeId} {r : AV} {v : Value} (hT : T w0) (hk : KeptT T) (hm : m0.m = []) (hl : m0.l = []) (hf : callB P f = true) (hc : ACallsT P T f (xs.map fun x => (σ.ev x).ro) [] r [] 0) (hv : plainV r = some v)
    (h : AR P w0 m0 ops Q rest (σ.put d r)) : AR P w0 m0 ops Q (⟨d, .call { callee := .value (.func f), args := xs.toArray, argTypes := ts }, ty, pos, af, none⟩ :: rest) σ := fun ρ a w rr => by
  have hbel : Below w0.heap.size w0 w := by
    have := rr.fr
    rw [hm, hl] at this
    exact Framed.below this
  obtain ⟨u, h1, h2⟩ : ∃ u, RepV P ρ w r u ∧ ∀ W, Below w.heap.size w W → Oper.quietAt P ⟨d, .call { callee := .value (.func f), args := xs.toArray, argTypes := ts }, ty, pos, af, none⟩ a (fun W => Below w.heap.size w W) W u := by
    refine ⟨v, (plainV_rep hv).2 rfl, fun W hW => ?_⟩
    unfold Oper.quietAt
    rw [run_call hf]
    have hW' := rr.world hW
    have := hc [] W (xs.toArray.map a.eval) (hk w0 W hT (hbel.trans (hW.mono hbel.size))) List.nodup_nil (by simp) rfl (by simp) (by simpa using RepVs.of hW' xs)
    refine ⟨rfl, this.mono ?_⟩
    rintro e w' ⟨u, om, ov, rfl, _, _, _, h1, _, _, hfr⟩
    rw [plainV_rep hv] at h1
    subst h1
    exact ⟨rfl, hW.trans (hfr.below.mono hW.size)⟩
  exact wpList_plain rfl fun K hK => Oper.wp_of_quiet (C := fun W => Below w.heap.size w W) (K := fun a' => a' = a.put d u) (Below.refl _ _)
    (fun a' w' hw' ha' => by subst ha'; exact hK _ _ (h ρ _ w' ((rr.put d h1).world hw'))) ⟨u, h2, rfl⟩
theorem acallsT_of {T : World → Prop} {f : FuncId} {fn : Func} {c : Code} {args : List AV} {hp hp' : List (List AC)} {ws : List AW} {k : Nat} (hf : P.funcs[f]? = some fn) (hb : fn.body = some c) (ho : ws.all AW.out = true) (hi : ws.all (AW.ids k) = true) (hback : hp'.all (fun cs => cs.all AC.back) = true)
    (h : ∀ w0 B m, T w0 → m.length = hp.length → AWp P w0 ⟨B, m, [], fun _ => .tuple #[]⟩ c (fun e σ => (e = .normal ∨ e = .ret) ∧ AEnd P hp.length fn ws hp' k σ) ⟨args ++ List.replicate (fn.ntmps - args.length) .top, hp, 0⟩) : ACallsT P T f args hp (one ws) hp' k := by
  intro m w vs hT hnd hlt hlen hhp hargs
  have hal := hargs.len
  have hvs : vs.size = args.length := by rw [hal]; simp
  refine calls_of_wp hf hb (wp_mono (h w w.heap.size m hT hlen (E0 w.heap.size m) _ w ?_) ?_)
  · refine ⟨rfl, Nat.le_refl _, .refl _ _, ⟨[], by simp [E0], by simp⟩, hlt, hnd, by simp [E0], by simp [E0], by simp, rfl, hlen.symm, hhp, by simp [hvs], fun i x hx => ?_, rfl⟩
    show RepV P _ w x ((vs ++ Array.replicate (fn.ntmps - vs.size) undef).getD i undef)
    by_cases hi : i < args.length
    · rw [List.getElem?_append_left hi] at hx
      obtain ⟨v, h1, h2⟩ := hargs.get hx
      rw [Array.getD_eq_getD_getElem?, Array.getElem?_append_left (by omega), ← Array.getElem?_toList, h1]
      exact h2
    · rw [List.getElem?_append_right (by omega)] at hx
      have := List.mem_of_getElem? hx
      rw [(List.mem_replicate.1 this).2]
      exact RepV.top
  · rintro e a w' ⟨ρ, σ, ⟨he, ⟨ids, h1, h2, h3, hres⟩, ⟨h4, h5⟩⟩, r⟩
    obtain ⟨us, hrun, hws⟩ := hres w _ ρ a w' r
    have hren : Ren ids m ρ := ⟨fun g hg => by obtain ⟨l, e1, _⟩ := r.pre; rw [e1]; exact List.mem_append_left _ hg, fun i hi => by rw [r.nx]; exact h3 i hi⟩
    have hws' := hws.ren hren ho (by rw [h1]; exact hi)
    have hul := hws'.len
    have hbase : ρ.B = w.heap.size := r.B
    -- the value
    have hval : ∃ u, (results fn a.tmps).run P w' = .ok u w' ∧ RepV P ⟨ρ.B, m, ids.map fun i => ρ.om.getD i 0, ρ.ov⟩ w' (one ws) u := by
      rw [results_eq]
      have hm : (fn.results.mapM (resV a.tmps)).run P w' = .ok us.toArray w' := by
        rw [Array.mapM_eq_mapM_toList]
        simp only [Sem.run_map, hrun]
        rfl
      simp only [Sem.run_bind, hm, Result.andThen_ok, Sem.run_pure]
      have hul' : us.length = ws.length := hul.symm
      match ws, us, hws', hul' with
      | [x], [u], hws', _ => exact ⟨u, rfl, by cases x <;> exact hws'.1⟩
      | [], [], _, _ => exact ⟨_, rfl, _, rfl, trivial⟩
      | x :: y :: ws, u :: v :: us, hws', _ =>
        refine ⟨.tuple (u :: v :: us).toArray, ?_, _, rfl, hws'⟩
        simp
    obtain ⟨u, hu1, hu2⟩ := hval
    have hpost : a.defers = [] ∧ ∃ v, (results fn a.tmps).run P w' = .ok v w' ∧ (∃ (u : Value) (om : List Nat) (ov : Nat → Value), Ending.returned v = .returned u ∧ om.Nodup ∧ om.length = k ∧ (∀ g ∈ om, w.heap.size ≤ g ∧ g < w'.heap.size) ∧ RepV P ⟨w.heap.size, m, om, ov⟩ w' (one ws) u ∧
        hp'.length = hp.length ∧ (∀ (b : Nat) cs, hp'[b]? = some cs → ∃ g : Nat, m[b]? = some g ∧ HpAt P (E0 w.heap.size m) w' cs g) ∧ Framed m w w') := by
      have hfrm : Framed m w w' := by have := r.fr; simpa using this
      refine ⟨r.df, u, hu1, u, ids.map fun i => ρ.om.getD i 0, ρ.ov, rfl, ?_, by simp [h1], fun g hg => ?_, by rw [← hbase]; exact hu2, h5, fun b cs hc => ?_, hfrm⟩
      · refine List.pairwise_map.2 (List.Pairwise.imp_of_mem (fun {i j} hi hj hij e => ?_) h2)
        have l1 := hren.lt i hi
        have l2 := hren.lt j hj
        rw [List.getD_eq_getElem?_getD, List.getD_eq_getElem?_getD, List.getElem?_eq_getElem l1, List.getElem?_eq_getElem l2] at e
        have hp := List.pairwise_iff_getElem.1 r.no
        rcases Nat.lt_or_gt_of_ne hij with hlt | hlt
        · exact hp _ _ l1 l2 hlt e
        · exact hp _ _ l2 l1 hlt e.symm
      · obtain ⟨i, hi, rfl⟩ := List.mem_map.1 hg
        have hlt := hren.lt i hi
        rw [List.getD_eq_getElem?_getD, List.getElem?_eq_getElem hlt]
        have := r.ob _ (List.getElem_mem hlt)
        exact ⟨this.1.resolve_left (by simp), this.2.1⟩
      · have hbl : b < hp.length := by rw [← h5]; exact (List.getElem?_eq_some_iff.1 hc).1
        have hc' := hc
        rw [← h4, List.getElem?_take, if_pos hbl] at hc
        obtain ⟨g, hg, vs', t', e1, e2⟩ := r.hp b cs hc
        obtain ⟨l, e3, _⟩ := r.pre
        rw [e3, List.getElem?_append_left (by show b < m.length; omega)] at hg
        exact ⟨g, hg, vs', t', e1, e2.back hren.m (List.all_eq_true.1 hback cs (List.mem_of_getElem? hc'))⟩
    rcases he with rfl | rfl
    · exact hpost
    · exact hpost

end
end Go.Proofs.YtdlebdgdcpemmaaGreatDoor
