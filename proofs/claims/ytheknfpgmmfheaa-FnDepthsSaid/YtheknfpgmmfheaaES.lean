/- The abstract machine: function values without captured variables are called; lent rows and functions without results. -/
import Derived.Test.YtheknfpgmmfheaaEF
namespace Go.Proofs.Ytheknfpgmmfheaa
open Go.RowKit
set_option linter.unusedVariables false
section
variable {P : Program} {σ : AS} {w0 : World} {m0 : Gv} {ρ : Env} {a : Act} {w : World}
theorem qt_callP {f : FuncId} {y : Operand} {xs : List Operand} {ts : Array TypeId} {r : AV} {v : Value} (hf : callB P f = true) (hy : σ.ev y = .c (.p (.func (.func f) #[] #[])))
    (hc : ACalls P f (xs.map fun x => (σ.ev x).ro) [] r [] 0) (hv : plainV r = some v) :
    Qt P (.call { callee := .value y, args := xs.toArray, argTypes := ts }) σ r := fun w0 m0 ρ a w d ty pos af gd h => by
  refine ⟨v, (plainV_rep hv).2 rfl, fun W hW => ?_⟩
  have hW' := h.world hW
  have he := h.evp hy
  have hrun : (execOp a.eval ⟨d, .call { callee := .value y, args := xs.toArray, argTypes := ts }, ty, pos, af, gd⟩).run P W = .ok (.enter f (xs.toArray.map a.eval)) W := by
    simp [execOp, resolve, he, Deferred.ofValue, invoke, run_enter hf]
  unfold Oper.quietAt
  rw [hrun]
  have := hc [] W (xs.toArray.map a.eval) List.nodup_nil (by simp) rfl (by simp) (by simpa using RepVs.of hW' xs)
  refine ⟨rfl, this.mono ?_⟩
  rintro e w' ⟨u, om, ov, rfl, _, _, _, h1, _, _, hfr⟩
  rw [plainV_rep hv] at h1
  subst h1
  exact ⟨rfl, hW.trans (hfr.below.mono hW.size)⟩
/-- Lent rows, no result. -/
theorem alent_of0 {f : FuncId} {fn : Func} {c : Code} {rows : List (TypeId × List (List Value))} {args : List AV} {rows' : List (List (List Value))} (hf : P.funcs[f]? = some fn) (hb : fn.body = some c)
    (h : ∀ w0 l g, l.length = rows.length → AWp P w0 ⟨0, [], l, g⟩ c (fun e σ => (e = .normal ∨ e = .ret) ∧ ARes P σ fn.results.toList [] ∧ ∀ (j : Nat) e xs, rows[j]? = some (e, xs) → ∃ (i : Nat) (xs' : List (List Value)), rows'[j]? = some xs' ∧ σ.tm[i]? = some (.c (.sl e (.own j) xs'))) ⟨args ++ List.replicate (fn.ntmps - args.length) .top, [], rows.length⟩) :
    ALent P f rows args (.tuple #[]) rows' := by
  intro om ov w vs hnd hlen hlt hargs
  have hal := hargs.len
  have hvs : vs.size = args.length := by rw [hal]; simp
  refine calls_of_wp hf hb (wp_mono (h w om ov hlen ⟨0, [], om, ov⟩ _ w ?_) ?_)
  · refine ⟨rfl, Nat.zero_le _, .refl _ _, ⟨[], rfl, by simp⟩, by simp, by simp, fun g hg => ⟨.inl hg, hlt g hg, by simp⟩, hnd, fun j g hg => ⟨hg, rfl⟩, hlen, rfl, by simp, by simp [hvs], fun i y hy => ?_, rfl⟩
    show RepV P _ w y ((vs ++ Array.replicate (fn.ntmps - vs.size) undef).getD i undef)
    by_cases hi : i < args.length
    · rw [List.getElem?_append_left hi] at hy
      obtain ⟨u, h1, h2⟩ := hargs.get hy
      rw [Array.getD_eq_getD_getElem?, Array.getElem?_append_left (by omega), ← Array.getElem?_toList, h1]
      exact h2
    · rw [List.getElem?_append_right (by omega)] at hy
      have := List.mem_of_getElem? hy
      rw [(List.mem_replicate.1 this).2]
      exact RepV.top
  · rintro e a w' ⟨ρ, σ, ⟨he, hres, hrows⟩, r⟩
    obtain ⟨us, hrun, hws⟩ := hres w _ ρ a w' r
    have hval : (results fn a.tmps).run P w' = .ok (.tuple #[]) w' := by
      rw [results_eq]
      have hm : (fn.results.mapM (resV a.tmps)).run P w' = .ok us.toArray w' := by
        rw [Array.mapM_eq_mapM_toList]
        simp only [Sem.run_map, hrun]
        rfl
      simp only [Sem.run_bind, hm, Result.andThen_ok, Sem.run_pure]
      match us, hws with
      | [], hws => rfl
    have hpost : a.defers = [] ∧ ∃ u, (results fn a.tmps).run P w' = .ok u w' ∧ (Ending.returned u = .returned (.tuple #[]) ∧ (∀ (j : Nat) e xs u, rows[j]? = some (e, xs) → OwS P ⟨0, [], om, ov⟩ w e j xs u → ∃ xs', rows'[j]? = some xs' ∧ xs'.length ≤ 9223372036854775807 ∧ OwS P ⟨0, [], om, ov⟩ w' e j xs' u) ∧ Framed om w w') := by
      refine ⟨r.df, _, hval, rfl, fun j e xs u hj how => ?_, by simpa using r.fr⟩
      obtain ⟨i, xs', h1, h2⟩ := hrows j e xs hj
      have h3 := r.tm i _ h2
      have h3 : RepC P ρ w' (.sl e (.own j) xs') (a.tmps.getD i undef) := h3
      refine ⟨xs', h1, h3.1, ?_⟩
      obtain ⟨q1, g, q2, q3, q4, q5⟩ := h3.2
      obtain ⟨p1, g2, p2, p3, p4, p5⟩ := how
      have hlp := r.lp j g2 p2
      obtain rfl : g = g2 := by rw [q2] at hlp; simpa using hlp.1
      have hu : a.tmps.getD i undef = u := by rw [q3, p3]; exact hlp.2
      rw [hu] at q4 q5
      refine ⟨q1, g, p2, p3, p4, q5.1, ?_⟩
      rcases q5.2 with hn | ⟨g6, cap, cur, e1, b1, r1⟩
      · exact .inl hn
      · exact .inr ⟨g6, cap, cur, e1, Nat.zero_le _, r1⟩
    rcases he with rfl | rfl
    · exact hpost
    · exact hpost
end
end Go.Proofs.Ytheknfpgmmfheaa
