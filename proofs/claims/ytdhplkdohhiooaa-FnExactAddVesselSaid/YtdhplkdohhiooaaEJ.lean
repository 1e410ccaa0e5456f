/- The abstract machine: a call that hands back one of its arguments. -/
import Derived.Test.YtdhplkdohhiooaaEH
namespace Go.Proofs.Ytdhplkdohhiooaa
open Go.RowKit
set_option linter.unusedVariables false
set_option linter.unusedSimpArgs false
section
variable {P : Program} {σ : AS} {w0 : World} {m0 : Gv} {ρ : Env} {a : Act} {w : World}
variable {ops : Array Oper} {Q : Exit → AS → Prop} {rest : List Oper} {d : Option Tmp} {ty : TypeId} {pos : String} {af : Array Edge}
theorem q_len_v {t : TypeId} {x : Operand} {v : Value} {e : TypeId} {xs : List (List Value)} (ht : sliceB P t = true) (hx : σ.ev x = .c (.sv v e xs)) : QOp P (.call { callee := .builtin .len, args := #[x], argTypes := #[t] }) σ (.c (.p (.int .i64 xs.length))) :=
  fun _ _ ρ f w _ _ _ _ _ h => by
    have h1 := h.ev x
    rw [hx] at h1
    obtain ⟨h2, _, h3⟩ := h1
    obtain ⟨A, c, hv⟩ := h3.val
    obtain ⟨e', he⟩ := sliceB_spec ht
    exact ⟨_, rfl, fun W _ => by simp [execOp, resolve, invoke, builtin, hv, Builtin.len_, run_underlying he, goInt]⟩
/-- f hands back its slice argument, and v beside it. -/
theorem ar_same {f : FuncId} {xs : List Operand} {y : Operand} {ts : Array TypeId} {avs : List AV} {e : TypeId} {o : Ow} {ys : List (List Value)} {v : Value} (hf : callB P f = true) (hy : σ.ev y = .c (.sl e o ys)) (has : xs.map (fun x => (σ.ev x).ro) = avs)
    (hc : ∀ u, ACalls P f (avs ++ [.c (.sv u e ys)]) [] (.tup [.c (.sv u e ys), .c (.p v)]) [] 0)
    (h : AR P w0 m0 ops Q rest (σ.put d (.tup [.c (.sl e o ys), .c (.p v)]))) : AR P w0 m0 ops Q (⟨d, .call { callee := .value (.func f), args := (xs ++ [y]).toArray, argTypes := ts }, ty, pos, af, none⟩ :: rest) σ := by
  subst has
  refine ar_enter (.tup [.c (.sl e o ys), .c (.p v)]) σ (f := f) (fun ρ a w q => ?_) h
  refine ⟨_, run_call hf _ _ _ _ _ _ _ _ _, ?_⟩
  have h1 := q.ev y
  rw [hy] at h1
  have h1 : RepC P ρ w (.sl e o ys) (a.eval y) := h1
  have h2 : RepC P (E0 w.heap.size []) w (AC.sl e o ys).ro (a.eval y) := h1.ro q _ (by simp)
  have hargs : RepVs P (E0 w.heap.size []) w (xs.map (fun x => (σ.ev x).ro) ++ [.c (.sv (a.eval y) e ys)]) ((xs ++ [y]).toArray.map a.eval).toList := by
    have h3 := RepVs.of q xs
    have := RepVs.app (P := P) (w := w) (ρ := E0 w.heap.size []) h3 (ys := [.c (.sv (a.eval y) e ys)]) (vs := [a.eval y]) ⟨⟨rfl, h2.1, h2.2⟩, trivial⟩
    simpa using this
  refine (hc (a.eval y) [] w _ List.nodup_nil (by simp) rfl (by simp) hargs).mono ?_
  rintro en w' ⟨u, om, ov, rfl, _, _, _, h4, _, _, hfr⟩
  obtain ⟨vs, rfl, h5⟩ := h4
  match hl : vs.toList, h5 with
  | [v1, v2], ⟨h6, h7, _⟩ =>
    have e1 : v1 = a.eval y := h6.1
    have e2 : v2 = v := h7
    have hb := hfr.below
    refine ⟨.tuple vs, ρ, rfl, q.world hb, vs, rfl, ?_⟩
    rw [hl, e1, e2]
    exact ⟨h1.keep (q.stab hb), rfl, trivial⟩
end
end Go.Proofs.Ytdhplkdohhiooaa
