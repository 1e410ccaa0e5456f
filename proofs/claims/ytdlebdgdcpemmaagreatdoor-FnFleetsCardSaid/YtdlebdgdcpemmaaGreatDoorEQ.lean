/- The abstract machine: results that are one of many under a condition on the world; errors compared with nil. -/
import Derived.Test.YtdlebdgdcpemmaaGreatDoorEP
namespace Go.Proofs.YtdlebdgdcpemmaaGreatDoor
open Go.RowKit
set_option linter.unusedVariables false
set_option linter.unusedSimpArgs false
section
variable {P : Program} {σ : AS} {w0 : World} {m0 : Gv} {ρ : Env} {a : Act} {w : World}
variable {ops : Array Oper} {Q : Exit → AS → Prop} {rest : List Oper} {d : Option Tmp} {ty : TypeId} {pos : String} {af : Array Edge}
/-- A contract of plain values under a condition: one of many. -/
def ACallsTE (P : Program) (T : World → Prop) (f : FuncId) (args : List AV) {S : Type} (φ : S → Prop) (r : S → AV) : Prop :=
  ∀ (w : World) (vs : Array Value), T w → RepVs P (E0 w.heap.size []) w args vs.toList → Calls P f vs w fun e w' => ∃ x, φ x ∧ ∃ u, e = .returned u ∧ plainV (r x) = some u ∧ Below w.heap.size w w'
theorem ACallsTE.ofPlain {T : World → Prop} {f : FuncId} {args : List AV} {us : List Value} {S : Type} {φ : S → Prop} {r : S → AV} (ha : plainVs args = some us) (h : ∀ w, T w → Calls P f us.toArray w fun e w' => ∃ x, φ x ∧ ∃ u, e = .returned u ∧ plainV (r x) = some u ∧ Below w.heap.size w w') : ACallsTE P T f args φ r := by
  intro w vs hT hargs
  have e := plainVs_rep ha hargs
  have e2 : vs = us.toArray := by rw [← e]
  rw [e2]
  exact h w hT
theorem ar_cte {T : World → Prop} {f : FuncId} {xs : List Operand} {ts : Array TypeId} {S : Type} {φ : S → Prop} {r : S → AV} (hT : T w0) (hk : KeptT T) (hm : m0.m = []) (hl : m0.l = []) (hf : callB P f = true) (hc : ACallsTE P T f (xs.map fun x => (σ.ev x).ro) φ r)
    (h : ∀ x, φ x → AR P w0 m0 ops Q rest (σ.put d (r x))) : AR P w0 m0 ops Q (⟨d, .call { callee := .value (.func f), args := xs.toArray, argTypes := ts }, ty, pos, af, none⟩ :: rest) σ := fun ρ a w q => by
  have hbel : Below w0.heap.size w0 w := by
    have := q.fr
    rw [hm, hl] at this
    exact Framed.below this
  refine wpList_plain rfl fun K hK => ?_
  unfold Oper.wp
  rw [run_call hf]
  have := hc w (xs.toArray.map a.eval) (hk w0 w hT hbel) (by simpa using RepVs.of q xs)
  refine this.mono ?_
  rintro e w' ⟨x, hx, u, rfl, hv, hb⟩
  exact hK _ _ (h x hx _ _ w' ((q.world hb).put d ((plainV_rep hv).2 rfl)))
def ifaceE (P : Program) (t : TypeId) : Bool := match P.underlying t with
  | some (.interface _) => true
  | _ => false
theorem equalIn_err {t te : TypeId} {p : Value} {ms : Array (String × TypeId)} (hu : P.underlying t = some (.interface ms)) (n : Nat) (W : World) : (Op.equalIn (n + 1) t (.iface te p) .nilIface).run P W = .ok false W := by
  simp [Op.equalIn, run_underlying hu]
theorem equalIn_nil {t : TypeId} {ms : Array (String × TypeId)} (hu : P.underlying t = some (.interface ms)) (n : Nat) (W : World) : (Op.equalIn (n + 1) t .nilIface .nilIface).run P W = .ok true W := by
  simp [Op.equalIn, run_underlying hu]
theorem q_neq_err {t yt : TypeId} {x : Operand} {te : TypeId} {p : Value} (hx : σ.ev x = .c (.p (.iface te p))) (ht : ifaceE P t = true) : QOp P (.binOp .neq t x (.const .nilIface) yt) σ (.c (.p (.bool true))) :=
  fun _ _ ρ f w _ _ _ _ _ h => ⟨_, rfl, fun W _ => by
    unfold ifaceE at ht
    split at ht
    · rename_i hu
      have e : f.eval (.const .nilIface) = .nilIface := rfl
      simp [execOp, h.evp hx, e, eqGuard, binOp, Op.equal]
      rw [show Op.maxDepth = 9999 + 1 from rfl, equalIn_err hu]
      rfl
    · cases ht⟩
theorem q_neq_nil {t yt : TypeId} {x : Operand} (hx : σ.ev x = .c (.p .nilIface)) (ht : ifaceE P t = true) : QOp P (.binOp .neq t x (.const .nilIface) yt) σ (.c (.p (.bool false))) :=
  fun _ _ ρ f w _ _ _ _ _ h => ⟨_, rfl, fun W _ => by
    unfold ifaceE at ht
    split at ht
    · rename_i hu
      have e : f.eval (.const .nilIface) = .nilIface := rfl
      simp [execOp, h.evp hx, e, eqGuard_nil_constR, binOp, Op.equal]
      rw [show Op.maxDepth = 9999 + 1 from rfl, equalIn_nil hu]
      rfl
    · cases ht⟩
end
end Go.Proofs.YtdlebdgdcpemmaaGreatDoor
