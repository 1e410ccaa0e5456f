/- The abstract machine: contracts under a condition in regions that draw their order; package variables that stand in old memory. -/
import Derived.Test.YtdlebdgdcpemmaaGreatDoorEP
namespace Go.Proofs.YtdlebdgdcpemmaaGreatDoor
open Go.RowKit
set_option linter.unusedVariables false
set_option linter.unusedSimpArgs false
section
variable {P : Program} {σ : AS} {w0 : World} {m0 : Gv} {ρ : Env} {a : Act} {w : World}
variable {ops : Array Oper} {Q : Exit → AS → Prop} {rest : List Oper} {d : Option Tmp} {ty : TypeId} {pos : String} {af : Array Edge}
theorem Rel.below (r : Rel P w0 m0 ρ σ a w) (hm : m0.m = []) (hl : m0.l = []) : Below w0.heap.size w0 w := by
  have := r.fr
  rw [hm, hl] at this
  exact Framed.below this
theorem dr_ct {T : World → Prop} {f : FuncId} {xs : List Operand} {ts : Array TypeId} {r : AV} {v : Value} (hT : T w0) (hk : KeptT T) (hm : m0.m = []) (hl : m0.l = []) (hf : callB P f = true) (hc : ACallsT P T f (xs.map fun x => (σ.ev x).ro) [] r [] 0) (hv : plainV r = some v)
    (h : DR P w0 m0 ops Q rest (σ.put d r)) : DR P w0 m0 ops Q (⟨d, .call { callee := .value (.func f), args := xs.toArray, argTypes := ts }, ty, pos, af, none⟩ :: rest) σ := fun ρ a w rr => by
  have hbel := rr.below hm hl
  obtain ⟨u, h1, h2⟩ : ∃ u, RepV P ρ w r u ∧ ∀ W, Below w.heap.size w W → Oper.quietAt P ⟨d, .call { callee := .value (.func f), args := xs.toArray, argTypes := ts }, ty, pos, af, none⟩ a (fun W => Below w.heap.size w W) W u := by
    refine ⟨v, (plainV_rep hv).2 rfl, fun W hW => ?_⟩
    unfold Oper.quietAt
    rw [run_call hf]
    have hW' := rr.world hW
    have := hc [] W (xs.toArray.map a.eval) (hk w0 W hT (hbel.trans (hW.mono hbel.size))) List.nodup_nil (by simp) rfl (by simp) (by simpa using RepVs.of hW' xs)
    refine ⟨rfl, this.mono ?_⟩
    rintro e w' ⟨u, om, ov, rfl, _, _, _, h1, _, _, hfr⟩
    rw [plainV_rep hv] at h1
    subst h1
    exact ⟨rfl, hW.trans (hfr.below.mono hW.size)⟩
  exact wpQuiet_step fun K hK => by
    rw [if_pos (show Region.wanted ⟨d, .call { callee := .value (.func f), args := xs.toArray, argTypes := ts }, ty, pos, af, none⟩ (yielded ops a.tmps) = true from rfl)]
    exact ⟨u, h2, hK _ (h ρ _ w (rr.put d h1))⟩
/-- An element of a package variable that is an array of words. -/
theorem q_indexAddr_g {t e : TypeId} {n : Nat} {y : Operand} {g : Nat} {k : IntKind} {i : Int} (ht : arrE P t e n = true) (hy : σ.ev y = .c (.p (.int k i))) (hi : 0 ≤ i ∧ i < n) : QOp P (.indexAddr t (.global g) y) σ (.c (.p (.pointer (some ⟨g, i.toNat, none⟩)))) :=
  fun _ _ ρ f w _ _ _ _ _ h => by
    obtain ⟨hu, hz, hs1⟩ := arrE_spec ht
    have e1 : f.eval (.global g) = .pointer (some ⟨g, 0, none⟩) := rfl
    refine ⟨_, rfl, fun W _ => ?_⟩
    simp [execOp, e1, h.evp hy, Instr.indexAt, Instr.sureAddr, asIntOf, run_underlying hu, size_cellsOf (t := t) hz, hi, addr_add, hs1]
theorem dr_gload {T : World → Prop} {t : TypeId} {x : Operand} {ad : Addr} {v : Value} (hT : T w0) (hk : KeptT T) (hm : m0.m = []) (hl : m0.l = []) (ht : wordB P t = true) (hx : σ.ev x = .c (.p (.pointer (some ad)))) (hv : ∀ w, T w → w.cell? ad = some v)
    (h : DR P w0 m0 ops Q rest (σ.put d (.c (.p v)))) : DR P w0 m0 ops Q (⟨d, .load t x, ty, pos, af, none⟩ :: rest) σ := fun ρ a w rr => by
  have hbel := rr.below hm hl
  have h2 : ∀ W, Below w.heap.size w W → Oper.quietAt P ⟨d, .load t x, ty, pos, af, none⟩ a (fun W => Below w.heap.size w W) W v := fun W hW => by
    have hc := hv W (hk w0 W hT (hbel.trans (hW.mono hbel.size)))
    have hrun : (execOp a.eval ⟨d, .load t x, ty, pos, af, none⟩).run P W = .ok (.value v) W := by
      simp [execOp, rr.evp hx, Instr.loadAt, Instr.sureAddr, run_load_word ht hc]
    unfold Oper.quietAt
    rw [hrun]
    exact ⟨rfl, rfl⟩
  exact wpQuiet_step fun K hK => by
    rw [if_pos (show Region.wanted ⟨d, .load t x, ty, pos, af, none⟩ (yielded ops a.tmps) = true from rfl)]
    exact ⟨v, h2, hK _ (h ρ _ w (rr.put d (x := .c (.p v)) rfl))⟩
end
end Go.Proofs.YtdlebdgdcpemmaaGreatDoor
