/- The abstract machine: new rows handed back by a contract that leans on what old memory holds. -/
import Derived.Test.YtdlebdgdcpemmaaGreatDoorEX
namespace Go.Proofs.YtdlebdgdcpemmaaGreatDoor
open Go.RowKit
set_option linter.unusedVariables false
set_option linter.unusedSimpArgs false
section
variable {P : Program} {σ : AS} {w0 : World} {m0 : Gv} {ρ : Env} {a : Act} {w : World}
variable {ops : Array Oper} {Q : Exit → AS → Prop} {rest : List Oper} {d : Option Tmp} {ty : TypeId} {pos : String} {af : Array Edge}
theorem ar_ctr {T : World → Prop} {f : FuncId} {xs : List Operand} {ts : Array TypeId} {r : AV} {k : Nat} (hT : T w0) (hk : KeptT T) (hm : m0.m = []) (hl : m0.l = []) (hf : callB P f = true) (hc : ACallsT P T f (xs.map fun x => (σ.ev x).ro) [] r [] k) (hr : r.fresh = true)
    (h : AR P w0 m0 ops Q rest ((σ.rows k).put d (r.sh σ.nx))) : AR P w0 m0 ops Q (⟨d, .call { callee := .value (.func f), args := xs.toArray, argTypes := ts }, ty, pos, af, none⟩ :: rest) σ :=
  ar_enter (r.sh σ.nx) (σ.rows k) (f := f) (fun ρ a w q => by
    have hbel := q.below hm hl
    refine ⟨_, run_call hf _ _ _ _ _ _ _ _ _, ?_⟩
    have := hc [] w (xs.toArray.map a.eval) (hk w0 w hT hbel) List.nodup_nil (by simp) rfl (by simp) (by simpa using RepVs.of q xs)
    refine this.mono ?_
    rintro e w' ⟨u, om, ov, rfl, h1, rfl, h2, h3, _, _, hfr⟩
    have hb := hfr.below
    refine ⟨u, _, rfl, q.rows ov hb h1 h2, h3.sh ⟨?_, fun j g hj => ?_, fun j g hj => ?_⟩ hr⟩
    · show ρ.B ≤ w.heap.size
      rw [q.B]; exact Nat.le_trans q.Bw q.fr.size
    · show (ρ.om ++ om)[σ.nx + j]? = some g
      rw [List.getElem?_append_right (by rw [q.nx]; omega), q.nx, Nat.add_sub_cancel_left]; exact hj
    · show (if om.elem g then ov g else ρ.ov g) = ov g
      rw [if_pos (List.elem_iff.2 (List.mem_of_getElem? hj))]) h
theorem flat1 (vs : List Value) : (vs.map fun v => [v]).flatten = vs := by
  induction vs with
  | nil => rfl
  | cons v vs ih => rw [List.map_cons, List.flatten_cons, ih]; rfl
/-- A contract of plain values that hands back one new block of words. -/
theorem ACallsT.ofRow {T : World → Prop} {f : FuncId} {args : List AV} {us : List Value} {e : TypeId} {vs : List Value} (ha : plainVs args = Option.some us) (h1 : P.cellsOf e = 1) (hl : vs.length ≤ 9223372036854775807)
    (h : ∀ w, T w → Calls P f us.toArray w fun en w' => en = .returned (.slice (some ⟨w.heap.size, 0, none⟩) vs.length vs.length) ∧ w' = w.alloc (.cells vs.toArray e)) : ACallsT P T f args [] (.c (.sl e (.own 0) (vs.map fun v => [v]))) [] 1 := by
  intro m w ws hT hnd hlt hlen hhp hargs
  have hm : m = [] := List.eq_nil_of_length_eq_zero (by simpa using hlen)
  subst hm
  have e1 := plainVs_rep ha hargs
  have e2 : ws = us.toArray := by rw [← e1]
  rw [e2]
  refine (h w hT).mono fun en w' ⟨h2, h3⟩ => ?_
  subst h3
  have hsz : (w.alloc (.cells vs.toArray e)).heap.size = w.heap.size + 1 := Array.size_push ..
  refine ⟨_, [w.heap.size], fun _ => .slice (some ⟨w.heap.size, 0, none⟩) vs.length vs.length, h2, by simp, rfl, fun g hg => ?_, ⟨by simpa using hl, fun x hx => ?_, w.heap.size, rfl, rfl, rfl, ?_⟩, rfl, by simp, .of_below ?_⟩
  · simp only [List.mem_singleton] at hg
    omega
  · obtain ⟨v, _, rfl⟩ := List.mem_map.1 hx
    exact h1.symm
  · rw [h1, List.length_map]
    rw [flat1]
    have := World.ownsRow_lit (base := w.heap.size) (e := e) (size := 1) w vs.toArray vs.length (Nat.le_refl _) (by unfold maxLen; exact hl) (by simp)
    simpa using this
  · exact (Below.refl _ _).alloc (Nat.le_refl _) _
end
theorem ACallsT.weak {T T' : World → Prop} {P : Program} {f : FuncId} {args : List AV} {hp : List (List AC)} {r : AV} {hp' : List (List AC)} {k : Nat} (h : ACallsT P T f args hp r hp' k) (hw : ∀ w, T' w → T w) : ACallsT P T' f args hp r hp' k :=
  fun m w vs hT => h m w vs (hw w hT)
end Go.Proofs.YtdlebdgdcpemmaaGreatDoor
