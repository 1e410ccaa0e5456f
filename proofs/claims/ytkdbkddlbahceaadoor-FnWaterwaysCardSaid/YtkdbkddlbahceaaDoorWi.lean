/- The law of SplitWaterway. -/
import Derived.Test.YtkdbkddlbahceaaDoorWh
namespace Go.Proofs.YtkdbkddlbahceaaDoor
open Go.RowKit
set_option linter.unusedVariables false
set_option linter.unusedSimpArgs false
theorem repL_nls {ρ : Env} {w : World} {e1 e2 : TypeId} : ∀ {vs : List Value}, RepL Tryd.prog ρ w [.nl, .nl] vs → RepL Tryd.prog ρ w [.sl e1 .ro [], .sl e2 .ro []] vs
  | [v1, v2], ⟨h1, h2, _⟩ => by
    have a1 := repV_nl (P := Tryd.prog) (e := e1) (show RepV Tryd.prog ρ w (.c .nl) v1 from h1)
    have a2 := repV_nl (P := Tryd.prog) (e := e2) (show RepV Tryd.prog ρ w (.c .nl) v2 from h2)
    exact ⟨a1, a2, trivial⟩
theorem repV_nls {ρ : Env} {w : World} {u : Value} {e1 e2 : TypeId} (h : RepV Tryd.prog ρ w (.agg [.nl, .nl]) u) : RepV Tryd.prog ρ w (.agg [.sl e1 .ro [], .sl e2 .ro []]) u := by
  obtain ⟨vs, rfl, hl⟩ := h
  exact ⟨vs, rfl, repL_nls hl⟩
theorem ACalls.nls0 {f : FuncId} {e1 e2 : TypeId} {args : List AV} {hp hp' : List (List AC)} {r : AV} {k : Nat} (h : ACalls Tryd.prog f (.agg [.sl e1 .ro [], .sl e2 .ro []] :: args) hp r hp' k) : ACalls Tryd.prog f (.agg [.nl, .nl] :: args) hp r hp' k :=
  fun m w vs h1 h2 h3 h4 h5 => h m w vs h1 h2 h3 h4 (by
    obtain ⟨l⟩ := vs
    cases l with
    | nil => exact h5
    | cons v l => exact ⟨repV_nls h5.1, h5.2⟩)
theorem ACalls.nls1 {f : FuncId} {e1 e2 : TypeId} {x : AV} {args : List AV} {hp hp' : List (List AC)} {r : AV} {k : Nat} (h : ACalls Tryd.prog f (x :: .agg [.sl e1 .ro [], .sl e2 .ro []] :: args) hp r hp' k) : ACalls Tryd.prog f (x :: .agg [.nl, .nl] :: args) hp r hp' k :=
  fun m w vs h1 h2 h3 h4 h5 => h m w vs h1 h2 h3 h4 (by
    obtain ⟨l⟩ := vs
    match l, h5 with
    | v :: u :: l, h5 => exact ⟨h5.1, repV_nls h5.2.1, h5.2.2⟩)
attribute [local irreducible] AR DR AWp QOp Qt ACalls ARes Exit.thenA Exit.inBlockA
attribute [local irreducible] AG0 AG AGs
end Go.Proofs.YtkdbkddlbahceaaDoor
