/- The abstract machine: a long body is cut behind some of its statements; all ways meet there in one state. -/
import Derived.Test.YtdlebdgdcpemmaaGreatDoorEM
namespace Go.Proofs.YtdlebdgdcpemmaaGreatDoor
open Go.RowKit
set_option linter.unusedVariables false
section
variable {P : Program} {w0 : World} {m0 : Gv}
def preA (P : Program) (w0 : World) (m0 : Gv) : Nat → Code → (AS → Prop) → (Exit → AS → Prop) → AS → Prop
  | 0, _, K, _, σ => K σ
  | n + 1, .seq x y, K, Q, σ => AWp P w0 m0 x (Exit.thenA (preA P w0 m0 n y K Q) Q) σ
  | _ + 1, _, _, _, _ => False
def postA : Nat → Code → Code
  | n + 1, .seq _ y => postA n y
  | _, c => c
theorem pre_zero {c : Code} {K : AS → Prop} {Q : Exit → AS → Prop} {σ : AS} (h : K σ) : preA P w0 m0 0 c K Q σ := h
theorem pre_seq {n : Nat} {x y : Code} {K : AS → Prop} {Q : Exit → AS → Prop} {σ : AS} (h : AWp P w0 m0 x (Exit.thenA (preA P w0 m0 n y K Q) Q) σ) : preA P w0 m0 (n + 1) (.seq x y) K Q σ := h
theorem awp_pre {K : AS → Prop} {Q : Exit → AS → Prop} : ∀ (n : Nat) (c : Code) (σ : AS), preA P w0 m0 n c K Q σ → (∀ σ, K σ → AWp P w0 m0 (postA n c) Q σ) → AWp P w0 m0 c Q σ
  | 0, c, σ, h, k => by
    have := k σ h
    cases c <;> exact this
  | n + 1, .seq x y, σ, h, k => awp_seq (AWp.mono h fun e σ q => by
      cases e <;> first | exact awp_pre n y σ q k | exact q)
theorem awp_part {c c' : Code} {Q : Exit → AS → Prop} {σ : AS} (n k : Nat) (hk : m0.m.length ≤ k) (h00 : m0.l = []) (keep : List Nat) (V : List (Nat × AV)) (H : List (List AC)) (N : Nat) (hc : postA n c = c')
    (h : preA P w0 m0 n c (fun σ' => ∃ p, p.Nodup ∧ (∀ j ∈ p, j < σ'.nx) ∧ ((σ'.cut k).rsel p).le (σ.head keep V H N)) Q σ) (hr : AWp P w0 m0 c' Q (σ.head keep V H N)) : AWp P w0 m0 c Q σ := by
  subst hc
  refine awp_pre n c σ h fun σ' ⟨p, h1, h2, h3⟩ ρ a w r => ?_
  exact (hr.le h3) _ a w ((r.cut hk).rsel h00 h1 h2)
end
end Go.Proofs.YtdlebdgdcpemmaaGreatDoor
