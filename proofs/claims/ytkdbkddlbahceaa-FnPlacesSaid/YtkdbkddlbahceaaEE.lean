/- The abstract machine: drawn regions that draw numbers and write own rows, walked once for each set of operations that may be done. -/
import Derived.Test.YtkdbkddlbahceaaEB
import Derived.Test.YtkdbkddlbahceaaEK
import Derived.Test.YtkdbkddlbahceaaEU
namespace Go.Proofs.Ytkdbkddlbahceaa
open Go.RowKit
set_option linter.unusedVariables false
section
variable {P : Program} {σ : AS} {w0 : World} {m0 : Gv} {l : List Oper} {Q : Exit → AS → Prop} {listed : List Bool} {cand : List Nat}
/-- What is shown for one set of operations done, for all that was drawn in them, kept for later use. -/
theorem at_have {α : Type} (φ : α → Prop) (listed' : List Bool) (σ' : α → AS) (h : ∀ x, φ x → AT P w0 m0 l Q [] listed' (σ' x)) (k : (∀ x, φ x → AT P w0 m0 l Q [] listed' (σ' x)) → AT P w0 m0 l Q cand listed σ) : AT P w0 m0 l Q cand listed σ := k h
/-- The rows numbered anew. -/
theorem at_to (p : List Nat) (h0 : m0.l = []) (hn : p.Nodup) (hp : (p.all fun j => Nat.blt j σ.nx) = true) {τ : AS} (he : σ.rsel p = τ) {listed' : List Bool} (hl : listed = listed') (h : AT P w0 m0 l Q [] listed' τ) : AT P w0 m0 l Q [] listed σ := by
  subst he hl
  exact fun hq ρ a w r fuel hfu => h hq (ρ.rsel p) a w (r.rsel h0 hn fun j hj => by have := List.all_eq_true.1 hp j hj; simpa [Nat.blt_eq] using this) fuel hfu
theorem at_open (h : AT P w0 m0 l Q [] listed σ) : AT P w0 m0 l Q cand listed σ := h
/-- The list with some entries laid anew. -/
def setsL {β : Type} : List β → List (Nat × β) → List β
  | l, [] => l
  | l, (i, v) :: us => setsL (l.set i v) us
theorem setsL_n {β : Type} {l : List β} : setsL l [] = l := rfl
theorem setsL_c {β : Type} {l : List β} {i : Nat} {v : β} {us : List (Nat × β)} : setsL l ((i, v) :: us) = setsL (l.set i v) us := rfl
/-- Those of n that are done. -/
def bl (n : Nat) (is : List Nat) : List Bool := (List.range n).map is.elem
/-- As at_have, the state given by what differs from the one in hand. -/
theorem at_has {α : Type} (φ : α → Prop) (listed' : List Bool) (U : α → List (Nat × AV)) (H : α → List (Nat × List AC)) (N : Nat) (h : ∀ x, φ x → AT P w0 m0 l Q [] listed' ⟨setsL σ.tm (U x), setsL σ.hp (H x), N⟩) (k : (∀ x, φ x → AT P w0 m0 l Q [] listed' ⟨setsL σ.tm (U x), setsL σ.hp (H x), N⟩) → AT P w0 m0 l Q cand listed σ) : AT P w0 m0 l Q cand listed σ := k h
theorem at_st {τ : AS} (h : σ = τ := by simp only [setsL_n, setsL_c, List.set_cons_succ, List.set_cons_zero]; exact rfl) (k : AT P w0 m0 l Q [] listed τ) : AT P w0 m0 l Q [] listed σ := by subst h; exact k
/-- Behind a step, the rows numbered anew. -/
theorem at_fin (p : List Nat) {ops : Array Oper} {i : Nat} {τ : AS} {listed' : List Bool} (h : AT P w0 m0 l Q [] listed' τ) (h0 : m0.l = [] := by exact rfl) (hn : p.Nodup := by decide) (hp : (p.all fun j => Nat.blt j σ.nx) = true := by kernel_rfl) (he : σ.rsel p = τ := by kernel_rfl) (hl : listed.set i true = listed' := by kernel_rfl) : AR P w0 m0 ops (fun e τ => e = .normal ∧ AT P w0 m0 l Q [] (listed.set i true) τ) [] σ :=
  ar_nil ⟨rfl, at_to p h0 hn hp he hl h⟩
end
end Go.Proofs.Ytkdbkddlbahceaa
