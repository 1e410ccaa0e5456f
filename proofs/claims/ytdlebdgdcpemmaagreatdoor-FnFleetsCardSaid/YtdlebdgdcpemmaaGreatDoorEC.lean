/- The abstract machine: the operations of a drawn region that may come up next, named. -/
import Derived.Test.YtdlebdgdcpemmaaGreatDoorEY
import Derived.Test.YtdlebdgdcpemmaaGreatDoorEX
namespace Go.Proofs.YtdlebdgdcpemmaaGreatDoor
open Go.RowKit
set_option linter.unusedVariables false
section
variable {P : Program} {σ σ0 : AS} {w0 : World} {m0 : Gv} {n : Nat} {l : List Oper} {Q : Exit → AS → Prop} {ds : List Nat} {listed : List Bool}
def dsOk (ds : List Nat) (o : Oper) : Bool := match o.dst with | some t => ds.elem t | none => true
theorem ag_r1 (i : Nat) (hr : Region.ready .any l.toArray listed.toArray = [i]) {oi : Oper} (hi : l[i]? = some oi) (di : dsOk ds oi = true)
    (h : ∀ w1 B, AR P w1 (Gv.inn B) l.toArray (fun e τ => e = .normal ∧ AG P w0 m0 n l Q ds σ0 (listed.set i true) τ) [oi] σ) : AG P w0 m0 n l Q ds σ0 listed σ :=
  ag_ready hr rfl fun k hk => by
    obtain rfl : k = i := by simpa using hk
    exact ⟨oi, hi, di, h⟩
theorem ag_r2 (i j : Nat) (hr : Region.ready .any l.toArray listed.toArray = [i, j]) {oi oj : Oper} (hi : l[i]? = some oi) (di : dsOk ds oi = true) (hj : l[j]? = some oj) (dj : dsOk ds oj = true)
    (h1 : ∀ w1 B, AR P w1 (Gv.inn B) l.toArray (fun e τ => e = .normal ∧ AG P w0 m0 n l Q ds σ0 (listed.set i true) τ) [oi] σ)
    (h2 : ∀ w1 B, AR P w1 (Gv.inn B) l.toArray (fun e τ => e = .normal ∧ AG P w0 m0 n l Q ds σ0 (listed.set j true) τ) [oj] σ) : AG P w0 m0 n l Q ds σ0 listed σ :=
  ag_ready hr rfl fun k hk => by
    rcases (by simpa using hk : k = i ∨ k = j) with rfl | rfl
    · exact ⟨oi, hi, di, h1⟩
    · exact ⟨oj, hj, dj, h2⟩
theorem ag_readyT {T : World → Prop} (hT : T w0) (hk : KeptT T) (hm : m0.m = []) (hl : m0.l = []) {rs : List Nat} (hr : Region.ready .any l.toArray listed.toArray = rs) (hne : rs.isEmpty = false)
    (h : ∀ i ∈ rs, ∃ oi, l[i]? = some oi ∧ dsOk ds oi = true ∧ ∀ w1 B, T w1 → AR P w1 (Gv.inn B) l.toArray (fun e τ => e = .normal ∧ AG P w0 m0 n l Q ds σ0 (listed.set i true) τ) [oi] σ) : AG P w0 m0 n l Q ds σ0 listed σ := fun ρ0 a0 w1 q0 ρ a w q ho fuel hfu => by
  have hT1 : T w1 := hk w0 w1 hT (q0.below hm hl)
  have hne' : Region.ready .any l.toArray listed.toArray ≠ [] := by intro e; rw [hr] at e; rw [e] at hne; cases hne
  have hf : ∃ f, fuel = f + 1 := by
    obtain ⟨i, hi⟩ := List.exists_mem_of_ne_nil _ hne'
    have ht := todo_set (listed_of (mem_ready.1 hi).1)
    exact ⟨fuel - 1, by omega⟩
  obtain ⟨f, rfl⟩ := hf
  refine ⟨fun e => absurd e hne', fun i hi => ?_⟩
  have ht := todo_set (listed_of (mem_ready.1 hi).1)
  obtain ⟨oi, h1, h2, h3⟩ := h i (by rw [← hr]; exact hi)
  have h1' : l.toArray[i]? = some oi := by simpa using h1
  have h4 := h3 w1 ρ0.B hT1 ρ a w q
  have h5 : wpOp P l.toArray (lift P w1 (Gv.inn ρ0.B) (fun e τ => e = .normal ∧ AG P w0 m0 n l Q ds σ0 (listed.set i true) τ)) i (fun a' w' => lift P w1 (Gv.inn ρ0.B) (fun e τ => e = .normal ∧ AG P w0 m0 n l Q ds σ0 (listed.set i true) τ) .normal a' w') a w := by
    unfold wpOp; simp only [h1']; exact h4
  refine wpOp_any (fun e a w ⟨_, _, h, _⟩ => h.1) ?_ (wpOp_put h1' h5)
  rintro a' w' ⟨⟨ρ', τ, ⟨_, hτ⟩, q'⟩, hp⟩
  have hoff : Off ds a0 a' := by
    rcases hp with ⟨u, rfl⟩ | ⟨d, u, rfl⟩
    · exact ho.put (fun t ht => by unfold dsOk at h2; rw [ht] at h2; exact h2) u
    · have := q'.df
      rw [put_defers] at this
      simp at this
  refine ⟨fun _ => Framed.below q'.fr, ?_⟩
  rw [List.setIfInBounds_toArray]
  exact hτ ρ0 a0 w1 q0 ρ' a' w' q' hoff f (by omega)
/-- All of an array that is a package variable, as a slice. -/
theorem q_slice_g {t e : TypeId} {k : Nat} {g : Nat} (ht : arrE P t e k = true) (hk0 : 0 < k) : QOp P (.slice t (.global g) none none none) σ (.c (.p (.slice (some ⟨g, 0, none⟩) k k))) :=
  fun _ _ ρ f w _ _ _ _ _ h => by
    obtain ⟨hu, hz, hs1⟩ := arrE_spec ht
    have e1 : f.eval (.global g) = .pointer (some ⟨g, 0, none⟩) := rfl
    refine ⟨_, rfl, fun W _ => ?_⟩
    have hne : ¬ k = 0 := by omega
    simp [execOp, e1, Instr.sliceAt, Instr.sureAddr, Instr.sliceBounds, run_underlying hu, size_cellsOf (t := e) hz, hs1, addr_add]
end
end Go.Proofs.YtdlebdgdcpemmaaGreatDoor
