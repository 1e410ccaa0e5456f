/- The abstract machine: contracts of plain values out of the model's own words; arrays of one-cell elements in an own block. -/
import Derived.Test.YtdhplkdohhiooaaEL
namespace Go.Proofs.Ytdhplkdohhiooaa
open Go.RowKit
set_option linter.unusedVariables false
set_option linter.unusedSimpArgs false
section
variable {P : Program} {σ : AS} {w0 : World} {m0 : Gv} {ρ : Env} {a : Act} {w : World}
def plainVs : List AV → Option (List Value)
  | [] => some []
  | x :: xs => match plainV x, plainVs xs with
    | some v, some vs => some (v :: vs)
    | _, _ => none
theorem plainVs_rep {ρ : Env} {w : World} : ∀ {xs : List AV} {us vs : List Value}, plainVs xs = some us → RepVs P ρ w xs vs → vs = us
  | [], us, [], h, _ => by simp [plainVs] at h; exact h.symm
  | x :: xs, us, v :: vs, h, k => by
    simp only [plainVs] at h
    split at h
    · rename_i u us' h1 h2
      injection h with h; subst h
      rw [(plainV_rep h1).1 k.1, plainVs_rep h2 k.2]
    · cases h
/-- A contract of plain values, out of the model's own words. -/
theorem ACalls.ofPlain {f : FuncId} {args : List AV} {us : List Value} {r : AV} {v : Value} (ha : plainVs args = Option.some us) (hr : plainV r = Option.some v) (h : ∀ w, Calls P f us.toArray w fun e w' => e = .returned v ∧ Below w.heap.size w w') : ACalls P f args [] r [] 0 := by
  intro m w vs hnd hlt hlen hhp hargs
  have hm : m = [] := List.eq_nil_of_length_eq_zero (by simpa using hlen)
  subst hm
  have e := plainVs_rep ha hargs
  have e2 : vs = us.toArray := by rw [← e]
  rw [e2]
  refine (h w).mono fun en w' ⟨h1, h2⟩ => ⟨v, [], fun _ => .tuple #[], h1, List.nodup_nil, rfl, by simp, (plainV_rep hr).2 rfl, rfl, by simp, .of_below h2⟩
theorem ACalls.ofPure {f : FuncId} {args : List AV} {us : List Value} {r : AV} {v : Value} (ha : plainVs args = Option.some us) (hr : plainV r = Option.some v) (h : ∀ w, Calls P f us.toArray w fun e w' => e = .returned v ∧ w' = w) : ACalls P f args [] r [] 0 :=
  .ofPlain ha hr fun w => (h w).mono fun e w' ⟨h1, h2⟩ => ⟨h1, h2 ▸ Below.refl _ _⟩
def arrE (P : Program) (t e : TypeId) (n : Nat) : Bool := match P.underlying t with
  | some (.array n' e') => n' == n && e' == e && (P.info? e).isSome && P.cellsOf e == 1
  | _ => false
theorem arrE_spec {t e : TypeId} {n : Nat} (h : arrE P t e n = true) : P.underlying t = some (.array n e) ∧ (P.info? e).isSome = true ∧ P.cellsOf e = 1 := by
  unfold arrE at h
  split at h
  · rename_i n' e' hu
    simp only [Bool.and_eq_true, beq_iff_eq] at h
    obtain ⟨⟨⟨rfl, rfl⟩, h3⟩, h4⟩ := h
    exact ⟨hu, h3, h4⟩
  · cases h
theorem q_buildA {t e : TypeId} {n : Nat} {qs : List (Nat × Operand)} {zs : List Value} {ys : List AC} (ha : arrE P t e n = true) (hz : zeroC P t = some zs) (hn : zs.length = n) (hv : bldC σ (zs.map cstC) qs = some ys) : QOp P (.build t qs.toArray) σ (.agg ys) :=
  fun w0 m0 ρ a w d ty pos af gd r => by
    unfold zeroC at hz
    obtain ⟨i, hi, hz1⟩ := Option.bind_eq_some_iff.1 hz
    obtain ⟨z, hz2, rfl⟩ := Option.map_eq_some_iff.1 hz1
    obtain ⟨hu, he, hc⟩ := arrE_spec ha
    have hzv : ∀ W, (zeroValue t).run P W = .ok z W := fun W => by
      simp only [zeroValue, typeInfo, Sem.run_bind, run_program, Result.andThen_ok, hi, Sem.run_pure]
      rw [hz2]; rfl
    obtain ⟨us, h1, h2⟩ := bldC_fill r (fun i => some (i * P.cellsOf e, P.cellsOf e)) n (fun i hin => by simp [hc]) qs (z.cells.toList.map cstC) ys z.cells (by simpa using hn) (repL_cst _) hv
    refine ⟨.agg us, ⟨us, rfl, h2⟩, fun W _ => ?_⟩
    have hb : (Instr.build t (qs.toArray.map fun q => (q.1, a.eval q.2))).run P W = .ok (.agg us) W := by
      unfold Instr.build
      simp only [Sem.run_bind, hzv, Result.andThen_ok, run_underlying hu, size_cellsOf (t := t) he]
      have e3 : (qs.toArray.map fun q => (q.1, a.eval q.2)).toList = qs.map fun q => (q.1, a.eval q.2) := by simp
      rw [e3, h1]
      rfl
    rw [List.map_toArray] at hb
    simp [execOp, hb]
theorem q_indexAddrA {t e : TypeId} {n : Nat} {x y : Operand} {b o : Nat} {k : IntKind} {i : Int} (ha : arrE P t e n = true) (hx : σ.ev x = .c (.ptr b o)) (hy : σ.ev y = .c (.p (.int k i))) (h0 : 0 ≤ i) (h1 : i < n) : QOp P (.indexAddr t x y) σ (.c (.ptr b (o + i.toNat))) :=
  fun _ _ ρ f w _ _ _ _ _ h => by
    have h2 := h.ev x
    rw [hx] at h2
    obtain ⟨g, hg, he⟩ := h2
    obtain ⟨hu, hi, hc⟩ := arrE_spec ha
    refine ⟨.pointer (some ⟨g, o + i.toNat, none⟩), ⟨g, hg, rfl⟩, fun W _ => ?_⟩
    simp [execOp, he, h.evp hy, Instr.indexAt, Instr.sureAddr, asIntOf, run_underlying hu, size_cellsOf (t := t) hi, hc, h0, h1, addr_add]
/-- Behind a part of the code: on in a coarser state (blocks from k on forgotten, rows chosen). -/
theorem awp_midH {α : Type} {x y : Code} {Q Q' : Exit → AS → Prop} (k : Nat) (hk : m0.m.length ≤ k) (h00 : m0.l = []) (keep : List Nat) (V : α → List (Nat × AV)) (H : α → List (List AC)) (N : α → Nat) (R : α → Prop)
    (h : AWp P w0 m0 x (Exit.thenA (fun σ' => ∃ x' p, R x' ∧ p.Nodup ∧ (∀ j ∈ p, j < σ'.nx) ∧ ((σ'.cut k).rsel p).le (σ.head keep (V x') (H x') (N x'))) Q) σ)
    (kk : ∀ x', R x' → AWp P w0 m0 y Q' (σ.head keep (V x') (H x') (N x'))) : AWp P w0 m0 x (Exit.thenA (AWp P w0 m0 y Q') Q) σ :=
  h.mono fun e σ' q => by
    cases e <;> first | exact q | (obtain ⟨x', p, h1, h2, h3, h4⟩ := q; exact AWp.forget k p hk h00 h2 h3 ((kk x' h1).le h4))
end
end Go.Proofs.Ytdhplkdohhiooaa
