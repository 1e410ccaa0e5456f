/- The abstract machine: a region that draws its order and writes own memory; what does not look at the world is taken first, the rest in every order, in the caller's state. -/
import Derived.Test.YtdlebdgdcpemmaaGreatDoorEM
namespace Go.Proofs.YtdlebdgdcpemmaaGreatDoor
open Go.RowKit
set_option linter.unusedVariables false
set_option linter.unusedSimpArgs false
section
variable {P : Program} {σ : AS} {w0 : World} {m0 : Gv} {l : List Oper} {Q : Exit → AS → Prop}
/-- As QOp, in every world. -/
def QAll (P : Program) (o : Op) (σ : AS) (x : AV) : Prop :=
  ∀ (w0 : World) (m0 : Gv) (ρ : Env) (a : Act) (w : World) (d : Option Tmp) (ty : TypeId) (pos : String) (af : Array Edge) (gd : Option (Nat × Bool)), Rel P w0 m0 ρ σ a w →
    ∃ u, RepV P ρ w x u ∧ ∀ W, (execOp a.eval ⟨d, o, ty, pos, af, gd⟩).run P W = .ok (.value u) W
theorem qa_move {x : Operand} : QAll P (.move x) σ (σ.ev x) := fun _ _ ρ a w _ _ _ _ _ h => ⟨a.eval x, h.ev x, fun W => by simp [execOp]⟩
theorem qa_int {op : BinOp} {t yt : TypeId} {x y : Operand} {k : IntKind} {a b : Int} {v : Value} (hx : σ.ev x = .c (.p (.int k a))) (hy : σ.ev y = .c (.p (.int k b))) (hv : intP op k a b = some v) : QAll P (.binOp op t x y yt) σ (.c (.p v)) :=
  fun _ _ ρ f w _ _ _ _ _ h => ⟨v, rfl, fun W => by
    cases op <;> simp only [intP, Option.some.injEq, reduceCtorEq] at hv <;> subst hv <;> simp [execOp, h.evp hx, h.evp hy, eqGuard, binOp, Op.intArith, Op.intCmp, Op.intBits]⟩
theorem qa_add {t yt : TypeId} {x y : Operand} {a b : Int} (hx : σ.ev x = .c (.p (.int .i64 a))) (hy : σ.ev y = .c (.p (.int .i64 b))) (hb : -9223372036854775808 ≤ a + b ∧ a + b ≤ 9223372036854775807) : QAll P (.binOp .add t x y yt) σ (.c (.p (.int .i64 (a + b)))) :=
  qa_int hx hy (by simp only [intP]; rw [IntWalk.i64_in _ hb])
theorem qa_sub {t yt : TypeId} {x y : Operand} {a b : Int} (hx : σ.ev x = .c (.p (.int .i64 a))) (hy : σ.ev y = .c (.p (.int .i64 b))) (hb : -9223372036854775808 ≤ a - b ∧ a - b ≤ 9223372036854775807) : QAll P (.binOp .sub t x y yt) σ (.c (.p (.int .i64 (a - b)))) :=
  qa_int hx hy (by simp only [intP]; rw [IntWalk.i64_in _ hb])
theorem qa_indexAddr_o {t e : TypeId} {x y : Operand} {n : Nat} {ys : List (List Value)} {kk : IntKind} {i : Int} (ht : sliceE P t e = true) (hx : σ.ev x = .c (.sl e (.own n) ys)) (hy : σ.ev y = .c (.p (.int kk i))) (hi : 0 ≤ i) (hv : i < ys.length) : QAll P (.indexAddr t x y) σ (.c (.ep e n ys i.toNat 0)) :=
  fun _ _ ρ f w _ _ _ _ _ h => by
    have h1 := h.ev x
    rw [hx] at h1
    have h1 : RepC P ρ w (.sl e (.own n) ys) (f.eval x) := h1
    obtain ⟨hl, h2⟩ := h1
    have h3 := h2
    obtain ⟨hlen, g, hg, hvo, hu, ho⟩ := h2
    obtain ⟨hu1, hz⟩ := sliceE_spec ht
    rcases ho.2 with ⟨hvv, _⟩ | ⟨g', cap, cur, hvv, _⟩
    · rw [hvv] at hu; simp [Value.ownBlock] at hu
    · rw [hvv] at hu
      obtain rfl : g' = g := by simpa [Value.ownBlock] using hu
      refine ⟨.pointer (some ⟨g', i.toNat * P.cellsOf e + 0, none⟩), ⟨by omega, g', f.eval x, hg, rfl, h3⟩, fun W => ?_⟩
      have hb : 0 ≤ i ∧ i < (ys.length : Int) := ⟨hi, hv⟩
      simp [execOp, hvv, h.evp hy, Instr.indexAt, asIntOf, run_underlying hu1, size_cellsOf (t := t) hz, hb, addr_add]
theorem qa_assign {x : Operand} : QAll P (.assign x) σ (σ.ev x) := fun _ _ ρ a w _ _ _ _ _ h => ⟨a.eval x, h.ev x, fun W => by simp [execOp]⟩
theorem qa_ext {x : Operand} {i : Nat} {ws : List AW} {y : AW} (hx : σ.ev x = .tup ws) (hy : ws[i]? = some y) : QAll P (.extract x i) σ y.av :=
  fun _ _ ρ f w _ _ _ _ _ h => by
    have h1 := h.ev x
    rw [hx] at h1
    obtain ⟨vs, he, hl⟩ := h1
    obtain ⟨v, hv, hr⟩ := hl.get hy
    refine ⟨v, by cases y <;> exact hr, fun W => ?_⟩
    have hv' : vs[i]? = some v := by rw [← Array.getElem?_toList]; exact hv
    simp [execOp, he, Instr.extract, hv']
theorem qa_fieldAddr_e {t e : TypeId} {x : Operand} {n i j q : Nat} {ys : List (List Value)} (ht : flatF P t q = true) (hx : σ.ev x = .c (.ep e n ys i j)) : QAll P (.fieldAddr t x q) σ (.c (.ep e n ys i (j + q))) :=
  fun _ _ ρ f w _ _ _ _ _ h => by
    have h1 := h.ev x
    rw [hx] at h1
    obtain ⟨hi, g, v, hg, he, r⟩ := h1
    obtain ⟨fs, fd, hfs, hfd, ho, hw, hs⟩ := flatF_spec ht
    refine ⟨_, ⟨hi, g, v, hg, rfl, r⟩, fun W => ?_⟩
    obtain ⟨ii, h1, h2⟩ := Option.map_eq_some_iff.1 hs
    simp [execOp, he, Instr.fieldAt, run_underlying hfs, hfd, Instr.sureAddr, fieldPlace, sizeOf, typeInfo, h1, h2, ho, addr_add, Nat.add_assoc]
theorem qa_fieldAddr {t : TypeId} {x : Operand} {b o q : Nat} (ht : flatF P t q = true) (hx : σ.ev x = .c (.ptr b o)) : QAll P (.fieldAddr t x q) σ (.c (.ptr b (o + q))) :=
  fun _ _ ρ f w _ _ _ _ _ h => by
    have h1 := h.ev x
    rw [hx] at h1
    obtain ⟨g, hg, he⟩ := h1
    obtain ⟨fs, fd, hfs, hfd, ho, hw, hs⟩ := flatF_spec ht
    refine ⟨_, ⟨g, hg, rfl⟩, fun W => ?_⟩
    obtain ⟨ii, h1, h2⟩ := Option.map_eq_some_iff.1 hs
    simp [execOp, he, Instr.fieldAt, run_underlying hfs, hfd, Instr.sureAddr, fieldPlace, sizeOf, typeInfo, h1, h2, ho, addr_add, Nat.add_assoc]
def AT (P : Program) (w0 : World) (m0 : Gv) (l : List Oper) (Q : Exit → AS → Prop) (cand : List Nat) (listed : List Bool) (σ : AS) : Prop :=
  (∀ c σ, ¬ Q (.panic c) σ) → ∀ ρ a w, Rel P w0 m0 ρ σ a w → ∀ fuel, todo listed ≤ fuel → wpAnyT P .any l.toArray (lift P w0 m0 Q) (fun _ => True) l.length fuel listed.toArray a w
variable {cand : List Nat} {listed : List Bool}
theorem awp_region_at {id : Nat} (hm : P.follows .mixedOrders = true) (hq : ∀ c σ, ¬ Q (.panic c) σ) (hc : idxs 0 l = cand) (hl : l.map (fun _ => false) = listed) (h : AT P w0 m0 l Q cand listed σ) : AWp P w0 m0 (.region id l.toArray true) Q σ := fun ρ a w r => by
  subst hl
  have r' := r.world (Below.drew (Below.refl _ _) : Below w.heap.size w { w with drawn := w.drawn + 1 })
  have := h hq ρ a _ r' l.toArray.size (by
    unfold todo
    refine Nat.le_trans List.count_le_length ?_
    simp)
  refine wp_region_any hm ?_
  have e : (l.map fun _ => false).toArray = Array.replicate l.toArray.size false := by
    rw [List.map_const', List.size_toArray, List.toArray_replicate]
  rw [← e]
  exact anyT_any _ _ _ _ this
theorem at_take {i : Nat} {d : Option Tmp} {o : Op} {ty : TypeId} {pos : String} {af : Array Edge} {x : AV} (hi : l[i]? = some ⟨d, o, ty, pos, af, none⟩) (hs : Region.noSelect l.toArray = true) (hst : (sinkT .any l.toArray l.length && downB .any l listed) = true)
    (hf : Region.free .any l.toArray listed.toArray i = true) (hr : (Region.ready .any l.toArray listed.toArray).contains i = true) (hx : QAll P o σ x)
    (h : AT P w0 m0 l Q cand (listed.set i true) (σ.put d x)) : AT P w0 m0 l Q (i :: cand) listed σ := fun hq ρ a w r fuel hfu => by
  obtain ⟨u, h1, h2⟩ := hx w0 m0 ρ a w d ty pos af none r
  have hrr : i ∈ Region.ready .any l.toArray listed.toArray := by simpa using hr
  have ht := todo_set (listed_of (mem_ready.1 hrr).1)
  obtain ⟨f, rfl⟩ : ∃ f, fuel = f + 1 := ⟨fuel - 1, by omega⟩
  simp only [Bool.and_eq_true] at hst
  refine anyT_take (v := u) (oi := ⟨d, o, ty, pos, af, none⟩) (List.getElem?_eq_some_iff.1 hi).1 (by simpa using hi) hs hst.1 (fun c a w => noPanic hq) _ _ _ _ (Region.free_spec (by simpa using hi) hf) (downB_spec hst.2) hrr (.inl ⟨rfl, fun W _ => h2 W⟩) trivial ?_
  have := h hq ρ _ w (r.put d h1) f (by omega)
  rw [List.setIfInBounds_toArray]
  exact this
theorem at_skip {i : Nat} (h : AT P w0 m0 l Q cand listed σ) : AT P w0 m0 l Q (i :: cand) listed σ := h
theorem at_norm {listed' : List Bool} {τ : AS} (hl : listed = listed') (h : σ = τ) (k : AT P w0 m0 l Q cand listed' τ) : AT P w0 m0 l Q cand listed σ := by subst h hl; exact k
def ATs (P : Program) (w0 : World) (m0 : Gv) (l : List Oper) (Q : Exit → AS → Prop) (listed : List Bool) (σ : AS) : List Nat → Prop
  | [] => True
  | i :: rs => ((Region.ready .any l.toArray listed.toArray).contains i = false ∨ ∃ oi, l[i]? = some oi ∧ AR P w0 m0 l.toArray (fun e τ => e = .normal ∧ AT P w0 m0 l Q [] (listed.set i true) τ) [oi] σ) ∧ ATs P w0 m0 l Q listed σ rs
theorem ATs.get : ∀ {rs : List Nat}, ATs P w0 m0 l Q listed σ rs → ∀ i ∈ rs, (Region.ready .any l.toArray listed.toArray).contains i = true → ∃ oi, l[i]? = some oi ∧ AR P w0 m0 l.toArray (fun e τ => e = .normal ∧ AT P w0 m0 l Q [] (listed.set i true) τ) [oi] σ
  | _ :: _, h, i, hi, hc => by
    rcases List.mem_cons.1 hi with rfl | hi
    · exact h.1.resolve_left (by rw [hc]; simp)
    · exact ATs.get h.2 i hi hc
theorem ats_nil : ATs P w0 m0 l Q listed σ [] := trivial
theorem ats_no {i : Nat} {rs : List Nat} (hr : (Region.ready .any l.toArray listed.toArray).contains i = false) (h : ATs P w0 m0 l Q listed σ rs) : ATs P w0 m0 l Q listed σ (i :: rs) := ⟨.inl hr, h⟩
theorem ats_yes {i : Nat} {rs : List Nat} {oi : Oper} (hi : l[i]? = some oi) (h1 : AR P w0 m0 l.toArray (fun e τ => e = .normal ∧ AT P w0 m0 l Q [] (listed.set i true) τ) [oi] σ)
    (h : ATs P w0 m0 l Q listed σ rs) : ATs P w0 m0 l Q listed σ (i :: rs) := ⟨.inr ⟨oi, hi, h1⟩, h⟩
theorem at_all (hc : idxs 0 l = cand) (hne : (Region.ready .any l.toArray listed.toArray).isEmpty = false) (h : ATs P w0 m0 l Q listed σ cand) : AT P w0 m0 l Q [] listed σ := fun hq ρ a w q fuel hfu => by
  subst hc
  have hne' : Region.ready .any l.toArray listed.toArray ≠ [] := by intro e; rw [e] at hne; cases hne
  have hf : ∃ f, fuel = f + 1 := by
    obtain ⟨i, hi⟩ := List.exists_mem_of_ne_nil _ hne'
    have ht := todo_set (listed_of (mem_ready.1 hi).1)
    exact ⟨fuel - 1, by omega⟩
  obtain ⟨f, rfl⟩ := hf
  refine ⟨fun e => absurd e hne', fun i hi => ?_⟩
  have ht := todo_set (listed_of (mem_ready.1 hi).1)
  have hlt : i < l.length := by
    obtain ⟨_, o, ho, _⟩ := mem_ready.1 hi
    have := (Array.getElem?_eq_some_iff.1 ho).1
    simpa using this
  obtain ⟨oi, h1, h3⟩ := h.get i (idxs_mem l 0 i (by omega) (by omega)) (by simpa using hi)
  have h1' : l.toArray[i]? = some oi := by simpa using h1
  have h4 := h3 ρ a w q
  have h5 : wpOp P l.toArray (lift P w0 m0 (fun e τ => e = .normal ∧ AT P w0 m0 l Q [] (listed.set i true) τ)) i (fun a' w' => lift P w0 m0 (fun e τ => e = .normal ∧ AT P w0 m0 l Q [] (listed.set i true) τ) .normal a' w') a w := by
    unfold wpOp; simp only [h1']; exact h4
  refine wpOp_any (fun e a w ⟨_, _, h, _⟩ => h.1) ?_ h5
  rintro a' w' ⟨ρ', τ, ⟨_, hτ⟩, q'⟩
  refine ⟨fun _ => trivial, ?_⟩
  rw [List.setIfInBounds_toArray]
  exact hτ hq ρ' a' w' q' f (by omega)
theorem at_again (hc : idxs 0 l = cand) (h : AT P w0 m0 l Q cand listed σ) : AT P w0 m0 l Q [] listed σ := h
theorem at_done (hr : (Region.ready .any l.toArray listed.toArray).isEmpty = true) (h : Q .normal σ) : AT P w0 m0 l Q [] listed σ := fun _ ρ a w q fuel _ => anyT_done (by simpa using hr) ⟨ρ, σ, h, q⟩ _
end
end Go.Proofs.YtdlebdgdcpemmaaGreatDoor
