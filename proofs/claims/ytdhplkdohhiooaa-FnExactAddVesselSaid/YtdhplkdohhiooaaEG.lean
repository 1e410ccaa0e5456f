/- The abstract machine: structs written out. -/
import Derived.Test.YtdhplkdohhiooaaEF
namespace Go.Proofs.Ytdhplkdohhiooaa
open Go.RowKit
set_option linter.unusedVariables false
set_option linter.unusedSimpArgs false
def zstB (P : Program) (t : TypeId) : Bool := match P.underlying t with
  | some (.struct fs) => fs.toList.all fun f => (P.info? f.type).isSome
  | _ => false
theorem mapM_ok {P : Program} {α β : Type} (g : α → Sem β) : ∀ (l : List α), (∀ x ∈ l, ∀ W, ∃ y, (g x).run P W = .ok y W) → ∀ W, ∃ ys, (l.mapM g).run P W = .ok ys W
  | [], _, W => ⟨[], rfl⟩
  | x :: l, h, W => by
    obtain ⟨y, hy⟩ := h x (by simp) W
    obtain ⟨ys, hys⟩ := mapM_ok g l (fun z hz => h z (by simp [hz])) W
    refine ⟨y :: ys, ?_⟩
    rw [List.mapM_cons]
    simp only [Sem.run_bind, hy, hys, Sem.run_pure, Result.andThen_ok]
theorem mapM_eq {P : Program} {α β : Type} (g : α → Sem β) (k : α → β) : ∀ (l : List α), (∀ x ∈ l, ∀ W, (g x).run P W = .ok (k x) W) → ∀ W, (l.mapM g).run P W = .ok (l.map k) W
  | [], _, W => rfl
  | x :: l, h, W => by
    rw [List.mapM_cons]
    simp only [Sem.run_bind, h x (by simp), mapM_eq g k l (fun z hz => h z (by simp [hz])), Sem.run_pure, Result.andThen_ok, List.map_cons]
/-- The zero value of a struct. -/
theorem q_build0 {P : Program} {σ : AS} {t : TypeId} {ys : List Value} (hz : zeroC P t = some ys) (ht : zstB P t = true) : QOp P (.build t #[]) σ (.agg (ys.map cstC)) :=
  fun w0 m0 ρ a w d ty pos af gd r => by
    unfold zeroC at hz
    obtain ⟨i, hi, hz1⟩ := Option.bind_eq_some_iff.1 hz
    obtain ⟨z, hz2, rfl⟩ := Option.map_eq_some_iff.1 hz1
    refine ⟨.agg z.cells, ⟨z.cells, rfl, repL_cst z.cells.toList⟩, fun W _ => ?_⟩
    have hzv : (zeroValue t).run P W = .ok z W := by
      simp only [zeroValue, typeInfo, Sem.run_bind, run_program, Result.andThen_ok, hi, Sem.run_pure]
      rw [hz2]; rfl
    unfold zstB at ht
    split at ht
    · rename_i fs hu
      have hg : ∀ f ∈ fs.toList, ∀ W, ∃ y, (do pure (f.offset, ← sizeOf f.type) : Sem (Nat × Nat)).run P W = .ok y W := fun f hf W => by
        have h1 := List.all_eq_true.1 ht f hf
        obtain ⟨j, hj⟩ := Option.isSome_iff_exists.1 h1
        exact ⟨(f.offset, P.cellsOf f.type), by simp only [Sem.run_bind, run_sizeOf W hj, Result.andThen_ok, Sem.run_pure]⟩
      obtain ⟨ps, hps⟩ := mapM_ok _ fs.toList hg W
      have hb : (Instr.build t #[]).run P W = .ok (.agg z.cells) W := by
        unfold Instr.build
        simp only [Sem.run_bind, hzv, Result.andThen_ok, run_underlying hu]
        rw [Array.mapM_eq_mapM_toList]
        simp only [Sem.run_bind, Sem.run_map, hps, Result.andThen_ok, Instr.fill, Sem.run_pure]
      simp [execOp, hb]
    · cases ht
/-- The fields qs of a struct of one-cell fields are written into the cells cs. -/
def bldC (σ : AS) : List AC → List (Nat × Operand) → Option (List AC)
  | cs, [] => some cs
  | cs, q :: qs => match (σ.ev q.2).cells with
    | some [y] => if q.1 < cs.length then bldC σ (cs.set q.1 y) qs else none
    | _ => none
theorem RepL.set {P : Program} {ρ : Env} {w : World} : ∀ {xs : List AC} {vs : List Value} {i : Nat} {x : AC} {v : Value}, RepL P ρ w xs vs → RepC P ρ w x v → RepL P ρ w (xs.set i x) (vs.set i v)
  | [], [], _, _, _, _, _ => trivial
  | _ :: _, _ :: _, 0, _, _, h, k => ⟨k, h.2⟩
  | _ :: _, _ :: _, i + 1, _, _, h, k => ⟨h.1, RepL.set h.2 k⟩
theorem bldC_fill {P : Program} {σ : AS} {w0 : World} {m0 : Gv} {ρ : Env} {a : Act} {w : World} (r : Rel P w0 m0 ρ σ a w) (place : Nat → Option (Nat × Nat)) (n : Nat) (hp : ∀ i, i < n → place i = some (i, 1)) :
    ∀ (qs : List (Nat × Operand)) (cs ys : List AC) (vs : Array Value), cs.length = n → RepL P ρ w cs vs.toList → bldC σ cs qs = some ys →
      ∃ us : Array Value, Instr.fill place vs (qs.map fun q => (q.1, a.eval q.2)) = some us ∧ RepL P ρ w ys us.toList
  | [], cs, ys, vs, hn, hr, h => by
    simp only [bldC, Option.some.injEq] at h
    subst h
    exact ⟨vs, rfl, hr⟩
  | q :: qs, cs, ys, vs, hn, hr, h => by
    simp only [bldC] at h
    split at h
    · rename_i y hy
      split at h
      · rename_i hlt
        have hc := repL_cells (r.ev q.2) hy
        obtain ⟨v, hv⟩ : ∃ v, (a.eval q.2).cells.toList = [v] := by
          have := hc.len
          match hh : (a.eval q.2).cells.toList, this with
          | [v], _ => exact ⟨v, rfl⟩
        have hva : (a.eval q.2).cells = #[v] := by
          rw [← Array.toArray_toList (xs := (a.eval q.2).cells), hv]
        rw [hv] at hc
        have hsz : vs.size = n := by rw [← Array.length_toList, ← hr.len, hn]
        obtain ⟨us, h1, h2⟩ := bldC_fill r place n hp qs (cs.set q.1 y) ys (vs.setIfInBounds q.1 v) (by simp [hn]) (by rw [Array.toList_setIfInBounds]; exact hr.set hc.1) h
        refine ⟨us, ?_, h2⟩
        simp only [List.map_cons, Instr.fill, hp q.1 (by omega), hva]
        rw [if_neg (by simp; omega)]
        simpa using h1
      · cases h
    · cases h
theorem q_build {P : Program} {σ : AS} {t : TypeId} {n : Nat} {qs : List (Nat × Operand)} {zs : List Value} {ys : List AC} (hf : flatB P t n = true) (hz : zeroC P t = some zs) (hn : zs.length = n) (hv : bldC σ (zs.map cstC) qs = some ys) : QOp P (.build t qs.toArray) σ (.agg ys) :=
  fun w0 m0 ρ a w d ty pos af gd r => by
    unfold zeroC at hz
    obtain ⟨i, hi, hz1⟩ := Option.bind_eq_some_iff.1 hz
    obtain ⟨z, hz2, rfl⟩ := Option.map_eq_some_iff.1 hz1
    obtain ⟨fs, hu, hfs⟩ := flatB_spec hf
    have hzv : ∀ W, (zeroValue t).run P W = .ok z W := fun W => by
      simp only [zeroValue, typeInfo, Sem.run_bind, run_program, Result.andThen_ok, hi, Sem.run_pure]
      rw [hz2]; rfl
    have hsz : fs.size = n := by
      unfold flatB at hf
      rw [hu] at hf
      simp only [Bool.and_eq_true] at hf
      exact eq_of_beq hf.1
    have hmap : ∀ W, (fs.toList.mapM (fun f => (do pure (f.offset, ← sizeOf f.type) : Sem (Nat × Nat)))).run P W = .ok (fs.toList.map fun f => (f.offset, P.cellsOf f.type)) W := fun W => mapM_eq _ _ fs.toList (fun f hfm W => by
      obtain ⟨j, hj, he⟩ := List.getElem_of_mem hfm
      rw [Array.length_toList] at hj
      obtain ⟨f', e1, _, _, e2⟩ := hfs j (by omega)
      rw [Array.getElem?_eq_getElem hj] at e1
      injection e1 with e1
      rw [Array.getElem_toList] at he
      obtain ⟨ii, h1, _⟩ := Option.map_eq_some_iff.1 e2
      rw [← e1, he] at h1
      simp only [Sem.run_bind, run_sizeOf W h1, Result.andThen_ok, Sem.run_pure]) W
    obtain ⟨us, h1, h2⟩ := bldC_fill r (fun i => (fs.map fun f => (f.offset, P.cellsOf f.type))[i]?) n (fun i hin => by
      obtain ⟨f', e1, e0, _, e2⟩ := hfs i hin
      obtain ⟨ii, g1, g2⟩ := Option.map_eq_some_iff.1 e2
      simp only [Array.getElem?_map, e1, Option.map_some, e0]
      rw [show P.cellsOf f'.type = 1 by simp [Program.cellsOf, g1, g2]]) qs (z.cells.toList.map cstC) ys z.cells (by simpa using hn) (repL_cst _) hv
    refine ⟨.agg us, ⟨us, rfl, h2⟩, fun W _ => ?_⟩
    have hb : (Instr.build t (qs.toArray.map fun q => (q.1, a.eval q.2))).run P W = .ok (.agg us) W := by
      unfold Instr.build
      simp only [Sem.run_bind, hzv, Result.andThen_ok, run_underlying hu]
      rw [Array.mapM_eq_mapM_toList]
      simp only [Sem.run_bind, Sem.run_map, hmap, Result.andThen_ok]
      have e : (qs.toArray.map fun q => (q.1, a.eval q.2)).toList = qs.map fun q => (q.1, a.eval q.2) := by simp
      rw [e]
      have e2 : (fs.toList.map fun f => (f.offset, P.cellsOf f.type)).toArray = fs.map fun f => (f.offset, P.cellsOf f.type) := by
        rw [← Array.toList_map, Array.toArray_toList]
      rw [e2, h1]
      rfl
    rw [List.map_toArray] at hb
    simp [execOp, hb]
/-- string(r): a rune's text. -/
theorem q_conv_is {P : Program} {σ : AS} {s t : TypeId} {x : Operand} {k : IntKind} {n : Int} (hs : (P.underlying s).isSome = true) (ht : P.underlying t = some .string) (hx : σ.ev x = .c (.p (.int k n))) : QOp P (.convert s t x) σ (.c (.p (.string (Go.Utf8.encode n)))) :=
  fun _ _ ρ f w _ _ _ _ _ h => ⟨_, rfl, fun W _ => by
    obtain ⟨d, hd⟩ := Option.isSome_iff_exists.1 hs
    simp [execOp, h.evp hx, convert, run_underlying hd, run_underlying ht, Conv.intToString]⟩
end Go.Proofs.Ytdhplkdohhiooaa
