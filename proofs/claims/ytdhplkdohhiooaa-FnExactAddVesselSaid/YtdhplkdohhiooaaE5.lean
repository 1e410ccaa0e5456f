/- The abstract machine: operations that make memory or write the call's own; append. -/
import Derived.Test.YtdhplkdohhiooaaE4
namespace Go.Proofs.Ytdhplkdohhiooaa
open Go.RowKit
set_option linter.unusedVariables false

section
variable {P : Program} {σ : AS} {w0 : World} {m0 : Gv} {ρ : Env} {a : Act} {w : World}

/-- The cells of a value. -/
def AV.cells : AV → Option (List AC)
  | .c (.p (.agg _)) => none
  | .c (.p (.tuple _)) => none
  | .c .top => none
  | .c x => some [x]
  | .agg cs => some cs
  | .tup _ => none
theorem repL_cells {x : AV} {u : Value} {ys : List AC} (h : RepV P ρ w x u) (hy : x.cells = some ys) : RepL P ρ w ys u.cells.toList := by
  unfold AV.cells at hy
  split at hy
  · cases hy
  · cases hy
  · cases hy
  · rename_i x n1 n2 n3
    injection hy with hy
    subst hy
    have hu : u.cells = #[u] := by
      cases x with
      | top => exact absurd rfl n3
      | p v =>
        obtain rfl : u = v := h
        cases u <;> first | rfl | exact absurd rfl (n1 _) | exact absurd rfl (n2 _)
      | nl => obtain rfl : u = _ := h; rfl
      | sl e o xs => obtain ⟨A, c, rfl⟩ := (RepC.rdS h).val; rfl
      | ptr b o => obtain ⟨g, _, rfl⟩ := h; rfl
      | bsl b sn sc => obtain ⟨g, _, rfl⟩ := h; rfl
      | rp o cs => obtain ⟨g, off, rfl, _⟩ := h; rfl
      | sv v e xs => obtain ⟨_, _, h3⟩ := h; obtain ⟨A, c, rfl⟩ := h3.val; rfl
      | ep e n xs i j => obtain ⟨_, g, v, _, rfl, _⟩ := h; rfl
      | fo f bs => obtain ⟨vs, rfl, _⟩ := h; rfl
      | fr f css => obtain ⟨vs, rfl, _⟩ := h; rfl
    rw [hu]
    exact ⟨h, trivial⟩
  · injection hy with hy
    subst hy
    obtain ⟨vs, rfl, hl⟩ := h
    exact hl
  · cases hy

/-! ### A new block of the call's own -/
def AS.box (σ : AS) (ys : List AC) : AS := { σ with hp := σ.hp ++ [ys] }
theorem Rel.box (h : Rel P w0 m0 ρ σ a w) {ys : List AC} {vs : Array Value} (t : TypeId) (hl : RepL P ρ w ys vs.toList) :
    Rel P w0 m0 ⟨ρ.B, ρ.m ++ [w.heap.size], ρ.om, ρ.ov⟩ (σ.box ys) a (w.alloc (.cells vs t)) ∧ RepC P ⟨ρ.B, ρ.m ++ [w.heap.size], ρ.om, ρ.ov⟩ (w.alloc (.cells vs t)) (.ptr σ.hp.length 0) (.pointer (some ⟨w.heap.size, 0, none⟩)) := by
  have hsz : (w.alloc (.cells vs t)).heap.size = w.heap.size + 1 := World.size_alloc _ _
  have hold : ∀ g, g < w.heap.size → (w.alloc (.cells vs t)).heap[g]? = w.heap[g]? := fun g hg => Below.heap_alloc w _ g hg
  have st : Stab ρ w ⟨ρ.B, ρ.m ++ [w.heap.size], ρ.om, ρ.ov⟩ (w.alloc (.cells vs t)) := by
    refine ⟨rfl, by omega, fun g hg _ => hold g hg, fun b g hb => ?_, fun _ _ h => h, fun g hg h1 h2 => ⟨?_, h2⟩, fun g hg => (h.ob g hg).2.2, fun _ _ => rfl⟩
    · show (ρ.m ++ [w.heap.size])[b]? = some g
      rw [List.getElem?_append_left (List.getElem?_eq_some_iff.1 hb).1]; exact hb
    · show g ∉ ρ.m ++ [w.heap.size]
      simp only [List.mem_append, List.mem_singleton, not_or]
      exact ⟨h1, by omega⟩
  have hfr : Framed (m0.m ++ m0.l) w (w.alloc (.cells vs t)) := .of_below ((Below.refl _ _).alloc (Nat.le_refl _) _)
  have hw0 : w0.heap.size ≤ w.heap.size := h.fr.size
  refine ⟨⟨h.B, h.Bw, h.fr.trans hfr, ?_, ?_, ?_, ?_, h.no, h.lp, h.nx, by simp [AS.box, h.hl], fun b cs hc => ?_, h.tl, fun i x hx => (h.tm i x hx).keep st, h.df⟩, ?_⟩
  · obtain ⟨l, h1, h2⟩ := h.pre
    refine ⟨l ++ [w.heap.size], by rw [← List.append_assoc, ← h1], fun g hg => ?_⟩
    rcases List.mem_append.1 hg with hg | hg
    · exact h2 g hg
    · rw [List.mem_singleton.1 hg]; exact hw0
  · intro g hg
    rcases List.mem_append.1 hg with hg | hg
    · have := h.ml g hg; omega
    · rw [List.mem_singleton.1 hg]; omega
  · refine List.nodup_append.2 ⟨h.nd, by simp, fun x hx y hy => ?_⟩
    have := h.ml x hx
    rw [List.mem_singleton.1 hy]; omega
  · intro g hg
    obtain ⟨h1, h2, h3⟩ := h.ob g hg
    refine ⟨h1, by omega, ?_⟩
    simp only [List.mem_append, List.mem_singleton, not_or]
    exact ⟨h3, by omega⟩
  · simp only [AS.box] at hc
    by_cases hb : b < σ.hp.length
    · rw [List.getElem?_append_left hb] at hc
      obtain ⟨g, hg, us, t', h1, h2⟩ := h.hp b cs hc
      refine ⟨g, st.m b g hg, us, t', (hold g (h.ml g (List.mem_of_getElem? hg))).trans h1, h2.keep st⟩
    · rw [List.getElem?_append_right (by omega)] at hc
      have hb' : b = σ.hp.length := by
        have := (List.getElem?_eq_some_iff.1 hc).1; simp at this; omega
      subst hb'
      simp at hc
      subst hc
      refine ⟨w.heap.size, ?_, vs, ⟨t, (0, 0), .inl rfl⟩, heap_alloc_new w _, hl.keep st⟩
      show (ρ.m ++ [w.heap.size])[σ.hp.length]? = _
      rw [h.hl]; simp
  · refine ⟨w.heap.size, ?_, rfl⟩
    show (ρ.m ++ [w.heap.size])[σ.hp.length]? = _
    rw [h.hl]; simp

variable {ops : Array Oper} {Q : Exit → AS → Prop} {rest : List Oper} {d : Option Tmp} {ty : TypeId} {pos : String} {af : Array Edge}
theorem ar_val {o : Op} (x : AV) (τ : AS) (hq : ∀ ρ a w, Rel P w0 m0 ρ σ a w → ∃ u ρ' w', (execOp a.eval ⟨d, o, ty, pos, af, none⟩).run P w = .ok (.value u) w' ∧ Rel P w0 m0 ρ' τ a w' ∧ RepV P ρ' w' x u)
    (h : AR P w0 m0 ops Q rest (τ.put d x)) : AR P w0 m0 ops Q (⟨d, o, ty, pos, af, none⟩ :: rest) σ := fun ρ a w r => by
  obtain ⟨u, ρ', w', h1, h2, h3⟩ := hq ρ a w r
  refine wpList_plain rfl fun K hK => ?_
  unfold Oper.wp
  rw [h1]
  exact hK _ _ (h ρ' _ w' (h2.put d h3))
theorem ar_box {e : TypeId} {x : Operand} {ys : List AC} (hx : (σ.ev x).cells = some ys) (h : AR P w0 m0 ops Q rest ((σ.box ys).put d (.c (.ptr σ.hp.length 0)))) : AR P w0 m0 ops Q (⟨d, .box e x, ty, pos, af, none⟩ :: rest) σ :=
  ar_val _ _ (fun ρ a w r => by
    have hl := repL_cells (r.ev x) hx
    obtain ⟨h1, h2⟩ := r.box (vs := (a.eval x).cells) e hl
    exact ⟨_, _, _, by simp [execOp, Instr.box, newVar, newRow], h1, h2⟩) h
/-- The zero value's cells. -/
def zeroC (P : Program) (t : TypeId) : Option (List Value) := (P.info? t).bind fun i => i.zero.map fun z => z.cells.toList
theorem ar_alloc {e : TypeId} {ys : List Value} (hz : zeroC P e = some ys) (h : AR P w0 m0 ops Q rest ((σ.box (ys.map cstC)).put d (.c (.ptr σ.hp.length 0)))) : AR P w0 m0 ops Q (⟨d, .alloc e, ty, pos, af, none⟩ :: rest) σ :=
  ar_val _ _ (fun ρ a w r => by
    unfold zeroC at hz
    obtain ⟨i, hi, hz1⟩ := Option.bind_eq_some_iff.1 hz
    obtain ⟨z, hz2, rfl⟩ := Option.map_eq_some_iff.1 hz1
    obtain ⟨h1, h2⟩ := r.box (vs := z.cells) e (repL_cst _)
    have hzv : (zeroValue e).run P w = .ok z w := by
      simp only [zeroValue, typeInfo, Sem.run_bind, run_program, Result.andThen_ok, hi, Sem.run_pure]
      rw [hz2]; rfl
    exact ⟨_, _, _, by simp [execOp, Instr.alloc, hzv, newVar, newRow], h1, h2⟩) h

/-! ### A store -/
def okC : AC → Bool
  | .top => false
  | .p v => v.oneCell'
  | _ => true
theorem okC_one {x : AC} {v : Value} (hx : okC x = true) (h : RepC P ρ w x v) : v.oneCell' = true := by
  cases x with
  | top => cases hx
  | p u => obtain rfl : v = u := h; exact hx
  | nl => obtain rfl : v = _ := h; rfl
  | sl e o xs => obtain ⟨A, c, rfl⟩ := (RepC.rdS h).val; rfl
  | ptr b o => obtain ⟨g, _, rfl⟩ := h; rfl
  | bsl b sn sc => obtain ⟨g, _, rfl⟩ := h; rfl
  | rp o cs => obtain ⟨g, off, rfl, _⟩ := h; rfl
  | sv v e xs => obtain ⟨_, _, h3⟩ := h; obtain ⟨A, c, rfl⟩ := h3.val; rfl
  | ep e n xs i j => obtain ⟨_, g, v, _, rfl, _⟩ := h; rfl
  | fo f bs => obtain ⟨vs, rfl, _⟩ := h; rfl
  | fr f css => obtain ⟨vs, rfl, _⟩ := h; rfl
theorem okL_one : ∀ {xs : List AC} {vs : List Value}, xs.all okC = true → RepL P ρ w xs vs → ∀ v ∈ vs, v.oneCell' = true
  | [], [], _, _ => by simp
  | x :: xs, v :: vs, h, hl => by
    simp only [List.all_cons, Bool.and_eq_true] at h
    intro u hu
    rcases List.mem_cons.1 hu with rfl | hu
    · exact okC_one h.1 hl.1
    · exact okL_one h.2 hl.2 u hu
def setCells (cs : List AC) (o : Nat) (ys : List AC) : List AC := cs.take o ++ ys ++ cs.drop (o + ys.length)
def AS.sto (σ : AS) (b : Nat) (cs : List AC) : AS := { σ with hp := σ.hp.set b cs }
def sizeB (P : Program) (t : TypeId) (n : Nat) : Bool := (P.info? t).map (·.size) == some n
/-- A block of the call's own is written anew. -/
theorem Rel.sto (h : Rel P w0 m0 ρ σ a w) {b g : Nat} {cs : List AC} {vs : Array Value} (hb : ρ.m[b]? = some g) (w' : World) (t : TM vs) (hsz : w'.heap.size = w.heap.size) (hos : w'.os = w.os) (htp : w'.tape = w.tape) (hout : w'.output = w.output)
    (hoth : ∀ k, k ≠ g → w'.heap[k]? = w.heap[k]?) (hg : w'.heap[g]? = some (.cells vs t.t t.z)) (hl : RepL P ρ w cs vs.toList) : Rel P w0 m0 ρ (σ.sto b cs) a w' := by
  have hgm : g ∈ ρ.m := List.mem_of_getElem? hb
  have st : Stab ρ w ρ w' := ⟨rfl, by omega, fun k hk hn => hoth k (fun e => hn (e ▸ hgm)), fun _ _ h => h, fun _ _ h => h, fun _ _ h1 h2 => ⟨h1, h2⟩, fun g hg => (h.ob g hg).2.2, fun _ _ => rfl⟩
  have hfr : Framed (m0.m ++ m0.l) w0 w' := by
    refine ⟨hos.trans h.fr.os, htp.trans h.fr.tape, hout.trans h.fr.output, by rw [hsz]; exact h.fr.size, fun k hk hn => ?_⟩
    have hkg : k ≠ g := by
      rintro rfl
      obtain ⟨l, h1, h2⟩ := h.pre
      rw [h1] at hgm
      rcases List.mem_append.1 hgm with hm | hm
      · exact hn (List.mem_append_left _ hm)
      · have := h2 k hm; omega
    rw [hoth k hkg]
    exact h.fr.blk k hk hn
  refine { h with fr := hfr, ml := fun k hk => by rw [hsz]; exact h.ml k hk, ob := fun k hk => by rw [hsz]; exact h.ob k hk, hl := by simp [AS.sto, h.hl], hp := fun b' ds hd => ?_, tm := fun i x hx => (h.tm i x hx).keep st }
  simp only [AS.sto, List.getElem?_set] at hd
  by_cases hbb : b = b'
  · subst hbb
    rw [if_pos rfl] at hd
    split at hd
    · injection hd with hd
      subst hd
      exact ⟨g, hb, vs, t, hg, hl.keep st⟩
    · cases hd
  · rw [if_neg hbb] at hd
    obtain ⟨g', hg', us, t', h1, h2⟩ := h.hp b' ds hd
    have hne : g' ≠ g := by
      rintro rfl
      have hp := List.pairwise_iff_getElem.1 h.nd
      obtain ⟨l1, e1⟩ := List.getElem?_eq_some_iff.1 hb
      obtain ⟨l2, e2⟩ := List.getElem?_eq_some_iff.1 hg'
      rcases Nat.lt_or_gt_of_ne hbb with hlt | hlt
      · exact hp _ _ l1 l2 hlt (e1.trans e2.symm)
      · exact hp _ _ l2 l1 hlt (e2.trans e1.symm)
    exact ⟨g', hg', us, t', (hoth g' hne).trans h1, h2.keep st⟩
theorem ar_skip {o : Op} (τ : AS) (hq : ∀ ρ a w, Rel P w0 m0 ρ σ a w → ∃ ρ' w', (execOp a.eval ⟨d, o, ty, pos, af, none⟩).run P w = .ok .skip w' ∧ Rel P w0 m0 ρ' τ a w')
    (h : AR P w0 m0 ops Q rest (τ.put d .top)) : AR P w0 m0 ops Q (⟨d, o, ty, pos, af, none⟩ :: rest) σ := fun ρ a w r => by
  obtain ⟨ρ', w', h1, h2⟩ := hq ρ a w r
  refine wpList_plain rfl fun K hK => ?_
  unfold Oper.wp
  rw [h1]
  exact hK _ _ (h ρ' _ w' (h2.put d trivial))
theorem seg_size {vs : Array Value} {us : List Value} {o : Nat} (h : o + us.length ≤ vs.size) : (vs.toList.take o ++ us ++ vs.toList.drop (o + us.length)).toArray.size = vs.size := by
  simp; omega
/-- Cells that no mark covers are written. -/
theorem run_storeCells_mk (P : Program) (g o : Nat) (t : TypeId) (z : Nat × Nat) : ∀ (us : List Value) (i : Nat) (cur : Array Value) (w : World), w.heap[g]? = some (.cells cur t z) → (z = (0, 0) ∨ cur.size ≤ z.1) → o + i + us.length ≤ cur.size → (∀ v ∈ us, v.oneCell' = true) →
    (storeCells ⟨g, o, none⟩ us i).run P w = .ok () (w.setRow g (cur.toList.take (o + i) ++ us ++ cur.toList.drop (o + i + us.length)).toArray)
  | [], i, cur, w, hg, _, _, _ => by
    simp only [storeCells, List.append_nil, List.length_nil, Nat.add_zero, List.take_append_drop, Array.toArray_toList]
    rw [setRow_self w g cur t z hg]
    rfl
  | v :: us, i, cur, w, hg, hz, hl, h1 => by
    rw [List.length_cons] at hl
    have hi : o + i < cur.size := by omega
    have hno : w.frozen? ⟨g, o + i, none⟩ = false := by
      rcases hz with rfl | hz
      · simp [World.frozen?, hg]
      · simp [World.frozen?, hg]; omega
    have hone : (store ((⟨g, o, none⟩ : Addr).add i) v).run P w = .ok () (w.setRow g (cur.setIfInBounds (o + i) v)) := by
      rw [addr_add, run_store P w _ v _ (h1 v (by simp)), show w.cell? ⟨g, o + i, none⟩ = some cur[o + i] by simp [World.cell?, hg, hi]]
      simp [hno, setCell_eq_setRow w g (o + i) cur t z v hg]
    have ih := run_storeCells_mk P g o t z us (i + 1) (cur.setIfInBounds (o + i) v) (w.setRow g (cur.setIfInBounds (o + i) v)) (setRow_heap w g cur _ t _ hg) (hz.imp id fun h => by rw [Array.size_setIfInBounds]; exact h) (by rw [Array.size_setIfInBounds]; omega) (fun x hx => h1 x (List.mem_cons_of_mem _ hx))
    simp only [storeCells, Sem.run_bind, hone, Result.andThen_ok, ih, setRow_setRow]
    congr 3
    have e := list_seg_step cur.toList (o + i) v us (by simp; omega)
    simpa [Array.toList_setIfInBounds, Nat.add_assoc] using e
theorem ar_store {t : TypeId} {x y : Operand} {b o : Nat} {cs ys : List AC} (hx : σ.ev x = .c (.ptr b o)) (hh : σ.hp[b]? = some cs) (hy : (σ.ev y).cells = some ys) (hn : o + ys.length ≤ cs.length) (ht : sizeB P t ys.length = true) (hok : ys.all okC = true)
    (h : AR P w0 m0 ops Q rest ((σ.sto b (setCells cs o ys)).put d .top)) : AR P w0 m0 ops Q (⟨d, .store t x y, ty, pos, af, none⟩ :: rest) σ :=
  ar_skip _ (fun ρ a w r => by
    have h1 := r.ev x
    rw [hx] at h1
    obtain ⟨g, hg, he⟩ := h1
    obtain ⟨g', hg', vs, t', hb, hl⟩ := r.hp b cs hh
    obtain rfl : g = g' := by rw [hg] at hg'; injection hg'
    have hu := repL_cells (r.ev y) hy
    have hone := okL_one hok hu
    have hlen := hl.len
    have hulen := hu.len
    obtain ⟨ii, hi, hs⟩ := Option.map_eq_some_iff.1 (eq_of_beq ht)
    have hfit : o + (a.eval y).cells.toList.length ≤ vs.size := by rw [← hulen]; simp only [Array.length_toList] at hlen; omega
    have hst := run_storeCells_mk P g o t'.t t'.z (a.eval y).cells.toList 0 vs w hb t'.ok (by simpa using hfit) hone
    simp only [Nat.add_zero] at hst
    refine ⟨ρ, w.setRow g (vs.toList.take o ++ (a.eval y).cells.toList ++ vs.toList.drop (o + (a.eval y).cells.toList.length)).toArray, ?_, r.sto (cs := setCells cs o ys) (vs := (vs.toList.take o ++ (a.eval y).cells.toList ++ vs.toList.drop (o + (a.eval y).cells.toList.length)).toArray) hg _ ⟨t'.t, t'.z, t'.ok.imp id fun h => Nat.le_trans (Nat.le_of_eq (seg_size hfit)) h⟩ (size_setRow _ _ _) rfl rfl rfl (fun k hk => setRow_other w g k _ hk) (setRow_heap w g vs _ t'.t _ hb) ?_⟩
    · have hsz : (a.eval y).cells.size = ys.length := by rw [hulen]; simp
      simp [execOp, he, Instr.storeAt, Instr.sureAddr, storeVar, sizeOf, typeInfo, hi, hs, hsz, hst]
    · unfold setCells
      have h1 := (hl.take o).app hu
      have h2 := h1.app (hl.drop (o + ys.length))
      rw [hulen] at h2 ⊢
      simpa using h2) h

/-! ### New rows -/
def AS.row (σ : AS) : AS := { σ with nx := σ.nx + 1 }
/-- A new row of the call's own. -/
def Env.row (ρ : Env) (g : Nat) (v : Value) : Env := ⟨ρ.B, ρ.m, ρ.om ++ [g], fun x => if x = g then v else ρ.ov x⟩
theorem Rel.row (h : Rel P w0 m0 ρ σ a w) {w' : World} (g : Nat) (v : Value) (hb : Below w.heap.size w w') (hg : w.heap.size ≤ g) (hg' : g < w'.heap.size) :
    Rel P w0 m0 (ρ.row g v) σ.row a w' ∧ Stab ρ w (ρ.row g v) w' ∧ (ρ.om ++ [g])[σ.nx]? = some g := by
  have hw0 : w0.heap.size ≤ w.heap.size := h.fr.size
  have st : Stab ρ w (ρ.row g v) w' := by
    refine ⟨rfl, hb.size, fun k hk _ => hb.block k hk, fun _ _ h => h, fun b k hk => ?_, fun k hk h1 h2 => ⟨h1, ?_⟩, fun k hk => (h.ob k hk).2.2, fun k hk => ?_⟩
    · show (ρ.om ++ [g])[b]? = some k
      rw [List.getElem?_append_left (List.getElem?_eq_some_iff.1 hk).1]; exact hk
    · show k ∉ ρ.om ++ [g]
      simp only [List.mem_append, List.mem_singleton, not_or]
      exact ⟨h2, by omega⟩
    · show (if k = g then v else ρ.ov k) = ρ.ov k
      rw [if_neg (by have := (h.ob k hk).2.1; omega)]
  refine ⟨⟨h.B, h.Bw, h.fr.trans (.of_below hb), h.pre, fun k hk => Nat.lt_of_lt_of_le (h.ml k hk) hb.size, h.nd, fun k hk => ?_, ?_, fun j q hq => ?_, by simp [AS.row, Env.row, h.nx], h.hl, fun b cs hc => ?_, h.tl, fun i x hx => (h.tm i x hx).keep st, h.df⟩, st, ?_⟩
  · rcases List.mem_append.1 hk with hk | hk
    · obtain ⟨h1, h2, h3⟩ := h.ob k hk
      exact ⟨h1, Nat.lt_of_lt_of_le h2 hb.size, h3⟩
    · rw [List.mem_singleton.1 hk]
      exact ⟨.inr (by omega), hg', fun hm => by have := h.ml g hm; omega⟩
  · refine List.nodup_append.2 ⟨h.no, by simp, fun x hx y hy => ?_⟩
    have := (h.ob x hx).2.1
    rw [List.mem_singleton.1 hy]; omega
  · obtain ⟨h1, h2⟩ := h.lp j q hq
    exact ⟨st.om j q h1, by rw [st.ov q (List.mem_of_getElem? h1)]; exact h2⟩
  · obtain ⟨k, hk, us, t', h1, h2⟩ := h.hp b cs hc
    exact ⟨k, hk, us, t', (hb.block k (h.ml k (List.mem_of_getElem? hk))).trans h1, h2.keep st⟩
  · rw [← h.nx]; simp

/-! ### Append -/
theorem run_append_own' {P : Program} {w : World} {base : Nat} (t ty e : TypeId) (i : TypeInfo) (z : Value) (ht : P.underlying t = some (.slice e)) (hi : P.info? e = some i) (hz : i.zero = some z) (hzs : z.cells.size = i.size) (hsz : 0 < i.size)
    (v : Value) (n g : Nat) (xs : List Value) (hown : w.ownsRow base e i.size v n xs) (hvg : v.ownBlock = some g)
    (ad : Addr) (m c : Nat) (news : List Value) (hl : news.length = m * i.size) (hnews : ∀ j u, news[j]? = some u → w.cell? (ad.add j) = some u) (h1 : ∀ u ∈ news, u.oneCell' = true)
    (h63 : n + m ≤ maxLen) (hbytes : (n + m) * i.bytes ≤ 140737488355328) (hbase : base ≤ w.heap.size) :
    ∃ v' w' g', (Builtin.append_ #[t, t] ty #[v, .slice (some ad) m c]).run P w = .ok v' w' ∧ w'.ownsRow base e i.size v' (n + m) (xs ++ news) ∧ w.grownBy w' (some g) ∧ v'.ownBlock = some g' ∧ (g' = g ∨ w.heap.size ≤ g') := by
  obtain ⟨v', w', hr, h2, h3, h4⟩ := run_append_own (P := P) w base t ty e i z i.size i.bytes ht hi hz rfl rfl hzs hsz v n xs hown ad m c news hl hnews h1 h63 hbytes hbase
  rw [hvg] at h3
  have hsmall : n + m ≤ 9223372036854775807 := by simp only [maxLen] at h63; omega
  rcases hown.2 with ⟨rfl, _⟩ | ⟨g0, cap, cur, rfl, hbg, hg, hnc, hcm, hcs, htake⟩
  · simp [Value.ownBlock] at hvg
  · obtain rfl : g0 = g := by simpa [Value.ownBlock] using hvg
    by_cases hroom : n + m ≤ cap
    · have hfit : n * i.size + news.length ≤ cur.size := by rw [hl, hcs, ← Nat.add_mul]; exact Nat.mul_le_mul_right _ hroom
      have hr' := run_append_room (P := P) w t ty e i ht hi g0 n cap cur hg ad m c news hl hnews h1 hroom hfit
      rw [hr] at hr'
      injection hr' with e1 e2
      subst e1
      exact ⟨_, w', g0, hr, h2, h3, rfl, .inl rfl⟩
    · have holds : ∀ j u, xs[j]? = some u → w.cell? ((⟨g0, 0, none⟩ : Addr).add j) = some u := hown.cells (g := g0) rfl
      have hr' := run_append_grow (P := P) w t ty e i z ht hi hz ⟨g0, 0, none⟩ n cap xs hown.1 holds ad m c news hl hnews (by omega) (by omega) (growslice_fits (by omega) hbytes)
      rw [hr] at hr'
      injection hr' with e1 e2
      subst e1
      exact ⟨_, w', w.heap.size, hr, h2, h3, rfl, .inr (Nat.le_refl _)⟩
end
end Go.Proofs.Ytdhplkdohhiooaa
