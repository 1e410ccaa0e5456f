/- The abstract machine: function values with captured variables. -/
import Derived.Test.YtdlebdgdcpemmaaGreatDoorE9
import Derived.OrdersHeld
namespace Go.Proofs.YtdlebdgdcpemmaaGreatDoor
open Go.RowKit
set_option linter.unusedVariables false
section
variable {P : Program} {σ : AS} {w0 : World} {m0 : Gv} {ρ : Env} {a : Act} {w : World}
theorem ptrO_of {bs : List Nat} {xs : List Operand} (h : Rel P w0 m0 ρ σ a w) (e : xs.map σ.ev = bs.map fun b => .c (.ptr b 0)) : PtrO ρ bs (xs.map a.eval) := by
  induction xs generalizing bs with
  | nil => cases bs with
    | nil => trivial
    | cons b bs => cases e
  | cons x xs ih => cases bs with
    | nil => cases e
    | cons b bs =>
      simp only [List.map_cons, List.cons.injEq] at e
      have h1 := h.ev x
      rw [e.1] at h1
      exact ⟨h1, ih e.2⟩
/-- A function value that captures own blocks. -/
theorem q_makeFunc {f : FuncId} {xs : List Operand} (bs : List Nat) (e : xs.map σ.ev = bs.map fun b => .c (.ptr b 0)) : QOp P (.makeFunc (.func f) #[] xs.toArray) σ (.c (.fo f bs)) :=
  fun w0 m0 ρ a w d ty pos af gd r => by
    refine ⟨.func (.func f) #[] (xs.toArray.map a.eval), ⟨_, rfl, by simpa using ptrO_of r e⟩, fun W _ => ?_⟩
    simp [execOp, Instr.makeFunc]
/-- What a callee sees of an argument: captured own blocks of plain cells are others' blocks to it. -/
def AS.roF (σ : AS) : AV → AV
  | .c (.fo f bs) => match bs.mapM (fun b => (σ.hp[b]?).bind plainC) with
    | some css => .c (.fr f css)
    | none => .c .top
  | x => x.ro
theorem ptrR_of (h : Rel P w0 m0 ρ σ a w) : ∀ {bs : List Nat} {vs : List Value} {css : List (List Value)}, PtrO ρ bs vs → bs.mapM (fun b => (σ.hp[b]?).bind plainC) = some css → PtrR (E0 w.heap.size []) w css vs
  | [], [], css, _, e => by
    simp at e; subst e; trivial
  | b :: bs, v :: vs, css, ⟨⟨g, h1, h2⟩, k⟩, e => by
    rw [List.mapM_cons] at e
    cases hp : (σ.hp[b]?).bind plainC with
    | none => rw [hp] at e; cases e
    | some us =>
      cases hq : bs.mapM (fun b => (σ.hp[b]?).bind plainC) with
      | none => rw [hp, hq] at e; cases e
      | some css' =>
        rw [hp, hq] at e
        obtain rfl : us :: css' = css := by simpa using e
        obtain ⟨cs, hcs, hpl⟩ := Option.bind_eq_some_iff.1 hp
        obtain ⟨g', hg', ws, t', hb, hl⟩ := h.hp b cs hcs
        obtain rfl : g = g' := by rw [h1] at hg'; injection hg'
        rw [plainC_rep hpl] at hl
        have hl := repL_plain hl
        refine ⟨⟨g, 0, h2, h.ml g (List.mem_of_getElem? h1), ⟨by simp [E0], by simp [E0]⟩, fun j u hu => ?_⟩, ptrR_of h k hq⟩
        rw [Nat.zero_add, cell_of_row w g j ws t'.t t'.z hb, ← Array.getElem?_toList, hl]
        exact hu
theorem RepVs.ofF {w0 : World} {m0 : Gv} {ρ : Env} {a : Act} {w : World} (h : Rel P w0 m0 ρ σ a w) : ∀ xs : List Operand, RepVs P (E0 w.heap.size []) w (xs.map fun x => σ.roF (σ.ev x)) (xs.map a.eval)
  | [] => trivial
  | x :: xs => by
    refine ⟨?_, RepVs.ofF h xs⟩
    have h1 := h.ev x
    show RepV P _ w (σ.roF (σ.ev x)) (a.eval x)
    generalize σ.ev x = y at h1 ⊢
    unfold AS.roF
    split
    · rename_i f bs
      obtain ⟨vs, hv, hp⟩ := h1
      split
      · rename_i css hc
        exact ⟨vs, hv, ptrR_of h hp hc⟩
      · trivial
    · exact h1.ro h _ (by simp)
/-- A call that is handed function values. -/
theorem qt_callF {f : FuncId} {xs : List Operand} {ts : Array TypeId} {r : AV} {v : Value} (hf : callB P f = true) (hc : ACalls P f (xs.map fun x => σ.roF (σ.ev x)) [] r [] 0) (hv : plainV r = some v) :
    Qt P (.call { callee := .value (.func f), args := xs.toArray, argTypes := ts }) σ r := fun w0 m0 ρ a w d ty pos af gd h => by
  refine ⟨v, (plainV_rep hv).2 rfl, fun W hW => ?_⟩
  unfold Oper.quietAt
  rw [run_call hf]
  have hW' := h.world hW
  have := hc [] W (xs.toArray.map a.eval) List.nodup_nil (by simp) rfl (by simp) (by simpa using RepVs.ofF hW' xs)
  refine ⟨rfl, this.mono ?_⟩
  rintro e w' ⟨u, om, ov, rfl, _, _, _, h1, _, _, hfr⟩
  rw [plainV_rep hv] at h1
  subst h1
  exact ⟨rfl, hW.trans (hfr.below.mono hW.size)⟩
theorem RepVs.app {ρ : Env} : ∀ {xs ys : List AV} {us vs : List Value}, RepVs P ρ w xs us → RepVs P ρ w ys vs → RepVs P ρ w (xs ++ ys) (us ++ vs)
  | [], _, [], _, _, h => h
  | _ :: _, _, _ :: _, _, h, k => ⟨h.1, RepVs.app h.2 k⟩
theorem PtrR.vs {ρ : Env} : ∀ {css : List (List Value)} {vs : List Value}, PtrR ρ w css vs → RepVs P ρ w (css.map fun cs => .c (.rp .ro cs)) vs
  | [], [], _ => trivial
  | _ :: _, _ :: _, ⟨h, k⟩ => ⟨h, PtrR.vs k⟩
/-- A function value is called. -/
theorem qt_callD {f : FuncId} {y : Operand} {css : List (List Value)} {xs : List Operand} {ts : Array TypeId} {r : AV} {v : Value} (hf : callB P f = true) (hy : σ.ev y = .c (.fr f css))
    (hc : ACalls P f ((xs.map fun x => (σ.ev x).ro) ++ css.map fun cs => .c (.rp .ro cs)) [] r [] 0) (hv : plainV r = some v) :
    Qt P (.call { callee := .value y, args := xs.toArray, argTypes := ts }) σ r := fun w0 m0 ρ a w d ty pos af gd h => by
  refine ⟨v, (plainV_rep hv).2 rfl, fun W hW => ?_⟩
  have hW' := h.world hW
  have h1 := hW'.ev y
  rw [hy] at h1
  have h2 := RepV.ro (x := .c (.fr f css)) hW' W.heap.size (m := []) (by simp) h1
  obtain ⟨vs, he, hp⟩ := h2
  have hrun : (execOp a.eval ⟨d, .call { callee := .value y, args := xs.toArray, argTypes := ts }, ty, pos, af, gd⟩).run P W = .ok (.enter f (xs.toArray.map a.eval ++ vs)) W := by
    simp [execOp, resolve, he, Deferred.ofValue, invoke, run_enter hf]
  unfold Oper.quietAt
  rw [hrun]
  have := hc [] W (xs.toArray.map a.eval ++ vs) List.nodup_nil (by simp) rfl (by simp) (by
    rw [Array.toList_append]
    exact RepVs.app (by simpa using RepVs.of hW' xs) hp.vs)
  refine ⟨rfl, this.mono ?_⟩
  rintro e w' ⟨u, om, ov, rfl, _, _, _, h1, _, _, hfr⟩
  rw [plainV_rep hv] at h1
  subst h1
  exact ⟨rfl, hW.trans (hfr.below.mono hW.size)⟩
end
/-! ### Own blocks are forgotten -/
def AC.cut (n : Nat) : AC → AC
  | .ptr b o => if b < n then .ptr b o else .top
  | .bsl b sn sc => if b < n then .bsl b sn sc else .top
  | .fo f bs => if bs.all (fun b => decide (b < n)) then .fo f bs else .top
  | .top => .top
  | .p v => .p v
  | .nl => .nl
  | .sl e o xs => .sl e o xs
  | .rp o cs => .rp o cs
  | .sv v e xs => .sv v e xs
  | .ep e k xs i j => .ep e k xs i j
  | .fr f css => .fr f css
def AW.cut (n : Nat) : AW → AW
  | .c x => .c (x.cut n)
  | .agg cs => .agg (cs.map (AC.cut n))
def AV.cut (n : Nat) : AV → AV
  | .c x => .c (x.cut n)
  | .agg cs => .agg (cs.map (AC.cut n))
  | .tup ws => .tup (ws.map (AW.cut n))
def AS.cut (σ : AS) (n : Nat) : AS := ⟨σ.tm.map (AV.cut n), (σ.hp.take n).map (List.map (AC.cut n)), σ.nx⟩
def Env.cut (ρ : Env) (n : Nat) : Env := ⟨ρ.B, ρ.m.take n, ρ.om, ρ.ov⟩
section
variable {P : Program} {σ : AS} {w0 : World} {m0 : Gv} {ρ : Env} {a : Act} {w : World} {n : Nat}
theorem Ow.cut {o : Ow} {g : Nat} (h : o.at_ ρ g) : o.at_ (ρ.cut n) g := by
  cases o with
  | ro => exact ⟨fun hm => h.1 (List.mem_of_mem_take hm), h.2⟩
  | own k => exact h
  | sub k => exact h
theorem RdS.cut {e : TypeId} {o : Ow} {xs : List (List Value)} {u : Value} (k : RdS P ρ w e o xs u) : RdS P (ρ.cut n) w e o xs u := by
  rcases k with k | ⟨g, off, c, rfl, hc, hg, ha, he⟩
  · exact .inl k
  · exact .inr ⟨g, off, c, rfl, hc, hg, Ow.cut ha, he⟩
theorem PtrO.cut : ∀ {bs : List Nat} {vs : List Value}, bs.all (fun b => decide (b < n)) = true → PtrO ρ bs vs → PtrO (ρ.cut n) bs vs
  | [], [], _, _ => trivial
  | b :: bs, v :: vs, hb, ⟨⟨g, h1, h2⟩, k⟩ => by
    simp only [List.all_cons, Bool.and_eq_true, decide_eq_true_eq] at hb
    exact ⟨⟨g, by show (ρ.m.take n)[b]? = some g; rw [List.getElem?_take, if_pos hb.1]; exact h1, h2⟩, PtrO.cut hb.2 k⟩
theorem PtrR.cut : ∀ {css : List (List Value)} {vs : List Value}, PtrR ρ w css vs → PtrR (ρ.cut n) w css vs
  | [], [], _ => trivial
  | _ :: _, _ :: _, ⟨⟨g, off, e, hg, ha, hc⟩, q⟩ => ⟨⟨g, off, e, hg, Ow.cut (o := .ro) ha, hc⟩, PtrR.cut q⟩
theorem RepC.cut {x : AC} {u : Value} (k : RepC P ρ w x u) : RepC P (ρ.cut n) w (x.cut n) u := by
  cases x with
  | top => trivial
  | p v => exact k
  | nl => exact k
  | sl e o xs =>
    refine ⟨k.1, ?_⟩
    have k2 := k.2
    cases o with
    | ro => exact RdS.cut k2
    | sub j => exact RdS.cut k2
    | own j => exact k2
  | ptr b o =>
    obtain ⟨g, h1, h2⟩ := k
    show RepC P (ρ.cut n) w (if b < n then .ptr b o else .top) u
    by_cases hb : b < n
    · rw [if_pos hb]
      exact ⟨g, by show (ρ.m.take n)[b]? = some g; rw [List.getElem?_take, if_pos hb]; exact h1, h2⟩
    · rw [if_neg hb]; trivial
  | bsl b sn sc =>
    obtain ⟨g, h1, h2⟩ := k
    show RepC P (ρ.cut n) w (if b < n then .bsl b sn sc else .top) u
    by_cases hb : b < n
    · rw [if_pos hb]
      exact ⟨g, by show (ρ.m.take n)[b]? = some g; rw [List.getElem?_take, if_pos hb]; exact h1, h2⟩
    · rw [if_neg hb]; trivial
  | rp o cs => obtain ⟨g, off, rfl, hg, ha, hc⟩ := k; exact ⟨g, off, rfl, hg, Ow.cut ha, hc⟩
  | sv v e xs => exact ⟨k.1, k.2.1, RdS.cut k.2.2⟩
  | ep e j xs a b => exact k
  | fo f bs =>
    obtain ⟨vs, h1, h2⟩ := k
    show RepC P (ρ.cut n) w (if bs.all (fun b => decide (b < n)) then .fo f bs else .top) u
    by_cases hb : bs.all (fun b => decide (b < n)) = true
    · rw [if_pos hb]; exact ⟨vs, h1, h2.cut hb⟩
    · rw [if_neg hb]; trivial
  | fr f css => obtain ⟨vs, h1, h2⟩ := k; exact ⟨vs, h1, h2.cut⟩
theorem RepL.cut : ∀ {xs : List AC} {vs : List Value}, RepL P ρ w xs vs → RepL P (ρ.cut n) w (xs.map (AC.cut n)) vs
  | [], [], _ => trivial
  | _ :: _, _ :: _, k => ⟨k.1.cut, RepL.cut k.2⟩
theorem RepW.cut {x : AW} {u : Value} (k : RepW P ρ w x u) : RepW P (ρ.cut n) w (x.cut n) u := by
  cases x with
  | c x => exact RepC.cut k
  | agg cs => obtain ⟨vs, rfl, hl⟩ := k; exact ⟨vs, rfl, hl.cut⟩
theorem RepWs.cut : ∀ {xs : List AW} {vs : List Value}, RepWs P ρ w xs vs → RepWs P (ρ.cut n) w (xs.map (AW.cut n)) vs
  | [], [], _ => trivial
  | _ :: _, _ :: _, k => ⟨k.1.cut, RepWs.cut k.2⟩
theorem RepV.cut {x : AV} {u : Value} (k : RepV P ρ w x u) : RepV P (ρ.cut n) w (x.cut n) u := by
  cases x with
  | c x => exact RepC.cut k
  | agg cs => obtain ⟨vs, rfl, hl⟩ := k; exact ⟨vs, rfl, hl.cut⟩
  | tup ws => obtain ⟨vs, rfl, hl⟩ := k; exact ⟨vs, rfl, hl.cut⟩
theorem Rel.cut (h : Rel P w0 m0 ρ σ a w) (hn : m0.m.length ≤ n) : Rel P w0 m0 (ρ.cut n) (σ.cut n) a w := by
  refine ⟨h.B, h.Bw, h.fr, ?_, fun g hg => h.ml g (List.mem_of_mem_take hg), h.nd.sublist (List.take_sublist _ _), fun g hg => ⟨(h.ob g hg).1, (h.ob g hg).2.1, fun hm => (h.ob g hg).2.2 (List.mem_of_mem_take hm)⟩, h.no, h.lp, h.nx, by simp [AS.cut, Env.cut, h.hl], fun b cs hc => ?_, by simp [AS.cut, h.tl], fun i x hx => ?_, h.df⟩
  · obtain ⟨l, h1, h2⟩ := h.pre
    refine ⟨l.take (n - m0.m.length), ?_, fun g hg => h2 g (List.mem_of_mem_take hg)⟩
    show ρ.m.take n = _
    rw [h1, List.take_append, List.take_of_length_le hn]
  · simp only [AS.cut, List.getElem?_map, List.getElem?_take] at hc
    by_cases hb : b < n
    · rw [if_pos hb] at hc
      obtain ⟨ds, h1, rfl⟩ := Option.map_eq_some_iff.1 hc
      obtain ⟨g, hg, us, t, h3, h4⟩ := h.hp b ds h1
      exact ⟨g, by show (ρ.m.take n)[b]? = some g; rw [List.getElem?_take, if_pos hb]; exact hg, us, t, h3, h4.cut⟩
    · rw [if_neg hb] at hc; cases hc
  · simp only [AS.cut, List.getElem?_map] at hx
    obtain ⟨y, h1, rfl⟩ := Option.map_eq_some_iff.1 hx
    exact (h.tm i y h1).cut
/-- A loop whose rounds box variables anew: behind a round the blocks from k on are forgotten. -/
theorem awp_loopK {α : Type} {c : Code} {Q : Exit → AS → Prop} (k : Nat) (hk : m0.m.length ≤ k) (keep : List Nat) (V : α → List (Nat × AV)) (H : α → List (List AC)) (N : α → Nat) (R : Nat → α → Prop) (n0 : Nat) (x0 : α) (h0 : R n0 x0) (hle : σ.le (σ.head keep (V x0) (H x0) (N x0)))
    (round : ∀ n x, R n x → AWp P w0 m0 c (Exit.thenA (fun σ' => ∃ n' x', n' < n ∧ R n' x' ∧ (σ'.cut k).le (σ.head keep (V x') (H x') (N x'))) Q) (σ.head keep (V x) (H x) (N x))) : AWp P w0 m0 (.loop c) Q σ :=
  awp_loop (fun n τ => ∃ x, R n x ∧ τ = σ.head keep (V x) (H x) (N x)) n0 ⟨_, hle, x0, h0, rfl⟩ fun n τ ⟨x, hR, he⟩ => by
    subst he
    intro ρ a w r
    refine wp_mono (round n x hR ρ a w r) fun e a' w' ⟨ρ', σ', q, r'⟩ => ?_
    cases e <;> first | exact ⟨ρ', σ', q, r'⟩ | (obtain ⟨n', x', h1, h2, h3⟩ := q; exact ⟨ρ'.cut k, σ'.cut k, ⟨n', _, h1, h3, x', h2, rfl⟩, r'.cut hk⟩)
end
end Go.Proofs.YtdlebdgdcpemmaaGreatDoor
namespace Go.Proofs.YtdlebdgdcpemmaaGreatDoor
open Go.RowKit
set_option linter.unusedVariables false
set_option linter.unusedSimpArgs false
def zstB (P : Program) (t : TypeId) : Bool := match P.underlying t with
  | some (.struct fs) => fs.toList.all fun f => (P.info? f.type).isSome
  | _ => false
theorem mapM_ok {P : Program} {α β : Type} (g : α → Sem β) : ∀ (l : List α), (∀ x ∈ l, ∀ W, ∃ y, (g x).run P W = .ok y W) → ∀ W, ∃ ys, (l.mapM g).run P W = .ok ys W
  | [], _, W => ⟨[], rfl⟩
  | x :: l, h, W => by
    obtain ⟨y, hy⟩ := h x (by simp) W
    obtain ⟨ys, hys⟩ := mapM_ok g l (fun z hz => h z (by simp [hz])) W
    refine ⟨y :: ys, ?_⟩
    rw [List.mapM_cons]
    simp only [Sem.run_bind, hy, hys, Sem.run_pure, Result.andThen_ok]
theorem mapM_eq {P : Program} {α β : Type} (g : α → Sem β) (k : α → β) : ∀ (l : List α), (∀ x ∈ l, ∀ W, (g x).run P W = .ok (k x) W) → ∀ W, (l.mapM g).run P W = .ok (l.map k) W
  | [], _, W => rfl
  | x :: l, h, W => by
    rw [List.mapM_cons]
    simp only [Sem.run_bind, h x (by simp), mapM_eq g k l (fun z hz => h z (by simp [hz])), Sem.run_pure, Result.andThen_ok, List.map_cons]
/-- The zero value of a struct. -/
theorem q_build0 {P : Program} {σ : AS} {t : TypeId} {ys : List Value} (hz : zeroC P t = some ys) (ht : zstB P t = true) : QOp P (.build t #[]) σ (.agg (ys.map cstC)) :=
  fun w0 m0 ρ a w d ty pos af gd r => by
    unfold zeroC at hz
    obtain ⟨i, hi, hz1⟩ := Option.bind_eq_some_iff.1 hz
    obtain ⟨z, hz2, rfl⟩ := Option.map_eq_some_iff.1 hz1
    refine ⟨.agg z.cells, ⟨z.cells, rfl, repL_cst z.cells.toList⟩, fun W _ => ?_⟩
    have hzv : (zeroValue t).run P W = .ok z W := by
      simp only [zeroValue, typeInfo, Sem.run_bind, run_program, Result.andThen_ok, hi, Sem.run_pure]
      rw [hz2]; rfl
    unfold zstB at ht
    split at ht
    · rename_i fs hu
      have hg : ∀ f ∈ fs.toList, ∀ W, ∃ y, (do pure (f.offset, ← sizeOf f.type) : Sem (Nat × Nat)).run P W = .ok y W := fun f hf W => by
        have h1 := List.all_eq_true.1 ht f hf
        obtain ⟨j, hj⟩ := Option.isSome_iff_exists.1 h1
        exact ⟨(f.offset, P.cellsOf f.type), by simp only [Sem.run_bind, run_sizeOf W hj, Result.andThen_ok, Sem.run_pure]⟩
      obtain ⟨ps, hps⟩ := mapM_ok _ fs.toList hg W
      have hb : (Instr.build t #[]).run P W = .ok (.agg z.cells) W := by
        unfold Instr.build
        simp only [Sem.run_bind, hzv, Result.andThen_ok, run_underlying hu]
        rw [Array.mapM_eq_mapM_toList]
        simp only [Sem.run_bind, Sem.run_map, hps, Result.andThen_ok, Instr.fill, Sem.run_pure]
      simp [execOp, hb]
    · cases ht
/-- The fields qs of a struct of one-cell fields are written into the cells cs. -/
def bldC (σ : AS) : List AC → List (Nat × Operand) → Option (List AC)
  | cs, [] => some cs
  | cs, q :: qs => match (σ.ev q.2).cells with
    | some [y] => if q.1 < cs.length then bldC σ (cs.set q.1 y) qs else none
    | _ => none
theorem RepL.set {P : Program} {ρ : Env} {w : World} : ∀ {xs : List AC} {vs : List Value} {i : Nat} {x : AC} {v : Value}, RepL P ρ w xs vs → RepC P ρ w x v → RepL P ρ w (xs.set i x) (vs.set i v)
  | [], [], _, _, _, _, _ => trivial
  | _ :: _, _ :: _, 0, _, _, h, k => ⟨k, h.2⟩
  | _ :: _, _ :: _, i + 1, _, _, h, k => ⟨h.1, RepL.set h.2 k⟩
theorem bldC_fill {P : Program} {σ : AS} {w0 : World} {m0 : Gv} {ρ : Env} {a : Act} {w : World} (r : Rel P w0 m0 ρ σ a w) (place : Nat → Option (Nat × Nat)) (n : Nat) (hp : ∀ i, i < n → place i = some (i, 1)) :
    ∀ (qs : List (Nat × Operand)) (cs ys : List AC) (vs : Array Value), cs.length = n → RepL P ρ w cs vs.toList → bldC σ cs qs = some ys →
      ∃ us : Array Value, Instr.fill place vs (qs.map fun q => (q.1, a.eval q.2)) = some us ∧ RepL P ρ w ys us.toList
  | [], cs, ys, vs, hn, hr, h => by
    simp only [bldC, Option.some.injEq] at h
    subst h
    exact ⟨vs, rfl, hr⟩
  | q :: qs, cs, ys, vs, hn, hr, h => by
    simp only [bldC] at h
    split at h
    · rename_i y hy
      split at h
      · rename_i hlt
        have hc := repL_cells (r.ev q.2) hy
        obtain ⟨v, hv⟩ : ∃ v, (a.eval q.2).cells.toList = [v] := by
          have := hc.len
          match hh : (a.eval q.2).cells.toList, this with
          | [v], _ => exact ⟨v, rfl⟩
        have hva : (a.eval q.2).cells = #[v] := by
          rw [← Array.toArray_toList (xs := (a.eval q.2).cells), hv]
        rw [hv] at hc
        have hsz : vs.size = n := by rw [← Array.length_toList, ← hr.len, hn]
        obtain ⟨us, h1, h2⟩ := bldC_fill r place n hp qs (cs.set q.1 y) ys (vs.setIfInBounds q.1 v) (by simp [hn]) (by rw [Array.toList_setIfInBounds]; exact hr.set hc.1) h
        refine ⟨us, ?_, h2⟩
        simp only [List.map_cons, Instr.fill, hp q.1 (by omega), hva]
        rw [if_neg (by simp; omega)]
        simpa using h1
      · cases h
    · cases h
theorem q_build {P : Program} {σ : AS} {t : TypeId} {n : Nat} {qs : List (Nat × Operand)} {zs : List Value} {ys : List AC} (hf : flatB P t n = true) (hz : zeroC P t = some zs) (hn : zs.length = n) (hv : bldC σ (zs.map cstC) qs = some ys) : QOp P (.build t qs.toArray) σ (.agg ys) :=
  fun w0 m0 ρ a w d ty pos af gd r => by
    unfold zeroC at hz
    obtain ⟨i, hi, hz1⟩ := Option.bind_eq_some_iff.1 hz
    obtain ⟨z, hz2, rfl⟩ := Option.map_eq_some_iff.1 hz1
    obtain ⟨fs, hu, hfs⟩ := flatB_spec hf
    have hzv : ∀ W, (zeroValue t).run P W = .ok z W := fun W => by
      simp only [zeroValue, typeInfo, Sem.run_bind, run_program, Result.andThen_ok, hi, Sem.run_pure]
      rw [hz2]; rfl
    have hsz : fs.size = n := by
      unfold flatB at hf
      rw [hu] at hf
      simp only [Bool.and_eq_true] at hf
      exact eq_of_beq hf.1
    have hmap : ∀ W, (fs.toList.mapM (fun f => (do pure (f.offset, ← sizeOf f.type) : Sem (Nat × Nat)))).run P W = .ok (fs.toList.map fun f => (f.offset, P.cellsOf f.type)) W := fun W => mapM_eq _ _ fs.toList (fun f hfm W => by
      obtain ⟨j, hj, he⟩ := List.getElem_of_mem hfm
      rw [Array.length_toList] at hj
      obtain ⟨f', e1, _, _, e2⟩ := hfs j (by omega)
      rw [Array.getElem?_eq_getElem hj] at e1
      injection e1 with e1
      rw [Array.getElem_toList] at he
      obtain ⟨ii, h1, _⟩ := Option.map_eq_some_iff.1 e2
      rw [← e1, he] at h1
      simp only [Sem.run_bind, run_sizeOf W h1, Result.andThen_ok, Sem.run_pure]) W
    obtain ⟨us, h1, h2⟩ := bldC_fill r (fun i => (fs.map fun f => (f.offset, P.cellsOf f.type))[i]?) n (fun i hin => by
      obtain ⟨f', e1, e0, _, e2⟩ := hfs i hin
      obtain ⟨ii, g1, g2⟩ := Option.map_eq_some_iff.1 e2
      simp only [Array.getElem?_map, e1, Option.map_some, e0]
      rw [show P.cellsOf f'.type = 1 by simp [Program.cellsOf, g1, g2]]) qs (z.cells.toList.map cstC) ys z.cells (by simpa using hn) (repL_cst _) hv
    refine ⟨.agg us, ⟨us, rfl, h2⟩, fun W _ => ?_⟩
    have hb : (Instr.build t (qs.toArray.map fun q => (q.1, a.eval q.2))).run P W = .ok (.agg us) W := by
      unfold Instr.build
      simp only [Sem.run_bind, hzv, Result.andThen_ok, run_underlying hu]
      rw [Array.mapM_eq_mapM_toList]
      simp only [Sem.run_bind, Sem.run_map, hmap, Result.andThen_ok]
      have e : (qs.toArray.map fun q => (q.1, a.eval q.2)).toList = qs.map fun q => (q.1, a.eval q.2) := by simp
      rw [e]
      have e2 : (fs.toList.map fun f => (f.offset, P.cellsOf f.type)).toArray = fs.map fun f => (f.offset, P.cellsOf f.type) := by
        rw [← Array.toList_map, Array.toArray_toList]
      rw [e2, h1]
      rfl
    rw [List.map_toArray] at hb
    simp [execOp, hb]
end Go.Proofs.YtdlebdgdcpemmaaGreatDoor
namespace Go.Proofs.YtdlebdgdcpemmaaGreatDoor
open Go.RowKit
set_option linter.unusedVariables false
set_option linter.unusedSimpArgs false

/-- The state as a callee would see it: all that was there is only read. -/
def plainB : List (List AC) → Nat → Option (List Value)
  | [], _ => none
  | cs :: _, 0 => plainC cs
  | _ :: r, n + 1 => plainB r n
def rpO : Option (List Value) → Nat → AV
  | some us, o => .c (.rp .ro (us.drop o))
  | none, _ => .c .top
/-- A pointer to an own block of plain cells reads, as long as the block stays. -/
def AV.roB (hp : List (List AC)) : AV → AV
  | .c (.ptr b o) => rpO (plainB hp b) o
  | .c (.bsl b sn sc) => .c .top
  | .c .top => .c .top
  | .c (.p v) => .c (.p v)
  | .c .nl => .c .nl
  | .c (.sl e o xs) => .c (.sl e .ro xs)
  | .c (.rp o cs) => .c (.rp .ro cs)
  | .c (.sv v e xs) => .c (.sv v e xs)
  | .c (.ep e k xs i j) => .c .top
  | .c (.fo f bs) => .c .top
  | .c (.fr f css) => .c (.fr f css)
  | .agg cs => .agg (cs.map AC.ro)
  | .tup ws => .tup (ws.map AW.ro)
def AS.inn (σ : AS) : AS := ⟨σ.tm.map (AV.roB σ.hp), [], 0⟩
theorem plainB_get : ∀ {hp : List (List AC)} {b : Nat} {us : List Value}, plainB hp b = some us → ∃ cs, hp[b]? = some cs ∧ plainC cs = some us
  | cs :: _, 0, us, h => ⟨cs, rfl, h⟩
  | _ :: r, n + 1, us, h => plainB_get (hp := r) (b := n) h
def Gv.inn (B : Nat) : Gv := ⟨B, [], [], fun _ => .tuple #[]⟩
/-- The slots that the operations not yet listed write. -/
def dsOf (l : List Oper) (listed : List Bool) : List Nat := ((l.zip listed).filter fun p => !p.2).filterMap fun p => p.1.dst
/-- A value as the caller sees it: of the new rows those of p stay, in this order, behind the n that were there; the new blocks lie behind the hb that were there. -/
def AC.bk (p : List Nat) (n hb : Nat) : AC → AC
  | .p v => .p v
  | .nl => .nl
  | .sl e (.own j) xs => if p.elem j then .sl e (.own (n + p.idxOf j)) xs else .top
  | .ptr b o => .ptr (hb + b) o
  | .bsl b sn sc => .bsl (hb + b) sn sc
  | _ => .top
def AW.bk (p : List Nat) (n hb : Nat) : AW → AW
  | .c x => .c (x.bk p n hb)
  | .agg cs => .agg (cs.map (AC.bk p n hb))
def AV.bk (p : List Nat) (n hb : Nat) : AV → AV
  | .c x => .c (x.bk p n hb)
  | .agg cs => .agg (cs.map (AC.bk p n hb))
  | .tup ws => .tup (ws.map (AW.bk p n hb))
def backT (ds p : List Nat) (n hb : Nat) : Nat → List AV → List AV → List AV
  | i, x :: xs, y :: ys => (if ds.elem i then y.bk p n hb else x) :: backT ds p n hb (i + 1) xs ys
  | _, _, _ => []
/-- Back in the caller's state. -/
def AS.back (ds p : List Nat) (σ τ : AS) : AS := ⟨backT ds p σ.nx σ.hp.length 0 σ.tm τ.tm, σ.hp ++ τ.hp.map (List.map (AC.bk p σ.nx σ.hp.length)), σ.nx + p.length⟩
/-- The frames differ in the slots ds at most. -/
def Off (ds : List Nat) (a0 a : Act) : Prop := a.defers = [] ∧ a.tmps.size = a0.tmps.size ∧ ∀ i, ds.elem i = false → a.tmps.getD i undef = a0.tmps.getD i undef
section
variable {P : Program} {σ : AS} {w0 : World} {m0 : Gv} {ρ : Env} {a : Act} {w : World} {ops : Array Oper} {Q : Exit → AS → Prop}

theorem Rel.inn (h : Rel P w0 m0 ρ σ a w) : Rel P w (Gv.inn ρ.B) (E0 ρ.B []) σ.inn a w := by
  have hB : ρ.B ≤ w.heap.size := by rw [h.B]; exact Nat.le_trans h.Bw h.fr.size
  refine ⟨rfl, hB, .refl _ _, ⟨[], rfl, by simp⟩, by simp [E0], by simp [E0], by simp [E0], by simp [E0], by simp [Gv.inn], rfl, rfl, by simp [AS.inn], by simp [AS.inn, h.tl], fun i x hx => ?_, h.df⟩
  simp only [AS.inn, List.getElem?_map] at hx
  obtain ⟨y, hy, rfl⟩ := Option.map_eq_some_iff.1 hx
  have h1 := h.tm i y hy
  have h2 := h1.ro h ρ.B (m := []) (by simp)
  cases y with
  | agg cs => exact h2
  | tup ws => exact h2
  | c x =>
    cases x with
    | ptr b o =>
      show RepV P (E0 ρ.B []) w (rpO (plainB σ.hp b) o) _
      cases hb : plainB σ.hp b with
      | none => trivial
      | some us =>
        obtain ⟨cs, e1, e2⟩ := plainB_get hb
        obtain ⟨g, hg, he⟩ := h1
        obtain ⟨g', hg', vs, t', hbl, hl⟩ := h.hp b cs e1
        obtain rfl : g = g' := by rw [hg] at hg'; injection hg'
        rw [plainC_rep e2] at hl
        have hv := repL_plain hl
        refine ⟨g, o, he, h.ml g (List.mem_of_getElem? hg), ⟨by simp [E0], by simp [E0]⟩, fun j v hv2 => ?_⟩
        rw [List.getElem?_drop] at hv2
        rw [← hv] at hv2
        simp only [World.cell?, hbl]
        simpa using hv2
    | bsl b sn sc => exact h2
    | top => exact h2
    | p v => exact h2
    | nl => exact h2
    | sl e o xs => exact h2
    | rp o cs => exact h2
    | sv v e xs => exact h2
    | ep e k xs i j => exact h2
    | fo f bs => exact h2
    | fr f css => exact h2
theorem backT_get (ds p : List Nat) (n hb : Nat) : ∀ (xs ys : List AV) (k i : Nat) (z : AV), (backT ds p n hb k xs ys)[i]? = some z → ∃ x y, xs[i]? = some x ∧ ys[i]? = some y ∧ z = (if ds.elem (k + i) then y.bk p n hb else x)
  | [], _, k, i, z, h => by simp [backT] at h
  | _ :: _, [], k, i, z, h => by simp [backT] at h
  | x :: xs, y :: ys, k, 0, z, h => by
    simp only [backT, List.getElem?_cons_zero, Option.some.injEq] at h
    exact ⟨x, y, rfl, rfl, by rw [Nat.add_zero]; exact h.symm⟩
  | x :: xs, y :: ys, k, i + 1, z, h => by
    simp only [backT, List.getElem?_cons_succ] at h
    obtain ⟨x', y', h1, h2, h3⟩ := backT_get ds p n hb xs ys (k + 1) i z h
    exact ⟨x', y', by simpa using h1, by simpa using h2, by rw [h3, show k + 1 + i = k + (i + 1) by omega]⟩
theorem backT_len (ds p : List Nat) (n hb : Nat) : ∀ (xs ys : List AV) (k : Nat), xs.length = ys.length → (backT ds p n hb k xs ys).length = xs.length
  | [], [], _, _ => rfl
  | x :: xs, y :: ys, k, h => by simp only [backT, List.length_cons]; rw [backT_len ds p n hb xs ys (k + 1) (by simpa using h)]
theorem OwS.env {ρ ρ' : Env} {e : TypeId} {j k g : Nat} {xs : List (List Value)} {v : Value} (h : OwS P ρ w e j xs v) (hj : ρ.om[j]? = some g) (hk : ρ'.om[k]? = some g) (hov : ρ'.ov g = ρ.ov g) (hB : ρ'.B ≤ g) : OwS P ρ' w e k xs v := by
  obtain ⟨t1, g5, t2, t3, t4, t5⟩ := h
  obtain rfl : g = g5 := by rw [hj] at t2; injection t2
  refine ⟨t1, g, hk, t3.trans hov.symm, t4, t5.1, ?_⟩
  rcases t5.2 with hn | ⟨g6, cap, cur, e1, b1, r1⟩
  · exact .inl hn
  · refine .inr ⟨g6, cap, cur, e1, ?_, r1⟩
    have : g6 = g := by rw [e1] at t4; simpa [Value.ownBlock] using t4
    rw [this]; exact hB
structure Bk (p : List Nat) (n hb : Nat) (ρr ρ : Env) : Prop where
  B : ρ.B ≤ ρr.B
  m : ∀ (b g : Nat), ρr.m[b]? = some g → ρ.m[hb + b]? = some g
  om : ∀ (j g : Nat), p.elem j = true → ρr.om[j]? = some g → ρ.om[n + p.idxOf j]? = some g ∧ ρ.ov g = ρr.ov g
section
variable {p : List Nat} {n hb : Nat} {ρr : Env}
theorem RepC.bk (h : Bk p n hb ρr ρ) {x : AC} {u : Value} (k : RepC P ρr w x u) : RepC P ρ w (x.bk p n hb) u := by
  cases x with
  | p v => exact k
  | nl => exact k
  | ptr b o => obtain ⟨g, h1, h2⟩ := k; exact ⟨g, h.m b g h1, h2⟩
  | bsl b sn sc => obtain ⟨g, h1, h2⟩ := k; exact ⟨g, h.m b g h1, h2⟩
  | sl e o xs =>
    cases o with
    | own j =>
      show RepC P ρ w (if p.elem j then .sl e (.own (n + p.idxOf j)) xs else .top) u
      cases hj : p.elem j with
      | false => exact trivial
      | true =>
        simp only [if_true]
        obtain ⟨h1, h2⟩ := k
        have h2' := h2
        obtain ⟨_, g, hg, _, hbk, ho⟩ := h2
        obtain ⟨h3, h4⟩ := h.om j g hj hg
        exact ⟨h1, h2'.env hg h3 h4 (Nat.le_trans h.B (ownsRow_lt ho hbk).1)⟩
    | ro => trivial
    | sub j => trivial
  | top => trivial
  | rp o cs => trivial
  | sv v e xs => trivial
  | ep e n xs i j => trivial
  | fo f bs => trivial
  | fr f css => trivial
theorem RepL.bk (h : Bk p n hb ρr ρ) : ∀ {xs : List AC} {vs : List Value}, RepL P ρr w xs vs → RepL P ρ w (xs.map (AC.bk p n hb)) vs
  | [], [], _ => trivial
  | _ :: _, _ :: _, k => ⟨k.1.bk h, RepL.bk h k.2⟩
theorem RepW.bk (h : Bk p n hb ρr ρ) {x : AW} {u : Value} (k : RepW P ρr w x u) : RepW P ρ w (x.bk p n hb) u := by
  cases x with
  | c x => exact RepC.bk h k
  | agg cs => obtain ⟨vs, rfl, hl⟩ := k; exact ⟨vs, rfl, hl.bk h⟩
theorem RepWs.bk (h : Bk p n hb ρr ρ) : ∀ {xs : List AW} {vs : List Value}, RepWs P ρr w xs vs → RepWs P ρ w (xs.map (AW.bk p n hb)) vs
  | [], [], _ => trivial
  | _ :: _, _ :: _, k => ⟨k.1.bk h, RepWs.bk h k.2⟩
theorem RepV.bk (h : Bk p n hb ρr ρ) {x : AV} {u : Value} (k : RepV P ρr w x u) : RepV P ρ w (x.bk p n hb) u := by
  cases x with
  | c x => exact RepC.bk h k
  | agg cs => obtain ⟨vs, rfl, hl⟩ := k; exact ⟨vs, rfl, hl.bk h⟩
  | tup ws => obtain ⟨vs, rfl, hl⟩ := k; exact ⟨vs, rfl, hl.bk h⟩
end
theorem Rel.back (h : Rel P w0 m0 ρ σ a w) {ds p : List Nat} (hpn : p.Nodup) {ρ' : Env} {τ : AS} {a' : Act} {w' : World} (k : Rel P w (Gv.inn ρ.B) ρ' τ a' w') (hp : ∀ j ∈ p, j < τ.nx) (ho : Off ds a a') : ∃ ρ'', Rel P w0 m0 ρ'' (σ.back ds p τ) a' w' := by
  have hbl : Below w.heap.size w w' := Framed.below k.fr
  have hom : ∀ g ∈ ρ'.om, w.heap.size ≤ g ∧ g < w'.heap.size ∧ g ∉ ρ'.m := fun g hg => by
    obtain ⟨h1, h2, h3⟩ := k.ob g hg
    exact ⟨h1.resolve_left (by simp [Gv.inn]), h2, h3⟩
  have hm' : ∀ g ∈ ρ'.m, w.heap.size ≤ g ∧ g < w'.heap.size := fun g hg => by
    obtain ⟨l, h1, h2⟩ := k.pre
    have : g ∈ l := by rw [h1] at hg; simpa [Gv.inn] using hg
    exact ⟨h2 g this, k.ml g hg⟩
  have hw0 : w0.heap.size ≤ w.heap.size := h.fr.size
  let om' : List Nat := p.map fun j => ρ'.om.getD j 0
  have hget : ∀ j ∈ p, ∃ g, ρ'.om[j]? = some g ∧ ρ'.om.getD j 0 = g := fun j hj => by
    have hl : j < ρ'.om.length := by rw [k.nx]; exact hp j hj
    exact ⟨ρ'.om[j], List.getElem?_eq_getElem hl, by simp [hl]⟩
  have hmem : ∀ g ∈ om', g ∈ ρ'.om := fun g hg => by
    obtain ⟨j, hj, rfl⟩ := List.mem_map.1 hg
    obtain ⟨g, h1, h2⟩ := hget j hj
    rw [h2]; exact List.mem_of_getElem? h1
  have hnd' : om'.Nodup := by
    refine List.Pairwise.map _ (fun i j (hij : i ≠ j ∧ i ∈ p ∧ j ∈ p) => ?_) (List.Pairwise.imp_of_mem (fun {i j} hi hj hne => ⟨hne, hi, hj⟩) hpn)
    obtain ⟨g1, e1, f1⟩ := hget i hij.2.1
    obtain ⟨g2, e2, f2⟩ := hget j hij.2.2
    rw [f1, f2]
    rintro rfl
    have l1 := (List.getElem?_eq_some_iff.1 e1).1
    have l2 := (List.getElem?_eq_some_iff.1 e2).1
    have hpp := List.pairwise_iff_getElem.1 k.no
    have d1 := (List.getElem?_eq_some_iff.1 e1).2
    have d2 := (List.getElem?_eq_some_iff.1 e2).2
    rcases Nat.lt_or_gt_of_ne hij.1 with hlt | hlt
    · exact hpp _ _ l1 l2 hlt (d1.trans d2.symm)
    · exact hpp _ _ l2 l1 hlt (d2.trans d1.symm)
  let ρ'' : Env := ⟨ρ.B, ρ.m ++ ρ'.m, ρ.om ++ om', fun x => if om'.elem x then ρ'.ov x else ρ.ov x⟩
  have st : Stab ρ w ρ'' w' := by
    refine ⟨rfl, hbl.size, fun g hg _ => hbl.block g hg, fun b g hb => ?_, fun b g hb => ?_, fun g hg h1 h2 => ⟨?_, ?_⟩, fun g hg => (h.ob g hg).2.2, fun g hg => ?_⟩
    · show (ρ.m ++ ρ'.m)[b]? = some g
      rw [List.getElem?_append_left (List.getElem?_eq_some_iff.1 hb).1]; exact hb
    · show (ρ.om ++ om')[b]? = some g
      rw [List.getElem?_append_left (List.getElem?_eq_some_iff.1 hb).1]; exact hb
    · show g ∉ ρ.m ++ ρ'.m
      simp only [List.mem_append, not_or]
      exact ⟨h1, fun hx => by have := (hm' g hx).1; omega⟩
    · show g ∉ ρ.om ++ om'
      simp only [List.mem_append, not_or]
      exact ⟨h2, fun hx => by have := (hom g (hmem g hx)).1; omega⟩
    · show (if om'.elem g then ρ'.ov g else ρ.ov g) = ρ.ov g
      rw [if_neg]
      intro hx
      have := (hom g (hmem g (List.elem_iff.1 hx))).1
      have := (h.ob g hg).2.1
      omega
  have bk : Bk p σ.nx σ.hp.length ρ' ρ'' := by
    refine ⟨by rw [k.B]; exact Nat.le_refl _, fun b g hb => ?_, fun j g hj hg => ⟨?_, ?_⟩⟩
    · show (ρ.m ++ ρ'.m)[σ.hp.length + b]? = some g
      rw [h.hl, List.getElem?_append_right (by omega), Nat.add_sub_cancel_left]; exact hb
    · show (ρ.om ++ om')[σ.nx + p.idxOf j]? = some g
      have hjm : j ∈ p := List.elem_iff.1 hj
      have hlt : p.idxOf j < p.length := List.idxOf_lt_length_of_mem hjm
      rw [← h.nx, List.getElem?_append_right (by omega), Nat.add_sub_cancel_left]
      show (p.map fun j => ρ'.om.getD j 0)[p.idxOf j]? = some g
      rw [List.getElem?_map, List.getElem?_eq_getElem hlt, List.getElem_idxOf hlt]
      obtain ⟨g2, e1, e2⟩ := hget j hjm
      rw [hg] at e1
      injection e1 with e1
      rw [Option.map_some, e2, e1]
    · show (if om'.elem g then ρ'.ov g else ρ.ov g) = ρ'.ov g
      have hjm : j ∈ p := List.elem_iff.1 hj
      obtain ⟨g2, e1, e2⟩ := hget j hjm
      rw [hg] at e1
      injection e1 with e1
      rw [if_pos (List.elem_iff.2 (List.mem_map.2 ⟨j, hjm, by rw [e2, e1]⟩))]
  have hlen : σ.tm.length = τ.tm.length := by rw [h.tl, k.tl, ho.2.1]
  refine ⟨ρ'', ⟨h.B, h.Bw, h.fr.trans (.of_below hbl), ?_, fun g hg => ?_, ?_, fun g hg => ?_, ?_, fun j q hq => ?_, ?_, ?_, fun b cs hc => ?_, ?_, fun i z hz => ?_, ho.1⟩⟩
  · obtain ⟨l, h1, h2⟩ := h.pre
    refine ⟨l ++ ρ'.m, by show ρ.m ++ ρ'.m = _; rw [h1, List.append_assoc], fun g hg => ?_⟩
    rcases List.mem_append.1 hg with hg | hg
    · exact h2 g hg
    · have := (hm' g hg).1; omega
  · rcases List.mem_append.1 hg with hg | hg
    · exact Nat.lt_of_lt_of_le (h.ml g hg) hbl.size
    · exact (hm' g hg).2
  · refine List.nodup_append.2 ⟨h.nd, k.nd, fun x hx y hy => ?_⟩
    have := h.ml x hx
    have := (hm' y hy).1
    omega
  · rcases List.mem_append.1 hg with hg | hg
    · obtain ⟨h1, h2, h3⟩ := h.ob g hg
      refine ⟨h1, Nat.lt_of_lt_of_le h2 hbl.size, ?_⟩
      show g ∉ ρ.m ++ ρ'.m
      simp only [List.mem_append, not_or]
      exact ⟨h3, fun hx => by have := (hm' g hx).1; omega⟩
    · obtain ⟨h1, h2, h3⟩ := hom g (hmem g hg)
      refine ⟨.inr (by omega), h2, ?_⟩
      show g ∉ ρ.m ++ ρ'.m
      simp only [List.mem_append, not_or]
      exact ⟨fun hx => by have := h.ml g hx; omega, h3⟩
  · refine List.nodup_append.2 ⟨h.no, hnd', fun x hx y hy => ?_⟩
    have := (h.ob x hx).2.1
    have := (hom y (hmem y hy)).1
    omega
  · obtain ⟨h1, h2⟩ := h.lp j q hq
    exact ⟨st.om j q h1, by rw [st.ov q (List.mem_of_getElem? h1)]; exact h2⟩
  · show (ρ.om ++ om').length = σ.nx + p.length
    rw [List.length_append, h.nx]; simp [om']
  · show (σ.hp ++ τ.hp.map _).length = (ρ.m ++ ρ'.m).length
    rw [List.length_append, List.length_append, List.length_map, h.hl, k.hl]
  · simp only [AS.back] at hc
    by_cases hb : b < σ.hp.length
    · rw [List.getElem?_append_left hb] at hc
      obtain ⟨g, hg, us, t', h1, h2⟩ := h.hp b cs hc
      exact ⟨g, st.m b g hg, us, t', (hbl.block g (h.ml g (List.mem_of_getElem? hg))).trans h1, h2.keep st⟩
    · rw [List.getElem?_append_right (by omega), List.getElem?_map] at hc
      obtain ⟨cs', h1, rfl⟩ := Option.map_eq_some_iff.1 hc
      obtain ⟨g, hg, us, t', h2, h3⟩ := k.hp _ cs' h1
      refine ⟨g, ?_, us, t', h2, h3.bk bk⟩
      have := bk.m _ g hg
      rwa [Nat.add_sub_cancel' (by omega)] at this
  · show (backT ds p σ.nx σ.hp.length 0 σ.tm τ.tm).length = a'.tmps.size
    rw [backT_len _ _ _ _ _ _ _ hlen, h.tl, ho.2.1]
  · obtain ⟨x, y, h1, h2, h3⟩ := backT_get ds p σ.nx σ.hp.length σ.tm τ.tm 0 i z hz
    rw [Nat.zero_add] at h3
    cases hd : ds.elem i with
    | false =>
      rw [hd] at h3
      simp only [Bool.false_eq_true, if_false] at h3
      subst h3
      rw [ho.2.2 i hd]
      exact (h.tm i _ h1).keep st
    | true =>
      rw [hd] at h3
      simp only [if_true] at h3
      subst h3
      exact (k.tm i y h2).bk bk

/-! ### Orders: the first n operations keep a condition on the world; the others, which wait for all of these, may break it -/
section
variable {md : Region.Mode} {opa : Array Oper} {R : Exit → Act → World → Prop} {S : World → Prop} {n : Nat}
def wpAnyT (P : Program) (md : Region.Mode) (opa : Array Oper) (R : Exit → Act → World → Prop) (S : World → Prop) (n : Nat) : Nat → Array Bool → Act → World → Prop
  | 0, listed, a, w => Region.ready md opa listed = [] ∧ R .normal a w
  | f + 1, listed, a, w => (Region.ready md opa listed = [] → R .normal a w) ∧
      ∀ i ∈ Region.ready md opa listed, wpOp P opa R i (fun a' w' => (i < n → S w') ∧ wpAnyT P md opa R S n f (listed.setIfInBounds i true) a' w') a w
theorem anyT_any : ∀ (f : Nat) (listed : Array Bool) (a : Act) (w : World), wpAnyT P md opa R S n f listed a w → wpAny P md opa R f listed a w
  | 0, _, _, _, h => h
  | f + 1, _, _, _, h => ⟨h.1, fun i hi => wpOp_mono (fun a' w' k => anyT_any f _ a' w' k.2) (h.2 i hi)⟩
/-- What an operation waits for, through others too: bits. -/
def depM (md : Region.Mode) (acc : List Nat) (o : Oper) : Nat := o.after.toList.foldl (fun m e => if Region.binds md e then m ||| (2 ^ e.on ||| acc.getD e.on 0) else m) 0
def closM (md : Region.Mode) : List Oper → List Nat → List Nat
  | [], acc => acc
  | o :: os, acc => closM md os (acc ++ [depM md acc o])
def sinkL (n : Nat) : Nat → List Nat → Bool
  | _, [] => true
  | j, m :: ms => (decide (j < n) || (2 ^ n - 1) &&& m == 2 ^ n - 1) && sinkL n (j + 1) ms
def sinkT (md : Region.Mode) (opa : Array Oper) (n : Nat) : Bool := sinkL n 0 (closM md opa.toList [])
def downB (md : Region.Mode) (l : List Oper) (listed : List Bool) : Bool := (l.zip listed).all fun p => !p.2 || p.1.after.all fun e => !Region.binds md e || listed.getD e.on false
inductive Dep (md : Region.Mode) (opa : Array Oper) : Nat → Nat → Prop
  | base {j : Nat} {oj : Oper} {e : Edge} (h : opa[j]? = some oj) (he : e ∈ oj.after) (hb : Region.binds md e = true) : Dep md opa j e.on
  | step {j i : Nat} {oj : Oper} {e : Edge} (h : opa[j]? = some oj) (he : e ∈ oj.after) (hb : Region.binds md e = true) (hd : Dep md opa e.on i) : Dep md opa j i
def Down (md : Region.Mode) (opa : Array Oper) (listed : Array Bool) : Prop := ∀ k ok, opa[k]? = some ok → listed.getD k false = true → ∀ e ∈ ok.after, Region.binds md e = true → listed.getD e.on false = true
theorem depM_bits (md : Region.Mode) (acc : List Nat) (i : Nat) : ∀ (es : List Edge) (m : Nat), (es.foldl (fun m e => if Region.binds md e then m ||| (2 ^ e.on ||| acc.getD e.on 0) else m) m).testBit i = true → m.testBit i = true ∨ ∃ e ∈ es, Region.binds md e = true ∧ (e.on = i ∨ (acc.getD e.on 0).testBit i = true)
  | [], m, h => .inl h
  | e :: es, m, h => by
    rw [List.foldl_cons] at h
    rcases depM_bits md acc i es _ h with h1 | ⟨e', h1, h2⟩
    · split at h1
      · rename_i hb
        simp only [Nat.testBit_or, Bool.or_eq_true, Nat.testBit_two_pow, decide_eq_true_eq] at h1
        rcases h1 with h1 | h1 | h1
        · exact .inl h1
        · exact .inr ⟨e, by simp, hb, .inl h1⟩
        · exact .inr ⟨e, by simp, hb, .inr h1⟩
      · exact .inl h1
    · exact .inr ⟨e', by simp [h1], h2⟩
theorem closM_spec (md : Region.Mode) (opa : Array Oper) : ∀ (os : List Oper) (acc : List Nat), opa.toList.drop acc.length = os → (∀ j m, acc[j]? = some m → ∀ i, m.testBit i = true → Dep md opa j i) → ∀ j m, (closM md os acc)[j]? = some m → ∀ i, m.testBit i = true → Dep md opa j i
  | [], acc, _, h => h
  | o :: os, acc, hd, h => by
    have ho : opa[acc.length]? = some o := by
      have := congrArg List.head? hd
      rw [List.head?_drop] at this
      simpa using this
    refine closM_spec md opa os (acc ++ [depM md acc o]) ?_ fun j m hj i hi => ?_
    · have := congrArg List.tail hd
      rw [List.tail_drop] at this
      simpa using this
    · by_cases hl : j < acc.length
      · rw [List.getElem?_append_left hl] at hj; exact h j m hj i hi
      · have hlt := (List.getElem?_eq_some_iff.1 hj).1
        have hje : j = acc.length := by simp at hlt; omega
        subst hje
        rw [List.getElem?_append_right (Nat.le_refl _)] at hj
        simp only [Nat.sub_self, List.getElem?_cons_zero, Option.some.injEq] at hj
        subst hj
        rcases depM_bits md acc i _ _ hi with h1 | ⟨e, he, hb, h1⟩
        · simp at h1
        · have he' : e ∈ o.after := by simpa using he
          rcases h1 with h1 | h1
          · rw [← h1]; exact .base ho he' hb
          · refine .step ho he' hb ?_
            cases hg : acc[e.on]? with
            | none => rw [List.getD_eq_getElem?_getD, hg] at h1; simp at h1
            | some m => rw [List.getD_eq_getElem?_getD, hg] at h1; exact h _ m hg i h1
theorem closM_len (md : Region.Mode) : ∀ (os : List Oper) (acc : List Nat), (closM md os acc).length = acc.length + os.length
  | [], acc => by simp [closM]
  | o :: os, acc => by rw [closM, closM_len md os]; simp; omega
theorem sinkL_spec {n : Nat} : ∀ (ms : List Nat) (k : Nat), sinkL n k ms = true → ∀ j m, ms[j]? = some m → ¬ k + j < n → ∀ i, i < n → m.testBit i = true
  | [], k, _, j, m, h => by simp at h
  | m0 :: ms, k, h, j, m, hj => by
    simp only [sinkL, Bool.and_eq_true, Bool.or_eq_true, decide_eq_true_eq, beq_iff_eq] at h
    intro hk i hi
    cases j with
    | zero =>
      simp at hj; subst hj
      have h1 := h.1.resolve_left (by omega)
      have h2 := congrArg (fun x => x.testBit i) h1
      simp only [Nat.testBit_and, Nat.testBit_two_pow_sub_one, hi, decide_true, Bool.true_and] at h2
      exact h2
    | succ j => exact sinkL_spec ms (k + 1) h.2 j m (by simpa using hj) (by omega) i hi
theorem dep_listed {listed : Array Bool} (hd : Down md opa listed) {k i : Nat} (h : Dep md opa k i) : listed.getD k false = true → listed.getD i false = true := by
  induction h with
  | base h he hb => exact fun hk => hd _ _ h hk _ he hb
  | step h he hb _ ih => exact fun hk => ih (hd _ _ h hk _ he hb)
theorem dep_ready {listed : Array Bool} (hd : Down md opa listed) {j i : Nat} (hj : j ∈ Region.ready md opa listed) (h : Dep md opa j i) : listed.getD i false = true := by
  obtain ⟨_, oj, hoj, hja⟩ := mem_ready.1 hj
  cases h with
  | base h he hb =>
    rw [hoj] at h; injection h with h; subst h
    exact hja _ he hb
  | step h he hb h2 =>
    rw [hoj] at h; injection h with h; subst h
    exact dep_listed hd h2 (hja _ he hb)
theorem sinkT_spec (h : sinkT md opa n = true) {listed : Array Bool} (hd : Down md opa listed) {i j : Nat} (hj : j ∈ Region.ready md opa listed) (hjn : ¬ j < n) (hi : i < n) : listed.getD i false = true := by
  obtain ⟨_, oj, hoj, _⟩ := mem_ready.1 hj
  have hlt : j < opa.size := (Array.getElem?_eq_some_iff.1 hoj).1
  have hl := closM_len md opa.toList []
  have hlt2 : j < (closM md opa.toList []).length := by rw [hl]; simpa using hlt
  have hb := sinkL_spec _ 0 h j _ (List.getElem?_eq_getElem hlt2) (by omega) i hi
  exact dep_ready hd hj (closM_spec md opa opa.toList [] (by simp) (by simp) j _ (List.getElem?_eq_getElem hlt2) i hb)
theorem down_set {listed : Array Bool} (hd : Down md opa listed) {j : Nat} (hj : j ∈ Region.ready md opa listed) : Down md opa (listed.setIfInBounds j true) := by
  obtain ⟨_, oj, hoj, hja⟩ := mem_ready.1 hj
  have hmono : ∀ k, listed.getD k false = true → (listed.setIfInBounds j true).getD k false = true := fun k hk => by
    rcases Decidable.em (j = k) with rfl | hne
    · rw [Array.getD_eq_getD_getElem?] at hk ⊢
      rw [Array.getElem?_setIfInBounds_self]
      split
      · rfl
      · rename_i hs; rw [Array.getElem?_eq_none (by omega)] at hk; cases hk
    · rw [getD_set_ne false hne]; exact hk
  intro k ok hk hkl e he hb
  rcases Decidable.em (j = k) with rfl | hne
  · rw [hoj] at hk; injection hk with hk; subst hk
    exact hmono _ (hja e he hb)
  · rw [getD_set_ne false hne] at hkl
    exact hmono _ (hd k ok hk hkl e he hb)
theorem downB_spec {l : List Oper} {listed : List Bool} (h : downB md l listed = true) : Down md l.toArray listed.toArray := by
  intro k ok hk hkl e he hb
  have hk' : l[k]? = some ok := by simpa using hk
  have hkl' : listed[k]? = some true := by
    rw [Array.getD_eq_getD_getElem?] at hkl
    simp only [List.getElem?_toArray] at hkl
    cases hh : listed[k]? with
    | none => rw [hh] at hkl; cases hkl
    | some b => rw [hh] at hkl; simp at hkl; rw [hkl]
  have hz : (l.zip listed)[k]? = some (ok, true) := by rw [List.getElem?_zip_eq_some]; exact ⟨hk', hkl'⟩
  have h1 := List.all_eq_true.1 h _ (List.mem_of_getElem? hz)
  simp only [Bool.not_true, Bool.false_or, Array.all_eq_true_iff_forall_mem, Bool.or_eq_true, Bool.not_eq_true'] at h1
  have h2 := (h1 e he).resolve_left (by rw [hb]; decide)
  rw [Array.getD_eq_getD_getElem?]
  rw [List.getD_eq_getElem?_getD] at h2
  simpa using h2
theorem anyT_done {listed : Array Bool} {a : Act} {w : World} (hr : Region.ready md opa listed = []) (h : R .normal a w) : ∀ f, wpAnyT P md opa R S n f listed a w
  | 0 => ⟨hr, h⟩
  | f + 1 => ⟨fun _ => h, fun i hi => by rw [hr] at hi; exact absurd hi (by simp)⟩
theorem anyT_take {i : Nat} {oi : Oper} {v : Value} (hin : i < n) (hi : opa[i]? = some oi) (hs : Region.noSelect opa = true) (hst : sinkT md opa n = true) (hp : ∀ c a w, R (.panic c) (a.put oi.dst v) w → R (.panic c) a w) :
    ∀ (f : Nat) (listed : Array Bool) (a : Act) (w : World), (∀ j oj, opa[j]? = some oj → j ≠ i → listed.getD j true = false → (∀ e ∈ oj.after, Region.binds md e = true → e.on ≠ i) → oi.apart opa oj = true) → Down md opa listed →
      i ∈ Region.ready md opa listed → YieldsIf P opa S oi v a → S w → wpAnyT P md opa R S n f (listed.setIfInBounds i true) (a.put oi.dst v) w → wpAnyT P md opa R S n (f + 1) listed a w := by
  have hsel := Region.noSelect_spec hs
  intro f
  induction f with
  | zero =>
    intro listed a w hfr hdn hr hy hS hK
    constructor
    · intro e; rw [e] at hr; exact absurd hr (by simp)
    · intro j hj
      rcases Decidable.em (j = i) with rfl | hne
      · exact hy.wpOp hi hS ⟨fun _ => hS, hK⟩
      · exact absurd (ready_mono hj hne) (by rw [hK.1]; simp)
  | succ f ih =>
    intro listed a w hfr hdn hr hy hS hK
    constructor
    · intro e; rw [e] at hr; exact absurd hr (by simp)
    · intro j hj
      rcases Decidable.em (j = i) with rfl | hne
      · exact hy.wpOp hi hS ⟨fun _ => hS, hK⟩
      · obtain ⟨hju, oj, hoj, hja⟩ := mem_ready.1 hj
        have hiu := (mem_ready.1 hr).1
        have hno : ∀ e ∈ oj.after, Region.binds md e = true → e.on ≠ i := by
          intro e he hb heq
          have hyes := hja e he hb
          rw [heq] at hyes
          by_cases hsz : i < listed.size
          · rw [Array.getD_eq_getD_getElem?, Array.getElem?_eq_getElem hsz] at hiu hyes
            simp only [Option.getD_some] at hiu hyes
            rw [hiu] at hyes; cases hyes
          · rw [Array.getD_eq_getD_getElem?, Array.getElem?_eq_none (by omega)] at hyes
            cases hyes
        have hput := wpOp_putIf hoj (hfr j oj hoj hne hju hno) (fun cs b => hsel i oi cs b hi) (fun cs b => hsel j oj cs b hoj) hp hy (hK.2 j (ready_mono hj hne))
        refine wpOp_mono ?_ hput
        rintro a' w' ⟨hy', hg, hrest⟩
        have hjn : j < n := Decidable.byContradiction fun hjn => by
          have h1 := sinkT_spec hst hdn hj hjn hin
          rw [Array.getD_eq_getD_getElem?] at hiu h1
          cases hh : listed[i]? with
          | none => rw [hh] at h1; cases h1
          | some b => rw [hh] at h1 hiu; simp at h1 hiu; rw [h1] at hiu; cases hiu
        have hS' : S w' := hg hjn
        refine ⟨fun _ => hS', ih _ a' w' ?_ (down_set hdn hj) (ready_mono hr (Ne.symm hne)) hy' hS' ?_⟩
        · intro k ok hk hki hun hnk
          refine hfr k ok hk hki ?_ hnk
          rcases Decidable.em (j = k) with rfl | hjk
          · exact hju
          · rwa [getD_set_ne true hjk] at hun
        · rw [Array.setIfInBounds_comm _ _ hne]
          exact hrest
end
/-! ### The first part: what only reads -/
def idxs {α : Type} : Nat → List α → List Nat
  | _, [] => []
  | k, _ :: t => k :: idxs (k + 1) t
theorem idxs_mem {α : Type} : ∀ (l : List α) (k i : Nat), k ≤ i → i < k + l.length → i ∈ idxs k l
  | [], k, i, h1, h2 => by simp at h2; omega
  | _ :: t, k, i, h1, h2 => by
    simp only [idxs, List.mem_cons]
    by_cases h : i = k
    · exact .inl h
    · exact .inr (idxs_mem t (k + 1) i (by omega) (by simp only [List.length_cons] at h2; omega))
/-- How many have not come up. -/
def todo (listed : List Bool) : Nat := listed.count false
theorem todo_set : ∀ {listed : List Bool} {i : Nat}, listed[i]? = some false → todo (listed.set i true) + 1 = todo listed
  | b :: l, 0, h => by
    simp at h; subst h
    simp [todo]
  | b :: l, i + 1, h => by
    have := todo_set (listed := l) (i := i) (by simpa using h)
    simp only [todo, List.set_cons_succ, List.count_cons] at this ⊢
    omega
theorem listed_of {listed : List Bool} {i : Nat} (h : listed.toArray.getD i true = false) : listed[i]? = some false := by
  rw [Array.getD_eq_getD_getElem?] at h
  simp only [List.getElem?_toArray] at h
  cases hh : listed[i]? with
  | none => rw [hh] at h; cases h
  | some b => rw [hh] at h; simp at h; subst h; rfl
def AG0 (P : Program) (w0 : World) (m0 : Gv) (n : Nat) (ops : List Oper) (Q : Exit → AS → Prop) (cand : List Nat) (listed : List Bool) (σ : AS) : Prop :=
  (∀ c σ, ¬ Q (.panic c) σ) → ∀ ρ a w, Rel P w0 m0 ρ σ a w → ∀ fuel, todo listed ≤ fuel → wpAnyT P .any ops.toArray (lift P w0 m0 Q) (fun W => Below w.heap.size w W) n fuel listed.toArray a w
/-- How many operations stand ahead of the last stores and assignments. -/
def lateB (o : Oper) : Bool := match o.op with
  | .store .. | .assign _ => true
  | .call c => match c.callee with
    | .builtin .append => true
    | _ => false
  | _ => false
def lateN (l : List Oper) : Nat := (l.reverse.dropWhile lateB).length
def regN (l : List Oper) : Nat := if sinkT .any l.toArray (lateN l) then lateN l else 1000
theorem awp_region_any {id : Nat} {n : Nat} {l : List Oper} {cand : List Nat} {listed : List Bool} (hm : P.follows .mixedOrders = true) (hq : ∀ c σ, ¬ Q (.panic c) σ) (hc : idxs 0 l = cand) (hl : l.map (fun _ => false) = listed) (hn : regN l = n) (h : AG0 P w0 m0 n l Q cand listed σ) : AWp P w0 m0 (.region id l.toArray true) Q σ := fun ρ a w r => by
  subst hl
  have r' := r.world (Below.drew (Below.refl _ _) : Below w.heap.size w { w with drawn := w.drawn + 1 })
  have := h hq ρ a _ r' l.toArray.size (by
    unfold todo
    refine Nat.le_trans List.count_le_length ?_
    simp)
  refine wp_region_any hm ?_
  have e : (l.map fun _ => false).toArray = Array.replicate l.toArray.size false := by
    rw [List.map_const', List.size_toArray, List.toArray_replicate]
  rw [← e]
  exact anyT_any _ _ _ _ this
theorem noPanic {d : Option Tmp} {v : Value} {c : List PanicEntry} {a : Act} {w : World} (hq : ∀ c σ, ¬ Q (.panic c) σ) : lift P w0 m0 Q (.panic c) (a.put d v) w → lift P w0 m0 Q (.panic c) a w := fun ⟨_, _, h, _⟩ => absurd h (hq _ _)
variable {l : List Oper} {cand : List Nat} {listed : List Bool} {n : Nat}
/-- Number i is taken. -/
theorem ag0_take {i : Nat} {d : Option Tmp} {o : Op} {ty : TypeId} {pos : String} {af : Array Edge} {gd : Option (Nat × Bool)} {x : AV} (hi : l[i]? = some ⟨d, o, ty, pos, af, gd⟩) (hs : Region.noSelect l.toArray = true) (hst : (decide (i < n) && sinkT .any l.toArray n && downB .any l listed) = true)
    (hf : Region.free .any l.toArray listed.toArray i = true) (hr : (Region.ready .any l.toArray listed.toArray).contains i = true) (hg : gd = none ∨ ∃ j b b', gd = some (j, b) ∧ σ.yv l.toArray j = some b' ∧ b' = b) (hx : QOp P o σ x)
    (h : AG0 P w0 m0 n l Q cand (listed.set i true) (σ.put d x)) : AG0 P w0 m0 n l Q (i :: cand) listed σ := fun hq ρ a w r fuel hfu => by
  obtain ⟨u, h1, h2⟩ := hx w0 m0 ρ a w d ty pos af gd r
  have hrr : i ∈ Region.ready .any l.toArray listed.toArray := by simpa using hr
  have ht := todo_set (listed_of (mem_ready.1 hrr).1)
  obtain ⟨f, rfl⟩ : ∃ f, fuel = f + 1 := ⟨fuel - 1, by omega⟩
  simp only [Bool.and_eq_true, decide_eq_true_eq] at hst
  refine anyT_take (v := u) (oi := ⟨d, o, ty, pos, af, gd⟩) hst.1.1 (by simpa using hi) hs hst.1.2 (fun c a w => noPanic hq) _ _ _ _ (Region.free_spec (by simpa using hi) hf) (downB_spec hst.2) hrr (.inl ⟨?_, fun W hW => h2 W hW⟩) (Below.refl _ _) ?_
  · rcases hg with rfl | ⟨j, b, b', rfl, hy, rfl⟩
    · rfl
    · simp only [Region.wanted, r.yv hy]; cases b' <;> rfl
  · have := h hq ρ _ w (r.put d h1) f (by omega)
    rw [List.setIfInBounds_toArray]
    exact this
/-- Number i is left out. -/
theorem ag0_miss {i : Nat} {d : Option Tmp} {o : Op} {ty : TypeId} {pos : String} {af : Array Edge} {j : Nat} {b : Bool} (hi : l[i]? = some ⟨d, o, ty, pos, af, some (j, b)⟩) (hs : Region.noSelect l.toArray = true) (hst : (decide (i < n) && sinkT .any l.toArray n && downB .any l listed) = true)
    (hf : Region.free .any l.toArray listed.toArray i = true) (hr : (Region.ready .any l.toArray listed.toArray).contains i = true) (hg : (∃ b', σ.yv l.toArray j = some b' ∧ b' = !b) ∨ σ.yu l.toArray j = true)
    (h : AG0 P w0 m0 n l Q cand (listed.set i true) (σ.put d (.c (.p undef)))) : AG0 P w0 m0 n l Q (i :: cand) listed σ := fun hq ρ a w r fuel hfu => by
  have hrr : i ∈ Region.ready .any l.toArray listed.toArray := by simpa using hr
  have ht := todo_set (listed_of (mem_ready.1 hrr).1)
  obtain ⟨f, rfl⟩ : ∃ f, fuel = f + 1 := ⟨fuel - 1, by omega⟩
  simp only [Bool.and_eq_true, decide_eq_true_eq] at hst
  refine anyT_take (v := undef) (oi := ⟨d, o, ty, pos, af, some (j, b)⟩) hst.1.1 (by simpa using hi) hs hst.1.2 (fun c a w => noPanic hq) _ _ _ _ (Region.free_spec (by simpa using hi) hf) (downB_spec hst.2) hrr (.inr ⟨?_, rfl⟩) (Below.refl _ _) ?_
  · rcases hg with ⟨b', hy, rfl⟩ | hy
    · simp only [Region.wanted, r.yv hy]; cases b <;> rfl
    · simp only [Region.wanted, r.yu hy]; rfl
  · have := h hq ρ _ w (r.put d rfl) f (by omega)
    rw [List.setIfInBounds_toArray]
    exact this
theorem ag0_skip {i : Nat} (h : AG0 P w0 m0 n l Q cand listed σ) : AG0 P w0 m0 n l Q (i :: cand) listed σ := h
theorem ag0_done (hr : (Region.ready .any l.toArray listed.toArray).isEmpty = true) (h : Q .normal σ) : AG0 P w0 m0 n l Q cand listed σ := fun hq ρ a w r fuel _ => anyT_done (by simpa using hr) ⟨ρ, σ, h, r⟩ _

/-! ### The second part: every order -/
def AG (P : Program) (w0 : World) (m0 : Gv) (n : Nat) (l : List Oper) (Q : Exit → AS → Prop) (ds : List Nat) (σ0 : AS) (listed : List Bool) (σ : AS) : Prop :=
  ∀ ρ0 a0 w1, Rel P w0 m0 ρ0 σ0 a0 w1 → ∀ ρ a w, Rel P w1 (Gv.inn ρ0.B) ρ σ a w → Off ds a0 a → ∀ fuel, todo listed ≤ fuel → wpAnyT P .any l.toArray (lift P w0 m0 Q) (fun W => Below w1.heap.size w1 W) n fuel listed.toArray a w
/-- The last part: every order, in the caller's state. -/
def AL (P : Program) (w0 : World) (m0 : Gv) (n : Nat) (l : List Oper) (Q : Exit → AS → Prop) (listed : List Bool) (σ : AS) : Prop :=
  ∀ ρ a w, Rel P w0 m0 ρ σ a w → ∀ (S : World → Prop) fuel, todo listed ≤ fuel → wpAnyT P .any l.toArray (lift P w0 m0 Q) S n fuel listed.toArray a w
theorem ag_start {ds : List Nat} (hd : dsOf l listed = ds) {τ : AS} (hτ : σ.inn = τ) (h : AG P w0 m0 n l Q ds σ listed τ) : AG0 P w0 m0 n l Q [] listed σ := fun hq ρ a w r => by
  subst hτ
  exact h ρ a w r _ a w r.inn ⟨r.df, rfl, fun _ _ => rfl⟩
theorem ag_norm {ds : List Nat} {σ0 : AS} {listed' : List Bool} (hl : listed = listed') (k : AG P w0 m0 n l Q ds σ0 listed' σ) : AG P w0 m0 n l Q ds σ0 listed σ := by subst hl; exact k
/-- What one operation leaves behind in the frame. -/
theorem wpOp_put {Q : Exit → Act → World → Prop} {i : Nat} {oi : Oper} (hi : ops[i]? = some oi) {K : Act → World → Prop} (h : wpOp P ops Q i K a w) : wpOp P ops Q i (fun a' w' => K a' w' ∧ ((∃ u, a' = a.put oi.dst u) ∨ ∃ d u, a' = { a with defers := d :: a.defers }.put oi.dst u)) a w := by
  unfold wpOp at *
  simp only [hi] at *
  split
  · rename_i hw
    simp only [hw, if_true] at h
    rcases h with h | h
    case inr => exact .inr h
    refine .inl ?_
    unfold Oper.wp at *
    generalize (execOp a.eval oi).run P w = r at *
    cases r with
    | ok n w' =>
      cases n <;> simp only [Oper.upon] at h ⊢
      case value u => exact ⟨h, .inl ⟨u, rfl⟩⟩
      case skip => exact ⟨h, .inl ⟨_, rfl⟩⟩
      case defer d => exact ⟨h, .inr ⟨d, _, rfl⟩⟩
      case enter f args =>
        refine Calls.mono h fun e w'' he => ?_
        cases e with
        | returned u => exact ⟨he, .inl ⟨u, rfl⟩⟩
        | panicked c => exact he
        | outgrown => exact he
      case row row args => exact Rows.mono h fun u w'' he => ⟨he, .inl ⟨u, rfl⟩⟩
    | halt x w' =>
      cases x <;> simp only [Oper.upon] at h ⊢
      case panic u => exact h
  · rename_i hw
    simp only [hw] at h
    exact ⟨h, .inl ⟨_, rfl⟩⟩
/-- What holds of no exit but the plain one, holds beside every Q. -/
theorem wpOp_any {Q Q' : Exit → Act → World → Prop} {i : Nat} {K K' : Act → World → Prop} (hQ : ∀ e a w, Q' e a w → e = .normal) (hK : ∀ a w, K a w → K' a w) (h : wpOp P ops Q' i K a w) : wpOp P ops Q i K' a w := by
  have hlo : ¬ LetsOut Q' := fun ⟨a, w, h⟩ => by have := hQ _ _ _ h; cases this
  unfold wpOp at *
  split
  · rename_i ho
    simp only [ho] at h
    exact hK _ _ h
  · rename_i o ho
    simp only [ho] at h
    split
    · rename_i hw
      simp only [hw, if_true] at h
      rcases h with h | ⟨_, h⟩
      · refine .inl ?_
        unfold Oper.wp at *
        generalize (execOp a.eval o).run P w = r at *
        cases r with
        | ok n w' =>
          cases n <;> simp only [Oper.upon] at h ⊢
          case value u => exact hK _ _ h
          case skip => exact hK _ _ h
          case defer d => exact hK _ _ h
          case enter f args =>
            refine Calls.mono h fun e w'' he => ?_
            cases e with
            | returned u => exact hK _ _ he
            | panicked c => exact absurd (hQ _ _ _ he) (by simp)
            | outgrown => exact absurd he hlo
          case row row args => exact Rows.mono h fun u w'' he => hK _ _ he
        | halt x w' =>
          cases x <;> simp only [Oper.upon] at h ⊢
          case panic u => exact absurd (hQ _ _ _ h) (by simp)
      · exact absurd h hlo
    · rename_i hw
      simp only [hw] at h
      exact hK _ _ h
theorem Off.put {ds : List Nat} {a0 a : Act} (h : Off ds a0 a) {d : Option Tmp} (hd : ∀ t, d = some t → ds.elem t = true) (u : Value) : Off ds a0 (a.put d u) := by
  cases d with
  | none => exact h
  | some d =>
    refine ⟨h.1, by simp [Act.put, h.2.1], fun i hi => ?_⟩
    show (a.tmps.setIfInBounds d u).getD i undef = _
    rw [getD_set]
    split
    · rename_i hh
      rw [hh.1, hd d rfl] at hi; cases hi
    · exact h.2.2 i hi
/-- The steps of those that may come up. -/
def AGs (P : Program) (w0 : World) (m0 : Gv) (n : Nat) (l : List Oper) (Q : Exit → AS → Prop) (ds : List Nat) (σ0 : AS) (listed : List Bool) (σ : AS) : List Nat → Prop
  | [] => True
  | i :: rs => ((Region.ready .any l.toArray listed.toArray).contains i = false ∨ ∃ oi, l[i]? = some oi ∧ (match oi.dst with | some t => ds.elem t | none => true) = true ∧ ∀ w1 B, AR P w1 (Gv.inn B) l.toArray (fun e τ => e = .normal ∧ AG P w0 m0 n l Q ds σ0 (listed.set i true) τ) [oi] σ) ∧ AGs P w0 m0 n l Q ds σ0 listed σ rs
theorem AGs.get {ds : List Nat} {σ0 : AS} : ∀ {rs : List Nat}, AGs P w0 m0 n l Q ds σ0 listed σ rs → ∀ i ∈ rs, (Region.ready .any l.toArray listed.toArray).contains i = true → ∃ oi, l[i]? = some oi ∧ (match oi.dst with | some t => ds.elem t | none => true) = true ∧ ∀ w1 B, AR P w1 (Gv.inn B) l.toArray (fun e τ => e = .normal ∧ AG P w0 m0 n l Q ds σ0 (listed.set i true) τ) [oi] σ
  | _ :: _, h, i, hi, hc => by
    rcases List.mem_cons.1 hi with rfl | hi
    · exact h.1.resolve_left (by rw [hc]; simp)
    · exact AGs.get h.2 i hi hc
theorem ags_nil {ds : List Nat} {σ0 : AS} : AGs P w0 m0 n l Q ds σ0 listed σ [] := trivial
theorem ags_no {ds : List Nat} {σ0 : AS} {i : Nat} {rs : List Nat} (hr : (Region.ready .any l.toArray listed.toArray).contains i = false) (h : AGs P w0 m0 n l Q ds σ0 listed σ rs) : AGs P w0 m0 n l Q ds σ0 listed σ (i :: rs) := ⟨.inl hr, h⟩
theorem ags_yes {ds : List Nat} {σ0 : AS} {i : Nat} {rs : List Nat} {oi : Oper} (hi : l[i]? = some oi) (hd : (match oi.dst with | some t => ds.elem t | none => true) = true) (h1 : ∀ w1 B, AR P w1 (Gv.inn B) l.toArray (fun e τ => e = .normal ∧ AG P w0 m0 n l Q ds σ0 (listed.set i true) τ) [oi] σ)
    (h : AGs P w0 m0 n l Q ds σ0 listed σ rs) : AGs P w0 m0 n l Q ds σ0 listed σ (i :: rs) := ⟨.inr ⟨oi, hi, hd, h1⟩, h⟩
theorem ag_all {ds : List Nat} {σ0 : AS} {cand : List Nat} (hc : idxs 0 l = cand) (hne : (Region.ready .any l.toArray listed.toArray).isEmpty = false) (h : AGs P w0 m0 n l Q ds σ0 listed σ cand) : AG P w0 m0 n l Q ds σ0 listed σ := fun ρ0 a0 w1 q0 ρ a w q ho fuel hfu => by
  subst hc
  have hne' : Region.ready .any l.toArray listed.toArray ≠ [] := by intro e; rw [e] at hne; cases hne
  have hf : ∃ f, fuel = f + 1 := by
    obtain ⟨i, hi⟩ := List.exists_mem_of_ne_nil _ hne'
    have ht := todo_set (listed_of (mem_ready.1 hi).1)
    exact ⟨fuel - 1, by omega⟩
  obtain ⟨f, rfl⟩ := hf
  refine ⟨fun e => absurd e hne', fun i hi => ?_⟩
  have ht := todo_set (listed_of (mem_ready.1 hi).1)
  have hlt : i < l.length := by
    obtain ⟨_, o, ho, _⟩ := mem_ready.1 hi
    have := (Array.getElem?_eq_some_iff.1 ho).1
    simpa using this
  obtain ⟨oi, h1, h2, h3⟩ := h.get i (idxs_mem l 0 i (by omega) (by omega)) (by simpa using hi)
  have h1' : l.toArray[i]? = some oi := by simpa using h1
  have h4 := h3 w1 ρ0.B ρ a w q
  have h5 : wpOp P l.toArray (lift P w1 (Gv.inn ρ0.B) (fun e τ => e = .normal ∧ AG P w0 m0 n l Q ds σ0 (listed.set i true) τ)) i (fun a' w' => lift P w1 (Gv.inn ρ0.B) (fun e τ => e = .normal ∧ AG P w0 m0 n l Q ds σ0 (listed.set i true) τ) .normal a' w') a w := by
    unfold wpOp; simp only [h1']; exact h4
  refine wpOp_any (fun e a w ⟨_, _, h, _⟩ => h.1) ?_ (wpOp_put h1' h5)
  rintro a' w' ⟨⟨ρ', τ, ⟨_, hτ⟩, q'⟩, hp⟩
  have hoff : Off ds a0 a' := by
    rcases hp with ⟨u, rfl⟩ | ⟨d, u, rfl⟩
    · exact ho.put (fun t ht => by rw [ht] at h2; exact h2) u
    · have := q'.df
      rw [put_defers] at this
      simp at this
  refine ⟨fun _ => Framed.below q'.fr, ?_⟩
  rw [List.setIfInBounds_toArray]
  exact hτ ρ0 a0 w1 q0 ρ' a' w' q' hoff f (by omega)
theorem ag_done {ds : List Nat} {σ0 : AS} (p : List Nat) (hpl : p.length = σ.nx) (hr : (Region.ready .any l.toArray listed.toArray).isEmpty = true) (hpn : p.Nodup) (hp : ∀ j ∈ p, j < σ.nx) {τ : AS} (hb : σ0.back ds p σ = τ) (h : Q .normal τ) : AG P w0 m0 n l Q ds σ0 listed σ := fun ρ0 a0 w1 q0 ρ a w q ho fuel _ => by
  subst hb
  obtain ⟨ρ'', r⟩ := q0.back hpn q hp ho
  exact anyT_done (by simpa using hr) ⟨ρ'', _, h, r⟩ _
/-! ### The last part: what writes the caller's memory -/
/-- Of the first n none is left: on in the caller's state. -/
theorem ag_late {ds : List Nat} {σ0 : AS} (p : List Nat) (hall : ((listed.take n).all fun b => b) = true) (hpl : p.length = σ.nx) (hpn : p.Nodup) (hp : ∀ j ∈ p, j < σ.nx) {τ : AS} (hb : σ0.back ds p σ = τ) (h : AL P w0 m0 n l Q listed τ) : AG P w0 m0 n l Q ds σ0 listed σ := fun ρ0 a0 w1 q0 ρ a w q ho fuel hfu => by
  subst hb
  obtain ⟨ρ'', r⟩ := q0.back hpn q hp ho
  exact h ρ'' a w r _ fuel hfu
theorem ag0_late (hall : ((listed.take n).all fun b => b) = true) (h : AL P w0 m0 n l Q listed σ) : AG0 P w0 m0 n l Q [] listed σ := fun hq ρ a w r fuel hfu => h ρ a w r _ fuel hfu
def ALs (P : Program) (w0 : World) (m0 : Gv) (n : Nat) (l : List Oper) (Q : Exit → AS → Prop) (listed : List Bool) (σ : AS) : List Nat → Prop
  | [] => True
  | i :: rs => ((Region.ready .any l.toArray listed.toArray).contains i = false ∨ ∃ oi, l[i]? = some oi ∧ n ≤ i ∧ AR P w0 m0 l.toArray (fun e τ => e = .normal ∧ AL P w0 m0 n l Q (listed.set i true) τ) [oi] σ) ∧ ALs P w0 m0 n l Q listed σ rs
theorem ALs.get : ∀ {rs : List Nat}, ALs P w0 m0 n l Q listed σ rs → ∀ i ∈ rs, (Region.ready .any l.toArray listed.toArray).contains i = true → ∃ oi, l[i]? = some oi ∧ n ≤ i ∧ AR P w0 m0 l.toArray (fun e τ => e = .normal ∧ AL P w0 m0 n l Q (listed.set i true) τ) [oi] σ
  | _ :: _, h, i, hi, hc => by
    rcases List.mem_cons.1 hi with rfl | hi
    · exact h.1.resolve_left (by rw [hc]; simp)
    · exact ALs.get h.2 i hi hc
theorem als_nil : ALs P w0 m0 n l Q listed σ [] := trivial
theorem als_no {i : Nat} {rs : List Nat} (hr : (Region.ready .any l.toArray listed.toArray).contains i = false) (h : ALs P w0 m0 n l Q listed σ rs) : ALs P w0 m0 n l Q listed σ (i :: rs) := ⟨.inl hr, h⟩
theorem als_yes {i : Nat} {rs : List Nat} {oi : Oper} (hi : l[i]? = some oi) (hn : decide (n ≤ i) = true) (h1 : AR P w0 m0 l.toArray (fun e τ => e = .normal ∧ AL P w0 m0 n l Q (listed.set i true) τ) [oi] σ)
    (h : ALs P w0 m0 n l Q listed σ rs) : ALs P w0 m0 n l Q listed σ (i :: rs) := ⟨.inr ⟨oi, hi, by simpa using hn, h1⟩, h⟩
theorem al_all {cand : List Nat} (hc : idxs 0 l = cand) (hne : (Region.ready .any l.toArray listed.toArray).isEmpty = false) (h : ALs P w0 m0 n l Q listed σ cand) : AL P w0 m0 n l Q listed σ := fun ρ a w q S fuel hfu => by
  subst hc
  have hne' : Region.ready .any l.toArray listed.toArray ≠ [] := by intro e; rw [e] at hne; cases hne
  have hf : ∃ f, fuel = f + 1 := by
    obtain ⟨i, hi⟩ := List.exists_mem_of_ne_nil _ hne'
    have ht := todo_set (listed_of (mem_ready.1 hi).1)
    exact ⟨fuel - 1, by omega⟩
  obtain ⟨f, rfl⟩ := hf
  refine ⟨fun e => absurd e hne', fun i hi => ?_⟩
  have ht := todo_set (listed_of (mem_ready.1 hi).1)
  have hlt : i < l.length := by
    obtain ⟨_, o, ho, _⟩ := mem_ready.1 hi
    have := (Array.getElem?_eq_some_iff.1 ho).1
    simpa using this
  obtain ⟨oi, h1, h2, h3⟩ := h.get i (idxs_mem l 0 i (by omega) (by omega)) (by simpa using hi)
  have h1' : l.toArray[i]? = some oi := by simpa using h1
  have h4 := h3 ρ a w q
  have h5 : wpOp P l.toArray (lift P w0 m0 (fun e τ => e = .normal ∧ AL P w0 m0 n l Q (listed.set i true) τ)) i (fun a' w' => lift P w0 m0 (fun e τ => e = .normal ∧ AL P w0 m0 n l Q (listed.set i true) τ) .normal a' w') a w := by
    unfold wpOp; simp only [h1']; exact h4
  refine wpOp_any (fun e a w ⟨_, _, h, _⟩ => h.1) ?_ h5
  rintro a' w' ⟨ρ', τ, ⟨_, hτ⟩, q'⟩
  refine ⟨fun hc => absurd hc (by omega), ?_⟩
  rw [List.setIfInBounds_toArray]
  exact hτ ρ' a' w' q' S f (by omega)
theorem al_done (hr : (Region.ready .any l.toArray listed.toArray).isEmpty = true) (h : Q .normal σ) : AL P w0 m0 n l Q listed σ := fun ρ a w q S fuel _ => anyT_done (by simpa using hr) ⟨ρ, σ, h, q⟩ _
theorem al_norm {listed' : List Bool} (hl : listed = listed') (k : AL P w0 m0 n l Q listed' σ) : AL P w0 m0 n l Q listed σ := by subst hl; exact k
/-- Every way through the region ends in the one state τ. -/
theorem awp_cut {c : Code} (τ : AS) (h : AWp P w0 m0 c (fun e σ => e = .normal ∧ σ = τ) σ) (k : Q .normal τ) : AWp P w0 m0 c Q σ := h.mono fun e σ ⟨h1, h2⟩ => by subst h1 h2; exact k
end
end Go.Proofs.YtdlebdgdcpemmaaGreatDoor
namespace Go.Proofs.YtdlebdgdcpemmaaGreatDoor
open Go.RowKit
set_option linter.unusedVariables false
set_option linter.unusedSimpArgs false
section
variable {P : Program} {σ : AS} {w0 : World} {m0 : Gv} {ρ : Env} {a : Act} {w : World}
variable {ops : Array Oper} {Q : Exit → AS → Prop} {rest : List Oper} {d : Option Tmp} {ty : TypeId} {pos : String} {af : Array Edge}
theorem q_len_v {t : TypeId} {x : Operand} {v : Value} {e : TypeId} {xs : List (List Value)} (ht : sliceB P t = true) (hx : σ.ev x = .c (.sv v e xs)) : QOp P (.call { callee := .builtin .len, args := #[x], argTypes := #[t] }) σ (.c (.p (.int .i64 xs.length))) :=
  fun _ _ ρ f w _ _ _ _ _ h => by
    have h1 := h.ev x
    rw [hx] at h1
    obtain ⟨h2, _, h3⟩ := h1
    obtain ⟨A, c, hv⟩ := h3.val
    obtain ⟨e', he⟩ := sliceB_spec ht
    exact ⟨_, rfl, fun W _ => by simp [execOp, resolve, invoke, builtin, hv, Builtin.len_, run_underlying he, goInt]⟩
end
end Go.Proofs.YtdlebdgdcpemmaaGreatDoor
namespace Go.Proofs.YtdlebdgdcpemmaaGreatDoor
open Go.RowKit
set_option linter.unusedVariables false
set_option linter.unusedSimpArgs false
def AC.rsel (p : List Nat) : AC → AC
  | .sl e .ro xs => .sl e .ro xs
  | .sl e (.own j) xs => if p.elem j then .sl e (.own (p.idxOf j)) xs else .top
  | .sl e (.sub j) xs => if p.elem j then .sl e (.sub (p.idxOf j)) xs else .top
  | .rp .ro cs => .rp .ro cs
  | .rp (.own j) cs => if p.elem j then .rp (.own (p.idxOf j)) cs else .top
  | .rp (.sub j) cs => if p.elem j then .rp (.sub (p.idxOf j)) cs else .top
  | .top => .top
  | .p v => .p v
  | .nl => .nl
  | .ptr b o => .ptr b o
  | .bsl b sn sc => .bsl b sn sc
  | .sv v e xs => .sv v e xs
  | .ep e k xs i j => if p.elem k then .ep e (p.idxOf k) xs i j else .top
  | .fo f bs => .fo f bs
  | .fr f css => .fr f css
def AW.rsel (p : List Nat) : AW → AW
  | .c x => .c (x.rsel p)
  | .agg cs => .agg (cs.map (AC.rsel p))
def AV.rsel (p : List Nat) : AV → AV
  | .c x => .c (x.rsel p)
  | .agg cs => .agg (cs.map (AC.rsel p))
  | .tup ws => .tup (ws.map (AW.rsel p))
def AS.rsel (σ : AS) (p : List Nat) : AS := ⟨σ.tm.map (AV.rsel p), σ.hp.map (List.map (AC.rsel p)), p.length⟩
def Env.rsel (ρ : Env) (p : List Nat) : Env := ⟨ρ.B, ρ.m, p.map fun j => ρ.om.getD j 0, ρ.ov⟩
section
variable {P : Program} {σ : AS} {w0 : World} {m0 : Gv} {ρ : Env} {a : Act} {w : World} {p : List Nat}
theorem rsel_mem {l : List Nat} (hp : ∀ j ∈ p, j < l.length) {g : Nat} (h : g ∈ p.map fun j => l.getD j 0) : g ∈ l := by
  obtain ⟨j, hj, rfl⟩ := List.mem_map.1 h
  have := hp j hj
  simp [this]
theorem rsel_get {l : List Nat} {j g : Nat} (h : l[j]? = some g) (hj : p.elem j = true) : (p.map fun j => l.getD j 0)[p.idxOf j]? = some g := by
  have hjm : j ∈ p := List.elem_iff.1 hj
  have hlt : p.idxOf j < p.length := List.idxOf_lt_length_of_mem hjm
  rw [List.getElem?_map, List.getElem?_eq_getElem hlt, List.getElem_idxOf hlt]
  simp [h]
theorem Ow.rsel_ro (hp : ∀ j ∈ p, j < ρ.om.length) {g : Nat} (h : Ow.at_ ρ g .ro) : Ow.at_ (ρ.rsel p) g .ro := ⟨h.1, fun hm => h.2 (rsel_mem hp hm)⟩
theorem RdS.rsel_ro (hp : ∀ j ∈ p, j < ρ.om.length) {e : TypeId} {xs : List (List Value)} {u : Value} (k : RdS P ρ w e .ro xs u) : RdS P (ρ.rsel p) w e .ro xs u := by
  rcases k with k | ⟨g, off, c, rfl, hc, hg, ha, he⟩
  · exact .inl k
  · exact .inr ⟨g, off, c, rfl, hc, hg, Ow.rsel_ro hp ha, he⟩
theorem RdS.rsel {e : TypeId} {j : Nat} (hj : p.elem j = true) {xs : List (List Value)} {u : Value} (k : RdS P ρ w e (.sub j) xs u) : RdS P (ρ.rsel p) w e (.sub (p.idxOf j)) xs u := by
  rcases k with k | ⟨g, off, c, rfl, hc, hg, ha, he⟩
  · exact .inl k
  · exact .inr ⟨g, off, c, rfl, hc, hg, rsel_get ha hj, he⟩
theorem OwS.rsel {e : TypeId} {j : Nat} (hj : p.elem j = true) {xs : List (List Value)} {u : Value} (k : OwS P ρ w e j xs u) : OwS P (ρ.rsel p) w e (p.idxOf j) xs u := by
  obtain ⟨hl, g, hg, hv, hu, ho⟩ := k
  exact ⟨hl, g, rsel_get hg hj, hv, hu, ho⟩
theorem PtrO.rsel : ∀ {bs : List Nat} {vs : List Value}, PtrO ρ bs vs → PtrO (ρ.rsel p) bs vs
  | [], [], _ => trivial
  | b :: bs, v :: vs, ⟨⟨g, h1, h2⟩, k⟩ => ⟨⟨g, h1, h2⟩, PtrO.rsel k⟩
theorem PtrR.rsel (hp : ∀ j ∈ p, j < ρ.om.length) : ∀ {css : List (List Value)} {vs : List Value}, PtrR ρ w css vs → PtrR (ρ.rsel p) w css vs
  | [], [], _ => trivial
  | _ :: _, _ :: _, ⟨⟨g, off, e, hg, ha, hc⟩, q⟩ => ⟨⟨g, off, e, hg, Ow.rsel_ro hp ha, hc⟩, PtrR.rsel hp q⟩
theorem RepC.rsel (hp : ∀ j ∈ p, j < ρ.om.length) {x : AC} {u : Value} (k : RepC P ρ w x u) : RepC P (ρ.rsel p) w (x.rsel p) u := by
  cases x with
  | top => trivial
  | p v => exact k
  | nl => exact k
  | ptr b o => exact k
  | bsl b sn sc => exact k
  | sl e o xs =>
    cases o with
    | ro => exact ⟨k.1, RdS.rsel_ro hp k.2⟩
    | own j =>
      show RepC P (ρ.rsel p) w (if p.elem j then .sl e (.own (p.idxOf j)) xs else .top) u
      by_cases hj : p.elem j = true
      · rw [if_pos hj]; exact ⟨k.1, OwS.rsel hj k.2⟩
      · rw [if_neg hj]; trivial
    | sub j =>
      show RepC P (ρ.rsel p) w (if p.elem j then .sl e (.sub (p.idxOf j)) xs else .top) u
      by_cases hj : p.elem j = true
      · rw [if_pos hj]; exact ⟨k.1, RdS.rsel hj k.2⟩
      · rw [if_neg hj]; trivial
  | rp o cs =>
    obtain ⟨g, off, rfl, hg, ha, hc⟩ := k
    cases o with
    | ro => exact ⟨g, off, rfl, hg, Ow.rsel_ro hp ha, hc⟩
    | own j =>
      show RepC P (ρ.rsel p) w (if p.elem j then .rp (.own (p.idxOf j)) cs else .top) _
      by_cases hj : p.elem j = true
      · rw [if_pos hj]; exact ⟨g, off, rfl, hg, rsel_get ha hj, hc⟩
      · rw [if_neg hj]; trivial
    | sub j =>
      show RepC P (ρ.rsel p) w (if p.elem j then .rp (.sub (p.idxOf j)) cs else .top) _
      by_cases hj : p.elem j = true
      · rw [if_pos hj]; exact ⟨g, off, rfl, hg, rsel_get ha hj, hc⟩
      · rw [if_neg hj]; trivial
  | sv v e xs => exact ⟨k.1, k.2.1, RdS.rsel_ro hp k.2.2⟩
  | ep e j xs a b =>
    show RepC P (ρ.rsel p) w (if p.elem j then .ep e (p.idxOf j) xs a b else .top) u
    by_cases hj : p.elem j = true
    · rw [if_pos hj]
      obtain ⟨h1, g, v, h2, h3, h4⟩ := k
      exact ⟨h1, g, v, rsel_get h2 hj, h3, OwS.rsel hj h4⟩
    · rw [if_neg hj]; trivial
  | fo f bs => obtain ⟨vs, h1, h2⟩ := k; exact ⟨vs, h1, h2.rsel⟩
  | fr f css => obtain ⟨vs, h1, h2⟩ := k; exact ⟨vs, h1, h2.rsel hp⟩
theorem RepL.rsel (hp : ∀ j ∈ p, j < ρ.om.length) : ∀ {xs : List AC} {vs : List Value}, RepL P ρ w xs vs → RepL P (ρ.rsel p) w (xs.map (AC.rsel p)) vs
  | [], [], _ => trivial
  | _ :: _, _ :: _, k => ⟨k.1.rsel hp, RepL.rsel hp k.2⟩
theorem RepW.rsel (hp : ∀ j ∈ p, j < ρ.om.length) {x : AW} {u : Value} (k : RepW P ρ w x u) : RepW P (ρ.rsel p) w (x.rsel p) u := by
  cases x with
  | c x => exact RepC.rsel hp k
  | agg cs => obtain ⟨vs, rfl, hl⟩ := k; exact ⟨vs, rfl, hl.rsel hp⟩
theorem RepWs.rsel (hp : ∀ j ∈ p, j < ρ.om.length) : ∀ {xs : List AW} {vs : List Value}, RepWs P ρ w xs vs → RepWs P (ρ.rsel p) w (xs.map (AW.rsel p)) vs
  | [], [], _ => trivial
  | _ :: _, _ :: _, k => ⟨k.1.rsel hp, RepWs.rsel hp k.2⟩
theorem RepV.rsel (hp : ∀ j ∈ p, j < ρ.om.length) {x : AV} {u : Value} (k : RepV P ρ w x u) : RepV P (ρ.rsel p) w (x.rsel p) u := by
  cases x with
  | c x => exact RepC.rsel hp k
  | agg cs => obtain ⟨vs, rfl, hl⟩ := k; exact ⟨vs, rfl, hl.rsel hp⟩
  | tup ws => obtain ⟨vs, rfl, hl⟩ := k; exact ⟨vs, rfl, hl.rsel hp⟩
theorem rsel_nodup {l : List Nat} (hl : l.Nodup) (hn : p.Nodup) (hp : ∀ j ∈ p, j < l.length) : (p.map fun j => l.getD j 0).Nodup := by
  refine List.Pairwise.map _ (fun i j (hij : i ≠ j ∧ i ∈ p ∧ j ∈ p) => ?_) (List.Pairwise.imp_of_mem (fun {i j} hi hj hne => ⟨hne, hi, hj⟩) hn)
  have l1 := hp i hij.2.1
  have l2 := hp j hij.2.2
  simp only [List.getD_eq_getElem?_getD, List.getElem?_eq_getElem l1, List.getElem?_eq_getElem l2, Option.getD_some]
  intro e
  have hpp := List.pairwise_iff_getElem.1 hl
  rcases Nat.lt_or_gt_of_ne hij.1 with hlt | hlt
  · exact hpp _ _ l1 l2 hlt e
  · exact hpp _ _ l2 l1 hlt e.symm
theorem Rel.rsel (h : Rel P w0 m0 ρ σ a w) (h0 : m0.l = []) (hn : p.Nodup) (hp : ∀ j ∈ p, j < σ.nx) : Rel P w0 m0 (ρ.rsel p) (σ.rsel p) a w := by
  have hp' : ∀ j ∈ p, j < ρ.om.length := fun j hj => by rw [h.nx]; exact hp j hj
  refine ⟨h.B, h.Bw, h.fr, h.pre, h.ml, h.nd, fun g hg => h.ob g (rsel_mem hp' hg), rsel_nodup h.no hn hp', fun j g hj => ?_, ?_, by simp [AS.rsel, Env.rsel, h.hl], fun b cs hc => ?_, by simp [AS.rsel, h.tl], fun i x hx => ?_, h.df⟩
  · rw [h0] at hj; simp at hj
  · show (p.map fun j => ρ.om.getD j 0).length = p.length
    simp
  · simp only [AS.rsel, List.getElem?_map] at hc
    obtain ⟨ds, h1, rfl⟩ := Option.map_eq_some_iff.1 hc
    obtain ⟨g, hg, us, t, h3, h4⟩ := h.hp b ds h1
    exact ⟨g, hg, us, t, h3, h4.rsel hp'⟩
  · simp only [AS.rsel, List.getElem?_map] at hx
    obtain ⟨y, h1, rfl⟩ := Option.map_eq_some_iff.1 hx
    exact (h.tm i y h1).rsel hp'
/-- A loop whose rounds box variables and make rows anew: behind a round the blocks from k on are forgotten, of the rows those of p stay. -/
theorem awp_loopR {α : Type} {c : Code} {Q : Exit → AS → Prop} (k : Nat) (hk : m0.m.length ≤ k) (h00 : m0.l = []) (keep : List Nat) (V : α → List (Nat × AV)) (H : α → List (List AC)) (N : α → Nat) (R : Nat → α → Prop) (n0 : Nat) (x0 : α) (h0 : R n0 x0) (hle : σ.le (σ.head keep (V x0) (H x0) (N x0)))
    (round : ∀ n x, R n x → AWp P w0 m0 c (Exit.thenA (fun σ' => ∃ n' x' p, n' < n ∧ R n' x' ∧ p.Nodup ∧ (∀ j ∈ p, j < σ'.nx) ∧ ((σ'.cut k).rsel p).le (σ.head keep (V x') (H x') (N x'))) Q) (σ.head keep (V x) (H x) (N x))) : AWp P w0 m0 (.loop c) Q σ :=
  awp_loop (fun n τ => ∃ x, R n x ∧ τ = σ.head keep (V x) (H x) (N x)) n0 ⟨_, hle, x0, h0, rfl⟩ fun n τ ⟨x, hR, he⟩ => by
    subst he
    intro ρ a w r
    refine wp_mono (round n x hR ρ a w r) fun e a' w' ⟨ρ', σ', q, r'⟩ => ?_
    cases e <;> first | exact ⟨ρ', σ', q, r'⟩ | (obtain ⟨n', x', p, h1, h2, h3, h4, h5⟩ := q; exact ⟨(ρ'.cut k).rsel p, (σ'.cut k).rsel p, ⟨n', _, h1, h5, x', h2, rfl⟩, (r'.cut hk).rsel h00 h3 h4⟩)
end
end Go.Proofs.YtdlebdgdcpemmaaGreatDoor
namespace Go.Proofs.YtdlebdgdcpemmaaGreatDoor
open Go.RowKit
set_option linter.unusedVariables false
set_option linter.unusedSimpArgs false
section
variable {P : Program} {σ : AS} {w0 : World} {m0 : Gv} {ρ : Env} {a : Act} {w : World}
variable {ops : Array Oper} {Q : Exit → AS → Prop} {rest : List Oper} {d : Option Tmp} {ty : TypeId} {pos : String} {af : Array Edge}
theorem q_indexAddr_v {t e : TypeId} {x y : Operand} {u : Value} {xs : List (List Value)} {k : IntKind} {i : Int} {v : List Value} (ht : sliceE P t e = true) (hx : σ.ev x = .c (.sv u e xs)) (hy : σ.ev y = .c (.p (.int k i))) (hi : 0 ≤ i) (hv : xs[i.toNat]? = some v) : QOp P (.indexAddr t x y) σ (.c (.rp .ro v)) :=
  fun _ _ ρ f w _ _ _ _ _ h => by
    have h1 := h.ev x
    rw [hx] at h1
    obtain ⟨h2, _, h3⟩ := h1
    obtain ⟨g, off, c, he, hg, ha, hl, hc⟩ := h3.at_ hv
    obtain ⟨hu, hz⟩ := sliceE_spec ht
    have hlt := (List.getElem?_eq_some_iff.1 hv).1
    refine ⟨.pointer (some ⟨g, off + i.toNat * P.cellsOf e, none⟩), ⟨g, _, rfl, hg, ha, fun j v hv => by rw [Nat.add_assoc]; exact hc j v hv⟩, fun W _ => ?_⟩
    have hb : 0 ≤ i ∧ i < (xs.length : Int) := ⟨hi, by omega⟩
    have he' : f.eval x = _ := he
    simp [execOp, he', h.evp hy, Instr.indexAt, asIntOf, run_underlying hu, size_cellsOf (t := t) hz, hb, addr_add]
/-- The call ends with one of many results: x, of which φ holds. -/
def ACallsE (P : Program) (f : FuncId) (args : List AV) (hp : List (List AC)) {S : Type} (φ : S → Prop) (r : S → AV) (hp' : S → List (List AC)) (k : S → Nat) : Prop :=
  ∀ (m : List Nat) (w : World) (vs : Array Value), m.Nodup → (∀ g ∈ m, g < w.heap.size) → m.length = hp.length → (∀ (b : Nat) cs, hp[b]? = some cs → ∃ g : Nat, m[b]? = some g ∧ HpAt P (E0 w.heap.size m) w cs g) →
    RepVs P (E0 w.heap.size m) w args vs.toList →
    Calls P f vs w (fun e w' => ∃ x, φ x ∧ ∃ (u : Value) (om : List Nat) (ov : Nat → Value), e = .returned u ∧ om.Nodup ∧ om.length = k x ∧ (∀ g ∈ om, w.heap.size ≤ g ∧ g < w'.heap.size) ∧ RepV P ⟨w.heap.size, m, om, ov⟩ w' (r x) u ∧
      (hp' x).length = hp.length ∧ (∀ (b : Nat) cs, (hp' x)[b]? = some cs → ∃ g : Nat, m[b]? = some g ∧ HpAt P (E0 w.heap.size m) w' cs g) ∧ Framed m w w')
theorem ACallsE.mono {f : FuncId} {args : List AV} {hp : List (List AC)} {S : Type} {φ ψ : S → Prop} {r : S → AV} {hp' : S → List (List AC)} {k : S → Nat} (h : ACallsE P f args hp φ r hp' k) (hq : ∀ x, φ x → ψ x) : ACallsE P f args hp ψ r hp' k :=
  fun m w vs h1 h2 h3 h4 h5 => (h m w vs h1 h2 h3 h4 h5).mono fun e w' ⟨x, hx, hh⟩ => ⟨x, hq x hx, hh⟩
theorem ACalls.some {f : FuncId} {args : List AV} {hp : List (List AC)} {S : Type} {φ : S → Prop} {r : S → AV} {hp' : S → List (List AC)} {k : S → Nat} (x : S) (hx : φ x) (h : ACalls P f args hp (r x) (hp' x) (k x)) : ACallsE P f args hp φ r hp' k :=
  fun m w vs h1 h2 h3 h4 h5 => (h m w vs h1 h2 h3 h4 h5).mono fun e w' hh => ⟨x, hx, hh⟩
theorem ACallsE.one {f : FuncId} {args : List AV} {hp : List (List AC)} {S : Type} {v v' : S} {r : S → AV} {hp' : S → List (List AC)} {k : S → Nat} (h : ACallsE P f args hp (fun x => x = v) r hp' k) (e : v = v') : ACalls P f args hp (r v') (hp' v') (k v') :=
  fun m w vs h1 h2 h3 h4 h5 => (h m w vs h1 h2 h3 h4 h5).mono fun en w' ⟨x, hx, hh⟩ => by subst hx e; exact hh
/-- A slice argument is known by its value too. -/
theorem ACallsE.sv {f : FuncId} {e : TypeId} {xs : List (List Value)} {args : List AV} {hp : List (List AC)} {S : Type} {φ : S → Prop} {r : S → AV} {hp' : S → List (List AC)} {k : S → Nat} (h : ∀ v, ACallsE P f (.c (.sv v e xs) :: args) hp φ r hp' k) : ACallsE P f (.c (.sl e .ro xs) :: args) hp φ r hp' k := by
  intro m w vs h1 h2 h3 h4 h5
  match hv : vs.toList, h5 with
  | u :: us, ⟨h6, h7⟩ =>
    refine h u m w vs h1 h2 h3 h4 ?_
    rw [hv]
    exact ⟨⟨rfl, h6.1, h6.2⟩, h7⟩
/-- A call that hands back one of many. -/
theorem ar_callE {f : FuncId} {xs : List Operand} {ts : Array TypeId} {S : Type} {φ : S → Prop} {r : S → AV} {k : S → Nat} (hf : callB P f = true) (hc : ACallsE P f (xs.map fun x => (σ.ev x).ro) [] φ r (fun _ => []) k) (hr : ∀ x, (r x).fresh = true)
    (h : ∀ x, φ x → AR P w0 m0 ops Q rest ((σ.rows (k x)).put d ((r x).sh σ.nx))) : AR P w0 m0 ops Q (⟨d, .call { callee := .value (.func f), args := xs.toArray, argTypes := ts }, ty, pos, af, none⟩ :: rest) σ := fun ρ a w q => by
  refine wpList_plain rfl fun K hK => ?_
  unfold Oper.wp
  rw [run_call hf]
  have := hc [] w (xs.toArray.map a.eval) List.nodup_nil (by simp) rfl (by simp) (by simpa using RepVs.of q xs)
  refine this.mono ?_
  rintro e w' ⟨x, hx, u, om, ov, rfl, h1, h0, h2, h3, _, _, hfr⟩
  have hb := hfr.below
  have q' := q.rows ov hb h1 h2
  rw [h0] at q'
  refine hK _ _ (h x hx _ _ w' (q'.put d (h3.sh ⟨?_, fun j g hj => ?_, fun j g hj => ?_⟩ (hr x))))
  · show ρ.B ≤ w.heap.size
    rw [q.B]; exact Nat.le_trans q.Bw q.fr.size
  · show (ρ.om ++ om)[σ.nx + j]? = some g
    rw [List.getElem?_append_right (by rw [q.nx]; omega), q.nx, Nat.add_sub_cancel_left]; exact hj
  · show (if om.elem g then ov g else ρ.ov g) = ov g
    rw [if_pos (List.elem_iff.2 (List.mem_of_getElem? hj))]
/-- The cells of a block handed down: the first one a slice that stays. -/
def svc (v : Value) (e : TypeId) (xs : List (List Value)) (us : List Value) : List AC := .sv v e xs :: us.map .p
/-- A call with a block of a slice and plain cells, which it writes. -/
theorem ar_callC {f : FuncId} {y : Operand} {xs : List Operand} {ts : Array TypeId} {S : Type} {φ : S → Prop} {r : S → AV} {k : S → Nat} {b : Nat} {v : Value} {e : TypeId} {zs : List (List Value)} {us : List Value} {us' : S → List Value} (hf : callB P f = true) (hx : σ.ev y = .c (.ptr b 0)) (hh : σ.hp[b]? = some (svc v e zs us))
    (hc : ACallsE P f (.c (.ptr 0 0) :: xs.map fun x => (σ.ev x).ro) [svc v e zs us] φ r (fun x => [svc v e zs (us' x)]) k) (hr : ∀ x, (r x).fresh = true)
    (h : ∀ x, φ x → AR P w0 m0 ops Q rest (((σ.sto b (svc v e zs (us' x))).rows (k x)).put d ((r x).sh σ.nx))) : AR P w0 m0 ops Q (⟨d, .call { callee := .value (.func f), args := (y :: xs).toArray, argTypes := ts }, ty, pos, af, none⟩ :: rest) σ := fun ρ a w q => by
  refine wpList_plain rfl fun K hK => ?_
  unfold Oper.wp
  rw [run_call hf]
  have h1 := q.ev y
  rw [hx] at h1
  obtain ⟨g, hg, he⟩ := h1
  obtain ⟨g', hg', vs, t', hb, hl⟩ := q.hp b _ hh
  obtain rfl : g = g' := by rw [hg] at hg'; injection hg'
  have hgm := List.mem_of_getElem? hg
  have hgl := q.ml g hgm
  have hsub : ∀ k ∈ [g], k ∈ ρ.m := by simpa using hgm
  have hargs : RepVs P (E0 w.heap.size [g]) w (.c (.ptr 0 0) :: xs.map fun x => (σ.ev x).ro) ((y :: xs).toArray.map a.eval).toList := by
    have hxs : ∀ xs : List Operand, RepVs P (E0 w.heap.size [g]) w (xs.map fun x => (σ.ev x).ro) (xs.map a.eval) := by
      intro xs
      induction xs with
      | nil => trivial
      | cons z zs ih => exact ⟨(q.ev z).ro q _ hsub, ih⟩
    have := hxs xs
    simp only [List.map_toArray, List.map_cons]
    exact ⟨⟨g, rfl, he⟩, this⟩
  have hcell : RepL P (E0 w.heap.size [g]) w (svc v e zs us) vs.toList := by
    have h2 := hl.ro q w.heap.size hsub
    have e1 : (svc v e zs us).map AC.ro = svc v e zs us := by
      simp only [svc, List.map_cons, List.map_map]
      congr 1
    rwa [e1] at h2
  have hsv : RepC P ρ w (.sv v e zs) (vs.toList.headD undef) ∧ vs.toList.headD undef = v := by
    match hvl : vs.toList, hl with
    | u :: us1, hl => exact ⟨hl.1, hl.1.1⟩
  refine (hc [g] w ((y :: xs).toArray.map a.eval) (by simp) (by simpa using hgl) rfl (fun b' ds hd => ?_) hargs).mono ?_
  · cases b' with
    | zero => simp at hd; subst hd; exact ⟨g, rfl, vs, t', hb, hcell⟩
    | succ b' => simp at hd
  rintro en w' ⟨x, hφ, u, om, ov, rfl, o1, o0, o2, h3, _, h5, hfr⟩
  obtain ⟨g2, hg2, vs2, t2, hb2, hl2⟩ := h5 0 _ rfl
  obtain rfl : g = g2 := by simpa using hg2
  have hw0 : w0.heap.size ≤ w.heap.size := q.fr.size
  have st : Stab ρ w (ρ.rows om ov) w' := by
    refine ⟨rfl, hfr.size, fun k hk hn => hfr.blk k hk (fun e => hn (by rw [List.mem_singleton] at e; exact e ▸ hgm)), fun _ _ h => h, fun b k hk => ?_, fun k hk h1 h2 => ⟨h1, ?_⟩, fun k hk => (q.ob k hk).2.2, fun k hk => ?_⟩
    · show (ρ.om ++ om)[b]? = some k
      rw [List.getElem?_append_left (List.getElem?_eq_some_iff.1 hk).1]; exact hk
    · show k ∉ ρ.om ++ om
      simp only [List.mem_append, not_or]
      exact ⟨h2, fun hm => by have := (o2 k hm).1; omega⟩
    · show (if om.elem k then ov k else ρ.ov k) = ρ.ov k
      rw [if_neg]
      intro hm
      have := (o2 k (List.elem_iff.1 hm)).1
      have := (q.ob k hk).2.1
      omega
  have hfr' : Framed (m0.m ++ m0.l) w0 w' := by
    refine ⟨hfr.os.trans q.fr.os, hfr.tape.trans q.fr.tape, hfr.output.trans q.fr.output, Nat.le_trans q.fr.size hfr.size, fun k hk hn => ?_⟩
    have hkg : k ≠ g := by
      rintro rfl
      obtain ⟨l, h1, h2⟩ := q.pre
      rw [h1] at hgm
      rcases List.mem_append.1 hgm with hm | hm
      · exact hn (List.mem_append_left _ hm)
      · have := h2 k hm; omega
    exact (hfr.blk k (Nat.lt_of_lt_of_le hk q.fr.size) (by simpa using hkg)).trans (q.fr.blk k hk hn)
  have hcell2 : RepL P (ρ.rows om ov) w' (svc v e zs (us' x)) vs2.toList := by
    match hvl : vs2.toList, hl2 with
    | u2 :: us2, hl2 =>
      have e2 : us2 = us' x := repL_plain hl2.2
      have e3 : u2 = v := hl2.1.1
      have h6 := hsv.1.keep st
      rw [hsv.2] at h6
      rw [e2, e3]
      exact ⟨h6, repL_p (us' x)⟩
  have main : Rel P w0 m0 (ρ.rows om ov) ((σ.sto b (svc v e zs (us' x))).rows (k x)) a w' := by
    refine ⟨q.B, q.Bw, hfr', q.pre, fun k hk => Nat.lt_of_lt_of_le (q.ml k hk) hfr.size, q.nd, fun k hk => ?_, ?_, fun j l hj => ?_, ?_, by simp [AS.sto, AS.rows, Env.rows, q.hl], fun b' ds hd => ?_, q.tl, fun i y hy => (q.tm i y hy).keep st, q.df⟩
    · rcases List.mem_append.1 hk with hk | hk
      · obtain ⟨h1, h2, h3⟩ := q.ob k hk
        exact ⟨h1, Nat.lt_of_lt_of_le h2 hfr.size, h3⟩
      · obtain ⟨h1, h2⟩ := o2 k hk
        exact ⟨.inr (by omega), h2, fun hm => by have := q.ml k hm; omega⟩
    · refine List.nodup_append.2 ⟨q.no, o1, fun x hx y hy => ?_⟩
      have := (q.ob x hx).2.1
      have := (o2 y hy).1
      omega
    · obtain ⟨h1, h2⟩ := q.lp j l hj
      exact ⟨st.om j l h1, by rw [st.ov l (List.mem_of_getElem? h1)]; exact h2⟩
    · show (ρ.om ++ om).length = σ.nx + k x
      rw [List.length_append, q.nx, o0]
    · simp only [AS.sto, AS.rows, List.getElem?_set] at hd
      by_cases hbb : b = b'
      · subst hbb
        rw [if_pos rfl] at hd
        split at hd
        · injection hd with hd
          subst hd
          exact ⟨g, hg, vs2, t2, hb2, hcell2⟩
        · cases hd
      · rw [if_neg hbb] at hd
        obtain ⟨g3, hg3, us3, t3, h1, h2⟩ := q.hp b' ds hd
        have hne : g3 ≠ g := by
          rintro rfl
          have hp := List.pairwise_iff_getElem.1 q.nd
          obtain ⟨l1, e1⟩ := List.getElem?_eq_some_iff.1 hg
          obtain ⟨l2, e2⟩ := List.getElem?_eq_some_iff.1 hg3
          rcases Nat.lt_or_gt_of_ne hbb with hlt | hlt
          · exact hp _ _ l1 l2 hlt (e1.trans e2.symm)
          · exact hp _ _ l2 l1 hlt (e2.trans e1.symm)
        exact ⟨g3, hg3, us3, t3, (hfr.blk g3 (q.ml g3 (List.mem_of_getElem? hg3)) (by simpa using hne)).trans h1, h2.keep st⟩
  have hres : RepV P (⟨w.heap.size, [], om, ov⟩ : Env) w' (r x) u := by
    have hshape : ∀ {y : AC} {v : Value}, y.fresh = true → RepC P ⟨w.heap.size, [g], om, ov⟩ w' y v → RepC P ⟨w.heap.size, [], om, ov⟩ w' y v := fun {y v} hf hk => by
      cases y with
      | top => trivial
      | p v => exact hk
      | nl => exact hk
      | sl e o xs =>
        cases o with
        | own j => exact hk
        | ro => cases hf
        | sub j => cases hf
      | ptr b o => cases hf
      | bsl b sn sc => cases hf
      | rp o cs => cases hf
      | sv v e xs => cases hf
      | ep e n xs i j => cases hf
      | fo f bs => cases hf
      | fr f css => cases hf
    have hshL : ∀ {ys : List AC} {vs : List Value}, ys.all AC.fresh = true → RepL P ⟨w.heap.size, [g], om, ov⟩ w' ys vs → RepL P ⟨w.heap.size, [], om, ov⟩ w' ys vs := fun {ys} => by
      induction ys with
      | nil => intro vs _ hk; cases vs with
        | nil => trivial
        | cons _ _ => exact hk
      | cons y ys ih => intro vs hf hk; cases vs with
        | nil => exact hk
        | cons v vs =>
          simp only [List.all_cons, Bool.and_eq_true] at hf
          exact ⟨hshape hf.1 hk.1, ih hf.2 hk.2⟩
    have hshW : ∀ {y : AW} {v : Value}, y.fresh = true → RepW P ⟨w.heap.size, [g], om, ov⟩ w' y v → RepW P ⟨w.heap.size, [], om, ov⟩ w' y v := fun {y v} hf hk => by
      cases y with
      | c y => exact hshape hf hk
      | agg cs => obtain ⟨vs, rfl, hk⟩ := hk; exact ⟨vs, rfl, hshL hf hk⟩
    have hshWs : ∀ {ys : List AW} {vs : List Value}, ys.all AW.fresh = true → RepWs P ⟨w.heap.size, [g], om, ov⟩ w' ys vs → RepWs P ⟨w.heap.size, [], om, ov⟩ w' ys vs := fun {ys} => by
      induction ys with
      | nil => intro vs _ hk; cases vs with
        | nil => trivial
        | cons _ _ => exact hk
      | cons y ys ih => intro vs hf hk; cases vs with
        | nil => exact hk
        | cons v vs =>
          simp only [List.all_cons, Bool.and_eq_true] at hf
          exact ⟨hshW hf.1 hk.1, ih hf.2 hk.2⟩
    have hf := hr x
    revert h3 hf
    cases r x with
    | c y => exact fun h3 hf => hshape hf h3
    | agg cs => rintro ⟨vs, rfl, hk⟩ hf; exact ⟨vs, rfl, hshL hf hk⟩
    | tup ws => rintro ⟨vs, rfl, hk⟩ hf; exact ⟨vs, rfl, hshWs hf hk⟩
  refine hK _ _ (h x hφ _ _ w' (main.put d (hres.sh ⟨?_, fun j l hj => ?_, fun j l hj => ?_⟩ (hr x))))
  · show ρ.B ≤ w.heap.size
    rw [q.B]; exact Nat.le_trans q.Bw q.fr.size
  · show (ρ.om ++ om)[σ.nx + j]? = some l
    rw [List.getElem?_append_right (by rw [q.nx]; omega), q.nx, Nat.add_sub_cancel_left]; exact hj
  · show (if om.elem l then ov l else ρ.ov l) = ov l
    rw [if_pos (List.elem_iff.2 (List.mem_of_getElem? hj))]
/-- A contract of one of many results out of a function's body. -/
theorem acallsE_of {f : FuncId} {fn : Func} {c : Code} {args : List AV} {hp : List (List AC)} {S : Type} {φ : S → Prop} {hp' : S → List (List AC)} {ws : S → List AW} {k : S → Nat} (hf : P.funcs[f]? = some fn) (hb : fn.body = some c) (ho : ∀ x, (ws x).all AW.out = true) (hi : ∀ x, (ws x).all (AW.ids (k x)) = true) (hback : ∀ x, (hp' x).all (fun cs => cs.all AC.back) = true)
    (h : ∀ w0 B m, m.length = hp.length → AWp P w0 ⟨B, m, [], fun _ => .tuple #[]⟩ c (fun e σ => (e = .normal ∨ e = .ret) ∧ ∃ x, φ x ∧ AEnd P hp.length fn (ws x) (hp' x) (k x) σ) ⟨args ++ List.replicate (fn.ntmps - args.length) .top, hp, 0⟩) : ACallsE P f args hp φ (fun x => one (ws x)) hp' k := by
  intro m w vs hnd hlt hlen hhp hargs
  have hal := hargs.len
  have hvs : vs.size = args.length := by rw [hal]; simp
  refine calls_of_wp hf hb (wp_mono (h w w.heap.size m hlen (E0 w.heap.size m) _ w ?_) ?_)
  · refine ⟨rfl, Nat.le_refl _, .refl _ _, ⟨[], by simp [E0], by simp⟩, hlt, hnd, by simp [E0], by simp [E0], by simp, rfl, hlen.symm, hhp, by simp [hvs], fun i x hx => ?_, rfl⟩
    show RepV P _ w x ((vs ++ Array.replicate (fn.ntmps - vs.size) undef).getD i undef)
    by_cases hi : i < args.length
    · rw [List.getElem?_append_left hi] at hx
      obtain ⟨v, h1, h2⟩ := hargs.get hx
      rw [Array.getD_eq_getD_getElem?, Array.getElem?_append_left (by omega), ← Array.getElem?_toList, h1]
      exact h2
    · rw [List.getElem?_append_right (by omega)] at hx
      have := List.mem_of_getElem? hx
      rw [(List.mem_replicate.1 this).2]
      exact RepV.top
  · rintro e a w' ⟨ρ, σ, ⟨he, x, hφ, ⟨ids, h1, h2, h3, hres⟩, ⟨h4, h5⟩⟩, r⟩
    obtain ⟨us, hrun, hws⟩ := hres w _ ρ a w' r
    have hren : Ren ids m ρ := ⟨fun g hg => by obtain ⟨l, e1, _⟩ := r.pre; rw [e1]; exact List.mem_append_left _ hg, fun i hi => by rw [r.nx]; exact h3 i hi⟩
    have hws' := hws.ren hren (ho x) (by rw [h1]; exact hi x)
    have hul := hws'.len
    have hbase : ρ.B = w.heap.size := r.B
    have hval : ∃ u, (results fn a.tmps).run P w' = .ok u w' ∧ RepV P ⟨ρ.B, m, ids.map fun i => ρ.om.getD i 0, ρ.ov⟩ w' (one (ws x)) u := by
      rw [results_eq]
      have hm : (fn.results.mapM (resV a.tmps)).run P w' = .ok us.toArray w' := by
        rw [Array.mapM_eq_mapM_toList]
        simp only [Sem.run_map, hrun]
        rfl
      simp only [Sem.run_bind, hm, Result.andThen_ok, Sem.run_pure]
      have hul' : us.length = (ws x).length := hul.symm
      match ws x, us, hws', hul' with
      | [x], [u], hws', _ => exact ⟨u, rfl, by cases x <;> exact hws'.1⟩
      | [], [], _, _ => exact ⟨_, rfl, _, rfl, trivial⟩
      | x :: y :: ws, u :: v :: us, hws', _ =>
        refine ⟨.tuple (u :: v :: us).toArray, ?_, _, rfl, hws'⟩
        simp
    obtain ⟨u, hu1, hu2⟩ := hval
    have hpost : a.defers = [] ∧ ∃ v, (results fn a.tmps).run P w' = .ok v w' ∧ (∃ x, φ x ∧ ∃ (u : Value) (om : List Nat) (ov : Nat → Value), Ending.returned v = .returned u ∧ om.Nodup ∧ om.length = k x ∧ (∀ g ∈ om, w.heap.size ≤ g ∧ g < w'.heap.size) ∧ RepV P ⟨w.heap.size, m, om, ov⟩ w' (one (ws x)) u ∧
        (hp' x).length = hp.length ∧ (∀ (b : Nat) cs, (hp' x)[b]? = some cs → ∃ g : Nat, m[b]? = some g ∧ HpAt P (E0 w.heap.size m) w' cs g) ∧ Framed m w w') := by
      have hfrm : Framed m w w' := by have := r.fr; simpa using this
      refine ⟨r.df, u, hu1, x, hφ, u, ids.map fun i => ρ.om.getD i 0, ρ.ov, rfl, ?_, by simp [h1], fun g hg => ?_, by rw [← hbase]; exact hu2, h5, fun b cs hc => ?_, hfrm⟩
      · refine List.pairwise_map.2 (List.Pairwise.imp_of_mem (fun {i j} hi hj hij e => ?_) h2)
        have l1 := hren.lt i hi
        have l2 := hren.lt j hj
        rw [List.getD_eq_getElem?_getD, List.getD_eq_getElem?_getD, List.getElem?_eq_getElem l1, List.getElem?_eq_getElem l2] at e
        have hp := List.pairwise_iff_getElem.1 r.no
        rcases Nat.lt_or_gt_of_ne hij with hlt | hlt
        · exact hp _ _ l1 l2 hlt e
        · exact hp _ _ l2 l1 hlt e.symm
      · obtain ⟨i, hi, rfl⟩ := List.mem_map.1 hg
        have hlt := hren.lt i hi
        rw [List.getD_eq_getElem?_getD, List.getElem?_eq_getElem hlt]
        have := r.ob _ (List.getElem_mem hlt)
        exact ⟨this.1.resolve_left (by simp), this.2.1⟩
      · have hbl : b < hp.length := by rw [← h5]; exact (List.getElem?_eq_some_iff.1 hc).1
        have hc' := hc
        rw [← h4, List.getElem?_take, if_pos hbl] at hc
        obtain ⟨g, hg, vs', t', e1, e2⟩ := r.hp b cs hc
        obtain ⟨l, e3, _⟩ := r.pre
        rw [e3, List.getElem?_append_left (by show b < m.length; omega)] at hg
        exact ⟨g, hg, vs', t', e1, e2.back hren.m (List.all_eq_true.1 (hback x) cs (List.mem_of_getElem? hc'))⟩
    rcases he with rfl | rfl
    · exact hpost
    · exact hpost
end
end Go.Proofs.YtdlebdgdcpemmaaGreatDoor
namespace Go.Proofs.YtdlebdgdcpemmaaGreatDoor
open Go.RowKit
set_option linter.unusedVariables false
set_option linter.unusedSimpArgs false
section
variable {P : Program} {σ : AS} {w0 : World} {m0 : Gv} {ρ : Env} {a : Act} {w : World}
def plainVs : List AV → Option (List Value)
  | [] => some []
  | x :: xs => match plainV x, plainVs xs with
    | some v, some vs => some (v :: vs)
    | _, _ => none
theorem plainVs_rep {ρ : Env} {w : World} : ∀ {xs : List AV} {us vs : List Value}, plainVs xs = some us → RepVs P ρ w xs vs → vs = us
  | [], us, [], h, _ => by simp [plainVs] at h; exact h.symm
  | x :: xs, us, v :: vs, h, k => by
    simp only [plainVs] at h
    split at h
    · rename_i u us' h1 h2
      injection h with h; subst h
      rw [(plainV_rep h1).1 k.1, plainVs_rep h2 k.2]
    · cases h
/-- A contract of plain values, out of the model's own words. -/
theorem ACalls.ofPlain {f : FuncId} {args : List AV} {us : List Value} {r : AV} {v : Value} (ha : plainVs args = Option.some us) (hr : plainV r = Option.some v) (h : ∀ w, Calls P f us.toArray w fun e w' => e = .returned v ∧ Below w.heap.size w w') : ACalls P f args [] r [] 0 := by
  intro m w vs hnd hlt hlen hhp hargs
  have hm : m = [] := List.eq_nil_of_length_eq_zero (by simpa using hlen)
  subst hm
  have e := plainVs_rep ha hargs
  have e2 : vs = us.toArray := by rw [← e]
  rw [e2]
  refine (h w).mono fun en w' ⟨h1, h2⟩ => ⟨v, [], fun _ => .tuple #[], h1, List.nodup_nil, rfl, by simp, (plainV_rep hr).2 rfl, rfl, by simp, .of_below h2⟩
theorem ACalls.ofPure {f : FuncId} {args : List AV} {us : List Value} {r : AV} {v : Value} (ha : plainVs args = Option.some us) (hr : plainV r = Option.some v) (h : ∀ w, Calls P f us.toArray w fun e w' => e = .returned v ∧ w' = w) : ACalls P f args [] r [] 0 :=
  .ofPlain ha hr fun w => (h w).mono fun e w' ⟨h1, h2⟩ => ⟨h1, h2 ▸ Below.refl _ _⟩
def arrE (P : Program) (t e : TypeId) (n : Nat) : Bool := match P.underlying t with
  | some (.array n' e') => n' == n && e' == e && (P.info? e).isSome && P.cellsOf e == 1
  | _ => false
theorem arrE_spec {t e : TypeId} {n : Nat} (h : arrE P t e n = true) : P.underlying t = some (.array n e) ∧ (P.info? e).isSome = true ∧ P.cellsOf e = 1 := by
  unfold arrE at h
  split at h
  · rename_i n' e' hu
    simp only [Bool.and_eq_true, beq_iff_eq] at h
    obtain ⟨⟨⟨rfl, rfl⟩, h3⟩, h4⟩ := h
    exact ⟨hu, h3, h4⟩
  · cases h
end
end Go.Proofs.YtdlebdgdcpemmaaGreatDoor
