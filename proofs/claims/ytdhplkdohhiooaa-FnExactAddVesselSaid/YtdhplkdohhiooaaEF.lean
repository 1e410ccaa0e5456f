/- The abstract machine: function values with captured variables. -/
import Derived.Test.YtdhplkdohhiooaaE9
namespace Go.Proofs.Ytdhplkdohhiooaa
open Go.RowKit
set_option linter.unusedVariables false
section
variable {P : Program} {σ : AS} {w0 : World} {m0 : Gv} {ρ : Env} {a : Act} {w : World}
theorem ptrO_of {bs : List Nat} {xs : List Operand} (h : Rel P w0 m0 ρ σ a w) (e : xs.map σ.ev = bs.map fun b => .c (.ptr b 0)) : PtrO ρ bs (xs.map a.eval) := by
  induction xs generalizing bs with
  | nil => cases bs with
    | nil => trivial
    | cons b bs => cases e
  | cons x xs ih => cases bs with
    | nil => cases e
    | cons b bs =>
      simp only [List.map_cons, List.cons.injEq] at e
      have h1 := h.ev x
      rw [e.1] at h1
      exact ⟨h1, ih e.2⟩
/-- A function value that captures own blocks. -/
theorem q_makeFunc {f : FuncId} {xs : List Operand} (bs : List Nat) (e : xs.map σ.ev = bs.map fun b => .c (.ptr b 0)) : QOp P (.makeFunc (.func f) #[] xs.toArray) σ (.c (.fo f bs)) :=
  fun w0 m0 ρ a w d ty pos af gd r => by
    refine ⟨.func (.func f) #[] (xs.toArray.map a.eval), ⟨_, rfl, by simpa using ptrO_of r e⟩, fun W _ => ?_⟩
    simp [execOp, Instr.makeFunc]
/-- What a callee sees of an argument: captured own blocks of plain cells are others' blocks to it. -/
def AS.roF (σ : AS) : AV → AV
  | .c (.fo f bs) => match bs.mapM (fun b => (σ.hp[b]?).bind plainC) with
    | some css => .c (.fr f css)
    | none => .c .top
  | x => x.ro
theorem ptrR_of (h : Rel P w0 m0 ρ σ a w) : ∀ {bs : List Nat} {vs : List Value} {css : List (List Value)}, PtrO ρ bs vs → bs.mapM (fun b => (σ.hp[b]?).bind plainC) = some css → PtrR (E0 w.heap.size []) w css vs
  | [], [], css, _, e => by
    simp at e; subst e; trivial
  | b :: bs, v :: vs, css, ⟨⟨g, h1, h2⟩, k⟩, e => by
    rw [List.mapM_cons] at e
    cases hp : (σ.hp[b]?).bind plainC with
    | none => rw [hp] at e; cases e
    | some us =>
      cases hq : bs.mapM (fun b => (σ.hp[b]?).bind plainC) with
      | none => rw [hp, hq] at e; cases e
      | some css' =>
        rw [hp, hq] at e
        obtain rfl : us :: css' = css := by simpa using e
        obtain ⟨cs, hcs, hpl⟩ := Option.bind_eq_some_iff.1 hp
        obtain ⟨g', hg', ws, t', hb, hl⟩ := h.hp b cs hcs
        obtain rfl : g = g' := by rw [h1] at hg'; injection hg'
        rw [plainC_rep hpl] at hl
        have hl := repL_plain hl
        refine ⟨⟨g, 0, h2, h.ml g (List.mem_of_getElem? h1), ⟨by simp [E0], by simp [E0]⟩, fun j u hu => ?_⟩, ptrR_of h k hq⟩
        rw [Nat.zero_add, cell_of_row w g j ws t'.t t'.z hb, ← Array.getElem?_toList, hl]
        exact hu
theorem RepVs.ofF {w0 : World} {m0 : Gv} {ρ : Env} {a : Act} {w : World} (h : Rel P w0 m0 ρ σ a w) : ∀ xs : List Operand, RepVs P (E0 w.heap.size []) w (xs.map fun x => σ.roF (σ.ev x)) (xs.map a.eval)
  | [] => trivial
  | x :: xs => by
    refine ⟨?_, RepVs.ofF h xs⟩
    have h1 := h.ev x
    show RepV P _ w (σ.roF (σ.ev x)) (a.eval x)
    generalize σ.ev x = y at h1 ⊢
    unfold AS.roF
    split
    · rename_i f bs
      obtain ⟨vs, hv, hp⟩ := h1
      split
      · rename_i css hc
        exact ⟨vs, hv, ptrR_of h hp hc⟩
      · trivial
    · exact h1.ro h _ (by simp)
/-- A call that is handed function values. -/
theorem qt_callF {f : FuncId} {xs : List Operand} {ts : Array TypeId} {r : AV} {v : Value} (hf : callB P f = true) (hc : ACalls P f (xs.map fun x => σ.roF (σ.ev x)) [] r [] 0) (hv : plainV r = some v) :
    Qt P (.call { callee := .value (.func f), args := xs.toArray, argTypes := ts }) σ r := fun w0 m0 ρ a w d ty pos af gd h => by
  refine ⟨v, (plainV_rep hv).2 rfl, fun W hW => ?_⟩
  unfold Oper.quietAt
  rw [run_call hf]
  have hW' := h.world hW
  have := hc [] W (xs.toArray.map a.eval) List.nodup_nil (by simp) rfl (by simp) (by simpa using RepVs.ofF hW' xs)
  refine ⟨rfl, this.mono ?_⟩
  rintro e w' ⟨u, om, ov, rfl, _, _, _, h1, _, _, hfr⟩
  rw [plainV_rep hv] at h1
  subst h1
  exact ⟨rfl, hW.trans (hfr.below.mono hW.size)⟩
theorem RepVs.app {ρ : Env} : ∀ {xs ys : List AV} {us vs : List Value}, RepVs P ρ w xs us → RepVs P ρ w ys vs → RepVs P ρ w (xs ++ ys) (us ++ vs)
  | [], _, [], _, _, h => h
  | _ :: _, _, _ :: _, _, h, k => ⟨h.1, RepVs.app h.2 k⟩
theorem PtrR.vs {ρ : Env} : ∀ {css : List (List Value)} {vs : List Value}, PtrR ρ w css vs → RepVs P ρ w (css.map fun cs => .c (.rp .ro cs)) vs
  | [], [], _ => trivial
  | _ :: _, _ :: _, ⟨h, k⟩ => ⟨h, PtrR.vs k⟩
/-- A function value is called. -/
theorem qt_callD {f : FuncId} {y : Operand} {css : List (List Value)} {xs : List Operand} {ts : Array TypeId} {r : AV} {v : Value} (hf : callB P f = true) (hy : σ.ev y = .c (.fr f css))
    (hc : ACalls P f ((xs.map fun x => (σ.ev x).ro) ++ css.map fun cs => .c (.rp .ro cs)) [] r [] 0) (hv : plainV r = some v) :
    Qt P (.call { callee := .value y, args := xs.toArray, argTypes := ts }) σ r := fun w0 m0 ρ a w d ty pos af gd h => by
  refine ⟨v, (plainV_rep hv).2 rfl, fun W hW => ?_⟩
  have hW' := h.world hW
  have h1 := hW'.ev y
  rw [hy] at h1
  have h2 := RepV.ro (x := .c (.fr f css)) hW' W.heap.size (m := []) (by simp) h1
  obtain ⟨vs, he, hp⟩ := h2
  have hrun : (execOp a.eval ⟨d, .call { callee := .value y, args := xs.toArray, argTypes := ts }, ty, pos, af, gd⟩).run P W = .ok (.enter f (xs.toArray.map a.eval ++ vs)) W := by
    simp [execOp, resolve, he, Deferred.ofValue, invoke, run_enter hf]
  unfold Oper.quietAt
  rw [hrun]
  have := hc [] W (xs.toArray.map a.eval ++ vs) List.nodup_nil (by simp) rfl (by simp) (by
    rw [Array.toList_append]
    exact RepVs.app (by simpa using RepVs.of hW' xs) hp.vs)
  refine ⟨rfl, this.mono ?_⟩
  rintro e w' ⟨u, om, ov, rfl, _, _, _, h1, _, _, hfr⟩
  rw [plainV_rep hv] at h1
  subst h1
  exact ⟨rfl, hW.trans (hfr.below.mono hW.size)⟩
/-- A function without captured variables, as an argument. -/
theorem repV_fr {w : World} {ρ : Env} {u : Value} {g : FuncId} (h : RepV P ρ w (.c (.p (.func (.func g) #[] #[]))) u) : RepV P ρ w (.c (.fr g [])) u := by
  obtain rfl : u = _ := h
  exact ⟨#[], rfl, trivial⟩
theorem ACalls.fr1 {f g : FuncId} {x : AV} {args : List AV} {hp hp' : List (List AC)} {r : AV} {k : Nat} (h : ACalls P f (x :: .c (.fr g []) :: args) hp r hp' k) : ACalls P f (x :: .c (.p (.func (.func g) #[] #[])) :: args) hp r hp' k :=
  fun m w vs h1 h2 h3 h4 h5 => h m w vs h1 h2 h3 h4 (by
    obtain ⟨l⟩ := vs
    match l, h5 with
    | v :: u :: l, h5 => exact ⟨h5.1, repV_fr h5.2.1, h5.2.2⟩)
end
/-! ### Own blocks are forgotten -/
def AC.cut (n : Nat) : AC → AC
  | .ptr b o => if b < n then .ptr b o else .top
  | .bsl b sn sc => if b < n then .bsl b sn sc else .top
  | .fo f bs => if bs.all (fun b => decide (b < n)) then .fo f bs else .top
  | .top => .top
  | .p v => .p v
  | .nl => .nl
  | .sl e o xs => .sl e o xs
  | .rp o cs => .rp o cs
  | .sv v e xs => .sv v e xs
  | .ep e k xs i j => .ep e k xs i j
  | .fr f css => .fr f css
def AW.cut (n : Nat) : AW → AW
  | .c x => .c (x.cut n)
  | .agg cs => .agg (cs.map (AC.cut n))
def AV.cut (n : Nat) : AV → AV
  | .c x => .c (x.cut n)
  | .agg cs => .agg (cs.map (AC.cut n))
  | .tup ws => .tup (ws.map (AW.cut n))
def AS.cut (σ : AS) (n : Nat) : AS := ⟨σ.tm.map (AV.cut n), (σ.hp.take n).map (List.map (AC.cut n)), σ.nx⟩
def Env.cut (ρ : Env) (n : Nat) : Env := ⟨ρ.B, ρ.m.take n, ρ.om, ρ.ov⟩
section
variable {P : Program} {σ : AS} {w0 : World} {m0 : Gv} {ρ : Env} {a : Act} {w : World} {n : Nat}
theorem Ow.cut {o : Ow} {g : Nat} (h : o.at_ ρ g) : o.at_ (ρ.cut n) g := by
  cases o with
  | ro => exact ⟨fun hm => h.1 (List.mem_of_mem_take hm), h.2⟩
  | own k => exact h
  | sub k => exact h
theorem RdS.cut {e : TypeId} {o : Ow} {xs : List (List Value)} {u : Value} (k : RdS P ρ w e o xs u) : RdS P (ρ.cut n) w e o xs u := by
  rcases k with k | ⟨g, off, c, rfl, hc, hg, ha, he⟩
  · exact .inl k
  · exact .inr ⟨g, off, c, rfl, hc, hg, Ow.cut ha, he⟩
theorem PtrO.cut : ∀ {bs : List Nat} {vs : List Value}, bs.all (fun b => decide (b < n)) = true → PtrO ρ bs vs → PtrO (ρ.cut n) bs vs
  | [], [], _, _ => trivial
  | b :: bs, v :: vs, hb, ⟨⟨g, h1, h2⟩, k⟩ => by
    simp only [List.all_cons, Bool.and_eq_true, decide_eq_true_eq] at hb
    exact ⟨⟨g, by show (ρ.m.take n)[b]? = some g; rw [List.getElem?_take, if_pos hb.1]; exact h1, h2⟩, PtrO.cut hb.2 k⟩
theorem PtrR.cut : ∀ {css : List (List Value)} {vs : List Value}, PtrR ρ w css vs → PtrR (ρ.cut n) w css vs
  | [], [], _ => trivial
  | _ :: _, _ :: _, ⟨⟨g, off, e, hg, ha, hc⟩, q⟩ => ⟨⟨g, off, e, hg, Ow.cut (o := .ro) ha, hc⟩, PtrR.cut q⟩
theorem RepC.cut {x : AC} {u : Value} (k : RepC P ρ w x u) : RepC P (ρ.cut n) w (x.cut n) u := by
  cases x with
  | top => trivial
  | p v => exact k
  | nl => exact k
  | sl e o xs =>
    refine ⟨k.1, ?_⟩
    have k2 := k.2
    cases o with
    | ro => exact RdS.cut k2
    | sub j => exact RdS.cut k2
    | own j => exact k2
  | ptr b o =>
    obtain ⟨g, h1, h2⟩ := k
    show RepC P (ρ.cut n) w (if b < n then .ptr b o else .top) u
    by_cases hb : b < n
    · rw [if_pos hb]
      exact ⟨g, by show (ρ.m.take n)[b]? = some g; rw [List.getElem?_take, if_pos hb]; exact h1, h2⟩
    · rw [if_neg hb]; trivial
  | bsl b sn sc =>
    obtain ⟨g, h1, h2⟩ := k
    show RepC P (ρ.cut n) w (if b < n then .bsl b sn sc else .top) u
    by_cases hb : b < n
    · rw [if_pos hb]
      exact ⟨g, by show (ρ.m.take n)[b]? = some g; rw [List.getElem?_take, if_pos hb]; exact h1, h2⟩
    · rw [if_neg hb]; trivial
  | rp o cs => obtain ⟨g, off, rfl, hg, ha, hc⟩ := k; exact ⟨g, off, rfl, hg, Ow.cut ha, hc⟩
  | sv v e xs => exact ⟨k.1, k.2.1, RdS.cut k.2.2⟩
  | ep e j xs a b => exact k
  | fo f bs =>
    obtain ⟨vs, h1, h2⟩ := k
    show RepC P (ρ.cut n) w (if bs.all (fun b => decide (b < n)) then .fo f bs else .top) u
    by_cases hb : bs.all (fun b => decide (b < n)) = true
    · rw [if_pos hb]; exact ⟨vs, h1, h2.cut hb⟩
    · rw [if_neg hb]; trivial
  | fr f css => obtain ⟨vs, h1, h2⟩ := k; exact ⟨vs, h1, h2.cut⟩
theorem RepL.cut : ∀ {xs : List AC} {vs : List Value}, RepL P ρ w xs vs → RepL P (ρ.cut n) w (xs.map (AC.cut n)) vs
  | [], [], _ => trivial
  | _ :: _, _ :: _, k => ⟨k.1.cut, RepL.cut k.2⟩
theorem RepW.cut {x : AW} {u : Value} (k : RepW P ρ w x u) : RepW P (ρ.cut n) w (x.cut n) u := by
  cases x with
  | c x => exact RepC.cut k
  | agg cs => obtain ⟨vs, rfl, hl⟩ := k; exact ⟨vs, rfl, hl.cut⟩
theorem RepWs.cut : ∀ {xs : List AW} {vs : List Value}, RepWs P ρ w xs vs → RepWs P (ρ.cut n) w (xs.map (AW.cut n)) vs
  | [], [], _ => trivial
  | _ :: _, _ :: _, k => ⟨k.1.cut, RepWs.cut k.2⟩
theorem RepV.cut {x : AV} {u : Value} (k : RepV P ρ w x u) : RepV P (ρ.cut n) w (x.cut n) u := by
  cases x with
  | c x => exact RepC.cut k
  | agg cs => obtain ⟨vs, rfl, hl⟩ := k; exact ⟨vs, rfl, hl.cut⟩
  | tup ws => obtain ⟨vs, rfl, hl⟩ := k; exact ⟨vs, rfl, hl.cut⟩
theorem Rel.cut (h : Rel P w0 m0 ρ σ a w) (hn : m0.m.length ≤ n) : Rel P w0 m0 (ρ.cut n) (σ.cut n) a w := by
  refine ⟨h.B, h.Bw, h.fr, ?_, fun g hg => h.ml g (List.mem_of_mem_take hg), h.nd.sublist (List.take_sublist _ _), fun g hg => ⟨(h.ob g hg).1, (h.ob g hg).2.1, fun hm => (h.ob g hg).2.2 (List.mem_of_mem_take hm)⟩, h.no, h.lp, h.nx, by simp [AS.cut, Env.cut, h.hl], fun b cs hc => ?_, by simp [AS.cut, h.tl], fun i x hx => ?_, h.df⟩
  · obtain ⟨l, h1, h2⟩ := h.pre
    refine ⟨l.take (n - m0.m.length), ?_, fun g hg => h2 g (List.mem_of_mem_take hg)⟩
    show ρ.m.take n = _
    rw [h1, List.take_append, List.take_of_length_le hn]
  · simp only [AS.cut, List.getElem?_map, List.getElem?_take] at hc
    by_cases hb : b < n
    · rw [if_pos hb] at hc
      obtain ⟨ds, h1, rfl⟩ := Option.map_eq_some_iff.1 hc
      obtain ⟨g, hg, us, t, h3, h4⟩ := h.hp b ds h1
      exact ⟨g, by show (ρ.m.take n)[b]? = some g; rw [List.getElem?_take, if_pos hb]; exact hg, us, t, h3, h4.cut⟩
    · rw [if_neg hb] at hc; cases hc
  · simp only [AS.cut, List.getElem?_map] at hx
    obtain ⟨y, h1, rfl⟩ := Option.map_eq_some_iff.1 hx
    exact (h.tm i y h1).cut
/-- A loop whose rounds box variables anew: behind a round the blocks from k on are forgotten. -/
theorem awp_loopK {α : Type} {c : Code} {Q : Exit → AS → Prop} (k : Nat) (hk : m0.m.length ≤ k) (keep : List Nat) (V : α → List (Nat × AV)) (H : α → List (List AC)) (N : α → Nat) (R : Nat → α → Prop) (n0 : Nat) (x0 : α) (h0 : R n0 x0) (hle : σ.le (σ.head keep (V x0) (H x0) (N x0)))
    (round : ∀ n x, R n x → AWp P w0 m0 c (Exit.thenA (fun σ' => ∃ n' x', n' < n ∧ R n' x' ∧ (σ'.cut k).le (σ.head keep (V x') (H x') (N x'))) Q) (σ.head keep (V x) (H x) (N x))) : AWp P w0 m0 (.loop c) Q σ :=
  awp_loop (fun n τ => ∃ x, R n x ∧ τ = σ.head keep (V x) (H x) (N x)) n0 ⟨_, hle, x0, h0, rfl⟩ fun n τ ⟨x, hR, he⟩ => by
    subst he
    intro ρ a w r
    refine wp_mono (round n x hR ρ a w r) fun e a' w' ⟨ρ', σ', q, r'⟩ => ?_
    cases e <;> first | exact ⟨ρ', σ', q, r'⟩ | (obtain ⟨n', x', h1, h2, h3⟩ := q; exact ⟨ρ'.cut k, σ'.cut k, ⟨n', _, h1, h3, x', h2, rfl⟩, r'.cut hk⟩)
end
end Go.Proofs.Ytdhplkdohhiooaa
