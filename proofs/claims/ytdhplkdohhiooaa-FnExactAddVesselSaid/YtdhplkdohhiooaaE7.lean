/- The abstract machine: calls that hand back new rows or write through a pointer; a function's contract from its body. -/
import Derived.Test.YtdhplkdohhiooaaE6
namespace Go.Proofs.Ytdhplkdohhiooaa
open Go.RowKit
set_option linter.unusedVariables false

/-- A result's rows are numbered on behind the caller's. -/
def AC.sh (n : Nat) : AC → AC
  | .sl e (.own j) xs => .sl e (.own (n + j)) xs
  | x => x
def AW.sh (n : Nat) : AW → AW
  | .c x => .c (x.sh n)
  | .agg cs => .agg (cs.map (AC.sh n))
def AV.sh (n : Nat) : AV → AV
  | .c x => .c (x.sh n)
  | .agg cs => .agg (cs.map (AC.sh n))
  | .tup ws => .tup (ws.map (AW.sh n))
/-- A result's cell that speaks of no old memory. -/
def AC.fresh : AC → Bool
  | .p _ => true
  | .top => true
  | .nl => true
  | .sl _ (.own _) _ => true
  | _ => false
def AW.fresh : AW → Bool
  | .c x => x.fresh
  | .agg cs => cs.all AC.fresh
def AV.fresh : AV → Bool
  | .c x => x.fresh
  | .agg cs => cs.all AC.fresh
  | .tup ws => ws.all AW.fresh
section
variable {P : Program} {σ : AS} {w0 : World} {m0 : Gv} {ρ : Env} {a : Act} {w : World}
variable {ops : Array Oper} {Q : Exit → AS → Prop} {rest : List Oper} {d : Option Tmp} {ty : TypeId} {pos : String} {af : Array Edge}

structure Shift (n : Nat) (ρr : Env) (ρ : Env) : Prop where
  B : ρ.B ≤ ρr.B
  om : ∀ (j g : Nat), ρr.om[j]? = some g → ρ.om[n + j]? = some g
  ov : ∀ (j g : Nat), ρr.om[j]? = some g → ρ.ov g = ρr.ov g
theorem RepC.sh {n : Nat} {ρr : Env} (h : Shift n ρr ρ) {x : AC} {u : Value} (hf : x.fresh = true) (k : RepC P ρr w x u) : RepC P ρ w (x.sh n) u := by
  cases x with
  | p v => exact k
  | nl => exact k
  | sl e o xs =>
    cases o with
    | own j =>
      obtain ⟨h1, h2, g, h3, hv, h4, h5⟩ := k
      refine ⟨h1, h2, g, h.om j g h3, by rw [h.ov j g h3]; exact hv, h4, h5.1, ?_⟩
      rcases h5.2 with h6 | ⟨g', cap, cur, e1, e2, e3⟩
      · exact .inl h6
      · exact .inr ⟨g', cap, cur, e1, Nat.le_trans h.B e2, e3⟩
    | ro => cases hf
    | sub j => cases hf
  | top => exact trivial
  | ptr b o => cases hf
  | bsl b sn sc => cases hf
  | rp o cs => cases hf
  | sv v e xs => cases hf
  | ep e n xs i j => cases hf
  | fo f bs => cases hf
  | fr f css => cases hf
theorem RepL.sh {n : Nat} {ρr : Env} (h : Shift n ρr ρ) : ∀ {xs : List AC} {vs : List Value}, xs.all AC.fresh = true → RepL P ρr w xs vs → RepL P ρ w (xs.map (AC.sh n)) vs
  | [], [], _, _ => trivial
  | _ :: _, _ :: _, hf, k => by
    simp only [List.all_cons, Bool.and_eq_true] at hf
    exact ⟨k.1.sh h hf.1, RepL.sh h hf.2 k.2⟩
theorem RepW.sh {n : Nat} {ρr : Env} (h : Shift n ρr ρ) {x : AW} {u : Value} (hf : x.fresh = true) (k : RepW P ρr w x u) : RepW P ρ w (x.sh n) u := by
  cases x with
  | c x => exact RepC.sh h hf k
  | agg cs => obtain ⟨vs, rfl, hl⟩ := k; exact ⟨vs, rfl, hl.sh h hf⟩
theorem RepWs.sh {n : Nat} {ρr : Env} (h : Shift n ρr ρ) : ∀ {xs : List AW} {vs : List Value}, xs.all AW.fresh = true → RepWs P ρr w xs vs → RepWs P ρ w (xs.map (AW.sh n)) vs
  | [], [], _, _ => trivial
  | _ :: _, _ :: _, hf, k => by
    simp only [List.all_cons, Bool.and_eq_true] at hf
    exact ⟨k.1.sh h hf.1, RepWs.sh h hf.2 k.2⟩
theorem RepV.sh {n : Nat} {ρr : Env} (h : Shift n ρr ρ) {x : AV} {u : Value} (hf : x.fresh = true) (k : RepV P ρr w x u) : RepV P ρ w (x.sh n) u := by
  cases x with
  | c x => exact RepC.sh h hf k
  | agg cs => obtain ⟨vs, rfl, hl⟩ := k; exact ⟨vs, rfl, hl.sh h hf⟩
  | tup ws => obtain ⟨vs, rfl, hl⟩ := k; exact ⟨vs, rfl, hl.sh h hf⟩
def AS.rows (σ : AS) (k : Nat) : AS := { σ with nx := σ.nx + k }
/-- New rows of the call's own. -/
def Env.rows (ρ : Env) (om : List Nat) (ov : Nat → Value) : Env := ⟨ρ.B, ρ.m, ρ.om ++ om, fun x => if om.elem x then ov x else ρ.ov x⟩
theorem Rel.rows (h : Rel P w0 m0 ρ σ a w) {w' : World} {om : List Nat} (ov : Nat → Value) (hb : Below w.heap.size w w') (hn : om.Nodup) (ho : ∀ g ∈ om, w.heap.size ≤ g ∧ g < w'.heap.size) :
    Rel P w0 m0 (ρ.rows om ov) (σ.rows om.length) a w' := by
  have hw0 : w0.heap.size ≤ w.heap.size := h.fr.size
  have st : Stab ρ w (ρ.rows om ov) w' := by
    refine ⟨rfl, hb.size, fun k hk _ => hb.block k hk, fun _ _ h => h, fun b k hk => ?_, fun k hk h1 h2 => ⟨h1, ?_⟩, fun k hk => (h.ob k hk).2.2, fun k hk => ?_⟩
    · show (ρ.om ++ om)[b]? = some k
      rw [List.getElem?_append_left (List.getElem?_eq_some_iff.1 hk).1]; exact hk
    · show k ∉ ρ.om ++ om
      simp only [List.mem_append, not_or]
      exact ⟨h2, fun hm => by have := (ho k hm).1; omega⟩
    · show (if om.elem k then ov k else ρ.ov k) = ρ.ov k
      rw [if_neg]
      intro hm
      have := (ho k (List.elem_iff.1 hm)).1
      have := (h.ob k hk).2.1
      omega
  refine ⟨h.B, h.Bw, h.fr.trans (.of_below hb), h.pre, fun k hk => Nat.lt_of_lt_of_le (h.ml k hk) hb.size, h.nd, fun k hk => ?_, ?_, fun j q hq => ?_, by simp [AS.rows, Env.rows, h.nx], h.hl, fun b cs hc => ?_, h.tl, fun i x hx => (h.tm i x hx).keep st, h.df⟩
  · rcases List.mem_append.1 hk with hk | hk
    · obtain ⟨h1, h2, h3⟩ := h.ob k hk
      exact ⟨h1, Nat.lt_of_lt_of_le h2 hb.size, h3⟩
    · obtain ⟨h1, h2⟩ := ho k hk
      exact ⟨.inr (by omega), h2, fun hm => by have := h.ml k hm; omega⟩
  · refine List.nodup_append.2 ⟨h.no, hn, fun x hx y hy => ?_⟩
    have := (h.ob x hx).2.1
    have := (ho y hy).1
    omega
  · obtain ⟨h1, h2⟩ := h.lp j q hq
    exact ⟨st.om j q h1, by rw [st.ov q (List.mem_of_getElem? h1)]; exact h2⟩
  · obtain ⟨k, hk, us, t', h1, h2⟩ := h.hp b cs hc
    exact ⟨k, hk, us, t', (hb.block k (h.ml k (List.mem_of_getElem? hk))).trans h1, h2.keep st⟩
theorem ar_enter {o : Op} (x : AV) (τ : AS) {f : FuncId} (hq : ∀ ρ a w, Rel P w0 m0 ρ σ a w → ∃ vs, (execOp a.eval ⟨d, o, ty, pos, af, none⟩).run P w = .ok (.enter f vs) w ∧ Calls P f vs w fun e w' => ∃ u ρ', e = .returned u ∧ Rel P w0 m0 ρ' τ a w' ∧ RepV P ρ' w' x u)
    (h : AR P w0 m0 ops Q rest (τ.put d x)) : AR P w0 m0 ops Q (⟨d, o, ty, pos, af, none⟩ :: rest) σ := fun ρ a w r => by
  obtain ⟨vs, h1, h2⟩ := hq ρ a w r
  refine wpList_plain rfl fun K hK => ?_
  unfold Oper.wp
  rw [h1]
  refine h2.mono ?_
  rintro e w' ⟨u, ρ', rfl, h3, h4⟩
  exact hK _ _ (h ρ' _ w' (h3.put d h4))
/-- A call that hands back new rows. -/
theorem ar_call {f : FuncId} {xs : List Operand} {ts : Array TypeId} {r : AV} {k : Nat} (hf : callB P f = true) (hc : ACalls P f (xs.map fun x => (σ.ev x).ro) [] r [] k) (hr : r.fresh = true)
    (h : AR P w0 m0 ops Q rest ((σ.rows k).put d (r.sh σ.nx))) : AR P w0 m0 ops Q (⟨d, .call { callee := .value (.func f), args := xs.toArray, argTypes := ts }, ty, pos, af, none⟩ :: rest) σ :=
  ar_enter (r.sh σ.nx) (σ.rows k) (f := f) (fun ρ a w q => by
    refine ⟨_, run_call hf _ _ _ _ _ _ _ _ _, ?_⟩
    have := hc [] w (xs.toArray.map a.eval) List.nodup_nil (by simp) rfl (by simp) (by simpa using RepVs.of q xs)
    refine this.mono ?_
    rintro e w' ⟨u, om, ov, rfl, h1, rfl, h2, h3, _, _, hfr⟩
    have hb := hfr.below
    refine ⟨u, _, rfl, q.rows ov hb h1 h2, h3.sh ⟨?_, fun j g hj => ?_, fun j g hj => ?_⟩ hr⟩
    · show ρ.B ≤ w.heap.size
      rw [q.B]; exact Nat.le_trans q.Bw q.fr.size
    · show (ρ.om ++ om)[σ.nx + j]? = some g
      rw [List.getElem?_append_right (by rw [q.nx]; omega), q.nx, Nat.add_sub_cancel_left]; exact hj
    · show (if om.elem g then ov g else ρ.ov g) = ov g
      rw [if_pos (List.elem_iff.2 (List.mem_of_getElem? hj))]) h

/-! ### A pointer handed down -/
/-- The callee writes a block of plain cells through its first argument. -/
theorem ar_call_p {f : FuncId} {x : Operand} {xs : List Operand} {ts : Array TypeId} {r : AV} {b o : Nat} {cs cs' : List AC} {us us' : List Value} (hf : callB P f = true) (hx : σ.ev x = .c (.ptr b o)) (hh : σ.hp[b]? = some cs) (hp : plainC cs = some us)
    (hc : ACalls P f (.c (.ptr 0 o) :: xs.map fun x => (σ.ev x).ro) [cs] r [cs'] 0) (hp' : plainC cs' = some us') {v : Value} (hr : plainV r = some v)
    (h : AR P w0 m0 ops Q rest ((σ.sto b cs').put d r)) : AR P w0 m0 ops Q (⟨d, .call { callee := .value (.func f), args := (x :: xs).toArray, argTypes := ts }, ty, pos, af, none⟩ :: rest) σ :=
  ar_enter r (σ.sto b cs') (f := f) (fun ρ a w q => by
    refine ⟨_, run_call hf _ _ _ _ _ _ _ _ _, ?_⟩
    have h1 := q.ev x
    rw [hx] at h1
    obtain ⟨g, hg, he⟩ := h1
    obtain ⟨g', hg', vs, t', hb, hl⟩ := q.hp b cs hh
    obtain rfl : g = g' := by rw [hg] at hg'; injection hg'
    have hgm := List.mem_of_getElem? hg
    have hcs := plainC_rep hp
    have hargs : RepVs P (E0 w.heap.size [g]) w (.c (.ptr 0 o) :: xs.map fun x => (σ.ev x).ro) ((x :: xs).toArray.map a.eval).toList := by
      have hxs : ∀ xs : List Operand, RepVs P (E0 w.heap.size [g]) w (xs.map fun x => (σ.ev x).ro) (xs.map a.eval) := by
        intro xs
        induction xs with
        | nil => trivial
        | cons y ys ih => exact ⟨(q.ev y).ro q _ (by simpa using hgm), ih⟩
      have := hxs xs
      simp only [List.map_toArray, List.map_cons]
      exact ⟨⟨g, rfl, he⟩, this⟩
    have := hc [g] w ((x :: xs).toArray.map a.eval) (by simp) (by simpa using q.ml g hgm) rfl (fun b' ds hd => by
      cases b' with
      | zero =>
        simp at hd
        subst hd
        refine ⟨g, rfl, vs, t', hb, ?_⟩
        rw [hcs] at hl ⊢
        rw [repL_plain hl]
        exact repL_p us
      | succ b' => simp at hd) hargs
    refine this.mono ?_
    rintro e w' ⟨u, om, ov, rfl, _, _, _, h3, _, h5, hfr⟩
    obtain ⟨g2, hg2, vs2, t2, hb2, hl2⟩ := h5 0 cs' rfl
    obtain rfl : g = g2 := by simpa using hg2
    have hcs' := plainC_rep hp'
    rw [hcs'] at hl2
    have hl2' := repL_plain hl2
    -- the world in between: all but block g, then block g
    refine ⟨u, ρ, rfl, ?_, (plainV_rep hr).2 ((plainV_rep hr).1 h3)⟩
    have st : Stab ρ w ρ w' := ⟨rfl, hfr.size, fun k hk hn => hfr.blk k hk (fun e => hn (by rw [List.mem_singleton] at e; exact e ▸ hgm)), fun _ _ h => h, fun _ _ h => h, fun _ _ h1 h2 => ⟨h1, h2⟩, fun g hg => (q.ob g hg).2.2, fun _ _ => rfl⟩
    have hfr' : Framed (m0.m ++ m0.l) w0 w' := by
      refine ⟨hfr.os.trans q.fr.os, hfr.tape.trans q.fr.tape, hfr.output.trans q.fr.output, Nat.le_trans q.fr.size hfr.size, fun k hk hn => ?_⟩
      have hkg : k ≠ g := by
        rintro rfl
        obtain ⟨l, h1, h2⟩ := q.pre
        rw [h1] at hgm
        rcases List.mem_append.1 hgm with hm | hm
        · exact hn (List.mem_append_left _ hm)
        · have := h2 k hm; omega
      exact (hfr.blk k (Nat.lt_of_lt_of_le hk q.fr.size) (by simpa using hkg)).trans (q.fr.blk k hk hn)
    refine { q with fr := hfr', ml := fun k hk => Nat.lt_of_lt_of_le (q.ml k hk) hfr.size, ob := fun k hk => ⟨(q.ob k hk).1, Nat.lt_of_lt_of_le (q.ob k hk).2.1 hfr.size, (q.ob k hk).2.2⟩, hl := by simp [AS.sto, q.hl], hp := fun b' ds hd => ?_, tm := fun i y hy => (q.tm i y hy).keep st }
    simp only [AS.sto, List.getElem?_set] at hd
    by_cases hbb : b = b'
    · subst hbb
      rw [if_pos rfl] at hd
      split at hd
      · injection hd with hd
        subst hd
        refine ⟨g, hg, vs2, t2, hb2, ?_⟩
        rw [hcs', hl2']; exact repL_p us'
      · cases hd
    · rw [if_neg hbb] at hd
      obtain ⟨g3, hg3, us3, t3, h1, h2⟩ := q.hp b' ds hd
      have hne : g3 ≠ g := by
        rintro rfl
        have hp := List.pairwise_iff_getElem.1 q.nd
        obtain ⟨l1, e1⟩ := List.getElem?_eq_some_iff.1 hg
        obtain ⟨l2, e2⟩ := List.getElem?_eq_some_iff.1 hg3
        rcases Nat.lt_or_gt_of_ne hbb with hlt | hlt
        · exact hp _ _ l1 l2 hlt (e1.trans e2.symm)
        · exact hp _ _ l2 l1 hlt (e2.trans e1.symm)
      exact ⟨g3, hg3, us3, t3, (hfr.blk g3 (q.ml g3 (List.mem_of_getElem? hg3)) (by simpa using hne)).trans h1, h2.keep st⟩) h

/-! ### From a body to a contract -/
def AC.ren (ids : List Nat) : AC → AC
  | .sl e (.own j) xs => .sl e (.own (ids.getD j 0)) xs
  | x => x
def AW.ren (ids : List Nat) : AW → AW
  | .c x => .c (x.ren ids)
  | .agg cs => .agg (cs.map (AC.ren ids))
def resV (tmps : Array Value) : ResultVar → Sem Value
  | .tmp t => pure (tmps.getD t undef)
  | .cell ad t => do loadVar t (← asAddr (tmps.getD ad undef))
theorem results_eq (fn : Func) (tmps : Array Value) : results fn tmps = (do let vs ← fn.results.mapM (resV tmps); pure (if h : vs.size = 1 then vs[0] else .tuple vs)) := by
  unfold results
  congr 1
/-- The results are these. -/
def ARes (P : Program) (σ : AS) (rs : List ResultVar) (ws : List AW) : Prop :=
  ∀ (w0 : World) (m0 : Gv) (ρ : Env) (a : Act) (w : World), Rel P w0 m0 ρ σ a w → ∃ vs : List Value, (rs.mapM (resV a.tmps)).run P w = .ok vs w ∧ RepWs P ρ w ws vs
theorem RepWs.len : ∀ {ws : List AW} {vs : List Value}, RepWs P ρ w ws vs → ws.length = vs.length
  | [], [], _ => rfl
  | _ :: _, _ :: _, h => by simp [RepWs.len h.2]
theorem ares_nil : ARes P σ [] [] := fun _ _ ρ a w r => ⟨[], rfl, trivial⟩
theorem repW_av {x : AW} {u : Value} (h : RepV P ρ w x.av u) : RepW P ρ w x u := by cases x <;> exact h
theorem ares_tmp {t : Tmp} {rs : List ResultVar} {ws : List AW} (x : AW) (hx : σ.tm[t]? = some x.av) (h : ARes P σ rs ws) : ARes P σ (.tmp t :: rs) (x :: ws) := fun w0 m0 ρ a w r => by
  obtain ⟨vs, h1, h2⟩ := h w0 m0 ρ a w r
  refine ⟨a.tmps.getD t undef :: vs, ?_, repW_av (r.tm t _ hx), h2⟩
  have hv : (resV a.tmps (.tmp t)).run P w = .ok (a.tmps.getD t undef) w := rfl
  rw [List.mapM_cons]
  simp only [Sem.run_bind, hv, h1, Sem.run_pure, Result.andThen_ok]
theorem ares_cell_a {ad : Tmp} {t : TypeId} {b : Nat} {cs : List AC} {rs : List ResultVar} {ws : List AW} (hx : σ.tm[ad]? = some (.c (.ptr b 0))) (hh : σ.hp[b]? = some cs) {n : Nat} (hn : cs.length = n) (ht : aggB P t n = true) (h : ARes P σ rs ws) : ARes P σ (.cell ad t :: rs) (.agg cs :: ws) := fun w0 m0 ρ a w r => by
  rw [← hn] at ht
  obtain ⟨vs, h1, h2⟩ := h w0 m0 ρ a w r
  obtain ⟨g, hg, he⟩ := r.tm ad _ hx
  obtain ⟨g', hg', us, t', hb, hl⟩ := r.hp b cs hh
  obtain rfl : g = g' := by rw [hg] at hg'; injection hg'
  rw [hl.len] at ht
  have hc := run_load_agg (P := P) (W := w) (g := g) (o := 0) ht (fun j v hv => by
    rw [Nat.zero_add, cell_of_row w g j us t'.t t'.z hb, ← Array.getElem?_toList]; exact hv)
  refine ⟨.agg us :: vs, ?_, ⟨us, rfl, hl⟩, h2⟩
  have hv : (resV a.tmps (.cell ad t)).run P w = .ok (.agg us) w := by simp [resV, he, asAddr, hc]
  rw [List.mapM_cons]
  simp only [Sem.run_bind, hv, h1, Sem.run_pure, Result.andThen_ok]
theorem ares_cell {ad : Tmp} {t : TypeId} {b o : Nat} {cs : List AC} {y : AC} {rs : List ResultVar} {ws : List AW} (hx : σ.tm[ad]? = some (.c (.ptr b o))) (hh : σ.hp[b]? = some cs) (hy : cs[o]? = some y) (ht : wordB P t = true) (h : ARes P σ rs ws) : ARes P σ (.cell ad t :: rs) (.c y :: ws) := fun w0 m0 ρ a w r => by
  obtain ⟨vs, h1, h2⟩ := h w0 m0 ρ a w r
  obtain ⟨g, hg, he⟩ := r.tm ad _ hx
  obtain ⟨g', hg', us, t', hb, hl⟩ := r.hp b cs hh
  obtain rfl : g = g' := by rw [hg] at hg'; injection hg'
  obtain ⟨v, hv, hr⟩ := hl.get hy
  have hc := run_load_word (P := P) (W := w) ht (show w.cell? ⟨g, o, none⟩ = some v by rw [cell_of_row w g o us t'.t t'.z hb, ← Array.getElem?_toList]; exact hv)
  refine ⟨v :: vs, ?_, hr, h2⟩
  have hw : (resV a.tmps (.cell ad t)).run P w = .ok v w := by simp [resV, he, asAddr, hc]
  rw [List.mapM_cons]
  simp only [Sem.run_bind, hw, h1, Sem.run_pure, Result.andThen_ok]
def one (ws : List AW) : AV := match ws with
  | [x] => x.av
  | ws => .tup ws
/-- The state at the end gives ws (the rows ids, in this order), and hp' in the blocks that were handed in. -/
structure AEnd (P : Program) (n : Nat) (fn : Func) (ws : List AW) (hp' : List (List AC)) (k : Nat) (σ : AS) : Prop where
  res : ∃ ids, ids.length = k ∧ ids.Nodup ∧ (∀ i ∈ ids, i < σ.nx) ∧ ARes P σ fn.results.toList (ws.map (AW.ren ids))
  hp : σ.hp.take n = hp' ∧ hp'.length = n
structure Ren (ids : List Nat) (m : List Nat) (ρ : Env) : Prop where
  m : ∀ g ∈ m, g ∈ ρ.m
  lt : ∀ i ∈ ids, i < ρ.om.length
/-- A result's cell that needs no block of the call's own but its rows. -/
def AC.out : AC → Bool
  | .p _ => true
  | .top => true
  | .nl => true
  | .sl _ .ro _ => true
  | .sl _ (.own _) _ => true
  | .sv _ _ _ => true
  | _ => false
def AW.out : AW → Bool
  | .c x => x.out
  | .agg cs => cs.all AC.out
def AC.ids (n : Nat) : AC → Bool
  | .sl _ (.own j) _ => decide (j < n)
  | _ => true
theorem RepC.ren {ids m : List Nat} (h : Ren ids m ρ) {x : AC} {u : Value} (ho : x.out = true) (hl : x.ids ids.length = true) (k : RepC P ρ w (x.ren ids) u) : RepC P ⟨ρ.B, m, ids.map fun i => ρ.om.getD i 0, ρ.ov⟩ w x u := by
  have ro : ∀ {e xs u}, RdS P ρ w e .ro xs u → RdS P ⟨ρ.B, m, ids.map fun i => ρ.om.getD i 0, ρ.ov⟩ w e .ro xs u := by
    intro e xs u q
    rcases q with q | ⟨g, off, c, rfl, hc, hg, ha, he⟩
    · exact .inl q
    · refine .inr ⟨g, off, c, rfl, hc, hg, ⟨fun hm => ha.1 (h.m g hm), fun hm => ?_⟩, he⟩
      obtain ⟨i, hi, rfl⟩ := List.mem_map.1 hm
      apply ha.2
      have := h.lt i hi
      rw [List.getD_eq_getElem?_getD, List.getElem?_eq_getElem this]
      exact List.getElem_mem this
  cases x with
  | p v => exact k
  | nl => exact k
  | sl e o xs =>
    cases o with
    | own j =>
      obtain ⟨h1, h2, g, h3, hv, h4, h5⟩ := k
      have hj : j < ids.length := of_decide_eq_true hl
      refine ⟨h1, h2, g, ?_, hv, h4, h5⟩
      show (ids.map fun i => ρ.om.getD i 0)[j]? = some g
      rw [List.getElem?_map, List.getElem?_eq_getElem hj]
      rw [List.getD_eq_getElem?_getD, List.getElem?_eq_getElem hj] at h3
      simp only [Option.getD_some] at h3
      rw [Option.map_some, List.getD_eq_getElem?_getD, h3]
      rfl
    | ro => exact ⟨k.1, ro k.2⟩
    | sub j => cases ho
  | sv v e xs => exact ⟨k.1, k.2.1, ro k.2.2⟩
  | top => exact trivial
  | ptr b o => cases ho
  | bsl b sn sc => cases ho
  | rp o cs => cases ho
  | ep e n xs i j => cases ho
  | fo f bs => cases ho
  | fr f css => cases ho
theorem RepL.ren {ids m : List Nat} (h : Ren ids m ρ) : ∀ {xs : List AC} {vs : List Value}, xs.all AC.out = true → xs.all (AC.ids ids.length) = true → RepL P ρ w (xs.map (AC.ren ids)) vs → RepL P ⟨ρ.B, m, ids.map fun i => ρ.om.getD i 0, ρ.ov⟩ w xs vs
  | [], [], _, _, _ => trivial
  | _ :: _, _ :: _, ho, hi, k => by
    simp only [List.all_cons, Bool.and_eq_true] at ho hi
    exact ⟨k.1.ren h ho.1 hi.1, RepL.ren h ho.2 hi.2 k.2⟩
def AW.ids (n : Nat) : AW → Bool
  | .c x => x.ids n
  | .agg cs => cs.all (AC.ids n)
theorem RepW.ren {ids m : List Nat} (h : Ren ids m ρ) {x : AW} {u : Value} (ho : x.out = true) (hl : x.ids ids.length = true) (k : RepW P ρ w (x.ren ids) u) : RepW P ⟨ρ.B, m, ids.map fun i => ρ.om.getD i 0, ρ.ov⟩ w x u := by
  cases x with
  | c x => exact RepC.ren h ho hl k
  | agg cs => obtain ⟨vs, rfl, q⟩ := k; exact ⟨vs, rfl, q.ren h ho hl⟩
theorem RepWs.ren {ids m : List Nat} (h : Ren ids m ρ) : ∀ {xs : List AW} {vs : List Value}, xs.all AW.out = true → xs.all (AW.ids ids.length) = true → RepWs P ρ w (xs.map (AW.ren ids)) vs → RepWs P ⟨ρ.B, m, ids.map fun i => ρ.om.getD i 0, ρ.ov⟩ w xs vs
  | [], [], _, _, _ => trivial
  | _ :: _, _ :: _, ho, hi, k => by
    simp only [List.all_cons, Bool.and_eq_true] at ho hi
    exact ⟨k.1.ren h ho.1 hi.1, RepWs.ren h ho.2 hi.2 k.2⟩
/-- A cell that a block handed in may hold at the end. -/
def AC.back : AC → Bool
  | .top => true
  | .p _ => true
  | .nl => true
  | .sl _ .ro _ => true
  | .sv _ _ _ => true
  | _ => false
theorem RepC.back {m : List Nat} {B : Nat} (h : ∀ g ∈ m, g ∈ ρ.m) {x : AC} {u : Value} (hb : x.back = true) (k : RepC P ρ w x u) : RepC P (E0 B m) w x u := by
  have ro : ∀ {e xs u}, RdS P ρ w e .ro xs u → RdS P (E0 B m) w e .ro xs u := by
    intro e xs u q
    rcases q with q | ⟨g, off, c, rfl, hc, hg, ha, he⟩
    · exact .inl q
    · exact .inr ⟨g, off, c, rfl, hc, hg, ⟨fun hm => ha.1 (h g hm), by simp [E0]⟩, he⟩
  cases x with
  | top => trivial
  | p v => exact k
  | nl => exact k
  | sl e o xs =>
    cases o with
    | ro => exact ⟨k.1, ro k.2⟩
    | own j => cases hb
    | sub j => cases hb
  | sv v e xs => exact ⟨k.1, k.2.1, ro k.2.2⟩
  | ptr b o => cases hb
  | bsl b sn sc => cases hb
  | rp o cs => cases hb
  | ep e n xs i j => cases hb
  | fo f bs => cases hb
  | fr f css => cases hb
theorem RepL.back {m : List Nat} {B : Nat} (h : ∀ g ∈ m, g ∈ ρ.m) : ∀ {xs : List AC} {vs : List Value}, xs.all AC.back = true → RepL P ρ w xs vs → RepL P (E0 B m) w xs vs
  | [], [], _, _ => trivial
  | _ :: _, _ :: _, hb, k => by
    simp only [List.all_cons, Bool.and_eq_true] at hb
    exact ⟨k.1.back h hb.1, RepL.back h hb.2 k.2⟩
theorem RepVs.get : ∀ {xs : List AV} {vs : List Value} {i : Nat} {x : AV}, RepVs P ρ w xs vs → xs[i]? = some x → ∃ v, vs[i]? = some v ∧ RepV P ρ w x v
  | _ :: _, v :: _, 0, x, h, hx => by simp at hx; subst hx; exact ⟨v, rfl, h.1⟩
  | _ :: _, _ :: _, i + 1, x, h, hx => by simp at hx; simpa using RepVs.get h.2 hx
theorem RepVs.len : ∀ {xs : List AV} {vs : List Value}, RepVs P ρ w xs vs → xs.length = vs.length
  | [], [], _ => rfl
  | _ :: _, _ :: _, h => by simp [RepVs.len h.2]
/-- A function's contract out of its body. -/
theorem acalls_of {f : FuncId} {fn : Func} {c : Code} {args : List AV} {hp hp' : List (List AC)} {ws : List AW} {k : Nat} (hf : P.funcs[f]? = some fn) (hb : fn.body = some c) (ho : ws.all AW.out = true) (hi : ws.all (AW.ids k) = true) (hback : hp'.all (fun cs => cs.all AC.back) = true)
    (h : ∀ w0 B m, m.length = hp.length → AWp P w0 ⟨B, m, [], fun _ => .tuple #[]⟩ c (fun e σ => (e = .normal ∨ e = .ret) ∧ AEnd P hp.length fn ws hp' k σ) ⟨args ++ List.replicate (fn.ntmps - args.length) .top, hp, 0⟩) : ACalls P f args hp (one ws) hp' k := by
  intro m w vs hnd hlt hlen hhp hargs
  have hal := hargs.len
  have hvs : vs.size = args.length := by rw [hal]; simp
  refine calls_of_wp hf hb (wp_mono (h w w.heap.size m hlen (E0 w.heap.size m) _ w ?_) ?_)
  · refine ⟨rfl, Nat.le_refl _, .refl _ _, ⟨[], by simp [E0], by simp⟩, hlt, hnd, by simp [E0], by simp [E0], by simp, rfl, hlen.symm, hhp, by simp [hvs], fun i x hx => ?_, rfl⟩
    show RepV P _ w x ((vs ++ Array.replicate (fn.ntmps - vs.size) undef).getD i undef)
    by_cases hi : i < args.length
    · rw [List.getElem?_append_left hi] at hx
      obtain ⟨v, h1, h2⟩ := hargs.get hx
      rw [Array.getD_eq_getD_getElem?, Array.getElem?_append_left (by omega), ← Array.getElem?_toList, h1]
      exact h2
    · rw [List.getElem?_append_right (by omega)] at hx
      have := List.mem_of_getElem? hx
      rw [(List.mem_replicate.1 this).2]
      exact RepV.top
  · rintro e a w' ⟨ρ, σ, ⟨he, ⟨ids, h1, h2, h3, hres⟩, ⟨h4, h5⟩⟩, r⟩
    obtain ⟨us, hrun, hws⟩ := hres w _ ρ a w' r
    have hren : Ren ids m ρ := ⟨fun g hg => by obtain ⟨l, e1, _⟩ := r.pre; rw [e1]; exact List.mem_append_left _ hg, fun i hi => by rw [r.nx]; exact h3 i hi⟩
    have hws' := hws.ren hren ho (by rw [h1]; exact hi)
    have hul := hws'.len
    have hbase : ρ.B = w.heap.size := r.B
    -- the value
    have hval : ∃ u, (results fn a.tmps).run P w' = .ok u w' ∧ RepV P ⟨ρ.B, m, ids.map fun i => ρ.om.getD i 0, ρ.ov⟩ w' (one ws) u := by
      rw [results_eq]
      have hm : (fn.results.mapM (resV a.tmps)).run P w' = .ok us.toArray w' := by
        rw [Array.mapM_eq_mapM_toList]
        simp only [Sem.run_map, hrun]
        rfl
      simp only [Sem.run_bind, hm, Result.andThen_ok, Sem.run_pure]
      have hul' : us.length = ws.length := hul.symm
      match ws, us, hws', hul' with
      | [x], [u], hws', _ => exact ⟨u, rfl, by cases x <;> exact hws'.1⟩
      | [], [], _, _ => exact ⟨_, rfl, _, rfl, trivial⟩
      | x :: y :: ws, u :: v :: us, hws', _ =>
        refine ⟨.tuple (u :: v :: us).toArray, ?_, _, rfl, hws'⟩
        simp
    obtain ⟨u, hu1, hu2⟩ := hval
    have hpost : a.defers = [] ∧ ∃ v, (results fn a.tmps).run P w' = .ok v w' ∧ (∃ (u : Value) (om : List Nat) (ov : Nat → Value), Ending.returned v = .returned u ∧ om.Nodup ∧ om.length = k ∧ (∀ g ∈ om, w.heap.size ≤ g ∧ g < w'.heap.size) ∧ RepV P ⟨w.heap.size, m, om, ov⟩ w' (one ws) u ∧
        hp'.length = hp.length ∧ (∀ (b : Nat) cs, hp'[b]? = some cs → ∃ g : Nat, m[b]? = some g ∧ HpAt P (E0 w.heap.size m) w' cs g) ∧ Framed m w w') := by
      have hfrm : Framed m w w' := by have := r.fr; simpa using this
      refine ⟨r.df, u, hu1, u, ids.map fun i => ρ.om.getD i 0, ρ.ov, rfl, ?_, by simp [h1], fun g hg => ?_, by rw [← hbase]; exact hu2, h5, fun b cs hc => ?_, hfrm⟩
      · refine List.pairwise_map.2 (List.Pairwise.imp_of_mem (fun {i j} hi hj hij e => ?_) h2)
        have l1 := hren.lt i hi
        have l2 := hren.lt j hj
        rw [List.getD_eq_getElem?_getD, List.getD_eq_getElem?_getD, List.getElem?_eq_getElem l1, List.getElem?_eq_getElem l2] at e
        have hp := List.pairwise_iff_getElem.1 r.no
        rcases Nat.lt_or_gt_of_ne hij with hlt | hlt
        · exact hp _ _ l1 l2 hlt e
        · exact hp _ _ l2 l1 hlt e.symm
      · obtain ⟨i, hi, rfl⟩ := List.mem_map.1 hg
        have hlt := hren.lt i hi
        rw [List.getD_eq_getElem?_getD, List.getElem?_eq_getElem hlt]
        have := r.ob _ (List.getElem_mem hlt)
        exact ⟨this.1.resolve_left (by simp), this.2.1⟩
      · have hbl : b < hp.length := by rw [← h5]; exact (List.getElem?_eq_some_iff.1 hc).1
        have hc' := hc
        rw [← h4, List.getElem?_take, if_pos hbl] at hc
        obtain ⟨g, hg, vs', t', e1, e2⟩ := r.hp b cs hc
        obtain ⟨l, e3, _⟩ := r.pre
        rw [e3, List.getElem?_append_left (by show b < m.length; omega)] at hg
        exact ⟨g, hg, vs', t', e1, e2.back hren.m (List.all_eq_true.1 hback cs (List.mem_of_getElem? hc'))⟩
    rcases he with rfl | rfl
    · exact hpost
    · exact hpost

/-! ### Small words for the walk -/
theorem t_norm {K : AS → Prop} {Q : Exit → AS → Prop} (h : K σ) : Exit.thenA K Q .normal σ := h
theorem t_exit {K : AS → Prop} {Q : Exit → AS → Prop} {i : Nat} (h : Q (.exit i) σ) : Exit.thenA K Q (.exit i) σ := h
theorem t_ret {K : AS → Prop} {Q : Exit → AS → Prop} (h : Q .ret σ) : Exit.thenA K Q .ret σ := h
theorem b_norm {i : Nat} {Q : Exit → AS → Prop} (h : Q .normal σ) : Exit.inBlockA i Q .normal σ := h
theorem b_ret {i : Nat} {Q : Exit → AS → Prop} (h : Q .ret σ) : Exit.inBlockA i Q .ret σ := h
theorem b_exit {i : Nat} {Q : Exit → AS → Prop} (h : Q .normal σ) : Exit.inBlockA i Q (.exit i) σ := by simp only [Exit.inBlockA, if_true]; exact h
theorem b_exit_ne {i j : Nat} {Q : Exit → AS → Prop} (hn : (j == i) = false) (h : Q (.exit j) σ) : Exit.inBlockA i Q (.exit j) σ := by
  have : j ≠ i := by simpa using hn
  simp only [Exit.inBlockA, if_neg this]; exact h
theorem awp_norm {c : Code} {Q : Exit → AS → Prop} {τ : AS} (h : σ = τ) (k : AWp P w0 m0 c Q τ) : AWp P w0 m0 c Q σ := by subst h; exact k
theorem ar_norm {Q : Exit → AS → Prop} {l : List Oper} {τ : AS} (h : σ = τ) (k : AR P w0 m0 ops Q l τ) : AR P w0 m0 ops Q l σ := by subst h; exact k
theorem dr_norm {Q : Exit → AS → Prop} {l : List Oper} {τ : AS} (h : σ = τ) (k : DR P w0 m0 ops Q l τ) : DR P w0 m0 ops Q l σ := by subst h; exact k
theorem aend_mk {n k : Nat} {fn : Func} {ws : List AW} {hp' : List (List AC)} (ids : List Nat) (h1 : ids.length = k) (h2 : ids.Nodup) (h3 : ∀ i ∈ ids, i < σ.nx) (h4 : ARes P σ fn.results.toList (ws.map (AW.ren ids))) (h5 : σ.hp.take n = hp') (h6 : hp'.length = n) : AEnd P n fn ws hp' k σ := ⟨⟨ids, h1, h2, h3, h4⟩, h5, h6⟩

/-- A state at a loop's head: the slots of upd hold these values, those of keep what they held, of the others nothing is known. -/
def hdV (keep : List Nat) (upd : List (Nat × AV)) (i : Nat) (x : AV) : AV := match upd.lookup i with
  | some v => v
  | none => if keep.elem i then x else .c .top
def hdL (keep : List Nat) (upd : List (Nat × AV)) : Nat → List AV → List AV
  | _, [] => []
  | i, x :: xs => hdV keep upd i x :: hdL keep upd (i + 1) xs
def AS.head (σ : AS) (keep : List Nat) (upd : List (Nat × AV)) (hp : List (List AC)) (nx : Nat) : AS := ⟨hdL keep upd 0 σ.tm, hp, nx⟩
theorem awp_loopH {α : Type} {c : Code} {Q : Exit → AS → Prop} (keep : List Nat) (V : α → List (Nat × AV)) (H : α → List (List AC)) (N : α → Nat) (R : Nat → α → Prop) (n0 : Nat) (x0 : α) (h0 : R n0 x0) (hle : σ.le (σ.head keep (V x0) (H x0) (N x0)))
    (round : ∀ n x, R n x → AWp P w0 m0 c (Exit.thenA (fun σ' => ∃ n' x', n' < n ∧ R n' x' ∧ σ'.le (σ.head keep (V x') (H x') (N x'))) Q) (σ.head keep (V x) (H x) (N x))) : AWp P w0 m0 (.loop c) Q σ :=
  awp_loop (fun n τ => ∃ x, R n x ∧ τ = σ.head keep (V x) (H x) (N x)) n0 ⟨_, hle, x0, h0, rfl⟩ fun n τ ⟨x, hR, he⟩ => by
    subst he
    exact (round n x hR).mono fun e σ' q => by
      cases e <;> first | exact q | (obtain ⟨n', x', h1, h2, h3⟩ := q; exact ⟨n', _, h1, h3, x', h2, rfl⟩)
theorem le_mk {tm tm' : List AV} {hp hp' : List (List AC)} {nx : Nat} (h2 : Hs.le hp hp') (h1 : AVs.le tm tm') : AS.le ⟨tm, hp, nx⟩ ⟨tm', hp', nx⟩ := ⟨h1, h2, rfl⟩
theorem le_norm {σ' τ τ' : AS} (h1 : σ = σ') (h2 : τ = τ') (h : σ'.le τ') : σ.le τ := by subst h1 h2; exact h
theorem ares_tmp2 {t : Tmp} {rs : List ResultVar} {ws : List AW} (x : AW) {y : AV} (hx : σ.tm[t]? = some y) (e : y = x.av) (h : ARes P σ rs ws) : ARes P σ (.tmp t :: rs) (x :: ws) := ares_tmp x (hx.trans (congrArg some e)) h
theorem pb {a b : Bool} (h : a = b) : AV.c (.p (.bool a)) = AV.c (.p (.bool b)) := by rw [h]
theorem pi {k : IntKind} {a b : Int} (h : a = b) : AV.c (.p (.int k a)) = AV.c (.p (.int k b)) := by rw [h]
theorem ps {a b : ByteArray} (h : a = b) : AV.c (.p (.string a)) = AV.c (.p (.string b)) := by rw [h]
theorem pl {e : TypeId} {o : Ow} {xs ys : List (List Value)} (h : xs = ys) : AV.c (.sl e o xs) = AV.c (.sl e o ys) := by rw [h]

/-- The contract in the model's words: a plain result, memory that was there as it was. -/
theorem ACalls.calls {f : FuncId} {args : List AV} {v : Value} {r : AV} {vs : Array Value} (h : ACalls P f args [] r [] 0) (hv : plainV r = some v) (hargs : RepVs P (E0 w.heap.size []) w args vs.toList) :
    Calls P f vs w fun e w' => e = .returned v ∧ Below w.heap.size w w' :=
  (h [] w vs List.nodup_nil (by simp) rfl (by simp) hargs).mono fun e w' ⟨u, om, ov, he, _, _, _, h1, _, _, hfr⟩ => by
    rw [plainV_rep hv] at h1
    subst h1
    exact ⟨he, hfr.below⟩
end
end Go.Proofs.Ytdhplkdohhiooaa
