/- The abstract machine: contracts that tell their result as one of many (drawn values); a block handed down whose first cell is a slice. -/
import Derived.Test.YtdhplkdohhiooaaEK
namespace Go.Proofs.Ytdhplkdohhiooaa
open Go.RowKit
set_option linter.unusedVariables false
set_option linter.unusedSimpArgs false
section
variable {P : Program} {σ : AS} {w0 : World} {m0 : Gv} {ρ : Env} {a : Act} {w : World}
variable {ops : Array Oper} {Q : Exit → AS → Prop} {rest : List Oper} {d : Option Tmp} {ty : TypeId} {pos : String} {af : Array Edge}
theorem q_indexAddr_v {t e : TypeId} {x y : Operand} {u : Value} {xs : List (List Value)} {k : IntKind} {i : Int} {v : List Value} (ht : sliceE P t e = true) (hx : σ.ev x = .c (.sv u e xs)) (hy : σ.ev y = .c (.p (.int k i))) (hi : 0 ≤ i) (hv : xs[i.toNat]? = some v) : QOp P (.indexAddr t x y) σ (.c (.rp .ro v)) :=
  fun _ _ ρ f w _ _ _ _ _ h => by
    have h1 := h.ev x
    rw [hx] at h1
    obtain ⟨h2, _, h3⟩ := h1
    obtain ⟨g, off, c, he, hg, ha, hl, hc⟩ := h3.at_ hv
    obtain ⟨hu, hz⟩ := sliceE_spec ht
    have hlt := (List.getElem?_eq_some_iff.1 hv).1
    refine ⟨.pointer (some ⟨g, off + i.toNat * P.cellsOf e, none⟩), ⟨g, _, rfl, hg, ha, fun j v hv => by rw [Nat.add_assoc]; exact hc j v hv⟩, fun W _ => ?_⟩
    have hb : 0 ≤ i ∧ i < (xs.length : Int) := ⟨hi, by omega⟩
    have he' : f.eval x = _ := he
    simp [execOp, he', h.evp hy, Instr.indexAt, asIntOf, run_underlying hu, size_cellsOf (t := t) hz, hb, addr_add]
/-- The call ends with one of many results: x, of which φ holds. -/
def ACallsE (P : Program) (f : FuncId) (args : List AV) (hp : List (List AC)) {S : Type} (φ : S → Prop) (r : S → AV) (hp' : S → List (List AC)) (k : S → Nat) : Prop :=
  ∀ (m : List Nat) (w : World) (vs : Array Value), m.Nodup → (∀ g ∈ m, g < w.heap.size) → m.length = hp.length → (∀ (b : Nat) cs, hp[b]? = some cs → ∃ g : Nat, m[b]? = some g ∧ HpAt P (E0 w.heap.size m) w cs g) →
    RepVs P (E0 w.heap.size m) w args vs.toList →
    Calls P f vs w (fun e w' => ∃ x, φ x ∧ ∃ (u : Value) (om : List Nat) (ov : Nat → Value), e = .returned u ∧ om.Nodup ∧ om.length = k x ∧ (∀ g ∈ om, w.heap.size ≤ g ∧ g < w'.heap.size) ∧ RepV P ⟨w.heap.size, m, om, ov⟩ w' (r x) u ∧
      (hp' x).length = hp.length ∧ (∀ (b : Nat) cs, (hp' x)[b]? = some cs → ∃ g : Nat, m[b]? = some g ∧ HpAt P (E0 w.heap.size m) w' cs g) ∧ Framed m w w')
theorem ACallsE.mono {f : FuncId} {args : List AV} {hp : List (List AC)} {S : Type} {φ ψ : S → Prop} {r : S → AV} {hp' : S → List (List AC)} {k : S → Nat} (h : ACallsE P f args hp φ r hp' k) (hq : ∀ x, φ x → ψ x) : ACallsE P f args hp ψ r hp' k :=
  fun m w vs h1 h2 h3 h4 h5 => (h m w vs h1 h2 h3 h4 h5).mono fun e w' ⟨x, hx, hh⟩ => ⟨x, hq x hx, hh⟩
theorem ACalls.some {f : FuncId} {args : List AV} {hp : List (List AC)} {S : Type} {φ : S → Prop} {r : S → AV} {hp' : S → List (List AC)} {k : S → Nat} (x : S) (hx : φ x) (h : ACalls P f args hp (r x) (hp' x) (k x)) : ACallsE P f args hp φ r hp' k :=
  fun m w vs h1 h2 h3 h4 h5 => (h m w vs h1 h2 h3 h4 h5).mono fun e w' hh => ⟨x, hx, hh⟩
theorem ACallsE.one {f : FuncId} {args : List AV} {hp : List (List AC)} {S : Type} {v v' : S} {r : S → AV} {hp' : S → List (List AC)} {k : S → Nat} (h : ACallsE P f args hp (fun x => x = v) r hp' k) (e : v = v') : ACalls P f args hp (r v') (hp' v') (k v') :=
  fun m w vs h1 h2 h3 h4 h5 => (h m w vs h1 h2 h3 h4 h5).mono fun en w' ⟨x, hx, hh⟩ => by subst hx e; exact hh
/-- A slice argument is known by its value too. -/
theorem ACallsE.sv {f : FuncId} {e : TypeId} {xs : List (List Value)} {args : List AV} {hp : List (List AC)} {S : Type} {φ : S → Prop} {r : S → AV} {hp' : S → List (List AC)} {k : S → Nat} (h : ∀ v, ACallsE P f (.c (.sv v e xs) :: args) hp φ r hp' k) : ACallsE P f (.c (.sl e .ro xs) :: args) hp φ r hp' k := by
  intro m w vs h1 h2 h3 h4 h5
  match hv : vs.toList, h5 with
  | u :: us, ⟨h6, h7⟩ =>
    refine h u m w vs h1 h2 h3 h4 ?_
    rw [hv]
    exact ⟨⟨rfl, h6.1, h6.2⟩, h7⟩
/-- A call that hands back one of many. -/
theorem ar_callE {f : FuncId} {xs : List Operand} {ts : Array TypeId} {S : Type} {φ : S → Prop} {r : S → AV} {k : S → Nat} (hf : callB P f = true) (hc : ACallsE P f (xs.map fun x => (σ.ev x).ro) [] φ r (fun _ => []) k) (hr : ∀ x, (r x).fresh = true)
    (h : ∀ x, φ x → AR P w0 m0 ops Q rest ((σ.rows (k x)).put d ((r x).sh σ.nx))) : AR P w0 m0 ops Q (⟨d, .call { callee := .value (.func f), args := xs.toArray, argTypes := ts }, ty, pos, af, none⟩ :: rest) σ := fun ρ a w q => by
  refine wpList_plain rfl fun K hK => ?_
  unfold Oper.wp
  rw [run_call hf]
  have := hc [] w (xs.toArray.map a.eval) List.nodup_nil (by simp) rfl (by simp) (by simpa using RepVs.of q xs)
  refine this.mono ?_
  rintro e w' ⟨x, hx, u, om, ov, rfl, h1, h0, h2, h3, _, _, hfr⟩
  have hb := hfr.below
  have q' := q.rows ov hb h1 h2
  rw [h0] at q'
  refine hK _ _ (h x hx _ _ w' (q'.put d (h3.sh ⟨?_, fun j g hj => ?_, fun j g hj => ?_⟩ (hr x))))
  · show ρ.B ≤ w.heap.size
    rw [q.B]; exact Nat.le_trans q.Bw q.fr.size
  · show (ρ.om ++ om)[σ.nx + j]? = some g
    rw [List.getElem?_append_right (by rw [q.nx]; omega), q.nx, Nat.add_sub_cancel_left]; exact hj
  · show (if om.elem g then ov g else ρ.ov g) = ov g
    rw [if_pos (List.elem_iff.2 (List.mem_of_getElem? hj))]
/-- The cells of a block handed down: the first one a slice that stays. -/
def svc (v : Value) (e : TypeId) (xs : List (List Value)) (us : List Value) : List AC := .sv v e xs :: us.map .p
/-- A call with a block of a slice and plain cells, which it writes. -/
theorem ar_callC {f : FuncId} {y : Operand} {xs : List Operand} {ts : Array TypeId} {S : Type} {φ : S → Prop} {r : S → AV} {k : S → Nat} {b : Nat} {v : Value} {e : TypeId} {zs : List (List Value)} {us : List Value} {us' : S → List Value} (hf : callB P f = true) (hx : σ.ev y = .c (.ptr b 0)) (hh : σ.hp[b]? = some (svc v e zs us))
    (hc : ACallsE P f (.c (.ptr 0 0) :: xs.map fun x => (σ.ev x).ro) [svc v e zs us] φ r (fun x => [svc v e zs (us' x)]) k) (hr : ∀ x, (r x).fresh = true)
    (h : ∀ x, φ x → AR P w0 m0 ops Q rest (((σ.sto b (svc v e zs (us' x))).rows (k x)).put d ((r x).sh σ.nx))) : AR P w0 m0 ops Q (⟨d, .call { callee := .value (.func f), args := (y :: xs).toArray, argTypes := ts }, ty, pos, af, none⟩ :: rest) σ := fun ρ a w q => by
  refine wpList_plain rfl fun K hK => ?_
  unfold Oper.wp
  rw [run_call hf]
  have h1 := q.ev y
  rw [hx] at h1
  obtain ⟨g, hg, he⟩ := h1
  obtain ⟨g', hg', vs, t', hb, hl⟩ := q.hp b _ hh
  obtain rfl : g = g' := by rw [hg] at hg'; injection hg'
  have hgm := List.mem_of_getElem? hg
  have hgl := q.ml g hgm
  have hsub : ∀ k ∈ [g], k ∈ ρ.m := by simpa using hgm
  have hargs : RepVs P (E0 w.heap.size [g]) w (.c (.ptr 0 0) :: xs.map fun x => (σ.ev x).ro) ((y :: xs).toArray.map a.eval).toList := by
    have hxs : ∀ xs : List Operand, RepVs P (E0 w.heap.size [g]) w (xs.map fun x => (σ.ev x).ro) (xs.map a.eval) := by
      intro xs
      induction xs with
      | nil => trivial
      | cons z zs ih => exact ⟨(q.ev z).ro q _ hsub, ih⟩
    have := hxs xs
    simp only [List.map_toArray, List.map_cons]
    exact ⟨⟨g, rfl, he⟩, this⟩
  have hcell : RepL P (E0 w.heap.size [g]) w (svc v e zs us) vs.toList := by
    have h2 := hl.ro q w.heap.size hsub
    have e1 : (svc v e zs us).map AC.ro = svc v e zs us := by
      simp only [svc, List.map_cons, List.map_map]
      congr 1
    rwa [e1] at h2
  have hsv : RepC P ρ w (.sv v e zs) (vs.toList.headD undef) ∧ vs.toList.headD undef = v := by
    match hvl : vs.toList, hl with
    | u :: us1, hl => exact ⟨hl.1, hl.1.1⟩
  refine (hc [g] w ((y :: xs).toArray.map a.eval) (by simp) (by simpa using hgl) rfl (fun b' ds hd => ?_) hargs).mono ?_
  · cases b' with
    | zero => simp at hd; subst hd; exact ⟨g, rfl, vs, t', hb, hcell⟩
    | succ b' => simp at hd
  rintro en w' ⟨x, hφ, u, om, ov, rfl, o1, o0, o2, h3, _, h5, hfr⟩
  obtain ⟨g2, hg2, vs2, t2, hb2, hl2⟩ := h5 0 _ rfl
  obtain rfl : g = g2 := by simpa using hg2
  have hw0 : w0.heap.size ≤ w.heap.size := q.fr.size
  have st : Stab ρ w (ρ.rows om ov) w' := by
    refine ⟨rfl, hfr.size, fun k hk hn => hfr.blk k hk (fun e => hn (by rw [List.mem_singleton] at e; exact e ▸ hgm)), fun _ _ h => h, fun b k hk => ?_, fun k hk h1 h2 => ⟨h1, ?_⟩, fun k hk => (q.ob k hk).2.2, fun k hk => ?_⟩
    · show (ρ.om ++ om)[b]? = some k
      rw [List.getElem?_append_left (List.getElem?_eq_some_iff.1 hk).1]; exact hk
    · show k ∉ ρ.om ++ om
      simp only [List.mem_append, not_or]
      exact ⟨h2, fun hm => by have := (o2 k hm).1; omega⟩
    · show (if om.elem k then ov k else ρ.ov k) = ρ.ov k
      rw [if_neg]
      intro hm
      have := (o2 k (List.elem_iff.1 hm)).1
      have := (q.ob k hk).2.1
      omega
  have hfr' : Framed (m0.m ++ m0.l) w0 w' := by
    refine ⟨hfr.os.trans q.fr.os, hfr.tape.trans q.fr.tape, hfr.output.trans q.fr.output, Nat.le_trans q.fr.size hfr.size, fun k hk hn => ?_⟩
    have hkg : k ≠ g := by
      rintro rfl
      obtain ⟨l, h1, h2⟩ := q.pre
      rw [h1] at hgm
      rcases List.mem_append.1 hgm with hm | hm
      · exact hn (List.mem_append_left _ hm)
      · have := h2 k hm; omega
    exact (hfr.blk k (Nat.lt_of_lt_of_le hk q.fr.size) (by simpa using hkg)).trans (q.fr.blk k hk hn)
  have hcell2 : RepL P (ρ.rows om ov) w' (svc v e zs (us' x)) vs2.toList := by
    match hvl : vs2.toList, hl2 with
    | u2 :: us2, hl2 =>
      have e2 : us2 = us' x := repL_plain hl2.2
      have e3 : u2 = v := hl2.1.1
      have h6 := hsv.1.keep st
      rw [hsv.2] at h6
      rw [e2, e3]
      exact ⟨h6, repL_p (us' x)⟩
  have main : Rel P w0 m0 (ρ.rows om ov) ((σ.sto b (svc v e zs (us' x))).rows (k x)) a w' := by
    refine ⟨q.B, q.Bw, hfr', q.pre, fun k hk => Nat.lt_of_lt_of_le (q.ml k hk) hfr.size, q.nd, fun k hk => ?_, ?_, fun j l hj => ?_, ?_, by simp [AS.sto, AS.rows, Env.rows, q.hl], fun b' ds hd => ?_, q.tl, fun i y hy => (q.tm i y hy).keep st, q.df⟩
    · rcases List.mem_append.1 hk with hk | hk
      · obtain ⟨h1, h2, h3⟩ := q.ob k hk
        exact ⟨h1, Nat.lt_of_lt_of_le h2 hfr.size, h3⟩
      · obtain ⟨h1, h2⟩ := o2 k hk
        exact ⟨.inr (by omega), h2, fun hm => by have := q.ml k hm; omega⟩
    · refine List.nodup_append.2 ⟨q.no, o1, fun x hx y hy => ?_⟩
      have := (q.ob x hx).2.1
      have := (o2 y hy).1
      omega
    · obtain ⟨h1, h2⟩ := q.lp j l hj
      exact ⟨st.om j l h1, by rw [st.ov l (List.mem_of_getElem? h1)]; exact h2⟩
    · show (ρ.om ++ om).length = σ.nx + k x
      rw [List.length_append, q.nx, o0]
    · simp only [AS.sto, AS.rows, List.getElem?_set] at hd
      by_cases hbb : b = b'
      · subst hbb
        rw [if_pos rfl] at hd
        split at hd
        · injection hd with hd
          subst hd
          exact ⟨g, hg, vs2, t2, hb2, hcell2⟩
        · cases hd
      · rw [if_neg hbb] at hd
        obtain ⟨g3, hg3, us3, t3, h1, h2⟩ := q.hp b' ds hd
        have hne : g3 ≠ g := by
          rintro rfl
          have hp := List.pairwise_iff_getElem.1 q.nd
          obtain ⟨l1, e1⟩ := List.getElem?_eq_some_iff.1 hg
          obtain ⟨l2, e2⟩ := List.getElem?_eq_some_iff.1 hg3
          rcases Nat.lt_or_gt_of_ne hbb with hlt | hlt
          · exact hp _ _ l1 l2 hlt (e1.trans e2.symm)
          · exact hp _ _ l2 l1 hlt (e2.trans e1.symm)
        exact ⟨g3, hg3, us3, t3, (hfr.blk g3 (q.ml g3 (List.mem_of_getElem? hg3)) (by simpa using hne)).trans h1, h2.keep st⟩
  have hres : RepV P (⟨w.heap.size, [], om, ov⟩ : Env) w' (r x) u := by
    have hshape : ∀ {y : AC} {v : Value}, y.fresh = true → RepC P ⟨w.heap.size, [g], om, ov⟩ w' y v → RepC P ⟨w.heap.size, [], om, ov⟩ w' y v := fun {y v} hf hk => by
      cases y with
      | top => trivial
      | p v => exact hk
      | nl => exact hk
      | sl e o xs =>
        cases o with
        | own j => exact hk
        | ro => cases hf
        | sub j => cases hf
      | ptr b o => cases hf
      | bsl b sn sc => cases hf
      | rp o cs => cases hf
      | sv v e xs => cases hf
      | ep e n xs i j => cases hf
      | fo f bs => cases hf
      | fr f css => cases hf
    have hshL : ∀ {ys : List AC} {vs : List Value}, ys.all AC.fresh = true → RepL P ⟨w.heap.size, [g], om, ov⟩ w' ys vs → RepL P ⟨w.heap.size, [], om, ov⟩ w' ys vs := fun {ys} => by
      induction ys with
      | nil => intro vs _ hk; cases vs with
        | nil => trivial
        | cons _ _ => exact hk
      | cons y ys ih => intro vs hf hk; cases vs with
        | nil => exact hk
        | cons v vs =>
          simp only [List.all_cons, Bool.and_eq_true] at hf
          exact ⟨hshape hf.1 hk.1, ih hf.2 hk.2⟩
    have hshW : ∀ {y : AW} {v : Value}, y.fresh = true → RepW P ⟨w.heap.size, [g], om, ov⟩ w' y v → RepW P ⟨w.heap.size, [], om, ov⟩ w' y v := fun {y v} hf hk => by
      cases y with
      | c y => exact hshape hf hk
      | agg cs => obtain ⟨vs, rfl, hk⟩ := hk; exact ⟨vs, rfl, hshL hf hk⟩
    have hshWs : ∀ {ys : List AW} {vs : List Value}, ys.all AW.fresh = true → RepWs P ⟨w.heap.size, [g], om, ov⟩ w' ys vs → RepWs P ⟨w.heap.size, [], om, ov⟩ w' ys vs := fun {ys} => by
      induction ys with
      | nil => intro vs _ hk; cases vs with
        | nil => trivial
        | cons _ _ => exact hk
      | cons y ys ih => intro vs hf hk; cases vs with
        | nil => exact hk
        | cons v vs =>
          simp only [List.all_cons, Bool.and_eq_true] at hf
          exact ⟨hshW hf.1 hk.1, ih hf.2 hk.2⟩
    have hf := hr x
    revert h3 hf
    cases r x with
    | c y => exact fun h3 hf => hshape hf h3
    | agg cs => rintro ⟨vs, rfl, hk⟩ hf; exact ⟨vs, rfl, hshL hf hk⟩
    | tup ws => rintro ⟨vs, rfl, hk⟩ hf; exact ⟨vs, rfl, hshWs hf hk⟩
  refine hK _ _ (h x hφ _ _ w' (main.put d (hres.sh ⟨?_, fun j l hj => ?_, fun j l hj => ?_⟩ (hr x))))
  · show ρ.B ≤ w.heap.size
    rw [q.B]; exact Nat.le_trans q.Bw q.fr.size
  · show (ρ.om ++ om)[σ.nx + j]? = some l
    rw [List.getElem?_append_right (by rw [q.nx]; omega), q.nx, Nat.add_sub_cancel_left]; exact hj
  · show (if om.elem l then ov l else ρ.ov l) = ov l
    rw [if_pos (List.elem_iff.2 (List.mem_of_getElem? hj))]
/-- A contract of one of many results out of a function's body. -/
theorem acallsE_of {f : FuncId} {fn : Func} {c : Code} {args : List AV} {hp : List (List AC)} {S : Type} {φ : S → Prop} {hp' : S → List (List AC)} {ws : S → List AW} {k : S → Nat} (hf : P.funcs[f]? = some fn) (hb : fn.body = some c) (ho : ∀ x, (ws x).all AW.out = true) (hi : ∀ x, (ws x).all (AW.ids (k x)) = true) (hback : ∀ x, (hp' x).all (fun cs => cs.all AC.back) = true)
    (h : ∀ w0 B m, m.length = hp.length → AWp P w0 ⟨B, m, [], fun _ => .tuple #[]⟩ c (fun e σ => (e = .normal ∨ e = .ret) ∧ ∃ x, φ x ∧ AEnd P hp.length fn (ws x) (hp' x) (k x) σ) ⟨args ++ List.replicate (fn.ntmps - args.length) .top, hp, 0⟩) : ACallsE P f args hp φ (fun x => one (ws x)) hp' k := by
  intro m w vs hnd hlt hlen hhp hargs
  have hal := hargs.len
  have hvs : vs.size = args.length := by rw [hal]; simp
  refine calls_of_wp hf hb (wp_mono (h w w.heap.size m hlen (E0 w.heap.size m) _ w ?_) ?_)
  · refine ⟨rfl, Nat.le_refl _, .refl _ _, ⟨[], by simp [E0], by simp⟩, hlt, hnd, by simp [E0], by simp [E0], by simp, rfl, hlen.symm, hhp, by simp [hvs], fun i x hx => ?_, rfl⟩
    show RepV P _ w x ((vs ++ Array.replicate (fn.ntmps - vs.size) undef).getD i undef)
    by_cases hi : i < args.length
    · rw [List.getElem?_append_left hi] at hx
      obtain ⟨v, h1, h2⟩ := hargs.get hx
      rw [Array.getD_eq_getD_getElem?, Array.getElem?_append_left (by omega), ← Array.getElem?_toList, h1]
      exact h2
    · rw [List.getElem?_append_right (by omega)] at hx
      have := List.mem_of_getElem? hx
      rw [(List.mem_replicate.1 this).2]
      exact RepV.top
  · rintro e a w' ⟨ρ, σ, ⟨he, x, hφ, ⟨ids, h1, h2, h3, hres⟩, ⟨h4, h5⟩⟩, r⟩
    obtain ⟨us, hrun, hws⟩ := hres w _ ρ a w' r
    have hren : Ren ids m ρ := ⟨fun g hg => by obtain ⟨l, e1, _⟩ := r.pre; rw [e1]; exact List.mem_append_left _ hg, fun i hi => by rw [r.nx]; exact h3 i hi⟩
    have hws' := hws.ren hren (ho x) (by rw [h1]; exact hi x)
    have hul := hws'.len
    have hbase : ρ.B = w.heap.size := r.B
    have hval : ∃ u, (results fn a.tmps).run P w' = .ok u w' ∧ RepV P ⟨ρ.B, m, ids.map fun i => ρ.om.getD i 0, ρ.ov⟩ w' (one (ws x)) u := by
      rw [results_eq]
      have hm : (fn.results.mapM (resV a.tmps)).run P w' = .ok us.toArray w' := by
        rw [Array.mapM_eq_mapM_toList]
        simp only [Sem.run_map, hrun]
        rfl
      simp only [Sem.run_bind, hm, Result.andThen_ok, Sem.run_pure]
      have hul' : us.length = (ws x).length := hul.symm
      match ws x, us, hws', hul' with
      | [x], [u], hws', _ => exact ⟨u, rfl, by cases x <;> exact hws'.1⟩
      | [], [], _, _ => exact ⟨_, rfl, _, rfl, trivial⟩
      | x :: y :: ws, u :: v :: us, hws', _ =>
        refine ⟨.tuple (u :: v :: us).toArray, ?_, _, rfl, hws'⟩
        simp
    obtain ⟨u, hu1, hu2⟩ := hval
    have hpost : a.defers = [] ∧ ∃ v, (results fn a.tmps).run P w' = .ok v w' ∧ (∃ x, φ x ∧ ∃ (u : Value) (om : List Nat) (ov : Nat → Value), Ending.returned v = .returned u ∧ om.Nodup ∧ om.length = k x ∧ (∀ g ∈ om, w.heap.size ≤ g ∧ g < w'.heap.size) ∧ RepV P ⟨w.heap.size, m, om, ov⟩ w' (one (ws x)) u ∧
        (hp' x).length = hp.length ∧ (∀ (b : Nat) cs, (hp' x)[b]? = some cs → ∃ g : Nat, m[b]? = some g ∧ HpAt P (E0 w.heap.size m) w' cs g) ∧ Framed m w w') := by
      have hfrm : Framed m w w' := by have := r.fr; simpa using this
      refine ⟨r.df, u, hu1, x, hφ, u, ids.map fun i => ρ.om.getD i 0, ρ.ov, rfl, ?_, by simp [h1], fun g hg => ?_, by rw [← hbase]; exact hu2, h5, fun b cs hc => ?_, hfrm⟩
      · refine List.pairwise_map.2 (List.Pairwise.imp_of_mem (fun {i j} hi hj hij e => ?_) h2)
        have l1 := hren.lt i hi
        have l2 := hren.lt j hj
        rw [List.getD_eq_getElem?_getD, List.getD_eq_getElem?_getD, List.getElem?_eq_getElem l1, List.getElem?_eq_getElem l2] at e
        have hp := List.pairwise_iff_getElem.1 r.no
        rcases Nat.lt_or_gt_of_ne hij with hlt | hlt
        · exact hp _ _ l1 l2 hlt e
        · exact hp _ _ l2 l1 hlt e.symm
      · obtain ⟨i, hi, rfl⟩ := List.mem_map.1 hg
        have hlt := hren.lt i hi
        rw [List.getD_eq_getElem?_getD, List.getElem?_eq_getElem hlt]
        have := r.ob _ (List.getElem_mem hlt)
        exact ⟨this.1.resolve_left (by simp), this.2.1⟩
      · have hbl : b < hp.length := by rw [← h5]; exact (List.getElem?_eq_some_iff.1 hc).1
        have hc' := hc
        rw [← h4, List.getElem?_take, if_pos hbl] at hc
        obtain ⟨g, hg, vs', t', e1, e2⟩ := r.hp b cs hc
        obtain ⟨l, e3, _⟩ := r.pre
        rw [e3, List.getElem?_append_left (by show b < m.length; omega)] at hg
        exact ⟨g, hg, vs', t', e1, e2.back hren.m (List.all_eq_true.1 (hback x) cs (List.mem_of_getElem? hc'))⟩
    rcases he with rfl | rfl
    · exact hpost
    · exact hpost
end
end Go.Proofs.Ytdhplkdohhiooaa
