/- The abstract machine: regions that draw their order and make memory. What only reads is taken first, in the caller's state; the rest is walked in every order, as of a call's own memory. -/
import Derived.Test.YtdhplkdohhiooaaEG
import Derived.OrdersHeld
namespace Go.Proofs.Ytdhplkdohhiooaa
open Go.RowKit
set_option linter.unusedVariables false
set_option linter.unusedSimpArgs false

/-- The state as a callee would see it: all that was there is only read. -/
def plainB : List (List AC) → Nat → Option (List Value)
  | [], _ => none
  | cs :: _, 0 => plainC cs
  | _ :: r, n + 1 => plainB r n
def rpO : Option (List Value) → Nat → AV
  | some us, o => .c (.rp .ro (us.drop o))
  | none, _ => .c .top
/-- A pointer to an own block of plain cells reads, as long as the block stays. -/
def AV.roB (hp : List (List AC)) : AV → AV
  | .c (.ptr b o) => rpO (plainB hp b) o
  | .c (.bsl b sn sc) => .c .top
  | .c .top => .c .top
  | .c (.p v) => .c (.p v)
  | .c .nl => .c .nl
  | .c (.sl e o xs) => .c (.sl e .ro xs)
  | .c (.rp o cs) => .c (.rp .ro cs)
  | .c (.sv v e xs) => .c (.sv v e xs)
  | .c (.ep e k xs i j) => .c .top
  | .c (.fo f bs) => .c .top
  | .c (.fr f css) => .c (.fr f css)
  | .agg cs => .agg (cs.map AC.ro)
  | .tup ws => .tup (ws.map AW.ro)
def AS.inn (σ : AS) : AS := ⟨σ.tm.map (AV.roB σ.hp), [], 0⟩
theorem plainB_get : ∀ {hp : List (List AC)} {b : Nat} {us : List Value}, plainB hp b = some us → ∃ cs, hp[b]? = some cs ∧ plainC cs = some us
  | cs :: _, 0, us, h => ⟨cs, rfl, h⟩
  | _ :: r, n + 1, us, h => plainB_get (hp := r) (b := n) h
def Gv.inn (B : Nat) : Gv := ⟨B, [], [], fun _ => .tuple #[]⟩
/-- The slots that the operations not yet listed write. -/
def dsOf (l : List Oper) (listed : List Bool) : List Nat := ((l.zip listed).filter fun p => !p.2).filterMap fun p => p.1.dst
/-- A value as the caller sees it: of the new rows those of p stay, in this order, behind the n that were there; the new blocks lie behind the hb that were there. -/
def AC.bk (p : List Nat) (n hb : Nat) : AC → AC
  | .p v => .p v
  | .nl => .nl
  | .sl e (.own j) xs => if p.elem j then .sl e (.own (n + p.idxOf j)) xs else .top
  | .ptr b o => .ptr (hb + b) o
  | .bsl b sn sc => .bsl (hb + b) sn sc
  | _ => .top
def AW.bk (p : List Nat) (n hb : Nat) : AW → AW
  | .c x => .c (x.bk p n hb)
  | .agg cs => .agg (cs.map (AC.bk p n hb))
def AV.bk (p : List Nat) (n hb : Nat) : AV → AV
  | .c x => .c (x.bk p n hb)
  | .agg cs => .agg (cs.map (AC.bk p n hb))
  | .tup ws => .tup (ws.map (AW.bk p n hb))
def backT (ds p : List Nat) (n hb : Nat) : Nat → List AV → List AV → List AV
  | i, x :: xs, y :: ys => (if ds.elem i then y.bk p n hb else x) :: backT ds p n hb (i + 1) xs ys
  | _, _, _ => []
/-- Back in the caller's state. -/
def AS.back (ds p : List Nat) (σ τ : AS) : AS := ⟨backT ds p σ.nx σ.hp.length 0 σ.tm τ.tm, σ.hp ++ τ.hp.map (List.map (AC.bk p σ.nx σ.hp.length)), σ.nx + p.length⟩
/-- The frames differ in the slots ds at most. -/
def Off (ds : List Nat) (a0 a : Act) : Prop := a.defers = [] ∧ a.tmps.size = a0.tmps.size ∧ ∀ i, ds.elem i = false → a.tmps.getD i undef = a0.tmps.getD i undef
section
variable {P : Program} {σ : AS} {w0 : World} {m0 : Gv} {ρ : Env} {a : Act} {w : World} {ops : Array Oper} {Q : Exit → AS → Prop}

theorem Rel.inn (h : Rel P w0 m0 ρ σ a w) : Rel P w (Gv.inn ρ.B) (E0 ρ.B []) σ.inn a w := by
  have hB : ρ.B ≤ w.heap.size := by rw [h.B]; exact Nat.le_trans h.Bw h.fr.size
  refine ⟨rfl, hB, .refl _ _, ⟨[], rfl, by simp⟩, by simp [E0], by simp [E0], by simp [E0], by simp [E0], by simp [Gv.inn], rfl, rfl, by simp [AS.inn], by simp [AS.inn, h.tl], fun i x hx => ?_, h.df⟩
  simp only [AS.inn, List.getElem?_map] at hx
  obtain ⟨y, hy, rfl⟩ := Option.map_eq_some_iff.1 hx
  have h1 := h.tm i y hy
  have h2 := h1.ro h ρ.B (m := []) (by simp)
  cases y with
  | agg cs => exact h2
  | tup ws => exact h2
  | c x =>
    cases x with
    | ptr b o =>
      show RepV P (E0 ρ.B []) w (rpO (plainB σ.hp b) o) _
      cases hb : plainB σ.hp b with
      | none => trivial
      | some us =>
        obtain ⟨cs, e1, e2⟩ := plainB_get hb
        obtain ⟨g, hg, he⟩ := h1
        obtain ⟨g', hg', vs, t', hbl, hl⟩ := h.hp b cs e1
        obtain rfl : g = g' := by rw [hg] at hg'; injection hg'
        rw [plainC_rep e2] at hl
        have hv := repL_plain hl
        refine ⟨g, o, he, h.ml g (List.mem_of_getElem? hg), ⟨by simp [E0], by simp [E0]⟩, fun j v hv2 => ?_⟩
        rw [List.getElem?_drop] at hv2
        rw [← hv] at hv2
        simp only [World.cell?, hbl]
        simpa using hv2
    | bsl b sn sc => exact h2
    | top => exact h2
    | p v => exact h2
    | nl => exact h2
    | sl e o xs => exact h2
    | rp o cs => exact h2
    | sv v e xs => exact h2
    | ep e k xs i j => exact h2
    | fo f bs => exact h2
    | fr f css => exact h2
theorem backT_get (ds p : List Nat) (n hb : Nat) : ∀ (xs ys : List AV) (k i : Nat) (z : AV), (backT ds p n hb k xs ys)[i]? = some z → ∃ x y, xs[i]? = some x ∧ ys[i]? = some y ∧ z = (if ds.elem (k + i) then y.bk p n hb else x)
  | [], _, k, i, z, h => by simp [backT] at h
  | _ :: _, [], k, i, z, h => by simp [backT] at h
  | x :: xs, y :: ys, k, 0, z, h => by
    simp only [backT, List.getElem?_cons_zero, Option.some.injEq] at h
    exact ⟨x, y, rfl, rfl, by rw [Nat.add_zero]; exact h.symm⟩
  | x :: xs, y :: ys, k, i + 1, z, h => by
    simp only [backT, List.getElem?_cons_succ] at h
    obtain ⟨x', y', h1, h2, h3⟩ := backT_get ds p n hb xs ys (k + 1) i z h
    exact ⟨x', y', by simpa using h1, by simpa using h2, by rw [h3, show k + 1 + i = k + (i + 1) by omega]⟩
theorem backT_len (ds p : List Nat) (n hb : Nat) : ∀ (xs ys : List AV) (k : Nat), xs.length = ys.length → (backT ds p n hb k xs ys).length = xs.length
  | [], [], _, _ => rfl
  | x :: xs, y :: ys, k, h => by simp only [backT, List.length_cons]; rw [backT_len ds p n hb xs ys (k + 1) (by simpa using h)]
theorem OwS.env {ρ ρ' : Env} {e : TypeId} {j k g : Nat} {xs : List (List Value)} {v : Value} (h : OwS P ρ w e j xs v) (hj : ρ.om[j]? = some g) (hk : ρ'.om[k]? = some g) (hov : ρ'.ov g = ρ.ov g) (hB : ρ'.B ≤ g) : OwS P ρ' w e k xs v := by
  obtain ⟨t1, g5, t2, t3, t4, t5⟩ := h
  obtain rfl : g = g5 := by rw [hj] at t2; injection t2
  refine ⟨t1, g, hk, t3.trans hov.symm, t4, t5.1, ?_⟩
  rcases t5.2 with hn | ⟨g6, cap, cur, e1, b1, r1⟩
  · exact .inl hn
  · refine .inr ⟨g6, cap, cur, e1, ?_, r1⟩
    have : g6 = g := by rw [e1] at t4; simpa [Value.ownBlock] using t4
    rw [this]; exact hB
structure Bk (p : List Nat) (n hb : Nat) (ρr ρ : Env) : Prop where
  B : ρ.B ≤ ρr.B
  m : ∀ (b g : Nat), ρr.m[b]? = some g → ρ.m[hb + b]? = some g
  om : ∀ (j g : Nat), p.elem j = true → ρr.om[j]? = some g → ρ.om[n + p.idxOf j]? = some g ∧ ρ.ov g = ρr.ov g
section
variable {p : List Nat} {n hb : Nat} {ρr : Env}
theorem RepC.bk (h : Bk p n hb ρr ρ) {x : AC} {u : Value} (k : RepC P ρr w x u) : RepC P ρ w (x.bk p n hb) u := by
  cases x with
  | p v => exact k
  | nl => exact k
  | ptr b o => obtain ⟨g, h1, h2⟩ := k; exact ⟨g, h.m b g h1, h2⟩
  | bsl b sn sc => obtain ⟨g, h1, h2⟩ := k; exact ⟨g, h.m b g h1, h2⟩
  | sl e o xs =>
    cases o with
    | own j =>
      show RepC P ρ w (if p.elem j then .sl e (.own (n + p.idxOf j)) xs else .top) u
      cases hj : p.elem j with
      | false => exact trivial
      | true =>
        simp only [if_true]
        obtain ⟨h1, h2⟩ := k
        have h2' := h2
        obtain ⟨_, g, hg, _, hbk, ho⟩ := h2
        obtain ⟨h3, h4⟩ := h.om j g hj hg
        exact ⟨h1, h2'.env hg h3 h4 (Nat.le_trans h.B (ownsRow_lt ho hbk).1)⟩
    | ro => trivial
    | sub j => trivial
  | top => trivial
  | rp o cs => trivial
  | sv v e xs => trivial
  | ep e n xs i j => trivial
  | fo f bs => trivial
  | fr f css => trivial
theorem RepL.bk (h : Bk p n hb ρr ρ) : ∀ {xs : List AC} {vs : List Value}, RepL P ρr w xs vs → RepL P ρ w (xs.map (AC.bk p n hb)) vs
  | [], [], _ => trivial
  | _ :: _, _ :: _, k => ⟨k.1.bk h, RepL.bk h k.2⟩
theorem RepW.bk (h : Bk p n hb ρr ρ) {x : AW} {u : Value} (k : RepW P ρr w x u) : RepW P ρ w (x.bk p n hb) u := by
  cases x with
  | c x => exact RepC.bk h k
  | agg cs => obtain ⟨vs, rfl, hl⟩ := k; exact ⟨vs, rfl, hl.bk h⟩
theorem RepWs.bk (h : Bk p n hb ρr ρ) : ∀ {xs : List AW} {vs : List Value}, RepWs P ρr w xs vs → RepWs P ρ w (xs.map (AW.bk p n hb)) vs
  | [], [], _ => trivial
  | _ :: _, _ :: _, k => ⟨k.1.bk h, RepWs.bk h k.2⟩
theorem RepV.bk (h : Bk p n hb ρr ρ) {x : AV} {u : Value} (k : RepV P ρr w x u) : RepV P ρ w (x.bk p n hb) u := by
  cases x with
  | c x => exact RepC.bk h k
  | agg cs => obtain ⟨vs, rfl, hl⟩ := k; exact ⟨vs, rfl, hl.bk h⟩
  | tup ws => obtain ⟨vs, rfl, hl⟩ := k; exact ⟨vs, rfl, hl.bk h⟩
end
theorem Rel.back (h : Rel P w0 m0 ρ σ a w) {ds p : List Nat} (hpn : p.Nodup) {ρ' : Env} {τ : AS} {a' : Act} {w' : World} (k : Rel P w (Gv.inn ρ.B) ρ' τ a' w') (hp : ∀ j ∈ p, j < τ.nx) (ho : Off ds a a') : ∃ ρ'', Rel P w0 m0 ρ'' (σ.back ds p τ) a' w' := by
  have hbl : Below w.heap.size w w' := Framed.below k.fr
  have hom : ∀ g ∈ ρ'.om, w.heap.size ≤ g ∧ g < w'.heap.size ∧ g ∉ ρ'.m := fun g hg => by
    obtain ⟨h1, h2, h3⟩ := k.ob g hg
    exact ⟨h1.resolve_left (by simp [Gv.inn]), h2, h3⟩
  have hm' : ∀ g ∈ ρ'.m, w.heap.size ≤ g ∧ g < w'.heap.size := fun g hg => by
    obtain ⟨l, h1, h2⟩ := k.pre
    have : g ∈ l := by rw [h1] at hg; simpa [Gv.inn] using hg
    exact ⟨h2 g this, k.ml g hg⟩
  have hw0 : w0.heap.size ≤ w.heap.size := h.fr.size
  let om' : List Nat := p.map fun j => ρ'.om.getD j 0
  have hget : ∀ j ∈ p, ∃ g, ρ'.om[j]? = some g ∧ ρ'.om.getD j 0 = g := fun j hj => by
    have hl : j < ρ'.om.length := by rw [k.nx]; exact hp j hj
    exact ⟨ρ'.om[j], List.getElem?_eq_getElem hl, by simp [hl]⟩
  have hmem : ∀ g ∈ om', g ∈ ρ'.om := fun g hg => by
    obtain ⟨j, hj, rfl⟩ := List.mem_map.1 hg
    obtain ⟨g, h1, h2⟩ := hget j hj
    rw [h2]; exact List.mem_of_getElem? h1
  have hnd' : om'.Nodup := by
    refine List.Pairwise.map _ (fun i j (hij : i ≠ j ∧ i ∈ p ∧ j ∈ p) => ?_) (List.Pairwise.imp_of_mem (fun {i j} hi hj hne => ⟨hne, hi, hj⟩) hpn)
    obtain ⟨g1, e1, f1⟩ := hget i hij.2.1
    obtain ⟨g2, e2, f2⟩ := hget j hij.2.2
    rw [f1, f2]
    rintro rfl
    have l1 := (List.getElem?_eq_some_iff.1 e1).1
    have l2 := (List.getElem?_eq_some_iff.1 e2).1
    have hpp := List.pairwise_iff_getElem.1 k.no
    have d1 := (List.getElem?_eq_some_iff.1 e1).2
    have d2 := (List.getElem?_eq_some_iff.1 e2).2
    rcases Nat.lt_or_gt_of_ne hij.1 with hlt | hlt
    · exact hpp _ _ l1 l2 hlt (d1.trans d2.symm)
    · exact hpp _ _ l2 l1 hlt (d2.trans d1.symm)
  let ρ'' : Env := ⟨ρ.B, ρ.m ++ ρ'.m, ρ.om ++ om', fun x => if om'.elem x then ρ'.ov x else ρ.ov x⟩
  have st : Stab ρ w ρ'' w' := by
    refine ⟨rfl, hbl.size, fun g hg _ => hbl.block g hg, fun b g hb => ?_, fun b g hb => ?_, fun g hg h1 h2 => ⟨?_, ?_⟩, fun g hg => (h.ob g hg).2.2, fun g hg => ?_⟩
    · show (ρ.m ++ ρ'.m)[b]? = some g
      rw [List.getElem?_append_left (List.getElem?_eq_some_iff.1 hb).1]; exact hb
    · show (ρ.om ++ om')[b]? = some g
      rw [List.getElem?_append_left (List.getElem?_eq_some_iff.1 hb).1]; exact hb
    · show g ∉ ρ.m ++ ρ'.m
      simp only [List.mem_append, not_or]
      exact ⟨h1, fun hx => by have := (hm' g hx).1; omega⟩
    · show g ∉ ρ.om ++ om'
      simp only [List.mem_append, not_or]
      exact ⟨h2, fun hx => by have := (hom g (hmem g hx)).1; omega⟩
    · show (if om'.elem g then ρ'.ov g else ρ.ov g) = ρ.ov g
      rw [if_neg]
      intro hx
      have := (hom g (hmem g (List.elem_iff.1 hx))).1
      have := (h.ob g hg).2.1
      omega
  have bk : Bk p σ.nx σ.hp.length ρ' ρ'' := by
    refine ⟨by rw [k.B]; exact Nat.le_refl _, fun b g hb => ?_, fun j g hj hg => ⟨?_, ?_⟩⟩
    · show (ρ.m ++ ρ'.m)[σ.hp.length + b]? = some g
      rw [h.hl, List.getElem?_append_right (by omega), Nat.add_sub_cancel_left]; exact hb
    · show (ρ.om ++ om')[σ.nx + p.idxOf j]? = some g
      have hjm : j ∈ p := List.elem_iff.1 hj
      have hlt : p.idxOf j < p.length := List.idxOf_lt_length_of_mem hjm
      rw [← h.nx, List.getElem?_append_right (by omega), Nat.add_sub_cancel_left]
      show (p.map fun j => ρ'.om.getD j 0)[p.idxOf j]? = some g
      rw [List.getElem?_map, List.getElem?_eq_getElem hlt, List.getElem_idxOf hlt]
      obtain ⟨g2, e1, e2⟩ := hget j hjm
      rw [hg] at e1
      injection e1 with e1
      rw [Option.map_some, e2, e1]
    · show (if om'.elem g then ρ'.ov g else ρ.ov g) = ρ'.ov g
      have hjm : j ∈ p := List.elem_iff.1 hj
      obtain ⟨g2, e1, e2⟩ := hget j hjm
      rw [hg] at e1
      injection e1 with e1
      rw [if_pos (List.elem_iff.2 (List.mem_map.2 ⟨j, hjm, by rw [e2, e1]⟩))]
  have hlen : σ.tm.length = τ.tm.length := by rw [h.tl, k.tl, ho.2.1]
  refine ⟨ρ'', ⟨h.B, h.Bw, h.fr.trans (.of_below hbl), ?_, fun g hg => ?_, ?_, fun g hg => ?_, ?_, fun j q hq => ?_, ?_, ?_, fun b cs hc => ?_, ?_, fun i z hz => ?_, ho.1⟩⟩
  · obtain ⟨l, h1, h2⟩ := h.pre
    refine ⟨l ++ ρ'.m, by show ρ.m ++ ρ'.m = _; rw [h1, List.append_assoc], fun g hg => ?_⟩
    rcases List.mem_append.1 hg with hg | hg
    · exact h2 g hg
    · have := (hm' g hg).1; omega
  · rcases List.mem_append.1 hg with hg | hg
    · exact Nat.lt_of_lt_of_le (h.ml g hg) hbl.size
    · exact (hm' g hg).2
  · refine List.nodup_append.2 ⟨h.nd, k.nd, fun x hx y hy => ?_⟩
    have := h.ml x hx
    have := (hm' y hy).1
    omega
  · rcases List.mem_append.1 hg with hg | hg
    · obtain ⟨h1, h2, h3⟩ := h.ob g hg
      refine ⟨h1, Nat.lt_of_lt_of_le h2 hbl.size, ?_⟩
      show g ∉ ρ.m ++ ρ'.m
      simp only [List.mem_append, not_or]
      exact ⟨h3, fun hx => by have := (hm' g hx).1; omega⟩
    · obtain ⟨h1, h2, h3⟩ := hom g (hmem g hg)
      refine ⟨.inr (by omega), h2, ?_⟩
      show g ∉ ρ.m ++ ρ'.m
      simp only [List.mem_append, not_or]
      exact ⟨fun hx => by have := h.ml g hx; omega, h3⟩
  · refine List.nodup_append.2 ⟨h.no, hnd', fun x hx y hy => ?_⟩
    have := (h.ob x hx).2.1
    have := (hom y (hmem y hy)).1
    omega
  · obtain ⟨h1, h2⟩ := h.lp j q hq
    exact ⟨st.om j q h1, by rw [st.ov q (List.mem_of_getElem? h1)]; exact h2⟩
  · show (ρ.om ++ om').length = σ.nx + p.length
    rw [List.length_append, h.nx]; simp [om']
  · show (σ.hp ++ τ.hp.map _).length = (ρ.m ++ ρ'.m).length
    rw [List.length_append, List.length_append, List.length_map, h.hl, k.hl]
  · simp only [AS.back] at hc
    by_cases hb : b < σ.hp.length
    · rw [List.getElem?_append_left hb] at hc
      obtain ⟨g, hg, us, t', h1, h2⟩ := h.hp b cs hc
      exact ⟨g, st.m b g hg, us, t', (hbl.block g (h.ml g (List.mem_of_getElem? hg))).trans h1, h2.keep st⟩
    · rw [List.getElem?_append_right (by omega), List.getElem?_map] at hc
      obtain ⟨cs', h1, rfl⟩ := Option.map_eq_some_iff.1 hc
      obtain ⟨g, hg, us, t', h2, h3⟩ := k.hp _ cs' h1
      refine ⟨g, ?_, us, t', h2, h3.bk bk⟩
      have := bk.m _ g hg
      rwa [Nat.add_sub_cancel' (by omega)] at this
  · show (backT ds p σ.nx σ.hp.length 0 σ.tm τ.tm).length = a'.tmps.size
    rw [backT_len _ _ _ _ _ _ _ hlen, h.tl, ho.2.1]
  · obtain ⟨x, y, h1, h2, h3⟩ := backT_get ds p σ.nx σ.hp.length σ.tm τ.tm 0 i z hz
    rw [Nat.zero_add] at h3
    cases hd : ds.elem i with
    | false =>
      rw [hd] at h3
      simp only [Bool.false_eq_true, if_false] at h3
      subst h3
      rw [ho.2.2 i hd]
      exact (h.tm i _ h1).keep st
    | true =>
      rw [hd] at h3
      simp only [if_true] at h3
      subst h3
      exact (k.tm i y h2).bk bk

/-! ### Orders: the first n operations keep a condition on the world; the others, which wait for all of these, may break it -/
section
variable {md : Region.Mode} {opa : Array Oper} {R : Exit → Act → World → Prop} {S : World → Prop} {n : Nat}
def wpAnyT (P : Program) (md : Region.Mode) (opa : Array Oper) (R : Exit → Act → World → Prop) (S : World → Prop) (n : Nat) : Nat → Array Bool → Act → World → Prop
  | 0, listed, a, w => Region.ready md opa listed = [] ∧ R .normal a w
  | f + 1, listed, a, w => (Region.ready md opa listed = [] → R .normal a w) ∧
      ∀ i ∈ Region.ready md opa listed, wpOp P opa R i (fun a' w' => (i < n → S w') ∧ wpAnyT P md opa R S n f (listed.setIfInBounds i true) a' w') a w
theorem anyT_any : ∀ (f : Nat) (listed : Array Bool) (a : Act) (w : World), wpAnyT P md opa R S n f listed a w → wpAny P md opa R f listed a w
  | 0, _, _, _, h => h
  | f + 1, _, _, _, h => ⟨h.1, fun i hi => wpOp_mono (fun a' w' k => anyT_any f _ a' w' k.2) (h.2 i hi)⟩
/-- What an operation waits for, through others too: bits. -/
def depM (md : Region.Mode) (acc : List Nat) (o : Oper) : Nat := o.after.toList.foldl (fun m e => if Region.binds md e then m ||| (2 ^ e.on ||| acc.getD e.on 0) else m) 0
def closM (md : Region.Mode) : List Oper → List Nat → List Nat
  | [], acc => acc
  | o :: os, acc => closM md os (acc ++ [depM md acc o])
def sinkL (n : Nat) : Nat → List Nat → Bool
  | _, [] => true
  | j, m :: ms => (decide (j < n) || (2 ^ n - 1) &&& m == 2 ^ n - 1) && sinkL n (j + 1) ms
def sinkT (md : Region.Mode) (opa : Array Oper) (n : Nat) : Bool := sinkL n 0 (closM md opa.toList [])
def downB (md : Region.Mode) (l : List Oper) (listed : List Bool) : Bool := (l.zip listed).all fun p => !p.2 || p.1.after.all fun e => !Region.binds md e || listed.getD e.on false
inductive Dep (md : Region.Mode) (opa : Array Oper) : Nat → Nat → Prop
  | base {j : Nat} {oj : Oper} {e : Edge} (h : opa[j]? = some oj) (he : e ∈ oj.after) (hb : Region.binds md e = true) : Dep md opa j e.on
  | step {j i : Nat} {oj : Oper} {e : Edge} (h : opa[j]? = some oj) (he : e ∈ oj.after) (hb : Region.binds md e = true) (hd : Dep md opa e.on i) : Dep md opa j i
def Down (md : Region.Mode) (opa : Array Oper) (listed : Array Bool) : Prop := ∀ k ok, opa[k]? = some ok → listed.getD k false = true → ∀ e ∈ ok.after, Region.binds md e = true → listed.getD e.on false = true
theorem depM_bits (md : Region.Mode) (acc : List Nat) (i : Nat) : ∀ (es : List Edge) (m : Nat), (es.foldl (fun m e => if Region.binds md e then m ||| (2 ^ e.on ||| acc.getD e.on 0) else m) m).testBit i = true → m.testBit i = true ∨ ∃ e ∈ es, Region.binds md e = true ∧ (e.on = i ∨ (acc.getD e.on 0).testBit i = true)
  | [], m, h => .inl h
  | e :: es, m, h => by
    rw [List.foldl_cons] at h
    rcases depM_bits md acc i es _ h with h1 | ⟨e', h1, h2⟩
    · split at h1
      · rename_i hb
        simp only [Nat.testBit_or, Bool.or_eq_true, Nat.testBit_two_pow, decide_eq_true_eq] at h1
        rcases h1 with h1 | h1 | h1
        · exact .inl h1
        · exact .inr ⟨e, by simp, hb, .inl h1⟩
        · exact .inr ⟨e, by simp, hb, .inr h1⟩
      · exact .inl h1
    · exact .inr ⟨e', by simp [h1], h2⟩
theorem closM_spec (md : Region.Mode) (opa : Array Oper) : ∀ (os : List Oper) (acc : List Nat), opa.toList.drop acc.length = os → (∀ j m, acc[j]? = some m → ∀ i, m.testBit i = true → Dep md opa j i) → ∀ j m, (closM md os acc)[j]? = some m → ∀ i, m.testBit i = true → Dep md opa j i
  | [], acc, _, h => h
  | o :: os, acc, hd, h => by
    have ho : opa[acc.length]? = some o := by
      have := congrArg List.head? hd
      rw [List.head?_drop] at this
      simpa using this
    refine closM_spec md opa os (acc ++ [depM md acc o]) ?_ fun j m hj i hi => ?_
    · have := congrArg List.tail hd
      rw [List.tail_drop] at this
      simpa using this
    · by_cases hl : j < acc.length
      · rw [List.getElem?_append_left hl] at hj; exact h j m hj i hi
      · have hlt := (List.getElem?_eq_some_iff.1 hj).1
        have hje : j = acc.length := by simp at hlt; omega
        subst hje
        rw [List.getElem?_append_right (Nat.le_refl _)] at hj
        simp only [Nat.sub_self, List.getElem?_cons_zero, Option.some.injEq] at hj
        subst hj
        rcases depM_bits md acc i _ _ hi with h1 | ⟨e, he, hb, h1⟩
        · simp at h1
        · have he' : e ∈ o.after := by simpa using he
          rcases h1 with h1 | h1
          · rw [← h1]; exact .base ho he' hb
          · refine .step ho he' hb ?_
            cases hg : acc[e.on]? with
            | none => rw [List.getD_eq_getElem?_getD, hg] at h1; simp at h1
            | some m => rw [List.getD_eq_getElem?_getD, hg] at h1; exact h _ m hg i h1
theorem closM_len (md : Region.Mode) : ∀ (os : List Oper) (acc : List Nat), (closM md os acc).length = acc.length + os.length
  | [], acc => by simp [closM]
  | o :: os, acc => by rw [closM, closM_len md os]; simp; omega
theorem sinkL_spec {n : Nat} : ∀ (ms : List Nat) (k : Nat), sinkL n k ms = true → ∀ j m, ms[j]? = some m → ¬ k + j < n → ∀ i, i < n → m.testBit i = true
  | [], k, _, j, m, h => by simp at h
  | m0 :: ms, k, h, j, m, hj => by
    simp only [sinkL, Bool.and_eq_true, Bool.or_eq_true, decide_eq_true_eq, beq_iff_eq] at h
    intro hk i hi
    cases j with
    | zero =>
      simp at hj; subst hj
      have h1 := h.1.resolve_left (by omega)
      have h2 := congrArg (fun x => x.testBit i) h1
      simp only [Nat.testBit_and, Nat.testBit_two_pow_sub_one, hi, decide_true, Bool.true_and] at h2
      exact h2
    | succ j => exact sinkL_spec ms (k + 1) h.2 j m (by simpa using hj) (by omega) i hi
theorem dep_listed {listed : Array Bool} (hd : Down md opa listed) {k i : Nat} (h : Dep md opa k i) : listed.getD k false = true → listed.getD i false = true := by
  induction h with
  | base h he hb => exact fun hk => hd _ _ h hk _ he hb
  | step h he hb _ ih => exact fun hk => ih (hd _ _ h hk _ he hb)
theorem dep_ready {listed : Array Bool} (hd : Down md opa listed) {j i : Nat} (hj : j ∈ Region.ready md opa listed) (h : Dep md opa j i) : listed.getD i false = true := by
  obtain ⟨_, oj, hoj, hja⟩ := mem_ready.1 hj
  cases h with
  | base h he hb =>
    rw [hoj] at h; injection h with h; subst h
    exact hja _ he hb
  | step h he hb h2 =>
    rw [hoj] at h; injection h with h; subst h
    exact dep_listed hd h2 (hja _ he hb)
theorem sinkT_spec (h : sinkT md opa n = true) {listed : Array Bool} (hd : Down md opa listed) {i j : Nat} (hj : j ∈ Region.ready md opa listed) (hjn : ¬ j < n) (hi : i < n) : listed.getD i false = true := by
  obtain ⟨_, oj, hoj, _⟩ := mem_ready.1 hj
  have hlt : j < opa.size := (Array.getElem?_eq_some_iff.1 hoj).1
  have hl := closM_len md opa.toList []
  have hlt2 : j < (closM md opa.toList []).length := by rw [hl]; simpa using hlt
  have hb := sinkL_spec _ 0 h j _ (List.getElem?_eq_getElem hlt2) (by omega) i hi
  exact dep_ready hd hj (closM_spec md opa opa.toList [] (by simp) (by simp) j _ (List.getElem?_eq_getElem hlt2) i hb)
theorem down_set {listed : Array Bool} (hd : Down md opa listed) {j : Nat} (hj : j ∈ Region.ready md opa listed) : Down md opa (listed.setIfInBounds j true) := by
  obtain ⟨_, oj, hoj, hja⟩ := mem_ready.1 hj
  have hmono : ∀ k, listed.getD k false = true → (listed.setIfInBounds j true).getD k false = true := fun k hk => by
    rcases Decidable.em (j = k) with rfl | hne
    · rw [Array.getD_eq_getD_getElem?] at hk ⊢
      rw [Array.getElem?_setIfInBounds_self]
      split
      · rfl
      · rename_i hs; rw [Array.getElem?_eq_none (by omega)] at hk; cases hk
    · rw [getD_set_ne false hne]; exact hk
  intro k ok hk hkl e he hb
  rcases Decidable.em (j = k) with rfl | hne
  · rw [hoj] at hk; injection hk with hk; subst hk
    exact hmono _ (hja e he hb)
  · rw [getD_set_ne false hne] at hkl
    exact hmono _ (hd k ok hk hkl e he hb)
theorem downB_spec {l : List Oper} {listed : List Bool} (h : downB md l listed = true) : Down md l.toArray listed.toArray := by
  intro k ok hk hkl e he hb
  have hk' : l[k]? = some ok := by simpa using hk
  have hkl' : listed[k]? = some true := by
    rw [Array.getD_eq_getD_getElem?] at hkl
    simp only [List.getElem?_toArray] at hkl
    cases hh : listed[k]? with
    | none => rw [hh] at hkl; cases hkl
    | some b => rw [hh] at hkl; simp at hkl; rw [hkl]
  have hz : (l.zip listed)[k]? = some (ok, true) := by rw [List.getElem?_zip_eq_some]; exact ⟨hk', hkl'⟩
  have h1 := List.all_eq_true.1 h _ (List.mem_of_getElem? hz)
  simp only [Bool.not_true, Bool.false_or, Array.all_eq_true_iff_forall_mem, Bool.or_eq_true, Bool.not_eq_true'] at h1
  have h2 := (h1 e he).resolve_left (by rw [hb]; decide)
  rw [Array.getD_eq_getD_getElem?]
  rw [List.getD_eq_getElem?_getD] at h2
  simpa using h2
theorem anyT_done {listed : Array Bool} {a : Act} {w : World} (hr : Region.ready md opa listed = []) (h : R .normal a w) : ∀ f, wpAnyT P md opa R S n f listed a w
  | 0 => ⟨hr, h⟩
  | f + 1 => ⟨fun _ => h, fun i hi => by rw [hr] at hi; exact absurd hi (by simp)⟩
theorem anyT_take {i : Nat} {oi : Oper} {v : Value} (hin : i < n) (hi : opa[i]? = some oi) (hs : Region.noSelect opa = true) (hst : sinkT md opa n = true) (hp : ∀ c a w, R (.panic c) (a.put oi.dst v) w → R (.panic c) a w) :
    ∀ (f : Nat) (listed : Array Bool) (a : Act) (w : World), (∀ j oj, opa[j]? = some oj → j ≠ i → listed.getD j true = false → (∀ e ∈ oj.after, Region.binds md e = true → e.on ≠ i) → oi.apart opa oj = true) → Down md opa listed →
      i ∈ Region.ready md opa listed → YieldsIf P opa S oi v a → S w → wpAnyT P md opa R S n f (listed.setIfInBounds i true) (a.put oi.dst v) w → wpAnyT P md opa R S n (f + 1) listed a w := by
  have hsel := Region.noSelect_spec hs
  intro f
  induction f with
  | zero =>
    intro listed a w hfr hdn hr hy hS hK
    constructor
    · intro e; rw [e] at hr; exact absurd hr (by simp)
    · intro j hj
      rcases Decidable.em (j = i) with rfl | hne
      · exact hy.wpOp hi hS ⟨fun _ => hS, hK⟩
      · exact absurd (ready_mono hj hne) (by rw [hK.1]; simp)
  | succ f ih =>
    intro listed a w hfr hdn hr hy hS hK
    constructor
    · intro e; rw [e] at hr; exact absurd hr (by simp)
    · intro j hj
      rcases Decidable.em (j = i) with rfl | hne
      · exact hy.wpOp hi hS ⟨fun _ => hS, hK⟩
      · obtain ⟨hju, oj, hoj, hja⟩ := mem_ready.1 hj
        have hiu := (mem_ready.1 hr).1
        have hno : ∀ e ∈ oj.after, Region.binds md e = true → e.on ≠ i := by
          intro e he hb heq
          have hyes := hja e he hb
          rw [heq] at hyes
          by_cases hsz : i < listed.size
          · rw [Array.getD_eq_getD_getElem?, Array.getElem?_eq_getElem hsz] at hiu hyes
            simp only [Option.getD_some] at hiu hyes
            rw [hiu] at hyes; cases hyes
          · rw [Array.getD_eq_getD_getElem?, Array.getElem?_eq_none (by omega)] at hyes
            cases hyes
        have hput := wpOp_putIf hoj (hfr j oj hoj hne hju hno) (fun cs b => hsel i oi cs b hi) (fun cs b => hsel j oj cs b hoj) hp hy (hK.2 j (ready_mono hj hne))
        refine wpOp_mono ?_ hput
        rintro a' w' ⟨hy', hg, hrest⟩
        have hjn : j < n := Decidable.byContradiction fun hjn => by
          have h1 := sinkT_spec hst hdn hj hjn hin
          rw [Array.getD_eq_getD_getElem?] at hiu h1
          cases hh : listed[i]? with
          | none => rw [hh] at h1; cases h1
          | some b => rw [hh] at h1 hiu; simp at h1 hiu; rw [h1] at hiu; cases hiu
        have hS' : S w' := hg hjn
        refine ⟨fun _ => hS', ih _ a' w' ?_ (down_set hdn hj) (ready_mono hr (Ne.symm hne)) hy' hS' ?_⟩
        · intro k ok hk hki hun hnk
          refine hfr k ok hk hki ?_ hnk
          rcases Decidable.em (j = k) with rfl | hjk
          · exact hju
          · rwa [getD_set_ne true hjk] at hun
        · rw [Array.setIfInBounds_comm _ _ hne]
          exact hrest
end
/-! ### The first part: what only reads -/
def idxs {α : Type} : Nat → List α → List Nat
  | _, [] => []
  | k, _ :: t => k :: idxs (k + 1) t
theorem idxs_mem {α : Type} : ∀ (l : List α) (k i : Nat), k ≤ i → i < k + l.length → i ∈ idxs k l
  | [], k, i, h1, h2 => by simp at h2; omega
  | _ :: t, k, i, h1, h2 => by
    simp only [idxs, List.mem_cons]
    by_cases h : i = k
    · exact .inl h
    · exact .inr (idxs_mem t (k + 1) i (by omega) (by simp only [List.length_cons] at h2; omega))
/-- How many have not come up. -/
def todo (listed : List Bool) : Nat := listed.count false
theorem todo_set : ∀ {listed : List Bool} {i : Nat}, listed[i]? = some false → todo (listed.set i true) + 1 = todo listed
  | b :: l, 0, h => by
    simp at h; subst h
    simp [todo]
  | b :: l, i + 1, h => by
    have := todo_set (listed := l) (i := i) (by simpa using h)
    simp only [todo, List.set_cons_succ, List.count_cons] at this ⊢
    omega
theorem listed_of {listed : List Bool} {i : Nat} (h : listed.toArray.getD i true = false) : listed[i]? = some false := by
  rw [Array.getD_eq_getD_getElem?] at h
  simp only [List.getElem?_toArray] at h
  cases hh : listed[i]? with
  | none => rw [hh] at h; cases h
  | some b => rw [hh] at h; simp at h; subst h; rfl
def AG0 (P : Program) (w0 : World) (m0 : Gv) (n : Nat) (ops : List Oper) (Q : Exit → AS → Prop) (cand : List Nat) (listed : List Bool) (σ : AS) : Prop :=
  (∀ c σ, ¬ Q (.panic c) σ) → ∀ ρ a w, Rel P w0 m0 ρ σ a w → ∀ fuel, todo listed ≤ fuel → wpAnyT P .any ops.toArray (lift P w0 m0 Q) (fun W => Below w.heap.size w W) n fuel listed.toArray a w
/-- How many operations stand ahead of the last stores and assignments. -/
def lateB (o : Oper) : Bool := match o.op with
  | .store .. | .assign _ => true
  | .call c => match c.callee with
    | .builtin .append => true
    | _ => false
  | _ => false
def lateN (l : List Oper) : Nat := (l.reverse.dropWhile lateB).length
def regN (l : List Oper) : Nat := if sinkT .any l.toArray (lateN l) then lateN l else 1000
theorem awp_region_any {id : Nat} {n : Nat} {l : List Oper} {cand : List Nat} {listed : List Bool} (hm : P.follows .mixedOrders = true) (hq : ∀ c σ, ¬ Q (.panic c) σ) (hc : idxs 0 l = cand) (hl : l.map (fun _ => false) = listed) (hn : regN l = n) (h : AG0 P w0 m0 n l Q cand listed σ) : AWp P w0 m0 (.region id l.toArray true) Q σ := fun ρ a w r => by
  subst hl
  have r' := r.world (Below.drew (Below.refl _ _) : Below w.heap.size w { w with drawn := w.drawn + 1 })
  have := h hq ρ a _ r' l.toArray.size (by
    unfold todo
    refine Nat.le_trans List.count_le_length ?_
    simp)
  refine wp_region_any hm ?_
  have e : (l.map fun _ => false).toArray = Array.replicate l.toArray.size false := by
    rw [List.map_const', List.size_toArray, List.toArray_replicate]
  rw [← e]
  exact anyT_any _ _ _ _ this
theorem noPanic {d : Option Tmp} {v : Value} {c : List PanicEntry} {a : Act} {w : World} (hq : ∀ c σ, ¬ Q (.panic c) σ) : lift P w0 m0 Q (.panic c) (a.put d v) w → lift P w0 m0 Q (.panic c) a w := fun ⟨_, _, h, _⟩ => absurd h (hq _ _)
variable {l : List Oper} {cand : List Nat} {listed : List Bool} {n : Nat}
/-- Number i is taken. -/
theorem ag0_take {i : Nat} {d : Option Tmp} {o : Op} {ty : TypeId} {pos : String} {af : Array Edge} {gd : Option (Nat × Bool)} {x : AV} (hi : l[i]? = some ⟨d, o, ty, pos, af, gd⟩) (hs : Region.noSelect l.toArray = true) (hst : (decide (i < n) && sinkT .any l.toArray n && downB .any l listed) = true)
    (hf : Region.free .any l.toArray listed.toArray i = true) (hr : (Region.ready .any l.toArray listed.toArray).contains i = true) (hg : gd = none ∨ ∃ j b b', gd = some (j, b) ∧ σ.yv l.toArray j = some b' ∧ b' = b) (hx : QOp P o σ x)
    (h : AG0 P w0 m0 n l Q cand (listed.set i true) (σ.put d x)) : AG0 P w0 m0 n l Q (i :: cand) listed σ := fun hq ρ a w r fuel hfu => by
  obtain ⟨u, h1, h2⟩ := hx w0 m0 ρ a w d ty pos af gd r
  have hrr : i ∈ Region.ready .any l.toArray listed.toArray := by simpa using hr
  have ht := todo_set (listed_of (mem_ready.1 hrr).1)
  obtain ⟨f, rfl⟩ : ∃ f, fuel = f + 1 := ⟨fuel - 1, by omega⟩
  simp only [Bool.and_eq_true, decide_eq_true_eq] at hst
  refine anyT_take (v := u) (oi := ⟨d, o, ty, pos, af, gd⟩) hst.1.1 (by simpa using hi) hs hst.1.2 (fun c a w => noPanic hq) _ _ _ _ (Region.free_spec (by simpa using hi) hf) (downB_spec hst.2) hrr (.inl ⟨?_, fun W hW => h2 W hW⟩) (Below.refl _ _) ?_
  · rcases hg with rfl | ⟨j, b, b', rfl, hy, rfl⟩
    · rfl
    · simp only [Region.wanted, r.yv hy]; cases b' <;> rfl
  · have := h hq ρ _ w (r.put d h1) f (by omega)
    rw [List.setIfInBounds_toArray]
    exact this
/-- Number i is left out. -/
theorem ag0_miss {i : Nat} {d : Option Tmp} {o : Op} {ty : TypeId} {pos : String} {af : Array Edge} {j : Nat} {b : Bool} (hi : l[i]? = some ⟨d, o, ty, pos, af, some (j, b)⟩) (hs : Region.noSelect l.toArray = true) (hst : (decide (i < n) && sinkT .any l.toArray n && downB .any l listed) = true)
    (hf : Region.free .any l.toArray listed.toArray i = true) (hr : (Region.ready .any l.toArray listed.toArray).contains i = true) (hg : (∃ b', σ.yv l.toArray j = some b' ∧ b' = !b) ∨ σ.yu l.toArray j = true)
    (h : AG0 P w0 m0 n l Q cand (listed.set i true) (σ.put d (.c (.p undef)))) : AG0 P w0 m0 n l Q (i :: cand) listed σ := fun hq ρ a w r fuel hfu => by
  have hrr : i ∈ Region.ready .any l.toArray listed.toArray := by simpa using hr
  have ht := todo_set (listed_of (mem_ready.1 hrr).1)
  obtain ⟨f, rfl⟩ : ∃ f, fuel = f + 1 := ⟨fuel - 1, by omega⟩
  simp only [Bool.and_eq_true, decide_eq_true_eq] at hst
  refine anyT_take (v := undef) (oi := ⟨d, o, ty, pos, af, some (j, b)⟩) hst.1.1 (by simpa using hi) hs hst.1.2 (fun c a w => noPanic hq) _ _ _ _ (Region.free_spec (by simpa using hi) hf) (downB_spec hst.2) hrr (.inr ⟨?_, rfl⟩) (Below.refl _ _) ?_
  · rcases hg with ⟨b', hy, rfl⟩ | hy
    · simp only [Region.wanted, r.yv hy]; cases b <;> rfl
    · simp only [Region.wanted, r.yu hy]; rfl
  · have := h hq ρ _ w (r.put d rfl) f (by omega)
    rw [List.setIfInBounds_toArray]
    exact this
theorem ag0_skip {i : Nat} (h : AG0 P w0 m0 n l Q cand listed σ) : AG0 P w0 m0 n l Q (i :: cand) listed σ := h
theorem ag0_norm {listed' : List Bool} {τ : AS} (hl : listed = listed') (h : σ = τ) (k : AG0 P w0 m0 n l Q cand listed' τ) : AG0 P w0 m0 n l Q cand listed σ := by subst h hl; exact k
theorem ag0_done (hr : (Region.ready .any l.toArray listed.toArray).isEmpty = true) (h : Q .normal σ) : AG0 P w0 m0 n l Q cand listed σ := fun hq ρ a w r fuel _ => anyT_done (by simpa using hr) ⟨ρ, σ, h, r⟩ _

/-! ### The second part: every order -/
def AG (P : Program) (w0 : World) (m0 : Gv) (n : Nat) (l : List Oper) (Q : Exit → AS → Prop) (ds : List Nat) (σ0 : AS) (listed : List Bool) (σ : AS) : Prop :=
  ∀ ρ0 a0 w1, Rel P w0 m0 ρ0 σ0 a0 w1 → ∀ ρ a w, Rel P w1 (Gv.inn ρ0.B) ρ σ a w → Off ds a0 a → ∀ fuel, todo listed ≤ fuel → wpAnyT P .any l.toArray (lift P w0 m0 Q) (fun W => Below w1.heap.size w1 W) n fuel listed.toArray a w
/-- The last part: every order, in the caller's state. -/
def AL (P : Program) (w0 : World) (m0 : Gv) (n : Nat) (l : List Oper) (Q : Exit → AS → Prop) (listed : List Bool) (σ : AS) : Prop :=
  ∀ ρ a w, Rel P w0 m0 ρ σ a w → ∀ (S : World → Prop) fuel, todo listed ≤ fuel → wpAnyT P .any l.toArray (lift P w0 m0 Q) S n fuel listed.toArray a w
theorem ag_start {ds : List Nat} (hd : dsOf l listed = ds) {τ : AS} (hτ : σ.inn = τ) (h : AG P w0 m0 n l Q ds σ listed τ) : AG0 P w0 m0 n l Q [] listed σ := fun hq ρ a w r => by
  subst hτ
  exact h ρ a w r _ a w r.inn ⟨r.df, rfl, fun _ _ => rfl⟩
theorem ag_norm {ds : List Nat} {σ0 : AS} {listed' : List Bool} (hl : listed = listed') (k : AG P w0 m0 n l Q ds σ0 listed' σ) : AG P w0 m0 n l Q ds σ0 listed σ := by subst hl; exact k
/-- What one operation leaves behind in the frame. -/
theorem wpOp_put {Q : Exit → Act → World → Prop} {i : Nat} {oi : Oper} (hi : ops[i]? = some oi) {K : Act → World → Prop} (h : wpOp P ops Q i K a w) : wpOp P ops Q i (fun a' w' => K a' w' ∧ ((∃ u, a' = a.put oi.dst u) ∨ ∃ d u, a' = { a with defers := d :: a.defers }.put oi.dst u)) a w := by
  unfold wpOp at *
  simp only [hi] at *
  split
  · rename_i hw
    simp only [hw, if_true] at h
    rcases h with h | h
    case inr => exact .inr h
    refine .inl ?_
    unfold Oper.wp at *
    generalize (execOp a.eval oi).run P w = r at *
    cases r with
    | ok n w' =>
      cases n <;> simp only [Oper.upon] at h ⊢
      case value u => exact ⟨h, .inl ⟨u, rfl⟩⟩
      case skip => exact ⟨h, .inl ⟨_, rfl⟩⟩
      case defer d => exact ⟨h, .inr ⟨d, _, rfl⟩⟩
      case enter f args =>
        refine Calls.mono h fun e w'' he => ?_
        cases e with
        | returned u => exact ⟨he, .inl ⟨u, rfl⟩⟩
        | panicked c => exact he
        | outgrown => exact he
      case row row args => exact Rows.mono h fun u w'' he => ⟨he, .inl ⟨u, rfl⟩⟩
    | halt x w' =>
      cases x <;> simp only [Oper.upon] at h ⊢
      case panic u => exact h
  · rename_i hw
    simp only [hw] at h
    exact ⟨h, .inl ⟨_, rfl⟩⟩
/-- What holds of no exit but the plain one, holds beside every Q. -/
theorem wpOp_any {Q Q' : Exit → Act → World → Prop} {i : Nat} {K K' : Act → World → Prop} (hQ : ∀ e a w, Q' e a w → e = .normal) (hK : ∀ a w, K a w → K' a w) (h : wpOp P ops Q' i K a w) : wpOp P ops Q i K' a w := by
  have hlo : ¬ LetsOut Q' := fun ⟨a, w, h⟩ => by have := hQ _ _ _ h; cases this
  unfold wpOp at *
  split
  · rename_i ho
    simp only [ho] at h
    exact hK _ _ h
  · rename_i o ho
    simp only [ho] at h
    split
    · rename_i hw
      simp only [hw, if_true] at h
      rcases h with h | ⟨_, h⟩
      · refine .inl ?_
        unfold Oper.wp at *
        generalize (execOp a.eval o).run P w = r at *
        cases r with
        | ok n w' =>
          cases n <;> simp only [Oper.upon] at h ⊢
          case value u => exact hK _ _ h
          case skip => exact hK _ _ h
          case defer d => exact hK _ _ h
          case enter f args =>
            refine Calls.mono h fun e w'' he => ?_
            cases e with
            | returned u => exact hK _ _ he
            | panicked c => exact absurd (hQ _ _ _ he) (by simp)
            | outgrown => exact absurd he hlo
          case row row args => exact Rows.mono h fun u w'' he => hK _ _ he
        | halt x w' =>
          cases x <;> simp only [Oper.upon] at h ⊢
          case panic u => exact absurd (hQ _ _ _ h) (by simp)
      · exact absurd h hlo
    · rename_i hw
      simp only [hw] at h
      exact hK _ _ h
theorem Off.put {ds : List Nat} {a0 a : Act} (h : Off ds a0 a) {d : Option Tmp} (hd : ∀ t, d = some t → ds.elem t = true) (u : Value) : Off ds a0 (a.put d u) := by
  cases d with
  | none => exact h
  | some d =>
    refine ⟨h.1, by simp [Act.put, h.2.1], fun i hi => ?_⟩
    show (a.tmps.setIfInBounds d u).getD i undef = _
    rw [getD_set]
    split
    · rename_i hh
      rw [hh.1, hd d rfl] at hi; cases hi
    · exact h.2.2 i hi
/-- The steps of those that may come up. -/
def AGs (P : Program) (w0 : World) (m0 : Gv) (n : Nat) (l : List Oper) (Q : Exit → AS → Prop) (ds : List Nat) (σ0 : AS) (listed : List Bool) (σ : AS) : List Nat → Prop
  | [] => True
  | i :: rs => ((Region.ready .any l.toArray listed.toArray).contains i = false ∨ ∃ oi, l[i]? = some oi ∧ (match oi.dst with | some t => ds.elem t | none => true) = true ∧ ∀ w1 B, AR P w1 (Gv.inn B) l.toArray (fun e τ => e = .normal ∧ AG P w0 m0 n l Q ds σ0 (listed.set i true) τ) [oi] σ) ∧ AGs P w0 m0 n l Q ds σ0 listed σ rs
theorem AGs.get {ds : List Nat} {σ0 : AS} : ∀ {rs : List Nat}, AGs P w0 m0 n l Q ds σ0 listed σ rs → ∀ i ∈ rs, (Region.ready .any l.toArray listed.toArray).contains i = true → ∃ oi, l[i]? = some oi ∧ (match oi.dst with | some t => ds.elem t | none => true) = true ∧ ∀ w1 B, AR P w1 (Gv.inn B) l.toArray (fun e τ => e = .normal ∧ AG P w0 m0 n l Q ds σ0 (listed.set i true) τ) [oi] σ
  | _ :: _, h, i, hi, hc => by
    rcases List.mem_cons.1 hi with rfl | hi
    · exact h.1.resolve_left (by rw [hc]; simp)
    · exact AGs.get h.2 i hi hc
theorem ags_nil {ds : List Nat} {σ0 : AS} : AGs P w0 m0 n l Q ds σ0 listed σ [] := trivial
theorem ags_no {ds : List Nat} {σ0 : AS} {i : Nat} {rs : List Nat} (hr : (Region.ready .any l.toArray listed.toArray).contains i = false) (h : AGs P w0 m0 n l Q ds σ0 listed σ rs) : AGs P w0 m0 n l Q ds σ0 listed σ (i :: rs) := ⟨.inl hr, h⟩
theorem ags_yes {ds : List Nat} {σ0 : AS} {i : Nat} {rs : List Nat} {oi : Oper} (hi : l[i]? = some oi) (hd : (match oi.dst with | some t => ds.elem t | none => true) = true) (h1 : ∀ w1 B, AR P w1 (Gv.inn B) l.toArray (fun e τ => e = .normal ∧ AG P w0 m0 n l Q ds σ0 (listed.set i true) τ) [oi] σ)
    (h : AGs P w0 m0 n l Q ds σ0 listed σ rs) : AGs P w0 m0 n l Q ds σ0 listed σ (i :: rs) := ⟨.inr ⟨oi, hi, hd, h1⟩, h⟩
theorem ag_all {ds : List Nat} {σ0 : AS} {cand : List Nat} (hc : idxs 0 l = cand) (hne : (Region.ready .any l.toArray listed.toArray).isEmpty = false) (h : AGs P w0 m0 n l Q ds σ0 listed σ cand) : AG P w0 m0 n l Q ds σ0 listed σ := fun ρ0 a0 w1 q0 ρ a w q ho fuel hfu => by
  subst hc
  have hne' : Region.ready .any l.toArray listed.toArray ≠ [] := by intro e; rw [e] at hne; cases hne
  have hf : ∃ f, fuel = f + 1 := by
    obtain ⟨i, hi⟩ := List.exists_mem_of_ne_nil _ hne'
    have ht := todo_set (listed_of (mem_ready.1 hi).1)
    exact ⟨fuel - 1, by omega⟩
  obtain ⟨f, rfl⟩ := hf
  refine ⟨fun e => absurd e hne', fun i hi => ?_⟩
  have ht := todo_set (listed_of (mem_ready.1 hi).1)
  have hlt : i < l.length := by
    obtain ⟨_, o, ho, _⟩ := mem_ready.1 hi
    have := (Array.getElem?_eq_some_iff.1 ho).1
    simpa using this
  obtain ⟨oi, h1, h2, h3⟩ := h.get i (idxs_mem l 0 i (by omega) (by omega)) (by simpa using hi)
  have h1' : l.toArray[i]? = some oi := by simpa using h1
  have h4 := h3 w1 ρ0.B ρ a w q
  have h5 : wpOp P l.toArray (lift P w1 (Gv.inn ρ0.B) (fun e τ => e = .normal ∧ AG P w0 m0 n l Q ds σ0 (listed.set i true) τ)) i (fun a' w' => lift P w1 (Gv.inn ρ0.B) (fun e τ => e = .normal ∧ AG P w0 m0 n l Q ds σ0 (listed.set i true) τ) .normal a' w') a w := by
    unfold wpOp; simp only [h1']; exact h4
  refine wpOp_any (fun e a w ⟨_, _, h, _⟩ => h.1) ?_ (wpOp_put h1' h5)
  rintro a' w' ⟨⟨ρ', τ, ⟨_, hτ⟩, q'⟩, hp⟩
  have hoff : Off ds a0 a' := by
    rcases hp with ⟨u, rfl⟩ | ⟨d, u, rfl⟩
    · exact ho.put (fun t ht => by rw [ht] at h2; exact h2) u
    · have := q'.df
      rw [put_defers] at this
      simp at this
  refine ⟨fun _ => Framed.below q'.fr, ?_⟩
  rw [List.setIfInBounds_toArray]
  exact hτ ρ0 a0 w1 q0 ρ' a' w' q' hoff f (by omega)
theorem ag_done {ds : List Nat} {σ0 : AS} (p : List Nat) (hpl : p.length = σ.nx) (hr : (Region.ready .any l.toArray listed.toArray).isEmpty = true) (hpn : p.Nodup) (hp : ∀ j ∈ p, j < σ.nx) {τ : AS} (hb : σ0.back ds p σ = τ) (h : Q .normal τ) : AG P w0 m0 n l Q ds σ0 listed σ := fun ρ0 a0 w1 q0 ρ a w q ho fuel _ => by
  subst hb
  obtain ⟨ρ'', r⟩ := q0.back hpn q hp ho
  exact anyT_done (by simpa using hr) ⟨ρ'', _, h, r⟩ _
/-! ### The last part: what writes the caller's memory -/
/-- Of the first n none is left: on in the caller's state. -/
theorem ag_late {ds : List Nat} {σ0 : AS} (p : List Nat) (hall : ((listed.take n).all fun b => b) = true) (hpl : p.length = σ.nx) (hpn : p.Nodup) (hp : ∀ j ∈ p, j < σ.nx) {τ : AS} (hb : σ0.back ds p σ = τ) (h : AL P w0 m0 n l Q listed τ) : AG P w0 m0 n l Q ds σ0 listed σ := fun ρ0 a0 w1 q0 ρ a w q ho fuel hfu => by
  subst hb
  obtain ⟨ρ'', r⟩ := q0.back hpn q hp ho
  exact h ρ'' a w r _ fuel hfu
theorem ag0_late (hall : ((listed.take n).all fun b => b) = true) (h : AL P w0 m0 n l Q listed σ) : AG0 P w0 m0 n l Q [] listed σ := fun hq ρ a w r fuel hfu => h ρ a w r _ fuel hfu
def ALs (P : Program) (w0 : World) (m0 : Gv) (n : Nat) (l : List Oper) (Q : Exit → AS → Prop) (listed : List Bool) (σ : AS) : List Nat → Prop
  | [] => True
  | i :: rs => ((Region.ready .any l.toArray listed.toArray).contains i = false ∨ ∃ oi, l[i]? = some oi ∧ n ≤ i ∧ AR P w0 m0 l.toArray (fun e τ => e = .normal ∧ AL P w0 m0 n l Q (listed.set i true) τ) [oi] σ) ∧ ALs P w0 m0 n l Q listed σ rs
theorem ALs.get : ∀ {rs : List Nat}, ALs P w0 m0 n l Q listed σ rs → ∀ i ∈ rs, (Region.ready .any l.toArray listed.toArray).contains i = true → ∃ oi, l[i]? = some oi ∧ n ≤ i ∧ AR P w0 m0 l.toArray (fun e τ => e = .normal ∧ AL P w0 m0 n l Q (listed.set i true) τ) [oi] σ
  | _ :: _, h, i, hi, hc => by
    rcases List.mem_cons.1 hi with rfl | hi
    · exact h.1.resolve_left (by rw [hc]; simp)
    · exact ALs.get h.2 i hi hc
theorem als_nil : ALs P w0 m0 n l Q listed σ [] := trivial
theorem als_no {i : Nat} {rs : List Nat} (hr : (Region.ready .any l.toArray listed.toArray).contains i = false) (h : ALs P w0 m0 n l Q listed σ rs) : ALs P w0 m0 n l Q listed σ (i :: rs) := ⟨.inl hr, h⟩
theorem als_yes {i : Nat} {rs : List Nat} {oi : Oper} (hi : l[i]? = some oi) (hn : decide (n ≤ i) = true) (h1 : AR P w0 m0 l.toArray (fun e τ => e = .normal ∧ AL P w0 m0 n l Q (listed.set i true) τ) [oi] σ)
    (h : ALs P w0 m0 n l Q listed σ rs) : ALs P w0 m0 n l Q listed σ (i :: rs) := ⟨.inr ⟨oi, hi, by simpa using hn, h1⟩, h⟩
theorem al_all {cand : List Nat} (hc : idxs 0 l = cand) (hne : (Region.ready .any l.toArray listed.toArray).isEmpty = false) (h : ALs P w0 m0 n l Q listed σ cand) : AL P w0 m0 n l Q listed σ := fun ρ a w q S fuel hfu => by
  subst hc
  have hne' : Region.ready .any l.toArray listed.toArray ≠ [] := by intro e; rw [e] at hne; cases hne
  have hf : ∃ f, fuel = f + 1 := by
    obtain ⟨i, hi⟩ := List.exists_mem_of_ne_nil _ hne'
    have ht := todo_set (listed_of (mem_ready.1 hi).1)
    exact ⟨fuel - 1, by omega⟩
  obtain ⟨f, rfl⟩ := hf
  refine ⟨fun e => absurd e hne', fun i hi => ?_⟩
  have ht := todo_set (listed_of (mem_ready.1 hi).1)
  have hlt : i < l.length := by
    obtain ⟨_, o, ho, _⟩ := mem_ready.1 hi
    have := (Array.getElem?_eq_some_iff.1 ho).1
    simpa using this
  obtain ⟨oi, h1, h2, h3⟩ := h.get i (idxs_mem l 0 i (by omega) (by omega)) (by simpa using hi)
  have h1' : l.toArray[i]? = some oi := by simpa using h1
  have h4 := h3 ρ a w q
  have h5 : wpOp P l.toArray (lift P w0 m0 (fun e τ => e = .normal ∧ AL P w0 m0 n l Q (listed.set i true) τ)) i (fun a' w' => lift P w0 m0 (fun e τ => e = .normal ∧ AL P w0 m0 n l Q (listed.set i true) τ) .normal a' w') a w := by
    unfold wpOp; simp only [h1']; exact h4
  refine wpOp_any (fun e a w ⟨_, _, h, _⟩ => h.1) ?_ h5
  rintro a' w' ⟨ρ', τ, ⟨_, hτ⟩, q'⟩
  refine ⟨fun hc => absurd hc (by omega), ?_⟩
  rw [List.setIfInBounds_toArray]
  exact hτ ρ' a' w' q' S f (by omega)
theorem al_done (hr : (Region.ready .any l.toArray listed.toArray).isEmpty = true) (h : Q .normal σ) : AL P w0 m0 n l Q listed σ := fun ρ a w q S fuel _ => anyT_done (by simpa using hr) ⟨ρ, σ, h, q⟩ _
theorem al_norm {listed' : List Bool} (hl : listed = listed') (k : AL P w0 m0 n l Q listed' σ) : AL P w0 m0 n l Q listed σ := by subst hl; exact k
theorem awp_region_al {id : Nat} {l : List Oper} {listed : List Bool} (hm : P.follows .mixedOrders = true) (hl : l.map (fun _ => false) = listed) (h : AL P w0 m0 0 l Q listed σ) : AWp P w0 m0 (.region id l.toArray true) Q σ := fun ρ a w r => by
  subst hl
  have r' := r.world (Below.drew (Below.refl _ _) : Below w.heap.size w { w with drawn := w.drawn + 1 })
  have := h ρ a _ r' (fun _ => True) l.toArray.size (by
    unfold todo
    refine Nat.le_trans List.count_le_length ?_
    simp)
  refine wp_region_any hm ?_
  have e : (l.map fun _ => false).toArray = Array.replicate l.toArray.size false := by
    rw [List.map_const', List.size_toArray, List.toArray_replicate]
  rw [← e]
  exact anyT_any _ _ _ _ this
/-- Every way through the region ends in the one state τ. -/
theorem awp_cut {c : Code} (τ : AS) (h : AWp P w0 m0 c (fun e σ => e = .normal ∧ σ = τ) σ) (k : Q .normal τ) : AWp P w0 m0 c Q σ := h.mono fun e σ ⟨h1, h2⟩ => by subst h1 h2; exact k
end
end Go.Proofs.Ytdhplkdohhiooaa
