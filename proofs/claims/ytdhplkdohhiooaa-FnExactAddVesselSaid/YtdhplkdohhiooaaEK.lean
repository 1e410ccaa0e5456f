/- The abstract machine: loops whose rounds make rows anew; behind a round only the rows of a list stay, numbered anew, and the blocks below k. -/
import Derived.Test.YtdhplkdohhiooaaEJ
namespace Go.Proofs.Ytdhplkdohhiooaa
open Go.RowKit
set_option linter.unusedVariables false
set_option linter.unusedSimpArgs false
def AC.rsel (p : List Nat) : AC → AC
  | .sl e .ro xs => .sl e .ro xs
  | .sl e (.own j) xs => if p.elem j then .sl e (.own (p.idxOf j)) xs else .top
  | .sl e (.sub j) xs => if p.elem j then .sl e (.sub (p.idxOf j)) xs else .top
  | .rp .ro cs => .rp .ro cs
  | .rp (.own j) cs => if p.elem j then .rp (.own (p.idxOf j)) cs else .top
  | .rp (.sub j) cs => if p.elem j then .rp (.sub (p.idxOf j)) cs else .top
  | .top => .top
  | .p v => .p v
  | .nl => .nl
  | .ptr b o => .ptr b o
  | .bsl b sn sc => .bsl b sn sc
  | .sv v e xs => .sv v e xs
  | .ep e k xs i j => if p.elem k then .ep e (p.idxOf k) xs i j else .top
  | .fo f bs => .fo f bs
  | .fr f css => .fr f css
def AW.rsel (p : List Nat) : AW → AW
  | .c x => .c (x.rsel p)
  | .agg cs => .agg (cs.map (AC.rsel p))
def AV.rsel (p : List Nat) : AV → AV
  | .c x => .c (x.rsel p)
  | .agg cs => .agg (cs.map (AC.rsel p))
  | .tup ws => .tup (ws.map (AW.rsel p))
def AS.rsel (σ : AS) (p : List Nat) : AS := ⟨σ.tm.map (AV.rsel p), σ.hp.map (List.map (AC.rsel p)), p.length⟩
def Env.rsel (ρ : Env) (p : List Nat) : Env := ⟨ρ.B, ρ.m, p.map fun j => ρ.om.getD j 0, ρ.ov⟩
section
variable {P : Program} {σ : AS} {w0 : World} {m0 : Gv} {ρ : Env} {a : Act} {w : World} {p : List Nat}
theorem rsel_mem {l : List Nat} (hp : ∀ j ∈ p, j < l.length) {g : Nat} (h : g ∈ p.map fun j => l.getD j 0) : g ∈ l := by
  obtain ⟨j, hj, rfl⟩ := List.mem_map.1 h
  have := hp j hj
  simp [this]
theorem rsel_get {l : List Nat} {j g : Nat} (h : l[j]? = some g) (hj : p.elem j = true) : (p.map fun j => l.getD j 0)[p.idxOf j]? = some g := by
  have hjm : j ∈ p := List.elem_iff.1 hj
  have hlt : p.idxOf j < p.length := List.idxOf_lt_length_of_mem hjm
  rw [List.getElem?_map, List.getElem?_eq_getElem hlt, List.getElem_idxOf hlt]
  simp [h]
theorem Ow.rsel_ro (hp : ∀ j ∈ p, j < ρ.om.length) {g : Nat} (h : Ow.at_ ρ g .ro) : Ow.at_ (ρ.rsel p) g .ro := ⟨h.1, fun hm => h.2 (rsel_mem hp hm)⟩
theorem RdS.rsel_ro (hp : ∀ j ∈ p, j < ρ.om.length) {e : TypeId} {xs : List (List Value)} {u : Value} (k : RdS P ρ w e .ro xs u) : RdS P (ρ.rsel p) w e .ro xs u := by
  rcases k with k | ⟨g, off, c, rfl, hc, hg, ha, he⟩
  · exact .inl k
  · exact .inr ⟨g, off, c, rfl, hc, hg, Ow.rsel_ro hp ha, he⟩
theorem RdS.rsel {e : TypeId} {j : Nat} (hj : p.elem j = true) {xs : List (List Value)} {u : Value} (k : RdS P ρ w e (.sub j) xs u) : RdS P (ρ.rsel p) w e (.sub (p.idxOf j)) xs u := by
  rcases k with k | ⟨g, off, c, rfl, hc, hg, ha, he⟩
  · exact .inl k
  · exact .inr ⟨g, off, c, rfl, hc, hg, rsel_get ha hj, he⟩
theorem OwS.rsel {e : TypeId} {j : Nat} (hj : p.elem j = true) {xs : List (List Value)} {u : Value} (k : OwS P ρ w e j xs u) : OwS P (ρ.rsel p) w e (p.idxOf j) xs u := by
  obtain ⟨hl, g, hg, hv, hu, ho⟩ := k
  exact ⟨hl, g, rsel_get hg hj, hv, hu, ho⟩
theorem PtrO.rsel : ∀ {bs : List Nat} {vs : List Value}, PtrO ρ bs vs → PtrO (ρ.rsel p) bs vs
  | [], [], _ => trivial
  | b :: bs, v :: vs, ⟨⟨g, h1, h2⟩, k⟩ => ⟨⟨g, h1, h2⟩, PtrO.rsel k⟩
theorem PtrR.rsel (hp : ∀ j ∈ p, j < ρ.om.length) : ∀ {css : List (List Value)} {vs : List Value}, PtrR ρ w css vs → PtrR (ρ.rsel p) w css vs
  | [], [], _ => trivial
  | _ :: _, _ :: _, ⟨⟨g, off, e, hg, ha, hc⟩, q⟩ => ⟨⟨g, off, e, hg, Ow.rsel_ro hp ha, hc⟩, PtrR.rsel hp q⟩
theorem RepC.rsel (hp : ∀ j ∈ p, j < ρ.om.length) {x : AC} {u : Value} (k : RepC P ρ w x u) : RepC P (ρ.rsel p) w (x.rsel p) u := by
  cases x with
  | top => trivial
  | p v => exact k
  | nl => exact k
  | ptr b o => exact k
  | bsl b sn sc => exact k
  | sl e o xs =>
    cases o with
    | ro => exact ⟨k.1, RdS.rsel_ro hp k.2⟩
    | own j =>
      show RepC P (ρ.rsel p) w (if p.elem j then .sl e (.own (p.idxOf j)) xs else .top) u
      by_cases hj : p.elem j = true
      · rw [if_pos hj]; exact ⟨k.1, OwS.rsel hj k.2⟩
      · rw [if_neg hj]; trivial
    | sub j =>
      show RepC P (ρ.rsel p) w (if p.elem j then .sl e (.sub (p.idxOf j)) xs else .top) u
      by_cases hj : p.elem j = true
      · rw [if_pos hj]; exact ⟨k.1, RdS.rsel hj k.2⟩
      · rw [if_neg hj]; trivial
  | rp o cs =>
    obtain ⟨g, off, rfl, hg, ha, hc⟩ := k
    cases o with
    | ro => exact ⟨g, off, rfl, hg, Ow.rsel_ro hp ha, hc⟩
    | own j =>
      show RepC P (ρ.rsel p) w (if p.elem j then .rp (.own (p.idxOf j)) cs else .top) _
      by_cases hj : p.elem j = true
      · rw [if_pos hj]; exact ⟨g, off, rfl, hg, rsel_get ha hj, hc⟩
      · rw [if_neg hj]; trivial
    | sub j =>
      show RepC P (ρ.rsel p) w (if p.elem j then .rp (.sub (p.idxOf j)) cs else .top) _
      by_cases hj : p.elem j = true
      · rw [if_pos hj]; exact ⟨g, off, rfl, hg, rsel_get ha hj, hc⟩
      · rw [if_neg hj]; trivial
  | sv v e xs => exact ⟨k.1, k.2.1, RdS.rsel_ro hp k.2.2⟩
  | ep e j xs a b =>
    show RepC P (ρ.rsel p) w (if p.elem j then .ep e (p.idxOf j) xs a b else .top) u
    by_cases hj : p.elem j = true
    · rw [if_pos hj]
      obtain ⟨h1, g, v, h2, h3, h4⟩ := k
      exact ⟨h1, g, v, rsel_get h2 hj, h3, OwS.rsel hj h4⟩
    · rw [if_neg hj]; trivial
  | fo f bs => obtain ⟨vs, h1, h2⟩ := k; exact ⟨vs, h1, h2.rsel⟩
  | fr f css => obtain ⟨vs, h1, h2⟩ := k; exact ⟨vs, h1, h2.rsel hp⟩
theorem RepL.rsel (hp : ∀ j ∈ p, j < ρ.om.length) : ∀ {xs : List AC} {vs : List Value}, RepL P ρ w xs vs → RepL P (ρ.rsel p) w (xs.map (AC.rsel p)) vs
  | [], [], _ => trivial
  | _ :: _, _ :: _, k => ⟨k.1.rsel hp, RepL.rsel hp k.2⟩
theorem RepW.rsel (hp : ∀ j ∈ p, j < ρ.om.length) {x : AW} {u : Value} (k : RepW P ρ w x u) : RepW P (ρ.rsel p) w (x.rsel p) u := by
  cases x with
  | c x => exact RepC.rsel hp k
  | agg cs => obtain ⟨vs, rfl, hl⟩ := k; exact ⟨vs, rfl, hl.rsel hp⟩
theorem RepWs.rsel (hp : ∀ j ∈ p, j < ρ.om.length) : ∀ {xs : List AW} {vs : List Value}, RepWs P ρ w xs vs → RepWs P (ρ.rsel p) w (xs.map (AW.rsel p)) vs
  | [], [], _ => trivial
  | _ :: _, _ :: _, k => ⟨k.1.rsel hp, RepWs.rsel hp k.2⟩
theorem RepV.rsel (hp : ∀ j ∈ p, j < ρ.om.length) {x : AV} {u : Value} (k : RepV P ρ w x u) : RepV P (ρ.rsel p) w (x.rsel p) u := by
  cases x with
  | c x => exact RepC.rsel hp k
  | agg cs => obtain ⟨vs, rfl, hl⟩ := k; exact ⟨vs, rfl, hl.rsel hp⟩
  | tup ws => obtain ⟨vs, rfl, hl⟩ := k; exact ⟨vs, rfl, hl.rsel hp⟩
theorem rsel_nodup {l : List Nat} (hl : l.Nodup) (hn : p.Nodup) (hp : ∀ j ∈ p, j < l.length) : (p.map fun j => l.getD j 0).Nodup := by
  refine List.Pairwise.map _ (fun i j (hij : i ≠ j ∧ i ∈ p ∧ j ∈ p) => ?_) (List.Pairwise.imp_of_mem (fun {i j} hi hj hne => ⟨hne, hi, hj⟩) hn)
  have l1 := hp i hij.2.1
  have l2 := hp j hij.2.2
  simp only [List.getD_eq_getElem?_getD, List.getElem?_eq_getElem l1, List.getElem?_eq_getElem l2, Option.getD_some]
  intro e
  have hpp := List.pairwise_iff_getElem.1 hl
  rcases Nat.lt_or_gt_of_ne hij.1 with hlt | hlt
  · exact hpp _ _ l1 l2 hlt e
  · exact hpp _ _ l2 l1 hlt e.symm
theorem Rel.rsel (h : Rel P w0 m0 ρ σ a w) (h0 : m0.l = []) (hn : p.Nodup) (hp : ∀ j ∈ p, j < σ.nx) : Rel P w0 m0 (ρ.rsel p) (σ.rsel p) a w := by
  have hp' : ∀ j ∈ p, j < ρ.om.length := fun j hj => by rw [h.nx]; exact hp j hj
  refine ⟨h.B, h.Bw, h.fr, h.pre, h.ml, h.nd, fun g hg => h.ob g (rsel_mem hp' hg), rsel_nodup h.no hn hp', fun j g hj => ?_, ?_, by simp [AS.rsel, Env.rsel, h.hl], fun b cs hc => ?_, by simp [AS.rsel, h.tl], fun i x hx => ?_, h.df⟩
  · rw [h0] at hj; simp at hj
  · show (p.map fun j => ρ.om.getD j 0).length = p.length
    simp
  · simp only [AS.rsel, List.getElem?_map] at hc
    obtain ⟨ds, h1, rfl⟩ := Option.map_eq_some_iff.1 hc
    obtain ⟨g, hg, us, t, h3, h4⟩ := h.hp b ds h1
    exact ⟨g, hg, us, t, h3, h4.rsel hp'⟩
  · simp only [AS.rsel, List.getElem?_map] at hx
    obtain ⟨y, h1, rfl⟩ := Option.map_eq_some_iff.1 hx
    exact (h.tm i y h1).rsel hp'
/-- Forget: of the blocks those below k stay, of the rows those of p, numbered anew. -/
theorem AWp.forget {c : Code} {Q : Exit → AS → Prop} (k : Nat) (p : List Nat) (hk : m0.m.length ≤ k) (h0 : m0.l = []) (hn : p.Nodup) (hp : ∀ j ∈ p, j < σ.nx) (h : AWp P w0 m0 c Q ((σ.cut k).rsel p)) : AWp P w0 m0 c Q σ :=
  fun ρ a w r => h _ a w ((r.cut hk).rsel h0 hn hp)
/-- A loop whose rounds box variables and make rows anew: behind a round the blocks from k on are forgotten, of the rows those of p stay. -/
theorem awp_loopR {α : Type} {c : Code} {Q : Exit → AS → Prop} (k : Nat) (hk : m0.m.length ≤ k) (h00 : m0.l = []) (keep : List Nat) (V : α → List (Nat × AV)) (H : α → List (List AC)) (N : α → Nat) (R : Nat → α → Prop) (n0 : Nat) (x0 : α) (h0 : R n0 x0) (hle : σ.le (σ.head keep (V x0) (H x0) (N x0)))
    (round : ∀ n x, R n x → AWp P w0 m0 c (Exit.thenA (fun σ' => ∃ n' x' p, n' < n ∧ R n' x' ∧ p.Nodup ∧ (∀ j ∈ p, j < σ'.nx) ∧ ((σ'.cut k).rsel p).le (σ.head keep (V x') (H x') (N x'))) Q) (σ.head keep (V x) (H x) (N x))) : AWp P w0 m0 (.loop c) Q σ :=
  awp_loop (fun n τ => ∃ x, R n x ∧ τ = σ.head keep (V x) (H x) (N x)) n0 ⟨_, hle, x0, h0, rfl⟩ fun n τ ⟨x, hR, he⟩ => by
    subst he
    intro ρ a w r
    refine wp_mono (round n x hR ρ a w r) fun e a' w' ⟨ρ', σ', q, r'⟩ => ?_
    cases e <;> first | exact ⟨ρ', σ', q, r'⟩ | (obtain ⟨n', x', p, h1, h2, h3, h4, h5⟩ := q; exact ⟨(ρ'.cut k).rsel p, (σ'.cut k).rsel p, ⟨n', _, h1, h5, x', h2, rfl⟩, (r'.cut hk).rsel h00 h3 h4⟩)
end
end Go.Proofs.Ytdhplkdohhiooaa
