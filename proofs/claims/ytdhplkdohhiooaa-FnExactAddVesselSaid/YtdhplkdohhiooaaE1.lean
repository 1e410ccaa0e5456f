/- An abstract machine beside the model's: frames of plain values, slices as lists, blocks of a call's own; how such a state stands for a frame and a world. -/
import Derived.Test.YtdhplkdohhiooaaRows
import Derived.WalkKit
import Derived.ProofKit
import Derived.Below
import Derived.WalkSpells
import Derived.WalkLawsBesides
import Derived.LoopN
import Derived.OpenShut
import Derived.Lib.Hide
import Derived.Outline
import Derived.Deep.QuietTactic
import Derived.BigQuiet
import Derived.RegionTactic
import Derived.BigRegion
import Derived.ChangeAlike

namespace Go.Proofs.Ytdhplkdohhiooaa
open Go.RowKit
set_option linter.unusedVariables false

/-- Where a slice's or pointer's block lies: old or foreign memory (only read); the call's own row number k; a part of that row. -/
inductive Ow where
  | ro
  | own (k : Nat)
  | sub (k : Nat)

/-- One cell. -/
inductive AC where
  | top
  | p (v : Value)
  | nl
  | sl (e : TypeId) (o : Ow) (xs : List (List Value))
  | ptr (b o : Nat)
  | bsl (b n c : Nat)
  | rp (o : Ow) (cs : List Value)
  | sv (v : Value) (e : TypeId) (xs : List (List Value))
  | ep (e : TypeId) (k : Nat) (xs : List (List Value)) (i j : Nat)
  | fo (f : FuncId) (bs : List Nat)
  | fr (f : FuncId) (css : List (List Value))

inductive AW where
  | c (x : AC)
  | agg (cs : List AC)

/-- What a slot holds. -/
inductive AV where
  | c (x : AC)
  | agg (cs : List AC)
  | tup (vs : List AW)

structure AS where
  tm : List AV
  hp : List (List AC)
  nx : Nat

structure Env where
  B : Nat
  m : List Nat
  om : List Nat
  ov : Nat → Value
def E0 (B : Nat) (m : List Nat) : Env := ⟨B, m, [], fun _ => .tuple #[]⟩

def Ow.at_ (ρ : Env) (g : Nat) : Ow → Prop
  | .ro => g ∉ ρ.m ∧ g ∉ ρ.om
  | .own k => ρ.om[k]? = some g
  | .sub k => ρ.om[k]? = some g
def Ow.part : Ow → Ow
  | .ro => .ro
  | .own k => .sub k
  | .sub k => .sub k

/-- The elements xs, s cells each, stand at block g from cell off on. -/
def Els (w : World) (g off s : Nat) (xs : List (List Value)) : Prop :=
  ∀ i x, xs[i]? = some x → x.length = s ∧ ∀ j v, x[j]? = some v → w.cell? ⟨g, off + (i * s + j), none⟩ = some v

def RdS (P : Program) (ρ : Env) (w : World) (e : TypeId) (o : Ow) (xs : List (List Value)) (u : Value) : Prop :=
  (xs = [] ∧ ∃ A c, u = .slice A 0 c) ∨ ∃ g off c, u = .slice (some ⟨g, off, none⟩) xs.length c ∧ xs.length ≤ c ∧ g < w.heap.size ∧ o.at_ ρ g ∧ Els w g off (P.cellsOf e) xs
def OwS (P : Program) (ρ : Env) (w : World) (e : TypeId) (k : Nat) (xs : List (List Value)) (u : Value) : Prop :=
  (∀ x ∈ xs, x.length = P.cellsOf e) ∧ ∃ g, ρ.om[k]? = some g ∧ u = ρ.ov g ∧ u.ownBlock = some g ∧ w.ownsRow ρ.B e (P.cellsOf e) u xs.length xs.flatten

/-- Pointers to the call's own blocks bs. -/
def PtrO (ρ : Env) : List Nat → List Value → Prop
  | [], [] => True
  | b :: bs, v :: vs => (∃ g, ρ.m[b]? = some g ∧ v = .pointer (some ⟨g, 0, none⟩)) ∧ PtrO ρ bs vs
  | _, _ => False
/-- Pointers to known cells of others' blocks. -/
def PtrR (ρ : Env) (w : World) : List (List Value) → List Value → Prop
  | [], [] => True
  | cs :: css, u :: vs => (∃ g off, u = .pointer (some ⟨g, off, none⟩) ∧ g < w.heap.size ∧ Ow.ro.at_ ρ g ∧ ∀ j v, cs[j]? = some v → w.cell? ⟨g, off + j, none⟩ = some v) ∧ PtrR ρ w css vs
  | _, _ => False
def RepC (P : Program) (ρ : Env) (w : World) : AC → Value → Prop
  | .top, _ => True
  | .p v, u => u = v
  | .nl, u => u = .slice none 0 0
  | .sl e o xs, u => xs.length ≤ 9223372036854775807 ∧ match o with
    | .own k => OwS P ρ w e k xs u
    | o => RdS P ρ w e o xs u
  | .ptr b o, u => ∃ g, ρ.m[b]? = some g ∧ u = .pointer (some ⟨g, o, none⟩)
  | .bsl b n c, u => ∃ g, ρ.m[b]? = some g ∧ u = .slice (some ⟨g, 0, none⟩) n c
  | .rp o cs, u => ∃ g off, u = .pointer (some ⟨g, off, none⟩) ∧ g < w.heap.size ∧ o.at_ ρ g ∧ ∀ j v, cs[j]? = some v → w.cell? ⟨g, off + j, none⟩ = some v
  | .sv v e xs, u => u = v ∧ xs.length ≤ 9223372036854775807 ∧ RdS P ρ w e .ro xs u
  | .ep e k xs i j, u => i < xs.length ∧ ∃ g v, ρ.om[k]? = some g ∧ u = .pointer (some ⟨g, i * P.cellsOf e + j, none⟩) ∧ OwS P ρ w e k xs v
  | .fo f bs, u => ∃ vs : Array Value, u = .func (.func f) #[] vs ∧ PtrO ρ bs vs.toList
  | .fr f css, u => ∃ vs : Array Value, u = .func (.func f) #[] vs ∧ PtrR ρ w css vs.toList

def RepL (P : Program) (ρ : Env) (w : World) : List AC → List Value → Prop
  | [], [] => True
  | x :: xs, v :: vs => RepC P ρ w x v ∧ RepL P ρ w xs vs
  | _, _ => False
def RepW (P : Program) (ρ : Env) (w : World) : AW → Value → Prop
  | .c x, u => RepC P ρ w x u
  | .agg cs, u => ∃ vs : Array Value, u = .agg vs ∧ RepL P ρ w cs vs.toList
def RepWs (P : Program) (ρ : Env) (w : World) : List AW → List Value → Prop
  | [], [] => True
  | x :: xs, v :: vs => RepW P ρ w x v ∧ RepWs P ρ w xs vs
  | _, _ => False
def RepV (P : Program) (ρ : Env) (w : World) : AV → Value → Prop
  | .c x, u => RepC P ρ w x u
  | .agg cs, u => ∃ vs : Array Value, u = .agg vs ∧ RepL P ρ w cs vs.toList
  | .tup xs, u => ∃ vs : Array Value, u = .tuple vs ∧ RepWs P ρ w xs vs.toList
def AV.top : AV := .c .top
theorem RepV.top {P : Program} {ρ : Env} {w : World} {u : Value} : RepV P ρ w .top u := trivial

theorem RepL.len {P : Program} {ρ : Env} {w : World} : ∀ {xs : List AC} {vs : List Value}, RepL P ρ w xs vs → xs.length = vs.length
  | [], [], _ => rfl
  | _ :: _, _ :: _, h => by simp [RepL.len h.2]
theorem RepL.get {P : Program} {ρ : Env} {w : World} : ∀ {xs : List AC} {vs : List Value} {i : Nat} {x : AC}, RepL P ρ w xs vs → xs[i]? = some x → ∃ v, vs[i]? = some v ∧ RepC P ρ w x v
  | _ :: _, v :: _, 0, x, h, hx => by simp at hx; subst hx; exact ⟨v, rfl, h.1⟩
  | _ :: _, _ :: _, i + 1, x, h, hx => by simp at hx; simpa using RepL.get h.2 hx
theorem RepL.app {P : Program} {ρ : Env} {w : World} : ∀ {xs ys : List AC} {vs us : List Value}, RepL P ρ w xs vs → RepL P ρ w ys us → RepL P ρ w (xs ++ ys) (vs ++ us)
  | [], _, [], _, _, h => h
  | _ :: _, _, _ :: _, _, h, h' => ⟨h.1, RepL.app h.2 h'⟩
theorem RepL.take {P : Program} {ρ : Env} {w : World} : ∀ {xs : List AC} {vs : List Value} (n : Nat), RepL P ρ w xs vs → RepL P ρ w (xs.take n) (vs.take n)
  | [], [], _, _ => by simp [RepL]
  | _ :: _, _ :: _, 0, _ => by simp [RepL]
  | _ :: _, _ :: _, n + 1, h => ⟨h.1, RepL.take n h.2⟩
theorem RepL.drop {P : Program} {ρ : Env} {w : World} : ∀ {xs : List AC} {vs : List Value} (n : Nat), RepL P ρ w xs vs → RepL P ρ w (xs.drop n) (vs.drop n)
  | [], [], n, _ => by simp [RepL]
  | _ :: _, _ :: _, 0, h => h
  | _ :: _, _ :: _, n + 1, h => RepL.drop n h.2
theorem RepWs.get {P : Program} {ρ : Env} {w : World} : ∀ {xs : List AW} {vs : List Value} {i : Nat} {x : AW}, RepWs P ρ w xs vs → xs[i]? = some x → ∃ v, vs[i]? = some v ∧ RepW P ρ w x v
  | _ :: _, v :: _, 0, x, h, hx => by simp at hx; subst hx; exact ⟨v, rfl, h.1⟩
  | _ :: _, _ :: _, i + 1, x, h, hx => by simp at hx; simpa using RepWs.get h.2 hx

/-! ### Flat rows -/
theorem flat_get {α : Type} {s : Nat} : ∀ {xs : List (List α)} {i j : Nat} {x : List α} {v : α}, (∀ x ∈ xs, x.length = s) → xs[i]? = some x → x[j]? = some v → xs.flatten[i * s + j]? = some v
  | y :: ys, 0, j, x, v, h, hx, hv => by
    simp at hx; subst hx
    have hj := (List.getElem?_eq_some_iff.1 hv).1
    rw [Nat.zero_mul, Nat.zero_add, List.flatten_cons, List.getElem?_append_left hj, hv]
  | y :: ys, i + 1, j, x, v, h, hx, hv => by
    simp at hx
    have hy := h y (by simp)
    rw [List.flatten_cons, List.getElem?_append_right (by rw [hy, Nat.add_mul]; omega), hy, show (i + 1) * s + j - s = i * s + j by rw [Nat.add_mul]; omega]
    exact flat_get (fun z hz => h z (by simp [hz])) hx hv
theorem flat_len {α : Type} {s : Nat} : ∀ {xs : List (List α)}, (∀ x ∈ xs, x.length = s) → xs.flatten.length = xs.length * s
  | [], _ => by simp
  | y :: ys, h => by
    rw [List.flatten_cons, List.length_append, h y (by simp), flat_len (fun z hz => h z (by simp [hz])), List.length_cons, Nat.add_mul]; omega
theorem flat_inv {α : Type} {s : Nat} (hs : 0 < s) : ∀ {xs : List (List α)} {q : Nat} {v : α}, (∀ x ∈ xs, x.length = s) → xs.flatten[q]? = some v → ∃ x, xs[q / s]? = some x ∧ x[q % s]? = some v
  | [], q, v, _, h => by simp at h
  | y :: ys, q, v, h, hv => by
    have hy := h y (by simp)
    rw [List.flatten_cons] at hv
    by_cases hq : q < s
    · rw [List.getElem?_append_left (by omega)] at hv
      exact ⟨y, by simp [Nat.div_eq_of_lt hq], by rw [Nat.mod_eq_of_lt hq]; exact hv⟩
    · rw [List.getElem?_append_right (by omega), hy] at hv
      obtain ⟨x, h1, h2⟩ := flat_inv hs (fun z hz => h z (by simp [hz])) hv
      refine ⟨x, ?_, ?_⟩
      · rw [Nat.div_eq_sub_div hs (by omega), List.getElem?_cons_succ]; exact h1
      · rw [Nat.mod_eq_sub_mod (by omega)]; exact h2

/-- An owned slice reads. -/
theorem OwS.rd {P : Program} {ρ : Env} {w : World} {e : TypeId} {k : Nat} {xs : List (List Value)} {u : Value} (h : OwS P ρ w e k xs u) : RdS P ρ w e (.sub k) xs u := by
  obtain ⟨hl, g, hg, _, hu, ho⟩ := h
  have ho' := ho
  rcases ho.2 with ⟨rfl, _⟩ | ⟨g', cap, cur, rfl, hb, hgg, h1, h2, h3, h4⟩
  · simp [Value.ownBlock] at hu
  · simp [Value.ownBlock] at hu
    subst hu
    refine .inr ⟨g', 0, cap, rfl, h1, (Array.getElem?_eq_some_iff.1 hgg).1, hg, fun i x hx => ⟨hl x (List.mem_of_getElem? hx), fun j v hv => ?_⟩⟩
    have := ho'.cells (g := g') rfl _ _ (flat_get hl hx hv)
    rw [show (⟨g', 0, none⟩ : Addr).add (i * P.cellsOf e + j) = ⟨g', 0 + (i * P.cellsOf e + j), none⟩ by unfold Addr.add; split <;> simp_all] at this
    exact this
/-- What every slice gives: its elements' cells. -/
theorem RepC.rdS {P : Program} {ρ : Env} {w : World} {e : TypeId} {o : Ow} {xs : List (List Value)} {u : Value} (h : RepC P ρ w (.sl e o xs) u) : RdS P ρ w e o.part xs u := by
  cases o with
  | ro => exact h.2
  | own k => exact OwS.rd h.2
  | sub k => exact h.2
theorem RepC.part {P : Program} {ρ : Env} {w : World} {e : TypeId} {o : Ow} {xs : List (List Value)} {u : Value} (h : RepC P ρ w (.sl e o xs) u) : RepC P ρ w (.sl e o.part xs) u := by
  have h2 := h.rdS
  cases o with
  | ro => exact h
  | own k => exact ⟨h.1, h2⟩
  | sub k => exact h
theorem RdS.val {P : Program} {ρ : Env} {w : World} {e : TypeId} {o : Ow} {xs : List (List Value)} {u : Value} (h : RdS P ρ w e o xs u) : ∃ A c, u = .slice A xs.length c := by
  rcases h with ⟨rfl, A, c, rfl⟩ | ⟨g, off, c, rfl, _⟩
  · exact ⟨A, c, rfl⟩
  · exact ⟨_, c, rfl⟩
theorem RdS.at_ {P : Program} {ρ : Env} {w : World} {e : TypeId} {o : Ow} {xs : List (List Value)} {u : Value} (h : RdS P ρ w e o xs u) {i : Nat} {x : List Value} (hx : xs[i]? = some x) :
    ∃ g off c, u = .slice (some ⟨g, off, none⟩) xs.length c ∧ g < w.heap.size ∧ o.at_ ρ g ∧ x.length = P.cellsOf e ∧ ∀ j v, x[j]? = some v → w.cell? ⟨g, off + (i * P.cellsOf e + j), none⟩ = some v := by
  rcases h with ⟨rfl, _⟩ | ⟨g, off, c, rfl, hc, hg, ha, he⟩
  · simp at hx
  · exact ⟨g, off, c, rfl, hg, ha, (he i x hx).1, (he i x hx).2⟩

/-! ### What stays as it stands for -/
structure Stab (ρ : Env) (w : World) (ρ' : Env) (w' : World) : Prop where
  B : ρ'.B = ρ.B
  size : w.heap.size ≤ w'.heap.size
  blk : ∀ g, g < w.heap.size → g ∉ ρ.m → w'.heap[g]? = w.heap[g]?
  m : ∀ (b g : Nat), ρ.m[b]? = some g → ρ'.m[b]? = some g
  om : ∀ (b g : Nat), ρ.om[b]? = some g → ρ'.om[b]? = some g
  ro : ∀ g, g < w.heap.size → g ∉ ρ.m → g ∉ ρ.om → g ∉ ρ'.m ∧ g ∉ ρ'.om
  ob : ∀ g, g ∈ ρ.om → g ∉ ρ.m
  ov : ∀ g, g ∈ ρ.om → ρ'.ov g = ρ.ov g

theorem cell_blk {w w' : World} {g : Nat} (h : w'.heap[g]? = w.heap[g]?) (o : Nat) : w'.cell? ⟨g, o, none⟩ = w.cell? ⟨g, o, none⟩ := World.cell?_of_block (a := ⟨g, o, none⟩) h
theorem ownsRow_blk {w w' : World} {B : Nat} {e : TypeId} {s : Nat} {u : Value} {n : Nat} {xs : List Value} {g : Nat} (h : w.ownsRow B e s u n xs) (hg : u.ownBlock = some g) (hb : w'.heap[g]? = w.heap[g]?) : w'.ownsRow B e s u n xs := by
  refine ⟨h.1, ?_⟩
  rcases h.2 with ⟨rfl, _⟩ | ⟨g', cap, cur, rfl, r1, r2, r3⟩
  · simp [Value.ownBlock] at hg
  · simp [Value.ownBlock] at hg
    subst hg
    exact .inr ⟨g', cap, cur, rfl, r1, hb.trans r2, r3⟩
theorem ownsRow_lt {w : World} {B : Nat} {e : TypeId} {s : Nat} {u : Value} {n : Nat} {xs : List Value} {g : Nat} (h : w.ownsRow B e s u n xs) (hg : u.ownBlock = some g) : B ≤ g ∧ g < w.heap.size := h.lt g hg
section
variable {P : Program} {ρ ρ' : Env} {w w' : World}
theorem Ow.keep (h : Stab ρ w ρ' w') {o : Ow} {g : Nat} (hg : g < w.heap.size) (ho : o.at_ ρ g) : o.at_ ρ' g ∧ w'.heap[g]? = w.heap[g]? := by
  cases o with
  | ro => exact ⟨h.ro g hg ho.1 ho.2, h.blk g hg ho.1⟩
  | own k => exact ⟨h.om _ _ ho, h.blk g hg (h.ob g (List.mem_of_getElem? ho))⟩
  | sub k => exact ⟨h.om _ _ ho, h.blk g hg (h.ob g (List.mem_of_getElem? ho))⟩
theorem RdS.keep (h : Stab ρ w ρ' w') {e : TypeId} {o : Ow} {xs : List (List Value)} {u : Value} (k : RdS P ρ w e o xs u) : RdS P ρ' w' e o xs u := by
  rcases k with k | ⟨g, off, c, rfl, hc, hg, ha, he⟩
  · exact .inl k
  · obtain ⟨h1, h2⟩ := Ow.keep h hg ha
    exact .inr ⟨g, off, c, rfl, hc, Nat.lt_of_lt_of_le hg h.size, h1, fun i x hx => ⟨(he i x hx).1, fun j v hv => by rw [cell_blk h2]; exact (he i x hx).2 j v hv⟩⟩
theorem OwS.keep (h : Stab ρ w ρ' w') {e : TypeId} {k : Nat} {xs : List (List Value)} {u : Value} (q : OwS P ρ w e k xs u) : OwS P ρ' w' e k xs u := by
  obtain ⟨hl, g, hg, hv, hu, ho⟩ := q
  refine ⟨hl, g, h.om _ _ hg, by rw [h.ov g (List.mem_of_getElem? hg)]; exact hv, hu, ?_⟩
  rw [h.B]
  exact ownsRow_blk ho hu (h.blk g (ownsRow_lt ho hu).2 (h.ob g (List.mem_of_getElem? hg)))
theorem PtrO.keep (h : Stab ρ w ρ' w') : ∀ {bs : List Nat} {vs : List Value}, PtrO ρ bs vs → PtrO ρ' bs vs
  | [], [], _ => trivial
  | _ :: _, _ :: _, ⟨⟨g, h1, h2⟩, k⟩ => ⟨⟨g, h.m _ _ h1, h2⟩, PtrO.keep h k⟩
theorem PtrR.keep (h : Stab ρ w ρ' w') : ∀ {css : List (List Value)} {vs : List Value}, PtrR ρ w css vs → PtrR ρ' w' css vs
  | [], [], _ => trivial
  | _ :: _, _ :: _, ⟨⟨g, off, e, hg, ha, hc⟩, k⟩ => by
    obtain ⟨h1, h2⟩ := Ow.keep h hg ha
    exact ⟨⟨g, off, e, Nat.lt_of_lt_of_le hg h.size, h1, fun j v hv => by rw [cell_blk h2]; exact hc j v hv⟩, PtrR.keep h k⟩
theorem RepC.keep (h : Stab ρ w ρ' w') {x : AC} {u : Value} (k : RepC P ρ w x u) : RepC P ρ' w' x u := by
  cases x with
  | top => trivial
  | p v => exact k
  | nl => exact k
  | ptr b o => obtain ⟨g, h1, h2⟩ := k; exact ⟨g, h.m _ _ h1, h2⟩
  | bsl b sn sc => obtain ⟨g, h1, h2⟩ := k; exact ⟨g, h.m _ _ h1, h2⟩
  | rp o cs =>
    obtain ⟨g, off, rfl, hg, ha, hc⟩ := k
    obtain ⟨h1, h2⟩ := Ow.keep h hg ha
    exact ⟨g, off, rfl, Nat.lt_of_lt_of_le hg h.size, h1, fun j v hv => by rw [cell_blk h2]; exact hc j v hv⟩
  | sv v e xs => exact ⟨k.1, k.2.1, RdS.keep h k.2.2⟩
  | ep e n xs i j => obtain ⟨h1, g, v, h2, h3, h4⟩ := k; exact ⟨h1, g, v, h.om _ _ h2, h3, OwS.keep h h4⟩
  | fo f bs => obtain ⟨vs, h1, h2⟩ := k; exact ⟨vs, h1, h2.keep h⟩
  | fr f css => obtain ⟨vs, h1, h2⟩ := k; exact ⟨vs, h1, h2.keep h⟩
  | sl e o xs =>
    refine ⟨k.1, ?_⟩
    have k2 := k.2
    cases o with
    | ro => exact RdS.keep h k2
    | sub i => exact RdS.keep h k2
    | own i => exact OwS.keep h k2
theorem RepL.keep (h : Stab ρ w ρ' w') : ∀ {xs : List AC} {vs : List Value}, RepL P ρ w xs vs → RepL P ρ' w' xs vs
  | [], [], _ => trivial
  | _ :: _, _ :: _, k => ⟨k.1.keep h, RepL.keep h k.2⟩
theorem RepW.keep (h : Stab ρ w ρ' w') {x : AW} {u : Value} (k : RepW P ρ w x u) : RepW P ρ' w' x u := by
  cases x with
  | c x => exact RepC.keep h k
  | agg cs => obtain ⟨vs, rfl, hl⟩ := k; exact ⟨vs, rfl, hl.keep h⟩
theorem RepWs.keep (h : Stab ρ w ρ' w') : ∀ {xs : List AW} {vs : List Value}, RepWs P ρ w xs vs → RepWs P ρ' w' xs vs
  | [], [], _ => trivial
  | _ :: _, _ :: _, k => ⟨k.1.keep h, RepWs.keep h k.2⟩
theorem RepV.keep (h : Stab ρ w ρ' w') {x : AV} {u : Value} (k : RepV P ρ w x u) : RepV P ρ' w' x u := by
  cases x with
  | c x => exact RepC.keep h k
  | agg cs => obtain ⟨vs, rfl, hl⟩ := k; exact ⟨vs, rfl, hl.keep h⟩
  | tup ws => obtain ⟨vs, rfl, hl⟩ := k; exact ⟨vs, rfl, hl.keep h⟩
end

/-! ### A row that is appended to: what spoke of it is forgotten -/
def AC.drop (k : Nat) : AC → AC
  | .sl e .ro xs => .sl e .ro xs
  | .sl e (.own j) xs => if j = k then .top else .sl e (.own j) xs
  | .sl e (.sub j) xs => if j = k then .top else .sl e (.sub j) xs
  | .rp .ro cs => .rp .ro cs
  | .rp (.own j) cs => if j = k then .top else .rp (.own j) cs
  | .rp (.sub j) cs => if j = k then .top else .rp (.sub j) cs
  | .top => .top
  | .p v => .p v
  | .nl => .nl
  | .ptr b o => .ptr b o
  | .bsl b sn sc => .bsl b sn sc
  | .sv v e xs => .sv v e xs
  | .ep e j xs a b => if j = k then .top else .ep e j xs a b
  | .fo f bs => .fo f bs
  | .fr f css => .fr f css
def AW.drop (k : Nat) : AW → AW
  | .c x => .c (x.drop k)
  | .agg cs => .agg (cs.map (AC.drop k))
def AV.drop (k : Nat) : AV → AV
  | .c x => .c (x.drop k)
  | .agg cs => .agg (cs.map (AC.drop k))
  | .tup ws => .tup (ws.map (AW.drop k))
structure Move (k : Nat) (ρ : Env) (w : World) (g' : Nat) (ρ' : Env) (w' : World) : Prop where
  B : ρ'.B = ρ.B
  size : w.heap.size ≤ w'.heap.size
  blk : ∀ g, g < w.heap.size → ρ.om[k]? ≠ some g → w'.heap[g]? = w.heap[g]?
  m : ρ'.m = ρ.m
  om : ρ'.om = ρ.om.set k g'
  nd : ρ.om.Nodup
  new : ρ.om[k]? = some g' ∨ w.heap.size ≤ g'
  ov : ∀ g, g ∈ ρ.om → ρ.om[k]? ≠ some g → ρ'.ov g = ρ.ov g
section
variable {P : Program} {ρ ρ' : Env} {w w' : World} {k g' : Nat}
theorem om_ne (h : Move k ρ w g' ρ' w') {j g : Nat} (hj : j ≠ k) (hg : ρ.om[j]? = some g) : ρ.om[k]? ≠ some g := by
  intro hk
  have hl := (List.getElem?_eq_some_iff.1 hg).1
  have hl2 := (List.getElem?_eq_some_iff.1 hk).1
  rw [List.getElem?_eq_getElem hl] at hg
  rw [List.getElem?_eq_getElem hl2] at hk
  have he := (Option.some.inj hg).trans (Option.some.inj hk).symm
  have hp := List.pairwise_iff_getElem.1 h.nd
  rcases Nat.lt_or_gt_of_ne hj with hlt | hlt
  · exact hp _ _ hl hl2 hlt he
  · exact hp _ _ hl2 hl hlt he.symm
theorem Ow.moved_ro (h : Move k ρ w g' ρ' w') {g : Nat} (hg : g < w.heap.size) (ho : Ow.at_ ρ g .ro) : Ow.at_ ρ' g .ro ∧ w'.heap[g]? = w.heap[g]? := by
  obtain ⟨h1, h2⟩ := ho
  refine ⟨⟨by rw [h.m]; exact h1, ?_⟩, h.blk g hg (fun hk => h2 (List.mem_of_getElem? hk))⟩
  rw [h.om]
  intro hm
  rcases List.mem_or_eq_of_mem_set hm with hm | rfl
  · exact h2 hm
  · rcases h.new with hn | hn
    · exact h2 (List.mem_of_getElem? hn)
    · omega
theorem Ow.moved (h : Move k ρ w g' ρ' w') {g j : Nat} (hj : j ≠ k) (hg : g < w.heap.size) (ho : ρ.om[j]? = some g) : ρ'.om[j]? = some g ∧ w'.heap[g]? = w.heap[g]? := by
  refine ⟨?_, h.blk g hg (om_ne h hj ho)⟩
  rw [h.om, List.getElem?_set_ne (fun e => hj e.symm)]
  exact ho
theorem RdS.moved_ro (h : Move k ρ w g' ρ' w') {e : TypeId} {xs : List (List Value)} {u : Value} (q : RdS P ρ w e .ro xs u) : RdS P ρ' w' e .ro xs u := by
  rcases q with q | ⟨g, off, c, rfl, hc, hg, ha, he⟩
  · exact .inl q
  · obtain ⟨h1, h2⟩ := Ow.moved_ro h hg ha
    exact .inr ⟨g, off, c, rfl, hc, Nat.lt_of_lt_of_le hg h.size, h1, fun i x hx => ⟨(he i x hx).1, fun j v hv => by rw [cell_blk h2]; exact (he i x hx).2 j v hv⟩⟩
theorem RdS.moved (h : Move k ρ w g' ρ' w') {e : TypeId} {j : Nat} (hj : j ≠ k) {xs : List (List Value)} {u : Value} (q : RdS P ρ w e (.sub j) xs u) : RdS P ρ' w' e (.sub j) xs u := by
  rcases q with q | ⟨g, off, c, rfl, hc, hg, ha, he⟩
  · exact .inl q
  · obtain ⟨h1, h2⟩ := Ow.moved h hj hg ha
    exact .inr ⟨g, off, c, rfl, hc, Nat.lt_of_lt_of_le hg h.size, h1, fun i x hx => ⟨(he i x hx).1, fun j v hv => by rw [cell_blk h2]; exact (he i x hx).2 j v hv⟩⟩
theorem OwS.moved (h : Move k ρ w g' ρ' w') {e : TypeId} {j : Nat} (hj : j ≠ k) {xs : List (List Value)} {u : Value} (q : OwS P ρ w e j xs u) : OwS P ρ' w' e j xs u := by
  obtain ⟨hl, g, hg, hv, hu, ho⟩ := q
  obtain ⟨h1, h2⟩ := Ow.moved h hj (ownsRow_lt ho hu).2 hg
  refine ⟨hl, g, h1, by rw [h.ov g (List.mem_of_getElem? hg) (om_ne h hj hg)]; exact hv, hu, ?_⟩
  rw [h.B]
  exact ownsRow_blk ho hu h2
theorem PtrO.moved (h : Move k ρ w g' ρ' w') : ∀ {bs : List Nat} {vs : List Value}, PtrO ρ bs vs → PtrO ρ' bs vs
  | [], [], _ => trivial
  | _ :: _, _ :: _, ⟨⟨g, h1, h2⟩, k⟩ => ⟨⟨g, by rw [h.m]; exact h1, h2⟩, PtrO.moved h k⟩
theorem PtrR.moved (h : Move k ρ w g' ρ' w') : ∀ {css : List (List Value)} {vs : List Value}, PtrR ρ w css vs → PtrR ρ' w' css vs
  | [], [], _ => trivial
  | _ :: _, _ :: _, ⟨⟨g, off, e, hg, ha, hc⟩, q⟩ => by
    obtain ⟨h1, h2⟩ := Ow.moved_ro h hg ha
    exact ⟨⟨g, off, e, Nat.lt_of_lt_of_le hg h.size, h1, fun j v hv => by rw [cell_blk h2]; exact hc j v hv⟩, PtrR.moved h q⟩
theorem RepC.moved (h : Move k ρ w g' ρ' w') {x : AC} {u : Value} (q : RepC P ρ w x u) : RepC P ρ' w' (x.drop k) u := by
  cases x with
  | top => trivial
  | p v => exact q
  | nl => exact q
  | ptr b o => obtain ⟨g, h1, h2⟩ := q; exact ⟨g, by rw [h.m]; exact h1, h2⟩
  | bsl b sn sc => obtain ⟨g, h1, h2⟩ := q; exact ⟨g, by rw [h.m]; exact h1, h2⟩
  | rp o cs =>
    obtain ⟨g, off, rfl, hg, ha, hc⟩ := q
    cases o with
    | ro =>
      obtain ⟨h1, h2⟩ := Ow.moved_ro h hg ha
      exact ⟨g, off, rfl, Nat.lt_of_lt_of_le hg h.size, h1, fun j v hv => by rw [cell_blk h2]; exact hc j v hv⟩
    | own j =>
      by_cases hj : j = k
      · simp only [AC.drop, if_pos hj]; trivial
      · simp only [AC.drop, if_neg hj]
        obtain ⟨h1, h2⟩ := Ow.moved h hj hg ha
        exact ⟨g, off, rfl, Nat.lt_of_lt_of_le hg h.size, h1, fun j v hv => by rw [cell_blk h2]; exact hc j v hv⟩
    | sub j =>
      by_cases hj : j = k
      · simp only [AC.drop, if_pos hj]; trivial
      · simp only [AC.drop, if_neg hj]
        obtain ⟨h1, h2⟩ := Ow.moved h hj hg ha
        exact ⟨g, off, rfl, Nat.lt_of_lt_of_le hg h.size, h1, fun j v hv => by rw [cell_blk h2]; exact hc j v hv⟩
  | sv v e xs => exact ⟨q.1, q.2.1, RdS.moved_ro h q.2.2⟩
  | fo f bs => obtain ⟨vs, h1, h2⟩ := q; exact ⟨vs, h1, h2.moved h⟩
  | fr f css => obtain ⟨vs, h1, h2⟩ := q; exact ⟨vs, h1, h2.moved h⟩
  | ep e j xs a b =>
    by_cases hj : j = k
    · simp only [AC.drop, if_pos hj]; trivial
    · simp only [AC.drop, if_neg hj]
      obtain ⟨h1, g, v, h2, h3, h4⟩ := q
      exact ⟨h1, g, v, (Ow.moved h hj (by obtain ⟨_, g2, e1, _, e2, e3⟩ := h4; rw [h2] at e1; injection e1 with e1; subst e1; exact (ownsRow_lt e3 e2).2) h2).1, h3, OwS.moved h hj h4⟩
  | sl e o xs =>
    obtain ⟨q1, q2⟩ := q
    cases o with
    | ro => exact ⟨q1, RdS.moved_ro h q2⟩
    | sub j =>
      by_cases hj : j = k
      · simp only [AC.drop, if_pos hj]; trivial
      · simp only [AC.drop, if_neg hj]
        exact ⟨q1, RdS.moved h hj q2⟩
    | own j =>
      by_cases hj : j = k
      · simp only [AC.drop, if_pos hj]; trivial
      · simp only [AC.drop, if_neg hj]
        exact ⟨q1, OwS.moved h hj q2⟩
theorem RepL.moved (h : Move k ρ w g' ρ' w') : ∀ {xs : List AC} {vs : List Value}, RepL P ρ w xs vs → RepL P ρ' w' (xs.map (AC.drop k)) vs
  | [], [], _ => trivial
  | _ :: _, _ :: _, q => ⟨q.1.moved h, RepL.moved h q.2⟩
theorem RepW.moved (h : Move k ρ w g' ρ' w') {x : AW} {u : Value} (q : RepW P ρ w x u) : RepW P ρ' w' (x.drop k) u := by
  cases x with
  | c x => exact RepC.moved h q
  | agg cs => obtain ⟨vs, rfl, hl⟩ := q; exact ⟨vs, rfl, hl.moved h⟩
theorem RepWs.moved (h : Move k ρ w g' ρ' w') : ∀ {xs : List AW} {vs : List Value}, RepWs P ρ w xs vs → RepWs P ρ' w' (xs.map (AW.drop k)) vs
  | [], [], _ => trivial
  | _ :: _, _ :: _, q => ⟨q.1.moved h, RepWs.moved h q.2⟩
theorem RepV.moved (h : Move k ρ w g' ρ' w') {x : AV} {u : Value} (q : RepV P ρ w x u) : RepV P ρ' w' (x.drop k) u := by
  cases x with
  | c x => exact RepC.moved h q
  | agg cs => obtain ⟨vs, rfl, hl⟩ := q; exact ⟨vs, rfl, hl.moved h⟩
  | tup ws => obtain ⟨vs, rfl, hl⟩ := q; exact ⟨vs, rfl, hl.moved h⟩
end
end Go.Proofs.Ytdhplkdohhiooaa
