/- An abstract machine beside the model's: frames of plain values, slices as lists, blocks of a call's own; how such a state stands for a frame and a world. -/
import Derived.Test.YtdlebdgdcpemmaaGreatDoorRows
import Derived.WalkKit
import Derived.ProofKit
import Derived.Below
import Derived.WalkSpells
import Derived.WalkLawsBesides
import Derived.LoopN
import Derived.OpenShut
import Derived.Lib.Hide
import Derived.Outline
import Derived.Deep.QuietTactic
import Derived.BigQuiet
import Derived.RegionTactic
import Derived.BigRegion
import Derived.ChangeAlike
namespace Go.Proofs.YtdlebdgdcpemmaaGreatDoor
open Go.RowKit
set_option linter.unusedVariables false

/-- Where a slice's or pointer's block lies: old or foreign memory (only read); the call's own row number k; a part of that row. -/
inductive Ow where
  | ro
  | own (k : Nat)
  | sub (k : Nat)

/-- One cell. -/
inductive AC where
  | top
  | p (v : Value)
  | nl
  | sl (e : TypeId) (o : Ow) (xs : List (List Value))
  | ptr (b o : Nat)
  | bsl (b n c : Nat)
  | rp (o : Ow) (cs : List Value)
  | sv (v : Value) (e : TypeId) (xs : List (List Value))
  | ep (e : TypeId) (k : Nat) (xs : List (List Value)) (i j : Nat)
  | fo (f : FuncId) (bs : List Nat)
  | fr (f : FuncId) (css : List (List Value))

inductive AW where
  | c (x : AC)
  | agg (cs : List AC)

/-- What a slot holds. -/
inductive AV where
  | c (x : AC)
  | agg (cs : List AC)
  | tup (vs : List AW)

structure AS where
  tm : List AV
  hp : List (List AC)
  nx : Nat

structure Env where
  B : Nat
  m : List Nat
  om : List Nat
  ov : Nat → Value
def E0 (B : Nat) (m : List Nat) : Env := ⟨B, m, [], fun _ => .tuple #[]⟩

def Ow.at_ (ρ : Env) (g : Nat) : Ow → Prop
  | .ro => g ∉ ρ.m ∧ g ∉ ρ.om
  | .own k => ρ.om[k]? = some g
  | .sub k => ρ.om[k]? = some g
def Ow.part : Ow → Ow
  | .ro => .ro
  | .own k => .sub k
  | .sub k => .sub k

/-- The elements xs, s cells each, stand at block g from cell off on. -/
def Els (w : World) (g off s : Nat) (xs : List (List Value)) : Prop :=
  ∀ i x, xs[i]? = some x → x.length = s ∧ ∀ j v, x[j]? = some v → w.cell? ⟨g, off + (i * s + j), none⟩ = some v

def RdS (P : Program) (ρ : Env) (w : World) (e : TypeId) (o : Ow) (xs : List (List Value)) (u : Value) : Prop :=
  (xs = [] ∧ ∃ A c, u = .slice A 0 c) ∨ ∃ g off c, u = .slice (some ⟨g, off, none⟩) xs.length c ∧ xs.length ≤ c ∧ g < w.heap.size ∧ o.at_ ρ g ∧ Els w g off (P.cellsOf e) xs
def OwS (P : Program) (ρ : Env) (w : World) (e : TypeId) (k : Nat) (xs : List (List Value)) (u : Value) : Prop :=
  (∀ x ∈ xs, x.length = P.cellsOf e) ∧ ∃ g, ρ.om[k]? = some g ∧ u = ρ.ov g ∧ u.ownBlock = some g ∧ w.ownsRow ρ.B e (P.cellsOf e) u xs.length xs.flatten

/-- Pointers to the call's own blocks bs. -/
def PtrO (ρ : Env) : List Nat → List Value → Prop
  | [], [] => True
  | b :: bs, v :: vs => (∃ g, ρ.m[b]? = some g ∧ v = .pointer (some ⟨g, 0, none⟩)) ∧ PtrO ρ bs vs
  | _, _ => False
/-- Pointers to known cells of others' blocks. -/
def PtrR (ρ : Env) (w : World) : List (List Value) → List Value → Prop
  | [], [] => True
  | cs :: css, u :: vs => (∃ g off, u = .pointer (some ⟨g, off, none⟩) ∧ g < w.heap.size ∧ Ow.ro.at_ ρ g ∧ ∀ j v, cs[j]? = some v → w.cell? ⟨g, off + j, none⟩ = some v) ∧ PtrR ρ w css vs
  | _, _ => False
def RepC (P : Program) (ρ : Env) (w : World) : AC → Value → Prop
  | .top, _ => True
  | .p v, u => u = v
  | .nl, u => u = .slice none 0 0
  | .sl e o xs, u => xs.length ≤ 9223372036854775807 ∧ match o with
    | .own k => OwS P ρ w e k xs u
    | o => RdS P ρ w e o xs u
  | .ptr b o, u => ∃ g, ρ.m[b]? = some g ∧ u = .pointer (some ⟨g, o, none⟩)
  | .bsl b n c, u => ∃ g, ρ.m[b]? = some g ∧ u = .slice (some ⟨g, 0, none⟩) n c
  | .rp o cs, u => ∃ g off, u = .pointer (some ⟨g, off, none⟩) ∧ g < w.heap.size ∧ o.at_ ρ g ∧ ∀ j v, cs[j]? = some v → w.cell? ⟨g, off + j, none⟩ = some v
  | .sv v e xs, u => u = v ∧ xs.length ≤ 9223372036854775807 ∧ RdS P ρ w e .ro xs u
  | .ep e k xs i j, u => i < xs.length ∧ ∃ g v, ρ.om[k]? = some g ∧ u = .pointer (some ⟨g, i * P.cellsOf e + j, none⟩) ∧ OwS P ρ w e k xs v
  | .fo f bs, u => ∃ vs : Array Value, u = .func (.func f) #[] vs ∧ PtrO ρ bs vs.toList
  | .fr f css, u => ∃ vs : Array Value, u = .func (.func f) #[] vs ∧ PtrR ρ w css vs.toList

def RepL (P : Program) (ρ : Env) (w : World) : List AC → List Value → Prop
  | [], [] => True
  | x :: xs, v :: vs => RepC P ρ w x v ∧ RepL P ρ w xs vs
  | _, _ => False
def RepW (P : Program) (ρ : Env) (w : World) : AW → Value → Prop
  | .c x, u => RepC P ρ w x u
  | .agg cs, u => ∃ vs : Array Value, u = .agg vs ∧ RepL P ρ w cs vs.toList
def RepWs (P : Program) (ρ : Env) (w : World) : List AW → List Value → Prop
  | [], [] => True
  | x :: xs, v :: vs => RepW P ρ w x v ∧ RepWs P ρ w xs vs
  | _, _ => False
def RepV (P : Program) (ρ : Env) (w : World) : AV → Value → Prop
  | .c x, u => RepC P ρ w x u
  | .agg cs, u => ∃ vs : Array Value, u = .agg vs ∧ RepL P ρ w cs vs.toList
  | .tup xs, u => ∃ vs : Array Value, u = .tuple vs ∧ RepWs P ρ w xs vs.toList
def AV.top : AV := .c .top
theorem RepV.top {P : Program} {ρ : Env} {w : World} {u : Value} : RepV P ρ w .top u := trivial

theorem RepL.len {P : Program} {ρ : Env} {w : World} : ∀ {xs : List AC} {vs : List Value}, RepL P ρ w xs vs → xs.length = vs.length
  | [], [], _ => rfl
  | _ :: _, _ :: _, h => by simp [RepL.len h.2]
theorem RepL.get {P : Program} {ρ : Env} {w : World} : ∀ {xs : List AC} {vs : List Value} {i : Nat} {x : AC}, RepL P ρ w xs vs → xs[i]? = some x → ∃ v, vs[i]? = some v ∧ RepC P ρ w x v
  | _ :: _, v :: _, 0, x, h, hx => by simp at hx; subst hx; exact ⟨v, rfl, h.1⟩
  | _ :: _, _ :: _, i + 1, x, h, hx => by simp at hx; simpa using RepL.get h.2 hx
theorem RepL.app {P : Program} {ρ : Env} {w : World} : ∀ {xs ys : List AC} {vs us : List Value}, RepL P ρ w xs vs → RepL P ρ w ys us → RepL P ρ w (xs ++ ys) (vs ++ us)
  | [], _, [], _, _, h => h
  | _ :: _, _, _ :: _, _, h, h' => ⟨h.1, RepL.app h.2 h'⟩
theorem RepL.take {P : Program} {ρ : Env} {w : World} : ∀ {xs : List AC} {vs : List Value} (n : Nat), RepL P ρ w xs vs → RepL P ρ w (xs.take n) (vs.take n)
  | [], [], _, _ => by simp [RepL]
  | _ :: _, _ :: _, 0, _ => by simp [RepL]
  | _ :: _, _ :: _, n + 1, h => ⟨h.1, RepL.take n h.2⟩
theorem RepL.drop {P : Program} {ρ : Env} {w : World} : ∀ {xs : List AC} {vs : List Value} (n : Nat), RepL P ρ w xs vs → RepL P ρ w (xs.drop n) (vs.drop n)
  | [], [], n, _ => by simp [RepL]
  | _ :: _, _ :: _, 0, h => h
  | _ :: _, _ :: _, n + 1, h => RepL.drop n h.2
theorem RepWs.get {P : Program} {ρ : Env} {w : World} : ∀ {xs : List AW} {vs : List Value} {i : Nat} {x : AW}, RepWs P ρ w xs vs → xs[i]? = some x → ∃ v, vs[i]? = some v ∧ RepW P ρ w x v
  | _ :: _, v :: _, 0, x, h, hx => by simp at hx; subst hx; exact ⟨v, rfl, h.1⟩
  | _ :: _, _ :: _, i + 1, x, h, hx => by simp at hx; simpa using RepWs.get h.2 hx

/-! ### Flat rows -/
theorem flat_get {α : Type} {s : Nat} : ∀ {xs : List (List α)} {i j : Nat} {x : List α} {v : α}, (∀ x ∈ xs, x.length = s) → xs[i]? = some x → x[j]? = some v → xs.flatten[i * s + j]? = some v
  | y :: ys, 0, j, x, v, h, hx, hv => by
    simp at hx; subst hx
    have hj := (List.getElem?_eq_some_iff.1 hv).1
    rw [Nat.zero_mul, Nat.zero_add, List.flatten_cons, List.getElem?_append_left hj, hv]
  | y :: ys, i + 1, j, x, v, h, hx, hv => by
    simp at hx
    have hy := h y (by simp)
    rw [List.flatten_cons, List.getElem?_append_right (by rw [hy, Nat.add_mul]; omega), hy, show (i + 1) * s + j - s = i * s + j by rw [Nat.add_mul]; omega]
    exact flat_get (fun z hz => h z (by simp [hz])) hx hv
theorem flat_len {α : Type} {s : Nat} : ∀ {xs : List (List α)}, (∀ x ∈ xs, x.length = s) → xs.flatten.length = xs.length * s
  | [], _ => by simp
  | y :: ys, h => by
    rw [List.flatten_cons, List.length_append, h y (by simp), flat_len (fun z hz => h z (by simp [hz])), List.length_cons, Nat.add_mul]; omega
theorem flat_inv {α : Type} {s : Nat} (hs : 0 < s) : ∀ {xs : List (List α)} {q : Nat} {v : α}, (∀ x ∈ xs, x.length = s) → xs.flatten[q]? = some v → ∃ x, xs[q / s]? = some x ∧ x[q % s]? = some v
  | [], q, v, _, h => by simp at h
  | y :: ys, q, v, h, hv => by
    have hy := h y (by simp)
    rw [List.flatten_cons] at hv
    by_cases hq : q < s
    · rw [List.getElem?_append_left (by omega)] at hv
      exact ⟨y, by simp [Nat.div_eq_of_lt hq], by rw [Nat.mod_eq_of_lt hq]; exact hv⟩
    · rw [List.getElem?_append_right (by omega), hy] at hv
      obtain ⟨x, h1, h2⟩ := flat_inv hs (fun z hz => h z (by simp [hz])) hv
      refine ⟨x, ?_, ?_⟩
      · rw [Nat.div_eq_sub_div hs (by omega), List.getElem?_cons_succ]; exact h1
      · rw [Nat.mod_eq_sub_mod (by omega)]; exact h2

/-- An owned slice reads. -/
theorem OwS.rd {P : Program} {ρ : Env} {w : World} {e : TypeId} {k : Nat} {xs : List (List Value)} {u : Value} (h : OwS P ρ w e k xs u) : RdS P ρ w e (.sub k) xs u := by
  obtain ⟨hl, g, hg, _, hu, ho⟩ := h
  have ho' := ho
  rcases ho.2 with ⟨rfl, _⟩ | ⟨g', cap, cur, rfl, hb, hgg, h1, h2, h3, h4⟩
  · simp [Value.ownBlock] at hu
  · simp [Value.ownBlock] at hu
    subst hu
    refine .inr ⟨g', 0, cap, rfl, h1, (Array.getElem?_eq_some_iff.1 hgg).1, hg, fun i x hx => ⟨hl x (List.mem_of_getElem? hx), fun j v hv => ?_⟩⟩
    have := ho'.cells (g := g') rfl _ _ (flat_get hl hx hv)
    rw [show (⟨g', 0, none⟩ : Addr).add (i * P.cellsOf e + j) = ⟨g', 0 + (i * P.cellsOf e + j), none⟩ by unfold Addr.add; split <;> simp_all] at this
    exact this
/-- What every slice gives: its elements' cells. -/
theorem RepC.rdS {P : Program} {ρ : Env} {w : World} {e : TypeId} {o : Ow} {xs : List (List Value)} {u : Value} (h : RepC P ρ w (.sl e o xs) u) : RdS P ρ w e o.part xs u := by
  cases o with
  | ro => exact h.2
  | own k => exact OwS.rd h.2
  | sub k => exact h.2
theorem RepC.part {P : Program} {ρ : Env} {w : World} {e : TypeId} {o : Ow} {xs : List (List Value)} {u : Value} (h : RepC P ρ w (.sl e o xs) u) : RepC P ρ w (.sl e o.part xs) u := by
  have h2 := h.rdS
  cases o with
  | ro => exact h
  | own k => exact ⟨h.1, h2⟩
  | sub k => exact h
theorem RdS.val {P : Program} {ρ : Env} {w : World} {e : TypeId} {o : Ow} {xs : List (List Value)} {u : Value} (h : RdS P ρ w e o xs u) : ∃ A c, u = .slice A xs.length c := by
  rcases h with ⟨rfl, A, c, rfl⟩ | ⟨g, off, c, rfl, _⟩
  · exact ⟨A, c, rfl⟩
  · exact ⟨_, c, rfl⟩
theorem RdS.at_ {P : Program} {ρ : Env} {w : World} {e : TypeId} {o : Ow} {xs : List (List Value)} {u : Value} (h : RdS P ρ w e o xs u) {i : Nat} {x : List Value} (hx : xs[i]? = some x) :
    ∃ g off c, u = .slice (some ⟨g, off, none⟩) xs.length c ∧ g < w.heap.size ∧ o.at_ ρ g ∧ x.length = P.cellsOf e ∧ ∀ j v, x[j]? = some v → w.cell? ⟨g, off + (i * P.cellsOf e + j), none⟩ = some v := by
  rcases h with ⟨rfl, _⟩ | ⟨g, off, c, rfl, hc, hg, ha, he⟩
  · simp at hx
  · exact ⟨g, off, c, rfl, hg, ha, (he i x hx).1, (he i x hx).2⟩

/-! ### What stays as it stands for -/
structure Stab (ρ : Env) (w : World) (ρ' : Env) (w' : World) : Prop where
  B : ρ'.B = ρ.B
  size : w.heap.size ≤ w'.heap.size
  blk : ∀ g, g < w.heap.size → g ∉ ρ.m → w'.heap[g]? = w.heap[g]?
  m : ∀ (b g : Nat), ρ.m[b]? = some g → ρ'.m[b]? = some g
  om : ∀ (b g : Nat), ρ.om[b]? = some g → ρ'.om[b]? = some g
  ro : ∀ g, g < w.heap.size → g ∉ ρ.m → g ∉ ρ.om → g ∉ ρ'.m ∧ g ∉ ρ'.om
  ob : ∀ g, g ∈ ρ.om → g ∉ ρ.m
  ov : ∀ g, g ∈ ρ.om → ρ'.ov g = ρ.ov g

theorem cell_blk {w w' : World} {g : Nat} (h : w'.heap[g]? = w.heap[g]?) (o : Nat) : w'.cell? ⟨g, o, none⟩ = w.cell? ⟨g, o, none⟩ := World.cell?_of_block (a := ⟨g, o, none⟩) h
theorem ownsRow_blk {w w' : World} {B : Nat} {e : TypeId} {s : Nat} {u : Value} {n : Nat} {xs : List Value} {g : Nat} (h : w.ownsRow B e s u n xs) (hg : u.ownBlock = some g) (hb : w'.heap[g]? = w.heap[g]?) : w'.ownsRow B e s u n xs := by
  refine ⟨h.1, ?_⟩
  rcases h.2 with ⟨rfl, _⟩ | ⟨g', cap, cur, rfl, r1, r2, r3⟩
  · simp [Value.ownBlock] at hg
  · simp [Value.ownBlock] at hg
    subst hg
    exact .inr ⟨g', cap, cur, rfl, r1, hb.trans r2, r3⟩
theorem ownsRow_lt {w : World} {B : Nat} {e : TypeId} {s : Nat} {u : Value} {n : Nat} {xs : List Value} {g : Nat} (h : w.ownsRow B e s u n xs) (hg : u.ownBlock = some g) : B ≤ g ∧ g < w.heap.size := h.lt g hg
section
variable {P : Program} {ρ ρ' : Env} {w w' : World}
theorem Ow.keep (h : Stab ρ w ρ' w') {o : Ow} {g : Nat} (hg : g < w.heap.size) (ho : o.at_ ρ g) : o.at_ ρ' g ∧ w'.heap[g]? = w.heap[g]? := by
  cases o with
  | ro => exact ⟨h.ro g hg ho.1 ho.2, h.blk g hg ho.1⟩
  | own k => exact ⟨h.om _ _ ho, h.blk g hg (h.ob g (List.mem_of_getElem? ho))⟩
  | sub k => exact ⟨h.om _ _ ho, h.blk g hg (h.ob g (List.mem_of_getElem? ho))⟩
theorem RdS.keep (h : Stab ρ w ρ' w') {e : TypeId} {o : Ow} {xs : List (List Value)} {u : Value} (k : RdS P ρ w e o xs u) : RdS P ρ' w' e o xs u := by
  rcases k with k | ⟨g, off, c, rfl, hc, hg, ha, he⟩
  · exact .inl k
  · obtain ⟨h1, h2⟩ := Ow.keep h hg ha
    exact .inr ⟨g, off, c, rfl, hc, Nat.lt_of_lt_of_le hg h.size, h1, fun i x hx => ⟨(he i x hx).1, fun j v hv => by rw [cell_blk h2]; exact (he i x hx).2 j v hv⟩⟩
theorem OwS.keep (h : Stab ρ w ρ' w') {e : TypeId} {k : Nat} {xs : List (List Value)} {u : Value} (q : OwS P ρ w e k xs u) : OwS P ρ' w' e k xs u := by
  obtain ⟨hl, g, hg, hv, hu, ho⟩ := q
  refine ⟨hl, g, h.om _ _ hg, by rw [h.ov g (List.mem_of_getElem? hg)]; exact hv, hu, ?_⟩
  rw [h.B]
  exact ownsRow_blk ho hu (h.blk g (ownsRow_lt ho hu).2 (h.ob g (List.mem_of_getElem? hg)))
theorem PtrO.keep (h : Stab ρ w ρ' w') : ∀ {bs : List Nat} {vs : List Value}, PtrO ρ bs vs → PtrO ρ' bs vs
  | [], [], _ => trivial
  | _ :: _, _ :: _, ⟨⟨g, h1, h2⟩, k⟩ => ⟨⟨g, h.m _ _ h1, h2⟩, PtrO.keep h k⟩
theorem PtrR.keep (h : Stab ρ w ρ' w') : ∀ {css : List (List Value)} {vs : List Value}, PtrR ρ w css vs → PtrR ρ' w' css vs
  | [], [], _ => trivial
  | _ :: _, _ :: _, ⟨⟨g, off, e, hg, ha, hc⟩, k⟩ => by
    obtain ⟨h1, h2⟩ := Ow.keep h hg ha
    exact ⟨⟨g, off, e, Nat.lt_of_lt_of_le hg h.size, h1, fun j v hv => by rw [cell_blk h2]; exact hc j v hv⟩, PtrR.keep h k⟩
theorem RepC.keep (h : Stab ρ w ρ' w') {x : AC} {u : Value} (k : RepC P ρ w x u) : RepC P ρ' w' x u := by
  cases x with
  | top => trivial
  | p v => exact k
  | nl => exact k
  | ptr b o => obtain ⟨g, h1, h2⟩ := k; exact ⟨g, h.m _ _ h1, h2⟩
  | bsl b sn sc => obtain ⟨g, h1, h2⟩ := k; exact ⟨g, h.m _ _ h1, h2⟩
  | rp o cs =>
    obtain ⟨g, off, rfl, hg, ha, hc⟩ := k
    obtain ⟨h1, h2⟩ := Ow.keep h hg ha
    exact ⟨g, off, rfl, Nat.lt_of_lt_of_le hg h.size, h1, fun j v hv => by rw [cell_blk h2]; exact hc j v hv⟩
  | sv v e xs => exact ⟨k.1, k.2.1, RdS.keep h k.2.2⟩
  | ep e n xs i j => obtain ⟨h1, g, v, h2, h3, h4⟩ := k; exact ⟨h1, g, v, h.om _ _ h2, h3, OwS.keep h h4⟩
  | fo f bs => obtain ⟨vs, h1, h2⟩ := k; exact ⟨vs, h1, h2.keep h⟩
  | fr f css => obtain ⟨vs, h1, h2⟩ := k; exact ⟨vs, h1, h2.keep h⟩
  | sl e o xs =>
    refine ⟨k.1, ?_⟩
    have k2 := k.2
    cases o with
    | ro => exact RdS.keep h k2
    | sub i => exact RdS.keep h k2
    | own i => exact OwS.keep h k2
theorem RepL.keep (h : Stab ρ w ρ' w') : ∀ {xs : List AC} {vs : List Value}, RepL P ρ w xs vs → RepL P ρ' w' xs vs
  | [], [], _ => trivial
  | _ :: _, _ :: _, k => ⟨k.1.keep h, RepL.keep h k.2⟩
theorem RepW.keep (h : Stab ρ w ρ' w') {x : AW} {u : Value} (k : RepW P ρ w x u) : RepW P ρ' w' x u := by
  cases x with
  | c x => exact RepC.keep h k
  | agg cs => obtain ⟨vs, rfl, hl⟩ := k; exact ⟨vs, rfl, hl.keep h⟩
theorem RepWs.keep (h : Stab ρ w ρ' w') : ∀ {xs : List AW} {vs : List Value}, RepWs P ρ w xs vs → RepWs P ρ' w' xs vs
  | [], [], _ => trivial
  | _ :: _, _ :: _, k => ⟨k.1.keep h, RepWs.keep h k.2⟩
theorem RepV.keep (h : Stab ρ w ρ' w') {x : AV} {u : Value} (k : RepV P ρ w x u) : RepV P ρ' w' x u := by
  cases x with
  | c x => exact RepC.keep h k
  | agg cs => obtain ⟨vs, rfl, hl⟩ := k; exact ⟨vs, rfl, hl.keep h⟩
  | tup ws => obtain ⟨vs, rfl, hl⟩ := k; exact ⟨vs, rfl, hl.keep h⟩
end

/-! ### A row that is appended to: what spoke of it is forgotten -/
def AC.drop (k : Nat) : AC → AC
  | .sl e .ro xs => .sl e .ro xs
  | .sl e (.own j) xs => if j = k then .top else .sl e (.own j) xs
  | .sl e (.sub j) xs => if j = k then .top else .sl e (.sub j) xs
  | .rp .ro cs => .rp .ro cs
  | .rp (.own j) cs => if j = k then .top else .rp (.own j) cs
  | .rp (.sub j) cs => if j = k then .top else .rp (.sub j) cs
  | .top => .top
  | .p v => .p v
  | .nl => .nl
  | .ptr b o => .ptr b o
  | .bsl b sn sc => .bsl b sn sc
  | .sv v e xs => .sv v e xs
  | .ep e j xs a b => if j = k then .top else .ep e j xs a b
  | .fo f bs => .fo f bs
  | .fr f css => .fr f css
def AW.drop (k : Nat) : AW → AW
  | .c x => .c (x.drop k)
  | .agg cs => .agg (cs.map (AC.drop k))
def AV.drop (k : Nat) : AV → AV
  | .c x => .c (x.drop k)
  | .agg cs => .agg (cs.map (AC.drop k))
  | .tup ws => .tup (ws.map (AW.drop k))
structure Move (k : Nat) (ρ : Env) (w : World) (g' : Nat) (ρ' : Env) (w' : World) : Prop where
  B : ρ'.B = ρ.B
  size : w.heap.size ≤ w'.heap.size
  blk : ∀ g, g < w.heap.size → ρ.om[k]? ≠ some g → w'.heap[g]? = w.heap[g]?
  m : ρ'.m = ρ.m
  om : ρ'.om = ρ.om.set k g'
  nd : ρ.om.Nodup
  new : ρ.om[k]? = some g' ∨ w.heap.size ≤ g'
  ov : ∀ g, g ∈ ρ.om → ρ.om[k]? ≠ some g → ρ'.ov g = ρ.ov g
section
variable {P : Program} {ρ ρ' : Env} {w w' : World} {k g' : Nat}
theorem om_ne (h : Move k ρ w g' ρ' w') {j g : Nat} (hj : j ≠ k) (hg : ρ.om[j]? = some g) : ρ.om[k]? ≠ some g := by
  intro hk
  have hl := (List.getElem?_eq_some_iff.1 hg).1
  have hl2 := (List.getElem?_eq_some_iff.1 hk).1
  rw [List.getElem?_eq_getElem hl] at hg
  rw [List.getElem?_eq_getElem hl2] at hk
  have he := (Option.some.inj hg).trans (Option.some.inj hk).symm
  have hp := List.pairwise_iff_getElem.1 h.nd
  rcases Nat.lt_or_gt_of_ne hj with hlt | hlt
  · exact hp _ _ hl hl2 hlt he
  · exact hp _ _ hl2 hl hlt he.symm
theorem Ow.moved_ro (h : Move k ρ w g' ρ' w') {g : Nat} (hg : g < w.heap.size) (ho : Ow.at_ ρ g .ro) : Ow.at_ ρ' g .ro ∧ w'.heap[g]? = w.heap[g]? := by
  obtain ⟨h1, h2⟩ := ho
  refine ⟨⟨by rw [h.m]; exact h1, ?_⟩, h.blk g hg (fun hk => h2 (List.mem_of_getElem? hk))⟩
  rw [h.om]
  intro hm
  rcases List.mem_or_eq_of_mem_set hm with hm | rfl
  · exact h2 hm
  · rcases h.new with hn | hn
    · exact h2 (List.mem_of_getElem? hn)
    · omega
theorem Ow.moved (h : Move k ρ w g' ρ' w') {g j : Nat} (hj : j ≠ k) (hg : g < w.heap.size) (ho : ρ.om[j]? = some g) : ρ'.om[j]? = some g ∧ w'.heap[g]? = w.heap[g]? := by
  refine ⟨?_, h.blk g hg (om_ne h hj ho)⟩
  rw [h.om, List.getElem?_set_ne (fun e => hj e.symm)]
  exact ho
theorem RdS.moved_ro (h : Move k ρ w g' ρ' w') {e : TypeId} {xs : List (List Value)} {u : Value} (q : RdS P ρ w e .ro xs u) : RdS P ρ' w' e .ro xs u := by
  rcases q with q | ⟨g, off, c, rfl, hc, hg, ha, he⟩
  · exact .inl q
  · obtain ⟨h1, h2⟩ := Ow.moved_ro h hg ha
    exact .inr ⟨g, off, c, rfl, hc, Nat.lt_of_lt_of_le hg h.size, h1, fun i x hx => ⟨(he i x hx).1, fun j v hv => by rw [cell_blk h2]; exact (he i x hx).2 j v hv⟩⟩
theorem RdS.moved (h : Move k ρ w g' ρ' w') {e : TypeId} {j : Nat} (hj : j ≠ k) {xs : List (List Value)} {u : Value} (q : RdS P ρ w e (.sub j) xs u) : RdS P ρ' w' e (.sub j) xs u := by
  rcases q with q | ⟨g, off, c, rfl, hc, hg, ha, he⟩
  · exact .inl q
  · obtain ⟨h1, h2⟩ := Ow.moved h hj hg ha
    exact .inr ⟨g, off, c, rfl, hc, Nat.lt_of_lt_of_le hg h.size, h1, fun i x hx => ⟨(he i x hx).1, fun j v hv => by rw [cell_blk h2]; exact (he i x hx).2 j v hv⟩⟩
theorem OwS.moved (h : Move k ρ w g' ρ' w') {e : TypeId} {j : Nat} (hj : j ≠ k) {xs : List (List Value)} {u : Value} (q : OwS P ρ w e j xs u) : OwS P ρ' w' e j xs u := by
  obtain ⟨hl, g, hg, hv, hu, ho⟩ := q
  obtain ⟨h1, h2⟩ := Ow.moved h hj (ownsRow_lt ho hu).2 hg
  refine ⟨hl, g, h1, by rw [h.ov g (List.mem_of_getElem? hg) (om_ne h hj hg)]; exact hv, hu, ?_⟩
  rw [h.B]
  exact ownsRow_blk ho hu h2
theorem PtrO.moved (h : Move k ρ w g' ρ' w') : ∀ {bs : List Nat} {vs : List Value}, PtrO ρ bs vs → PtrO ρ' bs vs
  | [], [], _ => trivial
  | _ :: _, _ :: _, ⟨⟨g, h1, h2⟩, k⟩ => ⟨⟨g, by rw [h.m]; exact h1, h2⟩, PtrO.moved h k⟩
theorem PtrR.moved (h : Move k ρ w g' ρ' w') : ∀ {css : List (List Value)} {vs : List Value}, PtrR ρ w css vs → PtrR ρ' w' css vs
  | [], [], _ => trivial
  | _ :: _, _ :: _, ⟨⟨g, off, e, hg, ha, hc⟩, q⟩ => by
    obtain ⟨h1, h2⟩ := Ow.moved_ro h hg ha
    exact ⟨⟨g, off, e, Nat.lt_of_lt_of_le hg h.size, h1, fun j v hv => by rw [cell_blk h2]; exact hc j v hv⟩, PtrR.moved h q⟩
theorem RepC.moved (h : Move k ρ w g' ρ' w') {x : AC} {u : Value} (q : RepC P ρ w x u) : RepC P ρ' w' (x.drop k) u := by
  cases x with
  | top => trivial
  | p v => exact q
  | nl => exact q
  | ptr b o => obtain ⟨g, h1, h2⟩ := q; exact ⟨g, by rw [h.m]; exact h1, h2⟩
  | bsl b sn sc => obtain ⟨g, h1, h2⟩ := q; exact ⟨g, by rw [h.m]; exact h1, h2⟩
  | rp o cs =>
    obtain ⟨g, off, rfl, hg, ha, hc⟩ := q
    cases o with
    | ro =>
      obtain ⟨h1, h2⟩ := Ow.moved_ro h hg ha
      exact ⟨g, off, rfl, Nat.lt_of_lt_of_le hg h.size, h1, fun j v hv => by rw [cell_blk h2]; exact hc j v hv⟩
    | own j =>
      by_cases hj : j = k
      · simp only [AC.drop, if_pos hj]; trivial
      · simp only [AC.drop, if_neg hj]
        obtain ⟨h1, h2⟩ := Ow.moved h hj hg ha
        exact ⟨g, off, rfl, Nat.lt_of_lt_of_le hg h.size, h1, fun j v hv => by rw [cell_blk h2]; exact hc j v hv⟩
    | sub j =>
      by_cases hj : j = k
      · simp only [AC.drop, if_pos hj]; trivial
      · simp only [AC.drop, if_neg hj]
        obtain ⟨h1, h2⟩ := Ow.moved h hj hg ha
        exact ⟨g, off, rfl, Nat.lt_of_lt_of_le hg h.size, h1, fun j v hv => by rw [cell_blk h2]; exact hc j v hv⟩
  | sv v e xs => exact ⟨q.1, q.2.1, RdS.moved_ro h q.2.2⟩
  | fo f bs => obtain ⟨vs, h1, h2⟩ := q; exact ⟨vs, h1, h2.moved h⟩
  | fr f css => obtain ⟨vs, h1, h2⟩ := q; exact ⟨vs, h1, h2.moved h⟩
  | ep e j xs a b =>
    by_cases hj : j = k
    · simp only [AC.drop, if_pos hj]; trivial
    · simp only [AC.drop, if_neg hj]
      obtain ⟨h1, g, v, h2, h3, h4⟩ := q
      exact ⟨h1, g, v, (Ow.moved h hj (by obtain ⟨_, g2, e1, _, e2, e3⟩ := h4; rw [h2] at e1; injection e1 with e1; subst e1; exact (ownsRow_lt e3 e2).2) h2).1, h3, OwS.moved h hj h4⟩
  | sl e o xs =>
    obtain ⟨q1, q2⟩ := q
    cases o with
    | ro => exact ⟨q1, RdS.moved_ro h q2⟩
    | sub j =>
      by_cases hj : j = k
      · simp only [AC.drop, if_pos hj]; trivial
      · simp only [AC.drop, if_neg hj]
        exact ⟨q1, RdS.moved h hj q2⟩
    | own j =>
      by_cases hj : j = k
      · simp only [AC.drop, if_pos hj]; trivial
      · simp only [AC.drop, if_neg hj]
        exact ⟨q1, OwS.moved h hj q2⟩
theorem RepL.moved (h : Move k ρ w g' ρ' w') : ∀ {xs : List AC} {vs : List Value}, RepL P ρ w xs vs → RepL P ρ' w' (xs.map (AC.drop k)) vs
  | [], [], _ => trivial
  | _ :: _, _ :: _, q => ⟨q.1.moved h, RepL.moved h q.2⟩
theorem RepW.moved (h : Move k ρ w g' ρ' w') {x : AW} {u : Value} (q : RepW P ρ w x u) : RepW P ρ' w' (x.drop k) u := by
  cases x with
  | c x => exact RepC.moved h q
  | agg cs => obtain ⟨vs, rfl, hl⟩ := q; exact ⟨vs, rfl, hl.moved h⟩
theorem RepWs.moved (h : Move k ρ w g' ρ' w') : ∀ {xs : List AW} {vs : List Value}, RepWs P ρ w xs vs → RepWs P ρ' w' (xs.map (AW.drop k)) vs
  | [], [], _ => trivial
  | _ :: _, _ :: _, q => ⟨q.1.moved h, RepWs.moved h q.2⟩
theorem RepV.moved (h : Move k ρ w g' ρ' w') {x : AV} {u : Value} (q : RepV P ρ w x u) : RepV P ρ' w' (x.drop k) u := by
  cases x with
  | c x => exact RepC.moved h q
  | agg cs => obtain ⟨vs, rfl, hl⟩ := q; exact ⟨vs, rfl, hl.moved h⟩
  | tup ws => obtain ⟨vs, rfl, hl⟩ := q; exact ⟨vs, rfl, hl.moved h⟩
end
end Go.Proofs.YtdlebdgdcpemmaaGreatDoor
namespace Go.Proofs.YtdlebdgdcpemmaaGreatDoor
open Go.RowKit
set_option linter.unusedVariables false

structure Framed (m0 : List Nat) (w w' : World) : Prop where
  os : w'.os = w.os
  tape : w'.tape = w.tape
  output : w'.output = w.output
  size : w.heap.size ≤ w'.heap.size
  blk : ∀ g, g < w.heap.size → g ∉ m0 → w'.heap[g]? = w.heap[g]?
theorem Framed.below {w w' : World} (h : Framed [] w w') : Below w.heap.size w w' := ⟨h.os, h.tape, h.output, h.size, fun g hg => h.blk g hg (by simp)⟩
theorem Framed.of_below {m0 : List Nat} {w w' : World} (h : Below w.heap.size w w') : Framed m0 w w' := ⟨h.os, h.tape, h.output, h.size, fun g hg _ => h.block g hg⟩
theorem Framed.refl (m0 : List Nat) (w : World) : Framed m0 w w := ⟨rfl, rfl, rfl, Nat.le_refl _, fun _ _ _ => rfl⟩
theorem Framed.trans {m0 : List Nat} {a b c : World} (h : Framed m0 a b) (k : Framed m0 b c) : Framed m0 a c :=
  ⟨k.os.trans h.os, k.tape.trans h.tape, k.output.trans h.output, Nat.le_trans h.size k.size, fun g hg hn => (k.blk g (Nat.lt_of_lt_of_le hg h.size) hn).trans (h.blk g hg hn)⟩

/-- A block's type and its mark, which is of no cell. -/
structure TM (vs : Array Value) where
  t : TypeId
  z : Nat × Nat
  ok : z = (0, 0) ∨ vs.size ≤ z.1
def HpAt (P : Program) (ρ : Env) (w : World) (cs : List AC) (g : Nat) : Prop := ∃ (vs : Array Value) (t : TM vs), w.heap[g]? = some (.cells vs t.t t.z) ∧ RepL P ρ w cs vs.toList

/-- What is handed in: blocks that may be written (m), rows that may be written (l); new rows lie from B on. -/
structure Gv where
  B : Nat
  m : List Nat
  l : List Nat
  v : Nat → Value

structure Rel (P : Program) (w0 : World) (m0 : Gv) (ρ : Env) (σ : AS) (a : Act) (w : World) : Prop where
  B : ρ.B = m0.B
  Bw : m0.B ≤ w0.heap.size
  fr : Framed (m0.m ++ m0.l) w0 w
  pre : ∃ l, ρ.m = m0.m ++ l ∧ ∀ g ∈ l, w0.heap.size ≤ g
  ml : ∀ g ∈ ρ.m, g < w.heap.size
  nd : ρ.m.Nodup
  ob : ∀ g ∈ ρ.om, (g ∈ m0.l ∨ w0.heap.size ≤ g) ∧ g < w.heap.size ∧ g ∉ ρ.m
  no : ρ.om.Nodup
  lp : ∀ (j g : Nat), m0.l[j]? = some g → ρ.om[j]? = some g ∧ ρ.ov g = m0.v g
  nx : ρ.om.length = σ.nx
  hl : σ.hp.length = ρ.m.length
  hp : ∀ (b : Nat) cs, σ.hp[b]? = some cs → ∃ g : Nat, ρ.m[b]? = some g ∧ HpAt P ρ w cs g
  tl : σ.tm.length = a.tmps.size
  tm : ∀ (i : Nat) x, σ.tm[i]? = some x → RepV P ρ w x (a.tmps.getD i undef)
  df : a.defers = []

def AS.put (σ : AS) (d : Option Tmp) (x : AV) : AS := match d with
  | some d => { σ with tm := σ.tm.set d x }
  | none => σ
def cstC : Value → AC
  | .slice none 0 0 => .nl
  | v => .p v
def cst : Value → AV
  | .agg cs => .agg (cs.toList.map cstC)
  | .tuple _ => .top
  | v => .c (cstC v)
def gt : List AV → Nat → AV
  | [], _ => .top
  | x :: _, 0 => x
  | _ :: xs, n + 1 => gt xs n
theorem cst_nil : cst (.slice none 0 0) = .c .nl := rfl
theorem cst_int (k : IntKind) (n : Int) : cst (.int k n) = .c (.p (.int k n)) := rfl
theorem cst_bool (b : Bool) : cst (.bool b) = .c (.p (.bool b)) := rfl
theorem cst_str (s : ByteArray) : cst (.string s) = .c (.p (.string s)) := rfl
theorem cst_agg (l : List Value) : cst (.agg l.toArray) = .agg (l.map cstC) := rfl
theorem cst_ptr : cst (.pointer none) = .c (.p (.pointer none)) := rfl
theorem cst_tup (l : Array Value) : cst (.tuple l) = .top := rfl
theorem cstC_nil : cstC (.slice none 0 0) = .nl := rfl
theorem cstC_int (k : IntKind) (n : Int) : cstC (.int k n) = .p (.int k n) := rfl
theorem cstC_bool (b : Bool) : cstC (.bool b) = .p (.bool b) := rfl
theorem cstC_str (s : ByteArray) : cstC (.string s) = .p (.string s) := rfl
theorem gt_z (x : AV) (xs : List AV) : gt (x :: xs) 0 = x := rfl
theorem gt_s (x : AV) (xs : List AV) (n : Nat) : gt (x :: xs) (n + 1) = gt xs n := rfl
theorem gt_eq : ∀ (xs : List AV) (n : Nat), gt xs n = (xs[n]?).getD .top
  | [], _ => rfl
  | _ :: _, 0 => rfl
  | _ :: xs, n + 1 => by rw [gt_s, gt_eq xs n]; simp
def AS.ev (σ : AS) : Operand → AV
  | .tmp t => gt σ.tm t
  | .const v => cst v
  | .func f => .c (.p (.func (.func f) #[] #[]))
  | .global _ => .top

section
variable {P : Program} {w0 : World} {m0 : Gv} {ρ : Env} {σ : AS} {a : Act} {w : World}

theorem repC_cst {ρ : Env} {w : World} (v : Value) : RepC P ρ w (cstC v) v := by
  unfold cstC
  split
  · exact rfl
  · exact rfl
theorem repL_cst {ρ : Env} {w : World} : ∀ vs : List Value, RepL P ρ w (vs.map cstC) vs
  | [] => trivial
  | v :: vs => ⟨repC_cst v, repL_cst vs⟩
theorem rep_cst {ρ : Env} {w : World} (v : Value) : RepV P ρ w (cst v) v := by
  unfold cst
  split
  · exact ⟨_, rfl, repL_cst _⟩
  · trivial
  · exact repC_cst _
theorem Rel.ev (h : Rel P w0 m0 ρ σ a w) (x : Operand) : RepV P ρ w (σ.ev x) (a.eval x) := by
  cases x with
  | tmp t =>
    show RepV P ρ w (gt σ.tm t) (a.tmps.getD t undef)
    rw [gt_eq]
    cases ht : σ.tm[t]? with
    | none => trivial
    | some x => exact h.tm t x ht
  | const v => exact rep_cst v
  | func f => rfl
  | global g => trivial

theorem getD_set (t : Array Value) (d i : Nat) (u z : Value) : (t.setIfInBounds d u).getD i z = if i = d ∧ d < t.size then u else t.getD i z := by
  by_cases hi : i < t.size
  · rw [Array.getD_eq_getD_getElem?, Array.getD_eq_getD_getElem?, Array.getElem?_setIfInBounds]
    by_cases hd : d = i
    · subst hd; simp [hi]
    · rw [if_neg hd, if_neg (fun e => hd e.1.symm)]
  · rw [Array.getD_eq_getD_getElem?, Array.getD_eq_getD_getElem?, Array.getElem?_setIfInBounds]
    by_cases hd : d = i
    · subst hd; simp [hi]
    · rw [if_neg hd, if_neg (fun e => hd e.1.symm)]
theorem put_defers (a : Act) (d : Option Tmp) (u : Value) : (a.put d u).defers = a.defers := by cases d <;> rfl
theorem Rel.put (h : Rel P w0 m0 ρ σ a w) (d : Option Tmp) {x : AV} {u : Value} (hx : RepV P ρ w x u) : Rel P w0 m0 ρ (σ.put d x) (a.put d u) w := by
  cases d with
  | none => exact h
  | some d =>
    refine { h with tl := by simp [AS.put, Act.put, h.tl], tm := fun i y hy => ?_, df := h.df }
    show RepV P ρ w y ((a.tmps.setIfInBounds d u).getD i undef)
    rw [getD_set]
    simp only [AS.put] at hy
    rw [List.getElem?_set] at hy
    by_cases hd : d = i
    · rw [if_pos hd] at hy
      split at hy
      · rename_i hl
        rw [if_pos ⟨hd.symm, by rw [← h.tl]; omega⟩]
        injection hy with hy
        subst hy; exact hx
      · cases hy
    · rw [if_neg hd] at hy
      rw [if_neg (fun e => hd e.1.symm)]
      exact h.tm i y hy

/-- Nothing that was there has changed. -/
theorem Rel.stab (h : Rel P w0 m0 ρ σ a w) {W : World} (hb : Below w.heap.size w W) : Stab ρ w ρ W :=
  ⟨rfl, hb.size, fun g hg _ => hb.block g hg, fun _ _ h => h, fun _ _ h => h, fun _ _ h1 h2 => ⟨h1, h2⟩, fun g hg => (h.ob g hg).2.2, fun _ _ => rfl⟩
theorem Rel.world (h : Rel P w0 m0 ρ σ a w) {W : World} (hb : Below w.heap.size w W) : Rel P w0 m0 ρ σ a W := by
  have st := h.stab hb
  refine { h with fr := h.fr.trans (.of_below hb), ml := fun g hg => Nat.lt_of_lt_of_le (h.ml g hg) hb.size, ob := fun g hg => ⟨(h.ob g hg).1, Nat.lt_of_lt_of_le (h.ob g hg).2.1 hb.size, (h.ob g hg).2.2⟩, hp := fun b cs hc => ?_, tm := fun i x hx => (h.tm i x hx).keep st }
  obtain ⟨g, hg, vs, t, h1, h2⟩ := h.hp b cs hc
  exact ⟨g, hg, vs, t, (hb.block g (h.ml g (List.mem_of_getElem? hg))).trans h1, h2.keep st⟩
end

/-! ### Coarser states -/
inductive AV.le : AV → AV → Prop
  | rfl (x : AV) : AV.le x x
  | top (x : AV) : AV.le x .top
inductive ACs.le : List AC → List AC → Prop
  | nil : ACs.le [] []
  | eq (x : AC) {xs ys : List AC} (h : ACs.le xs ys) : ACs.le (x :: xs) (x :: ys)
  | top (x : AC) {xs ys : List AC} (h : ACs.le xs ys) : ACs.le (x :: xs) (.top :: ys)
inductive AVs.le : List AV → List AV → Prop
  | nil : AVs.le [] []
  | eq (x : AV) {xs ys : List AV} (h : AVs.le xs ys) : AVs.le (x :: xs) (x :: ys)
  | top (x : AV) {xs ys : List AV} (h : AVs.le xs ys) : AVs.le (x :: xs) (.c .top :: ys)
theorem AVs.le.eqv {x y : AV} {xs ys : List AV} (h : AVs.le xs ys) (e : x = y) : AVs.le (x :: xs) (y :: ys) := by subst e; exact .eq _ h
inductive Hs.le : List (List AC) → List (List AC) → Prop
  | nil : Hs.le [] []
  | cons {c d : List AC} {xs ys : List (List AC)} (hc : ACs.le c d) (h : Hs.le xs ys) : Hs.le (c :: xs) (d :: ys)
theorem ACs.le.refl : ∀ xs : List AC, ACs.le xs xs
  | [] => .nil
  | x :: xs => .eq x (.refl xs)
theorem AVs.le.refl : ∀ xs : List AV, AVs.le xs xs
  | [] => .nil
  | x :: xs => .eq x (.refl xs)
theorem Hs.le.refl : ∀ xs : List (List AC), Hs.le xs xs
  | [] => .nil
  | x :: xs => .cons (.refl x) (.refl xs)
structure AS.le (σ τ : AS) : Prop where
  tm : AVs.le σ.tm τ.tm
  hp : Hs.le σ.hp τ.hp
  nx : σ.nx = τ.nx
theorem AVs.le.len {xs ys : List AV} (h : AVs.le xs ys) : xs.length = ys.length := by
  induction h with
  | nil => rfl
  | eq _ _ ih => simp [ih]
  | top _ _ ih => simp [ih]
theorem Hs.le.len {xs ys : List (List AC)} (h : Hs.le xs ys) : xs.length = ys.length := by
  induction h with
  | nil => rfl
  | cons _ _ ih => simp [ih]
theorem AVs.le.get {P : Program} {ρ : Env} {w : World} {xs ys : List AV} (h : AVs.le xs ys) : ∀ {i : Nat} {y : AV}, ys[i]? = some y → ∃ x, xs[i]? = some x ∧ ∀ u, RepV P ρ w x u → RepV P ρ w y u := by
  induction h with
  | nil => intro i y h; simp at h
  | eq x h ih =>
    intro i y hy
    cases i with
    | zero => simp at hy; subst hy; exact ⟨x, rfl, fun _ h => h⟩
    | succ i => simp at hy; simpa using ih hy
  | top x h ih =>
    intro i y hy
    cases i with
    | zero => simp at hy; subst hy; exact ⟨x, rfl, fun _ _ => trivial⟩
    | succ i => simp at hy; simpa using ih hy
theorem ACs.le.rep {P : Program} {ρ : Env} {w : World} {xs ys : List AC} (h : ACs.le xs ys) : ∀ {vs : List Value}, RepL P ρ w xs vs → RepL P ρ w ys vs := by
  induction h with
  | nil => intro vs h; exact h
  | eq x h ih => intro vs k; cases vs with
    | nil => exact k
    | cons v vs => exact ⟨k.1, ih k.2⟩
  | top x h ih => intro vs k; cases vs with
    | nil => exact k
    | cons v vs => exact ⟨trivial, ih k.2⟩
theorem Hs.le.get {xs ys : List (List AC)} (h : Hs.le xs ys) : ∀ {i : Nat} {y : List AC}, ys[i]? = some y → ∃ x, xs[i]? = some x ∧ ACs.le x y := by
  induction h with
  | nil => intro i y h; simp at h
  | cons hc h ih =>
    intro i y hy
    cases i with
    | zero => simp at hy; subst hy; exact ⟨_, rfl, hc⟩
    | succ i => simp at hy; simpa using ih hy
theorem Rel.le {P : Program} {w0 : World} {m0 : Gv} {ρ : Env} {σ τ : AS} {a : Act} {w : World} (h : Rel P w0 m0 ρ σ a w) (k : σ.le τ) : Rel P w0 m0 ρ τ a w := by
  refine ⟨h.B, h.Bw, h.fr, h.pre, h.ml, h.nd, h.ob, h.no, h.lp, by rw [h.nx, k.nx], by rw [← k.hp.len, h.hl], fun b cs hc => ?_, by rw [← k.tm.len, h.tl], fun i y hy => ?_, h.df⟩
  · obtain ⟨ds, h1, h2⟩ := k.hp.get hc
    obtain ⟨g, hg, vs, t, h3, h4⟩ := h.hp b ds h1
    exact ⟨g, hg, vs, t, h3, h2.rep h4⟩
  · obtain ⟨x, h1, h2⟩ := k.tm.get (P := P) (ρ := ρ) (w := w) hy
    exact h2 _ (h.tm i x h1)

/-! ### Control -/
section
variable (P : Program) (w0 : World) (m0 : Gv)
def lift (Q : Exit → AS → Prop) : Exit → Act → World → Prop := fun e a w => ∃ ρ σ, Q e σ ∧ Rel P w0 m0 ρ σ a w
def AWp (c : Code) (Q : Exit → AS → Prop) (σ : AS) : Prop := ∀ ρ a w, Rel P w0 m0 ρ σ a w → c.wp P (lift P w0 m0 Q) a w
end
def Exit.thenA (K : AS → Prop) (Q : Exit → AS → Prop) : Exit → AS → Prop
  | .normal, σ => K σ
  | e, σ => Q e σ
def Exit.inBlockA (id : Nat) (Q : Exit → AS → Prop) : Exit → AS → Prop
  | .exit id', σ => if id' = id then Q .normal σ else Q (.exit id') σ
  | e, σ => Q e σ
section
variable {P : Program} {w0 : World} {m0 : Gv} {Q : Exit → AS → Prop} {σ : AS}
theorem AWp.mono {c : Code} {Q' : Exit → AS → Prop} (h : AWp P w0 m0 c Q σ) (hq : ∀ e σ, Q e σ → Q' e σ) : AWp P w0 m0 c Q' σ :=
  fun ρ a w r => wp_mono (h ρ a w r) fun e a w ⟨ρ, σ, q, r⟩ => ⟨ρ, σ, hq _ _ q, r⟩
theorem AWp.le {c : Code} {τ : AS} (h : AWp P w0 m0 c Q τ) (k : σ.le τ) : AWp P w0 m0 c Q σ := fun ρ a w r => h ρ a w (r.le k)
theorem awp_skip (h : Q .normal σ) : AWp P w0 m0 .skip Q σ := fun ρ a w r => wp_skip ⟨ρ, σ, h, r⟩
theorem awp_exit {id : Nat} (h : Q (.exit id) σ) : AWp P w0 m0 (.exit id) Q σ := fun ρ a w r => wp_exit ⟨ρ, σ, h, r⟩
theorem awp_ret (h : Q .ret σ) : AWp P w0 m0 .ret Q σ := fun ρ a w r => wp_ret ⟨ρ, σ, h, r⟩
theorem awp_seq {x y : Code} (h : AWp P w0 m0 x (Exit.thenA (AWp P w0 m0 y Q) Q) σ) : AWp P w0 m0 (.seq x y) Q σ := fun ρ a w r =>
  wp_seq (wp_mono (h ρ a w r) fun e a w ⟨ρ, σ, q, r⟩ => by
    cases e <;> first | exact q ρ a w r | exact ⟨ρ, σ, q, r⟩)
theorem awp_block {id : Nat} {c : Code} (h : AWp P w0 m0 c (Exit.inBlockA id Q) σ) : AWp P w0 m0 (.block id c) Q σ := fun ρ a w r =>
  wp_block (wp_mono (h ρ a w r) fun e a w ⟨ρ, σ, q, r⟩ => by
    cases e <;> first
      | exact ⟨ρ, σ, q, r⟩
      | (rename_i i
         simp only [Exit.inBlock, Exit.inBlockA] at *
         split
         · rename_i h; rw [if_pos h] at q; exact ⟨ρ, σ, q, r⟩
         · rename_i h; rw [if_neg h] at q; exact ⟨ρ, σ, q, r⟩))
theorem awp_cond_t {c : Operand} {x y : Code} {t : Bool} (hc : σ.ev c = .c (.p (.bool t))) (ht : t = true) (h : AWp P w0 m0 x Q σ) : AWp P w0 m0 (.cond c x y) Q σ := fun ρ a w r => by
  have := r.ev c
  rw [hc] at this
  subst ht
  exact wp_cond_true this (h ρ a w r)
theorem awp_cond_f {c : Operand} {x y : Code} {t : Bool} (hc : σ.ev c = .c (.p (.bool t))) (ht : t = false) (h : AWp P w0 m0 y Q σ) : AWp P w0 m0 (.cond c x y) Q σ := fun ρ a w r => by
  have := r.ev c
  rw [hc] at this
  subst ht
  exact wp_cond_false this (h ρ a w r)
theorem awp_cond {c : Operand} {x y : Code} {t : Bool} (hc : σ.ev c = .c (.p (.bool t))) (ht : t = true → AWp P w0 m0 x Q σ) (hf : t = false → AWp P w0 m0 y Q σ) : AWp P w0 m0 (.cond c x y) Q σ := by
  cases h : t with
  | true => exact awp_cond_t hc h (ht h)
  | false => exact awp_cond_f hc h (hf h)
theorem least_of {p : Nat → Prop} (h : ∃ n, p n) : ∃ n, p n ∧ ∀ m, p m → n ≤ m := by
  classical
  obtain ⟨n, hn⟩ := h
  induction n using Nat.strongRecOn with
  | _ n ih =>
    by_cases hm : ∃ m, m < n ∧ p m
    · obtain ⟨m, h1, h2⟩ := hm
      exact ih m h1 h2
    · exact ⟨n, hn, fun m h => Nat.le_of_not_lt fun hl => hm ⟨m, hl, h⟩⟩
/-- A loop: I n, n goes down. -/
theorem awp_loop {c : Code} (I : Nat → AS → Prop) (n : Nat) (h0 : ∃ τ, σ.le τ ∧ I n τ)
    (round : ∀ n σ, I n σ → AWp P w0 m0 c (Exit.thenA (fun σ' => ∃ n' τ, n' < n ∧ σ'.le τ ∧ I n' τ) Q) σ) : AWp P w0 m0 (.loop c) Q σ := fun ρ a w r => by
  classical
  let J : Act → World → Nat → Prop := fun a w n => ∃ ρ σ, I n σ ∧ Rel P w0 m0 ρ σ a w
  refine wp_loop (fun a w => ∃ n, J a w n) (fun a w => if h : ∃ n, J a w n then (least_of h).choose else 0) ?_ ?_
  · obtain ⟨τ, h1, h2⟩ := h0
    exact ⟨n, ρ, τ, h2, r.le h1⟩
  · intro a w hI
    obtain ⟨ρ, σ, h1, h2⟩ := (least_of hI).choose_spec.1
    refine wp_mono (round _ σ h1 ρ a w h2) fun e a' w' ⟨ρ', σ', q, r'⟩ => ?_
    cases e with
    | normal =>
      obtain ⟨n', τ, hlt, hle, hi⟩ := q
      have hJ : ∃ n, J a' w' n := ⟨n', ρ', τ, hi, r'.le hle⟩
      refine ⟨hJ, ?_⟩
      rw [dif_pos hJ, dif_pos hI]
      exact Nat.lt_of_le_of_lt ((least_of hJ).choose_spec.2 _ ⟨ρ', τ, hi, r'.le hle⟩) hlt
    | _ => exact ⟨ρ', σ', q, r'⟩
end
end Go.Proofs.YtdlebdgdcpemmaaGreatDoor
namespace Go.Proofs.YtdlebdgdcpemmaaGreatDoor
open Go.RowKit
set_option linter.unusedVariables false

/-- The operation o yields what x stands for, in every world in which nothing that there was has changed. -/
def QOp (P : Program) (o : Op) (σ : AS) (x : AV) : Prop :=
  ∀ (w0 : World) (m0 : Gv) (ρ : Env) (a : Act) (w : World) (d : Option Tmp) (ty : TypeId) (pos : String) (af : Array Edge) (gd : Option (Nat × Bool)), Rel P w0 m0 ρ σ a w →
    ∃ u, RepV P ρ w x u ∧ ∀ W, Below w.heap.size w W → (execOp a.eval ⟨d, o, ty, pos, af, gd⟩).run P W = .ok (.value u) W

/-! ### Integers, strings, Booleans -/
def intP (op : BinOp) (k : IntKind) (a b : Int) : Option Value := match op with
  | .add => some (.int k (k.wrap (a + b)))
  | .sub => some (.int k (k.wrap (a - b)))
  | .mul => some (.int k (k.wrap (a * b)))
  | .eql => some (.bool (a == b))
  | .neq => some (.bool (a != b))
  | .lss => some (.bool (decide (a < b)))
  | .leq => some (.bool (decide (a ≤ b)))
  | .gtr => some (.bool (decide (a > b)))
  | .geq => some (.bool (decide (a ≥ b)))
  | .and => some (.int k (k.wrap (BitVec.ofInt k.bits a &&& BitVec.ofInt k.bits b).toNat))
  | .or => some (.int k (k.wrap (BitVec.ofInt k.bits a ||| BitVec.ofInt k.bits b).toNat))
  | .xor => some (.int k (k.wrap (BitVec.ofInt k.bits a ^^^ BitVec.ofInt k.bits b).toNat))
  | _ => none
def strP (op : BinOp) (a b : ByteArray) : Option Value := match op with
  | .eql => some (.bool (a.toList == b.toList))
  | .neq => some (.bool (!(a.toList == b.toList)))
  | .lss => some (.bool (Op.bytesLess a.toList b.toList))
  | .leq => some (.bool (Op.bytesLess a.toList b.toList || a.toList == b.toList))
  | .gtr => some (.bool (!(Op.bytesLess a.toList b.toList || a.toList == b.toList)))
  | .geq => some (.bool (!Op.bytesLess a.toList b.toList))
  | _ => none
section
variable {P : Program} {σ : AS}

theorem q_move {x : Operand} : QOp P (.move x) σ (σ.ev x) := fun _ _ ρ a w _ _ _ _ _ h => ⟨a.eval x, h.ev x, fun _ _ => rfl⟩
theorem q_assign {x : Operand} : QOp P (.assign x) σ (σ.ev x) := fun _ _ ρ a w _ _ _ _ _ h => ⟨a.eval x, h.ev x, fun _ _ => rfl⟩
theorem Rel.evp {w0 : World} {m0 : Gv} {ρ : Env} {a : Act} {w : World} (h : Rel P w0 m0 ρ σ a w) {x : Operand} {v : Value} (hx : σ.ev x = .c (.p v)) : a.eval x = v := by
  have := h.ev x
  rw [hx] at this
  exact this
theorem q_int {op : BinOp} {t yt : TypeId} {x y : Operand} {k : IntKind} {a b : Int} {v : Value} (hx : σ.ev x = .c (.p (.int k a))) (hy : σ.ev y = .c (.p (.int k b))) (hv : intP op k a b = some v) : QOp P (.binOp op t x y yt) σ (.c (.p v)) :=
  fun _ _ ρ f w _ _ _ _ _ h => ⟨v, rfl, fun W _ => by
    cases op <;> simp only [intP, Option.some.injEq, reduceCtorEq] at hv <;> subst hv <;> simp [execOp, h.evp hx, h.evp hy, eqGuard, binOp, Op.intArith, Op.intCmp, Op.intBits]⟩
theorem q_add {t yt : TypeId} {x y : Operand} {a b : Int} (hx : σ.ev x = .c (.p (.int .i64 a))) (hy : σ.ev y = .c (.p (.int .i64 b))) (hb : -9223372036854775808 ≤ a + b ∧ a + b ≤ 9223372036854775807) : QOp P (.binOp .add t x y yt) σ (.c (.p (.int .i64 (a + b)))) :=
  q_int hx hy (by simp only [intP]; rw [IntWalk.i64_in _ hb])
theorem q_sub {t yt : TypeId} {x y : Operand} {a b : Int} (hx : σ.ev x = .c (.p (.int .i64 a))) (hy : σ.ev y = .c (.p (.int .i64 b))) (hb : -9223372036854775808 ≤ a - b ∧ a - b ≤ 9223372036854775807) : QOp P (.binOp .sub t x y yt) σ (.c (.p (.int .i64 (a - b)))) :=
  q_int hx hy (by simp only [intP]; rw [IntWalk.i64_in _ hb])
theorem q_mul {t yt : TypeId} {x y : Operand} {a b : Int} (hx : σ.ev x = .c (.p (.int .i64 a))) (hy : σ.ev y = .c (.p (.int .i64 b))) (hb : -9223372036854775808 ≤ a * b ∧ a * b ≤ 9223372036854775807) : QOp P (.binOp .mul t x y yt) σ (.c (.p (.int .i64 (a * b)))) :=
  q_int hx hy (by simp only [intP]; rw [IntWalk.i64_in _ hb])
theorem q_rem {t yt : TypeId} {x y : Operand} {k : IntKind} {a b : Int} (hx : σ.ev x = .c (.p (.int k a))) (hy : σ.ev y = .c (.p (.int k b))) (hb : b ≠ 0) : QOp P (.binOp .rem t x y yt) σ (.c (.p (.int k (a.tmod b)))) :=
  fun _ _ ρ f w _ _ _ _ _ h => ⟨_, rfl, fun W _ => by simp [execOp, h.evp hx, h.evp hy, eqGuard, binOp, Op.intDiv, hb]⟩
theorem q_remp {t yt : TypeId} {x y : Operand} {k : IntKind} {a b : Int} (hx : σ.ev x = .c (.p (.int k a))) (hy : σ.ev y = .c (.p (.int k b))) (hb : 0 < b) (ha : 0 ≤ a) : QOp P (.binOp .rem t x y yt) σ (.c (.p (.int k (a % b)))) := by
  have := q_rem (P := P) (t := t) (yt := yt) hx hy (by omega)
  rwa [Int.tmod_eq_emod_of_nonneg ha] at this
theorem q_quo {t yt : TypeId} {x y : Operand} {k : IntKind} {a b : Int} (hx : σ.ev x = .c (.p (.int k a))) (hy : σ.ev y = .c (.p (.int k b))) (hb : b ≠ 0) : QOp P (.binOp .quo t x y yt) σ (.c (.p (.int k (k.wrap (a.tdiv b))))) :=
  fun _ _ ρ f w _ _ _ _ _ h => ⟨_, rfl, fun W _ => by simp [execOp, h.evp hx, h.evp hy, eqGuard, binOp, Op.intDiv, hb]⟩
theorem q_quop {t yt : TypeId} {x y : Operand} {a b : Int} (hx : σ.ev x = .c (.p (.int .i64 a))) (hy : σ.ev y = .c (.p (.int .i64 b))) (hb : 0 < b) (ha : 0 ≤ a) (hm : a ≤ 9223372036854775807) : QOp P (.binOp .quo t x y yt) σ (.c (.p (.int .i64 (a / b)))) := by
  have := q_quo (P := P) (t := t) (yt := yt) hx hy (by omega)
  rw [Int.tdiv_eq_ediv_of_nonneg ha, IntWalk.i64_in _ ⟨by have := Int.ediv_nonneg ha (show (0 : Int) ≤ b by omega); omega, by have := Int.ediv_le_self b ha; omega⟩] at this
  exact this
theorem q_shr {t yt : TypeId} {x y : Operand} {k k' : IntKind} {a : Int} {b : Int} (hx : σ.ev x = .c (.p (.int k a))) (hy : σ.ev y = .c (.p (.int k' b))) (hb : 0 ≤ b) : QOp P (.binOp .shr t x y yt) σ (.c (.p (.int k (a.fdiv (2 ^ (min b.toNat k.bits)))))) :=
  fun _ _ ρ f w _ _ _ _ _ h => ⟨_, rfl, fun W _ => by simp [execOp, h.evp hx, h.evp hy, eqGuard, binOp, Op.shift, Int.not_lt.2 hb]⟩
theorem q_shl {t yt : TypeId} {x y : Operand} {k k' : IntKind} {a : Int} {b : Int} (hx : σ.ev x = .c (.p (.int k a))) (hy : σ.ev y = .c (.p (.int k' b))) (hb : 0 ≤ b) : QOp P (.binOp .shl t x y yt) σ (.c (.p (.int k (k.wrap (a * 2 ^ (min b.toNat k.bits)))))) :=
  fun _ _ ρ f w _ _ _ _ _ h => ⟨_, rfl, fun W _ => by simp [execOp, h.evp hx, h.evp hy, eqGuard, binOp, Op.shift, Int.not_lt.2 hb]⟩
theorem q_str {op : BinOp} {t yt : TypeId} {x y : Operand} {a b : ByteArray} {v : Value} (hx : σ.ev x = .c (.p (.string a))) (hy : σ.ev y = .c (.p (.string b))) (hv : strP op a b = some v) : QOp P (.binOp op t x y yt) σ (.c (.p v)) :=
  fun _ _ ρ f w _ _ _ _ _ h => ⟨v, rfl, fun W _ => by
    cases op <;> simp only [strP, Option.some.injEq, reduceCtorEq] at hv <;> subst hv <;> simp [execOp, h.evp hx, h.evp hy, eqGuard, binOp, Op.stringOp]⟩
theorem q_cat {t yt : TypeId} {x y : Operand} {a b : ByteArray} (hx : σ.ev x = .c (.p (.string a))) (hy : σ.ev y = .c (.p (.string b))) (hs : a.size + b.size ≤ 9223372036854775807) : QOp P (.binOp .add t x y yt) σ (.c (.p (.string (a ++ b)))) :=
  fun _ _ ρ f w _ _ _ _ _ h => ⟨_, rfl, fun W _ => by simp [execOp, h.evp hx, h.evp hy, eqGuard, binOp, run_string_add_sum _ a b hs]⟩
def boolP (op : BinOp) (a b : Bool) : Option Bool := match op with
  | .eql => some (a == b)
  | .neq => some (!(a == b))
  | _ => none
theorem q_bool {op : BinOp} {t yt : TypeId} {x y : Operand} {a b v : Bool} (hu : P.underlying t = some .bool) (hx : σ.ev x = .c (.p (.bool a))) (hy : σ.ev y = .c (.p (.bool b))) (hv : boolP op a b = some v) : QOp P (.binOp op t x y yt) σ (.c (.p (.bool v))) :=
  fun _ _ ρ f w _ _ _ _ _ h => ⟨_, rfl, fun W _ => by
    cases op <;> simp only [boolP, Option.some.injEq, reduceCtorEq] at hv <;> subst hv <;> simp [execOp, h.evp hx, h.evp hy, eqGuard, run_eql_bool W t a b hu, run_neq_bool W t a b hu]⟩
theorem q_not {t : TypeId} {x : Operand} {a : Bool} (hx : σ.ev x = .c (.p (.bool a))) : QOp P (.unOp .not t x) σ (.c (.p (.bool (!a)))) :=
  fun _ _ ρ f w _ _ _ _ _ h => ⟨_, rfl, fun W _ => by simp [execOp, h.evp hx, Op.unary]⟩
theorem q_neg {t : TypeId} {x : Operand} {k : IntKind} {a : Int} (hx : σ.ev x = .c (.p (.int k a))) : QOp P (.unOp .neg t x) σ (.c (.p (.int k (k.wrap (0 - a))))) :=
  fun _ _ ρ f w _ _ _ _ _ h => ⟨_, rfl, fun W _ => by simp [execOp, h.evp hx, Op.unary, Op.intArith]⟩
theorem q_negi {t : TypeId} {x : Operand} {a : Int} (hx : σ.ev x = .c (.p (.int .i64 a))) (hb : -9223372036854775808 ≤ -a ∧ -a ≤ 9223372036854775807) : QOp P (.unOp .neg t x) σ (.c (.p (.int .i64 (-a)))) := by
  have := q_neg (P := P) (t := t) hx
  rwa [Int.zero_sub, IntWalk.i64_in _ hb] at this
def intB (P : Program) (t : TypeId) (k : IntKind) : Bool := match P.underlying t with
  | some (.int k') => k' == k
  | _ => false
theorem intB_spec {t : TypeId} {k : IntKind} (h : intB P t k = true) : P.underlying t = some (.int k) := by
  unfold intB at h
  split at h
  · rename_i k' hk
    have : k' = k := eq_of_beq h
    subst this; exact hk
  · cases h
theorem q_conv {s t : TypeId} {x : Operand} {k : IntKind} {a : Int} (k' : IntKind) (hs : (P.underlying s).isSome = true) (ht : intB P t k' = true) (hx : σ.ev x = .c (.p (.int k a))) : QOp P (.convert s t x) σ (.c (.p (.int k' (k'.wrap a)))) :=
  fun _ _ ρ f w _ _ _ _ _ h => ⟨_, rfl, fun W _ => by
    obtain ⟨d, hd⟩ := Option.isSome_iff_exists.1 hs
    simp [execOp, h.evp hx, convert, run_underlying hd, run_underlying (intB_spec ht), Conv.intToInt]⟩

theorem q_conv_u8 {s t : TypeId} {x : Operand} {c : UInt8} (hs : (P.underlying s).isSome = true) (ht : intB P t .i64 = true) (hx : σ.ev x = .c (.p (.int .u8 c.toNat))) : QOp P (.convert s t x) σ (.c (.p (.int .i64 c.toNat))) := by
  have := q_conv (P := P) .i64 hs ht hx
  rwa [IntWalk.i64_in _ ⟨by omega, by have := c.toNat_lt; omega⟩] at this
theorem q_conv_in {s t : TypeId} {x : Operand} {k : IntKind} {a : Int} (hs : (P.underlying s).isSome = true) (ht : intB P t .i64 = true) (hx : σ.ev x = .c (.p (.int k a))) (hb : -9223372036854775808 ≤ a ∧ a ≤ 9223372036854775807) : QOp P (.convert s t x) σ (.c (.p (.int .i64 a))) := by
  have := q_conv (P := P) .i64 hs ht hx
  rwa [IntWalk.i64_in _ hb] at this

theorem q_pick_t {c x y : Operand} {b : Bool} (hc : σ.ev c = .c (.p (.bool b))) (hb : b = true) : QOp P (.pick c x y) σ (σ.ev x) :=
  fun _ _ ρ f w _ _ _ _ _ h => ⟨f.eval x, h.ev x, fun W _ => by simp [execOp, h.evp hc, hb, asBool]⟩
theorem q_pick_f {c x y : Operand} {b : Bool} (hc : σ.ev c = .c (.p (.bool b))) (hb : b = false) : QOp P (.pick c x y) σ (σ.ev y) :=
  fun _ _ ρ f w _ _ _ _ _ h => ⟨f.eval y, h.ev y, fun W _ => by simp [execOp, h.evp hc, hb, asBool]⟩
theorem q_pick {c x y : Operand} {b p q : Bool} (hc : σ.ev c = .c (.p (.bool b))) (hx : σ.ev x = .c (.p (.bool p))) (hy : σ.ev y = .c (.p (.bool q))) : QOp P (.pick c x y) σ (.c (.p (.bool (bif b then p else q)))) :=
  fun _ _ ρ f w _ _ _ _ _ h => ⟨_, rfl, fun W _ => by cases b <;> simp [execOp, h.evp hc, h.evp hx, h.evp hy, asBool]⟩

/-! ### Builtins -/
theorem q_len_s {t : TypeId} {x : Operand} {s : ByteArray} (ht : P.underlying t = some .string) (hx : σ.ev x = .c (.p (.string s))) : QOp P (.call { callee := .builtin .len, args := #[x], argTypes := #[t] }) σ (.c (.p (.int .i64 s.size))) :=
  fun _ _ ρ f w _ _ _ _ _ h => ⟨_, rfl, fun W _ => by simp [execOp, resolve, invoke, builtin, h.evp hx, Builtin.len_, run_underlying ht, goInt]⟩
def sliceB (P : Program) (t : TypeId) : Bool := match P.underlying t with
  | some (.slice _) => true
  | _ => false
theorem sliceB_spec {t : TypeId} (h : sliceB P t = true) : ∃ e, P.underlying t = some (.slice e) := by
  unfold sliceB at h
  split at h
  · exact ⟨_, by assumption⟩
  · cases h
theorem q_len {t : TypeId} {x : Operand} {e : TypeId} {o : Ow} {xs : List (List Value)} (ht : sliceB P t = true) (hx : σ.ev x = .c (.sl e o xs)) : QOp P (.call { callee := .builtin .len, args := #[x], argTypes := #[t] }) σ (.c (.p (.int .i64 xs.length))) :=
  fun _ _ ρ f w _ _ _ _ _ h => by
    have h1 := h.ev x
    rw [hx] at h1
    obtain ⟨A, c, hv⟩ := (RepC.rdS h1).val
    obtain ⟨e', he⟩ := sliceB_spec ht
    exact ⟨_, rfl, fun W _ => by simp [execOp, resolve, invoke, builtin, hv, Builtin.len_, run_underlying he, goInt]⟩
theorem q_min {ts : Array TypeId} {x y : Operand} {k : IntKind} {a b : Int} (hx : σ.ev x = .c (.p (.int k a))) (hy : σ.ev y = .c (.p (.int k b))) : QOp P (.call { callee := .builtin .min, args := #[x, y], argTypes := ts }) σ (.c (.p (.int k (min a b)))) :=
  fun _ _ ρ f w _ _ _ _ _ h => ⟨_, rfl, fun W _ => by
    have e : (if b < a then b else a) = min a b := by split <;> omega
    simp [execOp, resolve, invoke, builtin, h.evp hx, h.evp hy, Builtin.min_, Builtin.min2, e]⟩
theorem q_max {ts : Array TypeId} {x y : Operand} {k : IntKind} {a b : Int} (hx : σ.ev x = .c (.p (.int k a))) (hy : σ.ev y = .c (.p (.int k b))) : QOp P (.call { callee := .builtin .max, args := #[x, y], argTypes := ts }) σ (.c (.p (.int k (max a b)))) :=
  fun _ _ ρ f w _ _ _ _ _ h => ⟨_, rfl, fun W _ => by
    have e : (if b > a then b else a) = max a b := by split <;> omega
    simp [execOp, resolve, invoke, builtin, h.evp hx, h.evp hy, Builtin.max_, Builtin.max2, e]⟩

/-! ### Tuples, structs by value -/
def AW.av : AW → AV
  | .c x => .c x
  | .agg cs => .agg cs
theorem q_ext {x : Operand} {i : Nat} {ws : List AW} {y : AW} (hx : σ.ev x = .tup ws) (hy : ws[i]? = some y) : QOp P (.extract x i) σ y.av :=
  fun _ _ ρ f w _ _ _ _ _ h => by
    have h1 := h.ev x
    rw [hx] at h1
    obtain ⟨vs, he, hl⟩ := h1
    obtain ⟨v, hv, hr⟩ := hl.get hy
    refine ⟨v, by cases y <;> exact hr, fun W _ => ?_⟩
    have hv' : vs[i]? = some v := by rw [← Array.getElem?_toList]; exact hv
    simp [execOp, he, Instr.extract, hv']
def wordB (P : Program) (t : TypeId) : Bool := match P.underlying t with
  | some (.struct _) | some (.array _ _) | none => false
  | _ => true
theorem run_isAgg_word {t : TypeId} (h : wordB P t = true) (W : World) : (isAgg t).run P W = .ok false W := by
  unfold wordB at h
  cases hd : P.underlying t with
  | none => rw [hd] at h; cases h
  | some d => rw [hd] at h; cases d <;> first | exact absurd h Bool.false_ne_true | simp [isAgg, run_underlying hd]
def aggB (P : Program) (t : TypeId) (n : Nat) : Bool := match P.underlying t, P.info? t with
  | some (.struct _), some i | some (.array _ _), some i => i.size == n
  | _, _ => false
theorem run_isAgg_agg {t : TypeId} {n : Nat} (h : aggB P t n = true) (W : World) : (isAgg t).run P W = .ok true W ∧ (sizeOf t).run P W = .ok n W := by
  unfold aggB at h
  split at h <;> first
    | exact absurd h Bool.false_ne_true
    | (rename_i hd hi
       have hn := eq_of_beq h
       constructor
       · simp [isAgg, run_underlying hd]
       · simp [sizeOf, typeInfo, hi, hn])
/-- Every field of the struct type t is one cell; there are n. -/
def flatB (P : Program) (t : TypeId) (n : Nat) : Bool := match P.underlying t with
  | some (.struct fs) => fs.size == n && (List.range n).all fun i => match fs[i]? with
    | some f => f.offset == i && wordB P f.type && ((P.info? f.type).map (·.size)) == some 1
    | none => false
  | _ => false
theorem flatB_spec {t : TypeId} {n : Nat} (h : flatB P t n = true) : ∃ fs : Array Field, P.underlying t = some (.struct fs) ∧ ∀ i, i < n → ∃ f, fs[i]? = some f ∧ f.offset = i ∧ wordB P f.type = true ∧ (P.info? f.type).map (·.size) = some 1 := by
  unfold flatB at h
  split at h
  · rename_i fs hfs
    simp only [Bool.and_eq_true, List.all_eq_true, List.mem_range] at h
    refine ⟨fs, hfs, fun i hi => ?_⟩
    have := h.2 i hi
    split at this
    · rename_i f hf
      simp only [Bool.and_eq_true] at this
      exact ⟨f, hf, eq_of_beq this.1.1, this.1.2, eq_of_beq this.2⟩
    · cases this
  · cases h
/-- Field i of the struct t is one cell, at cell i. -/
def flatF (P : Program) (t : TypeId) (i : Nat) : Bool := match P.underlying t with
  | some (.struct fs) => match fs[i]? with
    | some f => f.offset == i && wordB P f.type && ((P.info? f.type).map (·.size)) == some 1
    | none => false
  | _ => false
theorem flatF_spec {t : TypeId} {i : Nat} (h : flatF P t i = true) : ∃ (fs : Array Field) (f : Field), P.underlying t = some (.struct fs) ∧ fs[i]? = some f ∧ f.offset = i ∧ wordB P f.type = true ∧ (P.info? f.type).map (·.size) = some 1 := by
  unfold flatF at h
  split at h
  · rename_i fs hfs
    split at h
    · rename_i f hf
      simp only [Bool.and_eq_true] at h
      exact ⟨fs, f, hfs, hf, eq_of_beq h.1.1, h.1.2, eq_of_beq h.2⟩
    · cases h
  · cases h
theorem q_field {t : TypeId} {x : Operand} {i : Nat} {cs : List AC} {y : AC} (ht : flatF P t i = true) (hx : σ.ev x = .agg cs) (hy : cs[i]? = some y) : QOp P (.field t x i) σ (.c y) :=
  fun _ _ ρ f w _ _ _ _ _ h => by
    have h1 := h.ev x
    rw [hx] at h1
    obtain ⟨vs, he, hl⟩ := h1
    obtain ⟨v, hv, hr⟩ := hl.get hy
    obtain ⟨fs, fd, hfs, hfd, ho, hw, _⟩ := flatF_spec ht
    refine ⟨v, hr, fun W _ => ?_⟩
    have hv' : vs[i]? = some v := by rw [← Array.getElem?_toList]; exact hv
    simp [execOp, he, Instr.field, run_underlying hfs, hfd, part, run_isAgg_word hw, asAgg, ho, hv']

/-! ### Pointers -/
theorem addr_add (g o i : Nat) : (⟨g, o, none⟩ : Addr).add i = ⟨g, o + i, none⟩ := by unfold Addr.add; split <;> simp_all
theorem q_nilCheck {x : Operand} {b o : Nat} (hx : σ.ev x = .c (.ptr b o)) : QOp P (.nilCheck x) σ (.c (.ptr b o)) :=
  fun _ _ ρ f w _ _ _ _ _ h => by
    have h1 := h.ev x
    rw [hx] at h1
    obtain ⟨g, hg, he⟩ := h1
    exact ⟨_, ⟨g, hg, rfl⟩, fun W _ => by simp [execOp, he]⟩
theorem q_nilCheck_r {x : Operand} {o : Ow} {cs : List Value} (hx : σ.ev x = .c (.rp o cs)) : QOp P (.nilCheck x) σ (.c (.rp o cs)) :=
  fun _ _ ρ f w _ _ _ _ _ h => by
    have h1 := h.ev x
    rw [hx] at h1
    obtain ⟨g, off, he, r⟩ := h1
    exact ⟨_, ⟨g, off, rfl, r⟩, fun W _ => by simp [execOp, he]⟩
theorem q_fieldAddr {t : TypeId} {x : Operand} {i b o : Nat} (ht : flatF P t i = true) (hx : σ.ev x = .c (.ptr b o)) : QOp P (.fieldAddr t x i) σ (.c (.ptr b (o + i))) :=
  fun _ _ ρ f w _ _ _ _ _ h => by
    have h1 := h.ev x
    rw [hx] at h1
    obtain ⟨g, hg, he⟩ := h1
    obtain ⟨fs, fd, hfs, hfd, ho, hw, hs⟩ := flatF_spec ht
    refine ⟨_, ⟨g, hg, rfl⟩, fun W _ => ?_⟩
    obtain ⟨ii, h1, h2⟩ := Option.map_eq_some_iff.1 hs
    simp [execOp, he, Instr.fieldAt, run_underlying hfs, hfd, Instr.sureAddr, fieldPlace, sizeOf, typeInfo, h1, h2, ho, addr_add]
theorem q_fieldAddr_r {t : TypeId} {x : Operand} {i : Nat} {o : Ow} {cs : List Value} (ht : flatF P t i = true) (hx : σ.ev x = .c (.rp o cs)) : QOp P (.fieldAddr t x i) σ (.c (.rp o (cs.drop i))) :=
  fun _ _ ρ f w _ _ _ _ _ h => by
    have h1 := h.ev x
    rw [hx] at h1
    obtain ⟨g, off, he, hg, ha, hc⟩ := h1
    obtain ⟨fs, fd, hfs, hfd, ho, hw, hs⟩ := flatF_spec ht
    refine ⟨.pointer (some ⟨g, off + i, none⟩), ⟨g, off + i, rfl, hg, ha, fun j v hv => ?_⟩, fun W _ => ?_⟩
    · rw [List.getElem?_drop] at hv
      rw [Nat.add_assoc]; exact hc _ _ hv
    · obtain ⟨ii, h1, h2⟩ := Option.map_eq_some_iff.1 hs
      simp [execOp, he, Instr.fieldAt, run_underlying hfs, hfd, Instr.sureAddr, fieldPlace, sizeOf, typeInfo, h1, h2, ho, addr_add]

/-! ### Loads -/
theorem run_load_word {t : TypeId} {ad : Addr} {v : Value} (ht : wordB P t = true) {W : World} (hc : W.cell? ad = some v) : (loadVar t ad).run P W = .ok v W := by
  simp [loadVar, run_isAgg_word ht, hc]
theorem run_load_agg {t : TypeId} {g o : Nat} {vs : List Value} (ht : aggB P t vs.length = true) {W : World} (hc : ∀ j v, vs[j]? = some v → W.cell? ⟨g, o + j, none⟩ = some v) : (loadVar t ⟨g, o, none⟩).run P W = .ok (.agg vs.toArray) W := by
  have h := run_isAgg_agg ht W
  have hl := run_loadCells_list (P := P) (w := W) ⟨g, o, none⟩ vs (fun j v hv => by rw [addr_add]; exact hc j v hv)
  simp [loadVar, h.1, h.2, hl]
theorem q_load {t : TypeId} {x : Operand} {b o : Nat} {cs : List AC} {y : AC} (ht : wordB P t = true) (hx : σ.ev x = .c (.ptr b o)) (hh : σ.hp[b]? = some cs) (hy : cs[o]? = some y) : QOp P (.load t x) σ (.c y) :=
  fun _ _ ρ f w _ _ _ _ _ h => by
    have h1 := h.ev x
    rw [hx] at h1
    obtain ⟨g, hg, he⟩ := h1
    obtain ⟨g', hg', vs, t', hb, hl⟩ := h.hp b cs hh
    obtain rfl : g = g' := by rw [hg] at hg'; injection hg'
    obtain ⟨v, hv, hr⟩ := hl.get hy
    refine ⟨v, hr, fun W hW => ?_⟩
    have hc : W.cell? ⟨g, o, none⟩ = some v := by
      rw [cell_blk (hW.block g (h.ml g (List.mem_of_getElem? hg))), cell_of_row w g o vs t'.t t'.z hb, ← Array.getElem?_toList]; exact hv
    simp [execOp, he, Instr.loadAt, Instr.sureAddr, run_load_word ht hc]
theorem q_load_a {t : TypeId} {x : Operand} {b : Nat} {cs : List AC} (hx : σ.ev x = .c (.ptr b 0)) (hh : σ.hp[b]? = some cs) {n : Nat} (hn : cs.length = n) (ht : aggB P t n = true) : QOp P (.load t x) σ (.agg cs) :=
  fun _ _ ρ f w _ _ _ _ _ h => by
    have h1 := h.ev x
    rw [hx] at h1
    obtain ⟨g, hg, he⟩ := h1
    obtain ⟨g', hg', vs, t', hb, hl⟩ := h.hp b cs hh
    obtain rfl : g = g' := by rw [hg] at hg'; injection hg'
    refine ⟨.agg vs, ⟨vs, rfl, hl⟩, fun W hW => ?_⟩
    rw [← hn, hl.len] at ht
    have hc := run_load_agg (g := g) (o := 0) ht (W := W) (fun j v hv => by
      rw [cell_blk (hW.block g (h.ml g (List.mem_of_getElem? hg))), Nat.zero_add, cell_of_row w g j vs t'.t t'.z hb, ← Array.getElem?_toList]; exact hv)
    simp [execOp, he, Instr.loadAt, Instr.sureAddr, hc]
theorem Rel.place {w0 : World} {m0 : Gv} {ρ : Env} {a : Act} {w : World} (h : Rel P w0 m0 ρ σ a w) {o : Ow} {g : Nat} (hg : g < w.heap.size) {W : World} (hW : Below w.heap.size w W) (j : Nat) : W.cell? ⟨g, j, none⟩ = w.cell? ⟨g, j, none⟩ := cell_blk (hW.block g hg) j
theorem q_load_r {t : TypeId} {x : Operand} {o : Ow} {cs : List Value} {v : Value} (ht : wordB P t = true) (hx : σ.ev x = .c (.rp o cs)) (hy : cs[0]? = some v) : QOp P (.load t x) σ (.c (.p v)) :=
  fun _ _ ρ f w _ _ _ _ _ h => by
    have h1 := h.ev x
    rw [hx] at h1
    obtain ⟨g, off, he, hg, ha, hc⟩ := h1
    refine ⟨v, rfl, fun W hW => ?_⟩
    have hc : W.cell? ⟨g, off, none⟩ = some v := by rw [cell_blk (hW.block g hg)]; exact hc 0 v hy
    simp [execOp, he, Instr.loadAt, Instr.sureAddr, run_load_word ht hc]
theorem repL_p {ρ : Env} {w : World} : ∀ vs : List Value, RepL P ρ w (vs.map .p) vs
  | [] => trivial
  | v :: vs => ⟨rfl, repL_p vs⟩
theorem q_load_ra {t : TypeId} {x : Operand} {o : Ow} {cs : List Value} (hx : σ.ev x = .c (.rp o cs)) {n : Nat} (hn : cs.length = n) (ht : aggB P t n = true) : QOp P (.load t x) σ (.agg (cs.map .p)) :=
  fun _ _ ρ f w _ _ _ _ _ h => by
    have h1 := h.ev x
    rw [hx] at h1
    obtain ⟨g, off, he, hg, ha, hc⟩ := h1
    refine ⟨.agg cs.toArray, ⟨cs.toArray, rfl, repL_p cs⟩, fun W hW => ?_⟩
    rw [← hn] at ht
    have hc := run_load_agg (g := g) (o := off) ht (W := W) (fun j v hv => by rw [cell_blk (hW.block g hg)]; exact hc j v hv)
    simp [execOp, he, Instr.loadAt, Instr.sureAddr, hc]

/-! ### Indices, parts -/
theorem size_cellsOf {t e : TypeId} (hu : (P.info? e).isSome = true) (W : World) : (sizeOf e).run P W = .ok (P.cellsOf e) W := by
  obtain ⟨i, hi⟩ := Option.isSome_iff_exists.1 hu
  simp [sizeOf, typeInfo, hi, Program.cellsOf]
/-- t is a slice type over e. -/
def sliceE (P : Program) (t e : TypeId) : Bool := match P.underlying t with
  | some (.slice e') => e' == e && (P.info? e).isSome
  | _ => false
theorem sliceE_spec {t e : TypeId} (h : sliceE P t e = true) : P.underlying t = some (.slice e) ∧ (P.info? e).isSome = true := by
  unfold sliceE at h
  split at h
  · rename_i e' he
    simp only [Bool.and_eq_true] at h
    have := eq_of_beq h.1
    subst this
    exact ⟨he, h.2⟩
  · cases h
theorem q_indexAddr {t e : TypeId} {x y : Operand} {o : Ow} {xs : List (List Value)} {k : IntKind} {i : Int} {v : List Value} (ht : sliceE P t e = true) (hx : σ.ev x = .c (.sl e o xs)) (hy : σ.ev y = .c (.p (.int k i))) (hi : 0 ≤ i) (hv : xs[i.toNat]? = some v) : QOp P (.indexAddr t x y) σ (.c (.rp o.part v)) :=
  fun _ _ ρ f w _ _ _ _ _ h => by
    have h1 := h.ev x
    rw [hx] at h1
    obtain ⟨g, off, c, he, hg, ha, hl, hc⟩ := (RepC.rdS h1).at_ hv
    obtain ⟨hu, hz⟩ := sliceE_spec ht
    have hlt := (List.getElem?_eq_some_iff.1 hv).1
    refine ⟨.pointer (some ⟨g, off + i.toNat * P.cellsOf e, none⟩), ⟨g, _, rfl, hg, ha, fun j v hv => by rw [Nat.add_assoc]; exact hc j v hv⟩, fun W _ => ?_⟩
    have hb : 0 ≤ i ∧ i < (xs.length : Int) := ⟨hi, by omega⟩
    simp [execOp, he, h.evp hy, Instr.indexAt, asIntOf, run_underlying hu, size_cellsOf (t := t) hz, hb, addr_add]
theorem q_index_s {t : TypeId} {x y : Operand} {s : ByteArray} {k : IntKind} {i : Int} {c : UInt8} (ht : P.underlying t = some .string) (hx : σ.ev x = .c (.p (.string s))) (hy : σ.ev y = .c (.p (.int k i))) (hi : 0 ≤ i) (hc : s[i.toNat]? = some c) : QOp P (.index t x y) σ (.c (.p (.int .u8 c.toNat))) :=
  fun _ _ ρ f w _ _ _ _ _ h => ⟨_, rfl, fun W _ => by simp [execOp, h.evp hx, h.evp hy, Instr.index, asIntOf, run_underlying ht, hi, hc]⟩
end
end Go.Proofs.YtdlebdgdcpemmaaGreatDoor
namespace Go.Proofs.YtdlebdgdcpemmaaGreatDoor
open Go.RowKit
set_option linter.unusedVariables false

section
variable {P : Program} {σ : AS}
/-! ### Parts -/
theorem q_slice_s {t : TypeId} {x y z : Operand} {s : ByteArray} {k k' : IntKind} {l h : Int} (ht : P.underlying t = some .string) (hx : σ.ev x = .c (.p (.string s))) (hy : σ.ev y = .c (.p (.int k l))) (hz : σ.ev z = .c (.p (.int k' h)))
    (h0 : 0 ≤ l) (h1 : l ≤ h) (h2 : h ≤ s.size) : QOp P (.slice t x (some y) (some z) none) σ (.c (.p (.string (s.extract l.toNat h.toNat)))) :=
  fun _ _ ρ f w _ _ _ _ _ r => ⟨_, rfl, fun W _ => by
    obtain ⟨h, rfl⟩ := Int.eq_ofNat_of_zero_le (show 0 ≤ h by omega)
    have e1 : h ≤ s.size := by omega
    have e2 : 0 ≤ l ∧ l ≤ (h : Int) := ⟨h0, by omega⟩
    simp [execOp, r.evp hx, r.evp hy, r.evp hz, Instr.sliceAt, Instr.slice, run_underlying ht, Instr.sliceBounds, Instr.sliceBound, asIntOf, e1, e2]⟩
theorem q_slice_sl {t : TypeId} {x y : Operand} {s : ByteArray} {k : IntKind} {l : Int} (ht : P.underlying t = some .string) (hx : σ.ev x = .c (.p (.string s))) (hy : σ.ev y = .c (.p (.int k l)))
    (h0 : 0 ≤ l) (h1 : l ≤ s.size) : QOp P (.slice t x (some y) none none) σ (.c (.p (.string (s.extract l.toNat s.size)))) :=
  fun _ _ ρ f w _ _ _ _ _ r => ⟨_, rfl, fun W _ => by
    have e2 : 0 ≤ l ∧ l ≤ (s.size : Int) := ⟨h0, h1⟩
    simp [execOp, r.evp hx, r.evp hy, Instr.sliceAt, Instr.slice, run_underlying ht, Instr.sliceBounds, Instr.sliceBound, asIntOf, e2]⟩
theorem q_slice_sh {t : TypeId} {x z : Operand} {s : ByteArray} {k' : IntKind} {h : Int} (ht : P.underlying t = some .string) (hx : σ.ev x = .c (.p (.string s))) (hz : σ.ev z = .c (.p (.int k' h)))
    (h0 : 0 ≤ h) (h2 : h ≤ s.size) : QOp P (.slice t x none (some z) none) σ (.c (.p (.string (s.extract 0 h.toNat)))) :=
  fun _ _ ρ f w _ _ _ _ _ r => ⟨_, rfl, fun W _ => by
    have e1 : 0 ≤ h ∧ h ≤ (s.size : Int) := ⟨by omega, h2⟩
    simp [execOp, r.evp hx, r.evp hz, Instr.sliceAt, Instr.slice, run_underlying ht, Instr.sliceBounds, Instr.sliceBound, asIntOf, e1]⟩
theorem RdS.part {ρ : Env} {w : World} {e : TypeId} {o : Ow} {xs : List (List Value)} {l h : Nat} {A : Option Addr} {c : Nat} (hr : RdS P ρ w e o xs (.slice A xs.length c)) (h1 : l ≤ h) (h2 : h ≤ xs.length) :
    RdS P ρ w e o ((xs.take h).drop l) (.slice (if c = l then A else A.map (·.add (l * P.cellsOf e))) (h - l) (c - l)) := by
  have hlen : ((xs.take h).drop l).length = h - l := by rw [List.length_drop, List.length_take]; omega
  by_cases hlh : l = h
  · subst hlh
    refine .inl ⟨List.eq_nil_of_length_eq_zero (by omega), ?_⟩
    rw [Nat.sub_self]
    exact ⟨_, _, rfl⟩
  · rcases hr with ⟨rfl, _⟩ | ⟨g, off, c', he, hc, hg, ha, hels⟩
    · simp at h2; omega
    · injection he with e1 e2 e3
      subst e1; subst e3
      refine .inr ⟨g, off + l * P.cellsOf e, c - l, ?_, by rw [hlen]; omega, hg, ha, fun i x hx => ?_⟩
      · rw [if_neg (by omega), hlen]
        simp [addr_add]
      · rw [List.getElem?_drop, List.getElem?_take] at hx
        split at hx
        · refine ⟨(hels _ x hx).1, fun j v hv => ?_⟩
          have := (hels _ x hx).2 j v hv
          rw [← this]; congr 2; rw [Nat.add_mul]; omega
        · cases hx
theorem RepC.partC {ρ : Env} {w : World} {e : TypeId} {o : Ow} {xs : List (List Value)} {l h : Nat} {A : Option Addr} {c : Nat} (hr : RepC P ρ w (.sl e o xs) (.slice A xs.length c)) (h1 : l ≤ h) (h2 : h ≤ xs.length) :
    RepC P ρ w (.sl e o.part ((xs.take h).drop l)) (.slice (if c = l then A else A.map (·.add (l * P.cellsOf e))) (h - l) (c - l)) := by
  have := RdS.part hr.rdS h1 h2
  have hm := hr.1
  have hlen : ((xs.take h).drop l).length ≤ 9223372036854775807 := by rw [List.length_drop, List.length_take]; omega
  cases o with
  | ro => exact ⟨hlen, this⟩
  | own k => exact ⟨hlen, this⟩
  | sub k => exact ⟨hlen, this⟩
theorem RdS.cap {ρ : Env} {w : World} {e : TypeId} {o : Ow} {xs : List (List Value)} {A : Option Addr} {n c : Nat} (hr : RdS P ρ w e o xs (.slice A n c)) : n = xs.length ∧ (xs.length ≤ c) := by
  rcases hr with ⟨rfl, A', c', he⟩ | ⟨g, off, c', he, hc, _⟩
  · injection he with e1 e2 e3; subst e2; simp
  · injection he with e1 e2 e3; subst e2; subst e3; exact ⟨rfl, hc⟩
theorem q_slice {t e : TypeId} {x y z : Operand} {o : Ow} {xs : List (List Value)} {k k' : IntKind} {l h : Int} (ht : sliceE P t e = true) (hx : σ.ev x = .c (.sl e o xs)) (hy : σ.ev y = .c (.p (.int k l))) (hz : σ.ev z = .c (.p (.int k' h)))
    (h0 : 0 ≤ l) (h1 : l ≤ h) (h2 : h ≤ xs.length) : QOp P (.slice t x (some y) (some z) none) σ (.c (.sl e o.part ((xs.take h.toNat).drop l.toNat))) :=
  fun _ _ ρ f w _ _ _ _ _ r => by
    have hv := r.ev x
    rw [hx] at hv
    have hv : RepC P ρ w (.sl e o xs) (f.eval x) := hv
    obtain ⟨hu, hz'⟩ := sliceE_spec ht
    obtain ⟨A, c, he⟩ := hv.rdS.val
    rw [he] at hv
    have hc := hv.rdS.cap.2
    refine ⟨_, hv.partC (l := l.toNat) (h := h.toNat) (by omega) (by omega), fun W _ => ?_⟩
    obtain ⟨h, rfl⟩ := Int.eq_ofNat_of_zero_le (show 0 ≤ h by omega)
    have e1 : h ≤ c := by omega
    have e2 : 0 ≤ l ∧ l ≤ (h : Int) := ⟨h0, by omega⟩
    simp [execOp, he, r.evp hy, r.evp hz, Instr.sliceAt, Instr.slice, run_underlying hu, Instr.sliceBounds, Instr.sliceBound, asIntOf, e1, e2, size_cellsOf (t := t) hz']
theorem q_slice_l {t e : TypeId} {x y : Operand} {o : Ow} {xs : List (List Value)} {k : IntKind} {l : Int} (ht : sliceE P t e = true) (hx : σ.ev x = .c (.sl e o xs)) (hy : σ.ev y = .c (.p (.int k l)))
    (h0 : 0 ≤ l) (h1 : l ≤ xs.length) : QOp P (.slice t x (some y) none none) σ (.c (.sl e o.part (xs.drop l.toNat))) :=
  fun _ _ ρ f w _ _ _ _ _ r => by
    have hv := r.ev x
    rw [hx] at hv
    have hv : RepC P ρ w (.sl e o xs) (f.eval x) := hv
    obtain ⟨hu, hz'⟩ := sliceE_spec ht
    obtain ⟨A, c, he⟩ := hv.rdS.val
    rw [he] at hv
    have h3 := hv.partC (l := l.toNat) (h := xs.length) (by omega) (by omega)
    rw [List.take_length] at h3
    refine ⟨_, h3, fun W _ => ?_⟩
    have e2 : 0 ≤ l ∧ l ≤ (xs.length : Int) := ⟨h0, by omega⟩
    simp [execOp, he, r.evp hy, Instr.sliceAt, Instr.slice, run_underlying hu, Instr.sliceBounds, Instr.sliceBound, asIntOf, e2, size_cellsOf (t := t) hz']
theorem q_slice_h {t e : TypeId} {x z : Operand} {o : Ow} {xs : List (List Value)} {k' : IntKind} {h : Int} (ht : sliceE P t e = true) (hx : σ.ev x = .c (.sl e o xs)) (hz : σ.ev z = .c (.p (.int k' h)))
    (h0 : 0 ≤ h) (h2 : h ≤ xs.length) : QOp P (.slice t x none (some z) none) σ (.c (.sl e o.part (xs.take h.toNat))) :=
  fun _ _ ρ f w _ _ _ _ _ r => by
    have hv := r.ev x
    rw [hx] at hv
    have hv : RepC P ρ w (.sl e o xs) (f.eval x) := hv
    obtain ⟨hu, hz'⟩ := sliceE_spec ht
    obtain ⟨A, c, he⟩ := hv.rdS.val
    rw [he] at hv
    have hc := hv.rdS.cap.2
    have h3 := hv.partC (l := 0) (h := h.toNat) (by omega) (by omega)
    rw [List.drop_zero] at h3
    refine ⟨_, h3, fun W _ => ?_⟩
    have e1 : 0 ≤ h ∧ h ≤ (c : Int) := ⟨by omega, by omega⟩
    simp [execOp, he, r.evp hz, Instr.sliceAt, Instr.slice, run_underlying hu, Instr.sliceBounds, Instr.sliceBound, asIntOf, e1, size_cellsOf (t := t) hz']

/-! ### Calls -/
def AC.ro : AC → AC
  | .sl e _ xs => .sl e .ro xs
  | .rp _ cs => .rp .ro cs
  | .ptr _ _ => .top
  | .bsl _ _ _ => .top
  | .top => .top
  | .p v => .p v
  | .nl => .nl
  | .sv v e xs => .sv v e xs
  | .ep _ _ _ _ _ => .top
  | .fo _ _ => .top
  | .fr f css => .fr f css
def AW.ro : AW → AW
  | .c x => .c x.ro
  | .agg cs => .agg (cs.map AC.ro)
def AV.ro : AV → AV
  | .c x => .c x.ro
  | .agg cs => .agg (cs.map AC.ro)
  | .tup ws => .tup (ws.map AW.ro)
section
variable {w0 : World} {m0 : Gv} {ρ : Env} {a : Act} {w : World}
theorem RdS.ro (h : Rel P w0 m0 ρ σ a w) (B : Nat) {m : List Nat} (hm : ∀ g ∈ m, g ∈ ρ.m) {e : TypeId} {o : Ow} {xs : List (List Value)} {u : Value} (k : RdS P ρ w e o xs u) : RdS P (E0 B m) w e .ro xs u := by
  rcases k with k | ⟨g, off, c, rfl, hc, hg, ha, he⟩
  · exact .inl k
  · refine .inr ⟨g, off, c, rfl, hc, hg, ⟨fun hgm => ?_, by simp [E0]⟩, he⟩
    cases o with
    | ro => exact ha.1 (hm g hgm)
    | own k => exact (h.ob g (List.mem_of_getElem? ha)).2.2 (hm g hgm)
    | sub k => exact (h.ob g (List.mem_of_getElem? ha)).2.2 (hm g hgm)
theorem PtrR.ro (h : Rel P w0 m0 ρ σ a w) (B : Nat) {m : List Nat} (hm : ∀ g ∈ m, g ∈ ρ.m) : ∀ {css : List (List Value)} {vs : List Value}, PtrR ρ w css vs → PtrR (E0 B m) w css vs
  | [], [], _ => trivial
  | _ :: _, _ :: _, ⟨⟨g, off, e, hg, ha, hc⟩, q⟩ => ⟨⟨g, off, e, hg, ⟨fun hgm => ha.1 (hm g hgm), by simp [E0]⟩, hc⟩, PtrR.ro h B hm q⟩
theorem RepC.ro (h : Rel P w0 m0 ρ σ a w) (B : Nat) {m : List Nat} (hm : ∀ g ∈ m, g ∈ ρ.m) {x : AC} {u : Value} (k : RepC P ρ w x u) : RepC P (E0 B m) w x.ro u := by
  cases x with
  | top => trivial
  | p v => exact k
  | nl => exact k
  | ptr b o => trivial
  | bsl b sn sc => trivial
  | rp o cs =>
    obtain ⟨g, off, rfl, hg, ha, hc⟩ := k
    refine ⟨g, off, rfl, hg, ⟨fun hgm => ?_, by simp [E0]⟩, hc⟩
    cases o with
    | ro => exact ha.1 (hm g hgm)
    | own k => exact (h.ob g (List.mem_of_getElem? ha)).2.2 (hm g hgm)
    | sub k => exact (h.ob g (List.mem_of_getElem? ha)).2.2 (hm g hgm)
  | sl e o xs => exact ⟨k.1, RdS.ro h B hm k.rdS⟩
  | sv v e xs => exact ⟨k.1, k.2.1, RdS.ro h B hm k.2.2⟩
  | ep e n xs i j => trivial
  | fo f bs => trivial
  | fr f css => obtain ⟨vs, h1, h2⟩ := k; exact ⟨vs, h1, PtrR.ro h B hm h2⟩
theorem RepL.ro (h : Rel P w0 m0 ρ σ a w) (B : Nat) {m : List Nat} (hm : ∀ g ∈ m, g ∈ ρ.m) : ∀ {xs : List AC} {vs : List Value}, RepL P ρ w xs vs → RepL P (E0 B m) w (xs.map AC.ro) vs
  | [], [], _ => trivial
  | _ :: _, _ :: _, k => ⟨k.1.ro h B hm, RepL.ro h B hm k.2⟩
theorem RepW.ro (h : Rel P w0 m0 ρ σ a w) (B : Nat) {m : List Nat} (hm : ∀ g ∈ m, g ∈ ρ.m) {x : AW} {u : Value} (k : RepW P ρ w x u) : RepW P (E0 B m) w x.ro u := by
  cases x with
  | c x => exact RepC.ro h B hm k
  | agg cs => obtain ⟨vs, rfl, hl⟩ := k; exact ⟨vs, rfl, hl.ro h B hm⟩
theorem RepWs.ro (h : Rel P w0 m0 ρ σ a w) (B : Nat) {m : List Nat} (hm : ∀ g ∈ m, g ∈ ρ.m) : ∀ {xs : List AW} {vs : List Value}, RepWs P ρ w xs vs → RepWs P (E0 B m) w (xs.map AW.ro) vs
  | [], [], _ => trivial
  | _ :: _, _ :: _, k => ⟨k.1.ro h B hm, RepWs.ro h B hm k.2⟩
theorem RepV.ro (h : Rel P w0 m0 ρ σ a w) (B : Nat) {m : List Nat} (hm : ∀ g ∈ m, g ∈ ρ.m) {x : AV} {u : Value} (k : RepV P ρ w x u) : RepV P (E0 B m) w x.ro u := by
  cases x with
  | c x => exact RepC.ro h B hm k
  | agg cs => obtain ⟨vs, rfl, hl⟩ := k; exact ⟨vs, rfl, hl.ro h B hm⟩
  | tup ws => obtain ⟨vs, rfl, hl⟩ := k; exact ⟨vs, rfl, hl.ro h B hm⟩
end
def RepVs (P : Program) (ρ : Env) (w : World) : List AV → List Value → Prop
  | [], [] => True
  | x :: xs, v :: vs => RepV P ρ w x v ∧ RepVs P ρ w xs vs
  | _, _ => False
/-- What a call of function f gives: r, and hp' in the blocks hp that it is handed pointers into. k: how many new rows r holds. -/
def ACalls (P : Program) (f : FuncId) (args : List AV) (hp : List (List AC)) (r : AV) (hp' : List (List AC)) (k : Nat) : Prop :=
  ∀ (m : List Nat) (w : World) (vs : Array Value), m.Nodup → (∀ g ∈ m, g < w.heap.size) → m.length = hp.length → (∀ (b : Nat) cs, hp[b]? = some cs → ∃ g : Nat, m[b]? = some g ∧ HpAt P (E0 w.heap.size m) w cs g) →
    RepVs P (E0 w.heap.size m) w args vs.toList →
    Calls P f vs w (fun e w' => ∃ (u : Value) (om : List Nat) (ov : Nat → Value), e = .returned u ∧ om.Nodup ∧ om.length = k ∧ (∀ g ∈ om, w.heap.size ≤ g ∧ g < w'.heap.size) ∧ RepV P ⟨w.heap.size, m, om, ov⟩ w' r u ∧
      hp'.length = hp.length ∧ (∀ (b : Nat) cs, hp'[b]? = some cs → ∃ g : Nat, m[b]? = some g ∧ HpAt P (E0 w.heap.size m) w' cs g) ∧ Framed m w w')
def callB (P : Program) (f : FuncId) : Bool := match P.funcs[f]? with
  | some fn => fn.body.isSome && !(fn.name == "runtime.NumGoroutine")
  | none => false
theorem run_enter {f : FuncId} (hf : callB P f = true) (vs : Array Value) (W : World) : (callFunc f vs).run P W = .ok (.enter f vs) W := by
  unfold callB at hf
  split at hf
  · rename_i fn hfn
    simp only [Bool.and_eq_true, Bool.not_eq_true'] at hf
    obtain ⟨c, hb⟩ := Option.isSome_iff_exists.1 hf.1
    have hn : fn.name ≠ "runtime.NumGoroutine" := by intro h; rw [h] at hf; simp at hf
    simp [callFunc, hfn, hn, hb]
  · cases hf
theorem run_call {f : FuncId} (hf : callB P f = true) (xs : Array Operand) (ts : Array TypeId) (fr : Act) (d : Option Tmp) (ty : TypeId) (pos : String) (af : Array Edge) (gd : Option (Nat × Bool)) (W : World) :
    (execOp fr.eval ⟨d, .call { callee := .value (.func f), args := xs, argTypes := ts }, ty, pos, af, gd⟩).run P W = .ok (.enter f (xs.map fr.eval)) W := by
  simp [execOp, resolve, Deferred.ofValue, invoke, Act.eval, run_enter hf]
theorem RepVs.of {w0 : World} {m0 : Gv} {ρ : Env} {a : Act} {w : World} (h : Rel P w0 m0 ρ σ a w) : ∀ xs : List Operand, RepVs P (E0 w.heap.size []) w (xs.map fun x => (σ.ev x).ro) (xs.map a.eval)
  | [] => trivial
  | x :: xs => ⟨(h.ev x).ro h _ (by simp), RepVs.of h xs⟩

/-! ### Regions -/
def AR (P : Program) (w0 : World) (m0 : Gv) (ops : Array Oper) (Q : Exit → AS → Prop) (l : List Oper) (σ : AS) : Prop :=
  ∀ ρ a w, Rel P w0 m0 ρ σ a w → wpList P ops (lift P w0 m0 Q) l a w
def DR (P : Program) (w0 : World) (m0 : Gv) (ops : Array Oper) (Q : Exit → AS → Prop) (l : List Oper) (σ : AS) : Prop :=
  ∀ ρ a w, Rel P w0 m0 ρ σ a w → wpQuiet P ops (fun W => Below w.heap.size w W) (fun a' => ∀ W, Below w.heap.size w W → lift P w0 m0 Q .normal a' W) l a
/-- The operation is quiet: one value, in whatever world. -/
def Qt (P : Program) (o : Op) (σ : AS) (x : AV) : Prop :=
  ∀ (w0 : World) (m0 : Gv) (ρ : Env) (a : Act) (w : World) (d : Option Tmp) (ty : TypeId) (pos : String) (af : Array Edge) (gd : Option (Nat × Bool)), Rel P w0 m0 ρ σ a w →
    ∃ u, RepV P ρ w x u ∧ ∀ W, Below w.heap.size w W → Oper.quietAt P ⟨d, o, ty, pos, af, gd⟩ a (fun W => Below w.heap.size w W) W u
theorem QOp.qt {o : Op} {x : AV} (h : QOp P o σ x) : Qt P o σ x := fun w0 m0 ρ a w d ty pos af gd r => by
  obtain ⟨u, h1, h2⟩ := h w0 m0 ρ a w d ty pos af gd r
  refine ⟨u, h1, fun W hW => ?_⟩
  unfold Oper.quietAt
  rw [h2 W hW]
  exact ⟨rfl, rfl⟩
def plainC : List AC → Option (List Value)
  | [] => some []
  | .p v :: cs => (plainC cs).map (v :: ·)
  | _ => none
def plainW : AW → Option Value
  | .c (.p v) => some v
  | .agg cs => (plainC cs).map fun vs => .agg vs.toArray
  | _ => none
def plainWs : List AW → Option (List Value)
  | [] => some []
  | x :: xs => match plainW x, plainWs xs with
    | some v, some vs => some (v :: vs)
    | _, _ => none
def plainV : AV → Option Value
  | .c (.p v) => some v
  | .agg cs => (plainC cs).map fun vs => .agg vs.toArray
  | .tup ws => (plainWs ws).map fun vs => .tuple vs.toArray
  | _ => none
theorem plainC_rep : ∀ {cs : List AC} {vs : List Value}, plainC cs = some vs → cs = vs.map .p
  | [], vs, h => by simp [plainC] at h; subst h; rfl
  | x :: cs, vs, h => by
    cases x with
    | p v =>
      simp only [plainC, Option.map_eq_some_iff] at h
      obtain ⟨us, h1, rfl⟩ := h
      simp [plainC_rep h1]
    | _ => simp [plainC] at h
theorem repL_plain {ρ : Env} {w : World} : ∀ {us vs : List Value}, RepL P ρ w (us.map .p) vs → vs = us
  | [], [], _ => rfl
  | u :: us, v :: vs, h => by rw [show v = u from h.1, repL_plain h.2]
theorem plainW_rep {ρ : Env} {w : World} {x : AW} {v u : Value} (h : plainW x = some v) : RepW P ρ w x u ↔ u = v := by
  unfold plainW at h
  split at h
  · injection h with h; subst h; exact Iff.rfl
  · rw [Option.map_eq_some_iff] at h
    obtain ⟨us, h1, rfl⟩ := h
    have := plainC_rep h1
    subst this
    constructor
    · rintro ⟨vs, rfl, hl⟩
      have := repL_plain hl
      rw [← this]
    · rintro rfl
      exact ⟨_, rfl, repL_p us⟩
  · cases h
theorem plainWs_rep {ρ : Env} {w : World} : ∀ {xs : List AW} {vs us : List Value}, plainWs xs = some vs → (RepWs P ρ w xs us ↔ us = vs)
  | [], vs, us, h => by
    simp [plainWs] at h; subst h
    cases us with
    | nil => exact iff_of_true trivial rfl
    | cons u us => exact iff_of_false (fun h => h) (by simp)
  | x :: xs, vs, us, h => by
    simp only [plainWs] at h
    split at h
    · rename_i v vs' h1 h2
      injection h with h; subst h
      cases us with
      | nil => exact iff_of_false (fun h => h) (by simp)
      | cons u us =>
        show (RepW P ρ w x u ∧ RepWs P ρ w xs us) ↔ _
        rw [plainW_rep h1, plainWs_rep h2, List.cons.injEq]
    · cases h
theorem plainV_rep {ρ : Env} {w : World} {x : AV} {v u : Value} (h : plainV x = some v) : RepV P ρ w x u ↔ u = v := by
  unfold plainV at h
  split at h
  · injection h with h; subst h; exact Iff.rfl
  · rw [Option.map_eq_some_iff] at h
    obtain ⟨us, h1, rfl⟩ := h
    have := plainC_rep h1
    subst this
    constructor
    · rintro ⟨vs, rfl, hl⟩
      have := repL_plain hl
      rw [← this]
    · rintro rfl
      exact ⟨_, rfl, repL_p us⟩
  · rw [Option.map_eq_some_iff] at h
    obtain ⟨us, h1, rfl⟩ := h
    constructor
    · rintro ⟨vs, rfl, hl⟩
      have := (plainWs_rep h1).1 hl
      rw [← this]
    · rintro rfl
      exact ⟨_, rfl, (plainWs_rep h1).2 rfl⟩
  · cases h
/-- A call whose result is plain. -/
theorem qt_call {f : FuncId} {xs : List Operand} {ts : Array TypeId} {r : AV} {v : Value} (hf : callB P f = true) (hc : ACalls P f (xs.map fun x => (σ.ev x).ro) [] r [] 0) (hv : plainV r = some v) :
    Qt P (.call { callee := .value (.func f), args := xs.toArray, argTypes := ts }) σ r := fun w0 m0 ρ a w d ty pos af gd h => by
  refine ⟨v, (plainV_rep hv).2 rfl, fun W hW => ?_⟩
  unfold Oper.quietAt
  rw [run_call hf]
  have hW' := h.world hW
  have := hc [] W (xs.toArray.map a.eval) List.nodup_nil (by simp) rfl (by simp) (by simpa using RepVs.of hW' xs)
  refine ⟨rfl, this.mono ?_⟩
  rintro e w' ⟨u, om, ov, rfl, _, _, _, h1, _, _, hfr⟩
  rw [plainV_rep hv] at h1
  subst h1
  exact ⟨rfl, hW.trans (hfr.below.mono hW.size)⟩

variable {w0 : World} {m0 : Gv} {ops : Array Oper} {Q : Exit → AS → Prop} {rest : List Oper}
theorem ar_nil (h : Q .normal σ) : AR P w0 m0 ops Q [] σ := fun ρ a w r => wpList_nil ⟨ρ, σ, h, r⟩
theorem dr_nil (h : Q .normal σ) : DR P w0 m0 ops Q [] σ := fun ρ a w r => wpQuiet_nil fun W hW => ⟨ρ, σ, h, r.world hW⟩
theorem ar_qt {o : Op} {x : AV} {d : Option Tmp} {ty : TypeId} {pos : String} {af : Array Edge} (hq : Qt P o σ x) (h : AR P w0 m0 ops Q rest (σ.put d x)) : AR P w0 m0 ops Q (⟨d, o, ty, pos, af, none⟩ :: rest) σ := fun ρ a w r => by
  obtain ⟨u, h1, h2⟩ := hq w0 m0 ρ a w d ty pos af none r
  exact wpList_plain rfl fun K hK => Oper.wp_of_quiet (C := fun W => Below w.heap.size w W) (K := fun a' => a' = a.put d u) (Below.refl _ _)
    (fun a' w' hw' ha' => by subst ha'; exact hK _ _ (h ρ _ w' ((r.put d h1).world hw'))) ⟨u, h2, rfl⟩
theorem dr_qt {o : Op} {x : AV} {d : Option Tmp} {ty : TypeId} {pos : String} {af : Array Edge} (hq : Qt P o σ x) (h : DR P w0 m0 ops Q rest (σ.put d x)) : DR P w0 m0 ops Q (⟨d, o, ty, pos, af, none⟩ :: rest) σ := fun ρ a w r => by
  obtain ⟨u, h1, h2⟩ := hq w0 m0 ρ a w d ty pos af none r
  exact wpQuiet_step fun K hK => by
    rw [if_pos (show Region.wanted ⟨d, o, ty, pos, af, none⟩ (yielded ops a.tmps) = true from rfl)]
    exact ⟨u, h2, hK _ (h ρ _ w (r.put d h1))⟩
theorem ar_q {o : Op} {x : AV} {d : Option Tmp} {ty : TypeId} {pos : String} {af : Array Edge} (hq : QOp P o σ x) (h : AR P w0 m0 ops Q rest (σ.put d x)) : AR P w0 m0 ops Q (⟨d, o, ty, pos, af, none⟩ :: rest) σ := ar_qt hq.qt h
theorem dr_q {o : Op} {x : AV} {d : Option Tmp} {ty : TypeId} {pos : String} {af : Array Edge} (hq : QOp P o σ x) (h : DR P w0 m0 ops Q rest (σ.put d x)) : DR P w0 m0 ops Q (⟨d, o, ty, pos, af, none⟩ :: rest) σ := dr_qt hq.qt h
/-- The Bool that operation j has yielded. -/
def AS.yv (ops : Array Oper) (σ : AS) (j : Nat) : Option Bool := match (ops[j]?).bind (·.dst) with
  | some t => match σ.tm[t]? with
    | some (.c (.p (.bool b))) => some b
    | _ => none
  | none => none
theorem Rel.yv {ρ : Env} {a : Act} {w : World} (r : Rel P w0 m0 ρ σ a w) {j : Nat} {b : Bool} (h : σ.yv ops j = some b) : yielded ops a.tmps j = some b := by
  unfold AS.yv at h
  split at h
  · rename_i t ht
    split at h
    · rename_i b' hb
      injection h with h; subst h
      have h1 := r.tm t _ hb
      have hl : t < a.tmps.size := by rw [← r.tl]; exact (List.getElem?_eq_some_iff.1 hb).1
      unfold yielded
      rw [ht]
      have h2 : a.tmps[t]? = some (.bool b') := by
        rw [Array.getElem?_eq_getElem hl]
        rw [Array.getD_eq_getD_getElem?, Array.getElem?_eq_getElem hl] at h1
        exact congrArg some h1
      simp [h2]
    · cases h
  · cases h
theorem ar_gn {o : Op} {d : Option Tmp} {ty : TypeId} {pos : String} {af : Array Edge} {j : Nat} {b want : Bool} (hj : σ.yv ops j = some b) (hb : b = !want) (h : AR P w0 m0 ops Q rest (σ.put d (.c (.p undef)))) : AR P w0 m0 ops Q (⟨d, o, ty, pos, af, some (j, want)⟩ :: rest) σ := fun ρ a w r => by
  have hw : Region.wanted ⟨d, o, ty, pos, af, some (j, want)⟩ (yielded ops a.tmps) = false := by
    simp only [Region.wanted, r.yv hj, hb]; cases want <;> rfl
  exact wpList_skip hw (h ρ _ w (r.put d rfl))
theorem ar_gy {o : Op} {d : Option Tmp} {ty : TypeId} {pos : String} {af : Array Edge} {j : Nat} {b want : Bool} (hj : σ.yv ops j = some b) (hb : b = want) (h : AR P w0 m0 ops Q (⟨d, o, ty, pos, af, none⟩ :: rest) σ) : AR P w0 m0 ops Q (⟨d, o, ty, pos, af, some (j, want)⟩ :: rest) σ := fun ρ a w r => by
  have h1 := h ρ a w r
  have hw : Region.wanted ⟨d, o, ty, pos, af, some (j, want)⟩ (yielded ops a.tmps) = true := by
    simp only [Region.wanted, r.yv hj, hb]; cases want <;> rfl
  unfold wpList at h1 ⊢
  rw [if_pos hw]
  rw [if_pos (show Region.wanted ⟨d, o, ty, pos, af, none⟩ (yielded ops a.tmps) = true from rfl)] at h1
  exact h1
theorem dr_gn {o : Op} {d : Option Tmp} {ty : TypeId} {pos : String} {af : Array Edge} {j : Nat} {b want : Bool} (hj : σ.yv ops j = some b) (hb : b = !want) (h : DR P w0 m0 ops Q rest (σ.put d (.c (.p undef)))) : DR P w0 m0 ops Q (⟨d, o, ty, pos, af, some (j, want)⟩ :: rest) σ := fun ρ a w r => by
  have hw : Region.wanted ⟨d, o, ty, pos, af, some (j, want)⟩ (yielded ops a.tmps) = false := by
    simp only [Region.wanted, r.yv hj, hb]; cases want <;> rfl
  unfold wpQuiet
  rw [if_neg (by rw [hw]; exact Bool.false_ne_true)]
  exact h ρ _ w (r.put d rfl)
theorem dr_gy {o : Op} {d : Option Tmp} {ty : TypeId} {pos : String} {af : Array Edge} {j : Nat} {b want : Bool} (hj : σ.yv ops j = some b) (hb : b = want) (h : DR P w0 m0 ops Q (⟨d, o, ty, pos, af, none⟩ :: rest) σ) : DR P w0 m0 ops Q (⟨d, o, ty, pos, af, some (j, want)⟩ :: rest) σ := fun ρ a w r => by
  have h1 := h ρ a w r
  have hw : Region.wanted ⟨d, o, ty, pos, af, some (j, want)⟩ (yielded ops a.tmps) = true := by
    simp only [Region.wanted, r.yv hj, hb]; cases want <;> rfl
  unfold wpQuiet at h1 ⊢
  rw [if_pos hw]
  rw [if_pos (show Region.wanted ⟨d, o, ty, pos, af, none⟩ (yielded ops a.tmps) = true from rfl)] at h1
  exact h1
theorem ar_gs {o : Op} {d : Option Tmp} {ty : TypeId} {pos : String} {af : Array Edge} {j : Nat} {b want : Bool} (hj : σ.yv ops j = some b) (h1 : b = want → AR P w0 m0 ops Q (⟨d, o, ty, pos, af, none⟩ :: rest) σ) (h2 : b = (!want) → AR P w0 m0 ops Q rest (σ.put d (.c (.p undef)))) : AR P w0 m0 ops Q (⟨d, o, ty, pos, af, some (j, want)⟩ :: rest) σ := by
  by_cases h : b = want
  · exact ar_gy hj h (h1 h)
  · have h : b = !want := by cases b <;> cases want <;> simp_all
    exact ar_gn hj h (h2 h)
theorem dr_gs {o : Op} {d : Option Tmp} {ty : TypeId} {pos : String} {af : Array Edge} {j : Nat} {b want : Bool} (hj : σ.yv ops j = some b) (h1 : b = want → DR P w0 m0 ops Q (⟨d, o, ty, pos, af, none⟩ :: rest) σ) (h2 : b = (!want) → DR P w0 m0 ops Q rest (σ.put d (.c (.p undef)))) : DR P w0 m0 ops Q (⟨d, o, ty, pos, af, some (j, want)⟩ :: rest) σ := by
  by_cases h : b = want
  · exact dr_gy hj h (h1 h)
  · have h : b = !want := by cases b <;> cases want <;> simp_all
    exact dr_gn hj h (h2 h)
/-- The guard's own operation was left out. -/
def AS.yu (ops : Array Oper) (σ : AS) (j : Nat) : Bool := match (ops[j]?).bind (·.dst) with
  | some t => match σ.tm[t]? with
    | some (.c (.p (.tuple _))) => true
    | _ => false
  | none => false
theorem Rel.yu {ρ : Env} {a : Act} {w : World} (r : Rel P w0 m0 ρ σ a w) {j : Nat} (h : σ.yu ops j = true) : yielded ops a.tmps j = none := by
  unfold AS.yu at h
  split at h
  · rename_i t ht
    split at h
    · rename_i b' hb
      have h1 := r.tm t _ hb
      have hl : t < a.tmps.size := by rw [← r.tl]; exact (List.getElem?_eq_some_iff.1 hb).1
      unfold yielded
      rw [ht]
      have h2 : a.tmps[t]? = some (.tuple b') := by
        rw [Array.getElem?_eq_getElem hl]
        have h3 : a.tmps.getD t undef = .tuple b' := h1
        rw [Array.getD_eq_getD_getElem?, Array.getElem?_eq_getElem hl] at h3
        rw [← h3]; rfl
      show (match a.tmps[t]? with | some (.bool b) => some b | _ => none) = none
      rw [h2]
    · cases h
  · cases h
theorem ar_gu {o : Op} {d : Option Tmp} {ty : TypeId} {pos : String} {af : Array Edge} {j : Nat} {want : Bool} (hj : σ.yu ops j = true) (h : AR P w0 m0 ops Q rest (σ.put d (.c (.p undef)))) : AR P w0 m0 ops Q (⟨d, o, ty, pos, af, some (j, want)⟩ :: rest) σ := fun ρ a w r => by
  have hw : Region.wanted ⟨d, o, ty, pos, af, some (j, want)⟩ (yielded ops a.tmps) = false := by
    simp only [Region.wanted, r.yu hj]; rfl
  exact wpList_skip hw (h ρ _ w (r.put d rfl))
theorem dr_gu {o : Op} {d : Option Tmp} {ty : TypeId} {pos : String} {af : Array Edge} {j : Nat} {want : Bool} (hj : σ.yu ops j = true) (h : DR P w0 m0 ops Q rest (σ.put d (.c (.p undef)))) : DR P w0 m0 ops Q (⟨d, o, ty, pos, af, some (j, want)⟩ :: rest) σ := fun ρ a w r => by
  have hw : Region.wanted ⟨d, o, ty, pos, af, some (j, want)⟩ (yielded ops a.tmps) = false := by
    simp only [Region.wanted, r.yu hj]; rfl
  unfold wpQuiet
  rw [if_neg (by rw [hw]; exact Bool.false_ne_true)]
  exact h ρ _ w (r.put d rfl)
theorem awp_region {id : Nat} {l : List Oper} (h : AR P w0 m0 l.toArray Q l σ) : AWp P w0 m0 (.region id l.toArray false) Q σ := fun ρ a w r => wp_region_lit (h ρ a w r)
theorem awp_region_draw {id : Nat} {l : List Oper} (hm : P.follows .mixedOrders = true) (hB : Region.lexB .any l.toArray = true) (h : DR P w0 m0 l.toArray Q l σ) : AWp P w0 m0 (.region id l.toArray true) Q σ := fun ρ a w r =>
  wp_region_quiet hm hB (Below.drew (Below.refl _ _)) (by simpa using h ρ a w r)
end
end Go.Proofs.YtdlebdgdcpemmaaGreatDoor
namespace Go.Proofs.YtdlebdgdcpemmaaGreatDoor
open Go.RowKit
set_option linter.unusedVariables false

section
variable {P : Program} {σ : AS} {w0 : World} {m0 : Gv} {ρ : Env} {a : Act} {w : World}

/-- The cells of a value. -/
def AV.cells : AV → Option (List AC)
  | .c (.p (.agg _)) => none
  | .c (.p (.tuple _)) => none
  | .c .top => none
  | .c x => some [x]
  | .agg cs => some cs
  | .tup _ => none
theorem repL_cells {x : AV} {u : Value} {ys : List AC} (h : RepV P ρ w x u) (hy : x.cells = some ys) : RepL P ρ w ys u.cells.toList := by
  unfold AV.cells at hy
  split at hy
  · cases hy
  · cases hy
  · cases hy
  · rename_i x n1 n2 n3
    injection hy with hy
    subst hy
    have hu : u.cells = #[u] := by
      cases x with
      | top => exact absurd rfl n3
      | p v =>
        obtain rfl : u = v := h
        cases u <;> first | rfl | exact absurd rfl (n1 _) | exact absurd rfl (n2 _)
      | nl => obtain rfl : u = _ := h; rfl
      | sl e o xs => obtain ⟨A, c, rfl⟩ := (RepC.rdS h).val; rfl
      | ptr b o => obtain ⟨g, _, rfl⟩ := h; rfl
      | bsl b sn sc => obtain ⟨g, _, rfl⟩ := h; rfl
      | rp o cs => obtain ⟨g, off, rfl, _⟩ := h; rfl
      | sv v e xs => obtain ⟨_, _, h3⟩ := h; obtain ⟨A, c, rfl⟩ := h3.val; rfl
      | ep e n xs i j => obtain ⟨_, g, v, _, rfl, _⟩ := h; rfl
      | fo f bs => obtain ⟨vs, rfl, _⟩ := h; rfl
      | fr f css => obtain ⟨vs, rfl, _⟩ := h; rfl
    rw [hu]
    exact ⟨h, trivial⟩
  · injection hy with hy
    subst hy
    obtain ⟨vs, rfl, hl⟩ := h
    exact hl
  · cases hy

/-! ### A new block of the call's own -/
def AS.box (σ : AS) (ys : List AC) : AS := { σ with hp := σ.hp ++ [ys] }
theorem Rel.box (h : Rel P w0 m0 ρ σ a w) {ys : List AC} {vs : Array Value} (t : TypeId) (hl : RepL P ρ w ys vs.toList) :
    Rel P w0 m0 ⟨ρ.B, ρ.m ++ [w.heap.size], ρ.om, ρ.ov⟩ (σ.box ys) a (w.alloc (.cells vs t)) ∧ RepC P ⟨ρ.B, ρ.m ++ [w.heap.size], ρ.om, ρ.ov⟩ (w.alloc (.cells vs t)) (.ptr σ.hp.length 0) (.pointer (some ⟨w.heap.size, 0, none⟩)) := by
  have hsz : (w.alloc (.cells vs t)).heap.size = w.heap.size + 1 := World.size_alloc _ _
  have hold : ∀ g, g < w.heap.size → (w.alloc (.cells vs t)).heap[g]? = w.heap[g]? := fun g hg => Below.heap_alloc w _ g hg
  have st : Stab ρ w ⟨ρ.B, ρ.m ++ [w.heap.size], ρ.om, ρ.ov⟩ (w.alloc (.cells vs t)) := by
    refine ⟨rfl, by omega, fun g hg _ => hold g hg, fun b g hb => ?_, fun _ _ h => h, fun g hg h1 h2 => ⟨?_, h2⟩, fun g hg => (h.ob g hg).2.2, fun _ _ => rfl⟩
    · show (ρ.m ++ [w.heap.size])[b]? = some g
      rw [List.getElem?_append_left (List.getElem?_eq_some_iff.1 hb).1]; exact hb
    · show g ∉ ρ.m ++ [w.heap.size]
      simp only [List.mem_append, List.mem_singleton, not_or]
      exact ⟨h1, by omega⟩
  have hfr : Framed (m0.m ++ m0.l) w (w.alloc (.cells vs t)) := .of_below ((Below.refl _ _).alloc (Nat.le_refl _) _)
  have hw0 : w0.heap.size ≤ w.heap.size := h.fr.size
  refine ⟨⟨h.B, h.Bw, h.fr.trans hfr, ?_, ?_, ?_, ?_, h.no, h.lp, h.nx, by simp [AS.box, h.hl], fun b cs hc => ?_, h.tl, fun i x hx => (h.tm i x hx).keep st, h.df⟩, ?_⟩
  · obtain ⟨l, h1, h2⟩ := h.pre
    refine ⟨l ++ [w.heap.size], by rw [← List.append_assoc, ← h1], fun g hg => ?_⟩
    rcases List.mem_append.1 hg with hg | hg
    · exact h2 g hg
    · rw [List.mem_singleton.1 hg]; exact hw0
  · intro g hg
    rcases List.mem_append.1 hg with hg | hg
    · have := h.ml g hg; omega
    · rw [List.mem_singleton.1 hg]; omega
  · refine List.nodup_append.2 ⟨h.nd, by simp, fun x hx y hy => ?_⟩
    have := h.ml x hx
    rw [List.mem_singleton.1 hy]; omega
  · intro g hg
    obtain ⟨h1, h2, h3⟩ := h.ob g hg
    refine ⟨h1, by omega, ?_⟩
    simp only [List.mem_append, List.mem_singleton, not_or]
    exact ⟨h3, by omega⟩
  · simp only [AS.box] at hc
    by_cases hb : b < σ.hp.length
    · rw [List.getElem?_append_left hb] at hc
      obtain ⟨g, hg, us, t', h1, h2⟩ := h.hp b cs hc
      refine ⟨g, st.m b g hg, us, t', (hold g (h.ml g (List.mem_of_getElem? hg))).trans h1, h2.keep st⟩
    · rw [List.getElem?_append_right (by omega)] at hc
      have hb' : b = σ.hp.length := by
        have := (List.getElem?_eq_some_iff.1 hc).1; simp at this; omega
      subst hb'
      simp at hc
      subst hc
      refine ⟨w.heap.size, ?_, vs, ⟨t, (0, 0), .inl rfl⟩, heap_alloc_new w _, hl.keep st⟩
      show (ρ.m ++ [w.heap.size])[σ.hp.length]? = _
      rw [h.hl]; simp
  · refine ⟨w.heap.size, ?_, rfl⟩
    show (ρ.m ++ [w.heap.size])[σ.hp.length]? = _
    rw [h.hl]; simp

variable {ops : Array Oper} {Q : Exit → AS → Prop} {rest : List Oper} {d : Option Tmp} {ty : TypeId} {pos : String} {af : Array Edge}
theorem ar_val {o : Op} (x : AV) (τ : AS) (hq : ∀ ρ a w, Rel P w0 m0 ρ σ a w → ∃ u ρ' w', (execOp a.eval ⟨d, o, ty, pos, af, none⟩).run P w = .ok (.value u) w' ∧ Rel P w0 m0 ρ' τ a w' ∧ RepV P ρ' w' x u)
    (h : AR P w0 m0 ops Q rest (τ.put d x)) : AR P w0 m0 ops Q (⟨d, o, ty, pos, af, none⟩ :: rest) σ := fun ρ a w r => by
  obtain ⟨u, ρ', w', h1, h2, h3⟩ := hq ρ a w r
  refine wpList_plain rfl fun K hK => ?_
  unfold Oper.wp
  rw [h1]
  exact hK _ _ (h ρ' _ w' (h2.put d h3))
theorem ar_box {e : TypeId} {x : Operand} {ys : List AC} (hx : (σ.ev x).cells = some ys) (h : AR P w0 m0 ops Q rest ((σ.box ys).put d (.c (.ptr σ.hp.length 0)))) : AR P w0 m0 ops Q (⟨d, .box e x, ty, pos, af, none⟩ :: rest) σ :=
  ar_val _ _ (fun ρ a w r => by
    have hl := repL_cells (r.ev x) hx
    obtain ⟨h1, h2⟩ := r.box (vs := (a.eval x).cells) e hl
    exact ⟨_, _, _, by simp [execOp, Instr.box, newVar, newRow], h1, h2⟩) h
/-- The zero value's cells. -/
def zeroC (P : Program) (t : TypeId) : Option (List Value) := (P.info? t).bind fun i => i.zero.map fun z => z.cells.toList
theorem ar_alloc {e : TypeId} {ys : List Value} (hz : zeroC P e = some ys) (h : AR P w0 m0 ops Q rest ((σ.box (ys.map cstC)).put d (.c (.ptr σ.hp.length 0)))) : AR P w0 m0 ops Q (⟨d, .alloc e, ty, pos, af, none⟩ :: rest) σ :=
  ar_val _ _ (fun ρ a w r => by
    unfold zeroC at hz
    obtain ⟨i, hi, hz1⟩ := Option.bind_eq_some_iff.1 hz
    obtain ⟨z, hz2, rfl⟩ := Option.map_eq_some_iff.1 hz1
    obtain ⟨h1, h2⟩ := r.box (vs := z.cells) e (repL_cst _)
    have hzv : (zeroValue e).run P w = .ok z w := by
      simp only [zeroValue, typeInfo, Sem.run_bind, run_program, Result.andThen_ok, hi, Sem.run_pure]
      rw [hz2]; rfl
    exact ⟨_, _, _, by simp [execOp, Instr.alloc, hzv, newVar, newRow], h1, h2⟩) h

/-! ### A store -/
def okC : AC → Bool
  | .top => false
  | .p v => v.oneCell'
  | _ => true
theorem okC_one {x : AC} {v : Value} (hx : okC x = true) (h : RepC P ρ w x v) : v.oneCell' = true := by
  cases x with
  | top => cases hx
  | p u => obtain rfl : v = u := h; exact hx
  | nl => obtain rfl : v = _ := h; rfl
  | sl e o xs => obtain ⟨A, c, rfl⟩ := (RepC.rdS h).val; rfl
  | ptr b o => obtain ⟨g, _, rfl⟩ := h; rfl
  | bsl b sn sc => obtain ⟨g, _, rfl⟩ := h; rfl
  | rp o cs => obtain ⟨g, off, rfl, _⟩ := h; rfl
  | sv v e xs => obtain ⟨_, _, h3⟩ := h; obtain ⟨A, c, rfl⟩ := h3.val; rfl
  | ep e n xs i j => obtain ⟨_, g, v, _, rfl, _⟩ := h; rfl
  | fo f bs => obtain ⟨vs, rfl, _⟩ := h; rfl
  | fr f css => obtain ⟨vs, rfl, _⟩ := h; rfl
theorem okL_one : ∀ {xs : List AC} {vs : List Value}, xs.all okC = true → RepL P ρ w xs vs → ∀ v ∈ vs, v.oneCell' = true
  | [], [], _, _ => by simp
  | x :: xs, v :: vs, h, hl => by
    simp only [List.all_cons, Bool.and_eq_true] at h
    intro u hu
    rcases List.mem_cons.1 hu with rfl | hu
    · exact okC_one h.1 hl.1
    · exact okL_one h.2 hl.2 u hu
def setCells (cs : List AC) (o : Nat) (ys : List AC) : List AC := cs.take o ++ ys ++ cs.drop (o + ys.length)
def AS.sto (σ : AS) (b : Nat) (cs : List AC) : AS := { σ with hp := σ.hp.set b cs }
def sizeB (P : Program) (t : TypeId) (n : Nat) : Bool := (P.info? t).map (·.size) == some n
/-- A block of the call's own is written anew. -/
theorem Rel.sto (h : Rel P w0 m0 ρ σ a w) {b g : Nat} {cs : List AC} {vs : Array Value} (hb : ρ.m[b]? = some g) (w' : World) (t : TM vs) (hsz : w'.heap.size = w.heap.size) (hos : w'.os = w.os) (htp : w'.tape = w.tape) (hout : w'.output = w.output)
    (hoth : ∀ k, k ≠ g → w'.heap[k]? = w.heap[k]?) (hg : w'.heap[g]? = some (.cells vs t.t t.z)) (hl : RepL P ρ w cs vs.toList) : Rel P w0 m0 ρ (σ.sto b cs) a w' := by
  have hgm : g ∈ ρ.m := List.mem_of_getElem? hb
  have st : Stab ρ w ρ w' := ⟨rfl, by omega, fun k hk hn => hoth k (fun e => hn (e ▸ hgm)), fun _ _ h => h, fun _ _ h => h, fun _ _ h1 h2 => ⟨h1, h2⟩, fun g hg => (h.ob g hg).2.2, fun _ _ => rfl⟩
  have hfr : Framed (m0.m ++ m0.l) w0 w' := by
    refine ⟨hos.trans h.fr.os, htp.trans h.fr.tape, hout.trans h.fr.output, by rw [hsz]; exact h.fr.size, fun k hk hn => ?_⟩
    have hkg : k ≠ g := by
      rintro rfl
      obtain ⟨l, h1, h2⟩ := h.pre
      rw [h1] at hgm
      rcases List.mem_append.1 hgm with hm | hm
      · exact hn (List.mem_append_left _ hm)
      · have := h2 k hm; omega
    rw [hoth k hkg]
    exact h.fr.blk k hk hn
  refine { h with fr := hfr, ml := fun k hk => by rw [hsz]; exact h.ml k hk, ob := fun k hk => by rw [hsz]; exact h.ob k hk, hl := by simp [AS.sto, h.hl], hp := fun b' ds hd => ?_, tm := fun i x hx => (h.tm i x hx).keep st }
  simp only [AS.sto, List.getElem?_set] at hd
  by_cases hbb : b = b'
  · subst hbb
    rw [if_pos rfl] at hd
    split at hd
    · injection hd with hd
      subst hd
      exact ⟨g, hb, vs, t, hg, hl.keep st⟩
    · cases hd
  · rw [if_neg hbb] at hd
    obtain ⟨g', hg', us, t', h1, h2⟩ := h.hp b' ds hd
    have hne : g' ≠ g := by
      rintro rfl
      have hp := List.pairwise_iff_getElem.1 h.nd
      obtain ⟨l1, e1⟩ := List.getElem?_eq_some_iff.1 hb
      obtain ⟨l2, e2⟩ := List.getElem?_eq_some_iff.1 hg'
      rcases Nat.lt_or_gt_of_ne hbb with hlt | hlt
      · exact hp _ _ l1 l2 hlt (e1.trans e2.symm)
      · exact hp _ _ l2 l1 hlt (e2.trans e1.symm)
    exact ⟨g', hg', us, t', (hoth g' hne).trans h1, h2.keep st⟩
theorem ar_skip {o : Op} (τ : AS) (hq : ∀ ρ a w, Rel P w0 m0 ρ σ a w → ∃ ρ' w', (execOp a.eval ⟨d, o, ty, pos, af, none⟩).run P w = .ok .skip w' ∧ Rel P w0 m0 ρ' τ a w')
    (h : AR P w0 m0 ops Q rest (τ.put d .top)) : AR P w0 m0 ops Q (⟨d, o, ty, pos, af, none⟩ :: rest) σ := fun ρ a w r => by
  obtain ⟨ρ', w', h1, h2⟩ := hq ρ a w r
  refine wpList_plain rfl fun K hK => ?_
  unfold Oper.wp
  rw [h1]
  exact hK _ _ (h ρ' _ w' (h2.put d trivial))
theorem seg_size {vs : Array Value} {us : List Value} {o : Nat} (h : o + us.length ≤ vs.size) : (vs.toList.take o ++ us ++ vs.toList.drop (o + us.length)).toArray.size = vs.size := by
  simp; omega
/-- Cells that no mark covers are written. -/
theorem run_storeCells_mk (P : Program) (g o : Nat) (t : TypeId) (z : Nat × Nat) : ∀ (us : List Value) (i : Nat) (cur : Array Value) (w : World), w.heap[g]? = some (.cells cur t z) → (z = (0, 0) ∨ cur.size ≤ z.1) → o + i + us.length ≤ cur.size → (∀ v ∈ us, v.oneCell' = true) →
    (storeCells ⟨g, o, none⟩ us i).run P w = .ok () (w.setRow g (cur.toList.take (o + i) ++ us ++ cur.toList.drop (o + i + us.length)).toArray)
  | [], i, cur, w, hg, _, _, _ => by
    simp only [storeCells, List.append_nil, List.length_nil, Nat.add_zero, List.take_append_drop, Array.toArray_toList]
    rw [setRow_self w g cur t z hg]
    rfl
  | v :: us, i, cur, w, hg, hz, hl, h1 => by
    rw [List.length_cons] at hl
    have hi : o + i < cur.size := by omega
    have hno : w.frozen? ⟨g, o + i, none⟩ = false := by
      rcases hz with rfl | hz
      · simp [World.frozen?, hg]
      · simp [World.frozen?, hg]; omega
    have hone : (store ((⟨g, o, none⟩ : Addr).add i) v).run P w = .ok () (w.setRow g (cur.setIfInBounds (o + i) v)) := by
      rw [addr_add, run_store P w _ v _ (h1 v (by simp)), show w.cell? ⟨g, o + i, none⟩ = some cur[o + i] by simp [World.cell?, hg, hi]]
      simp [hno, setCell_eq_setRow w g (o + i) cur t z v hg]
    have ih := run_storeCells_mk P g o t z us (i + 1) (cur.setIfInBounds (o + i) v) (w.setRow g (cur.setIfInBounds (o + i) v)) (setRow_heap w g cur _ t _ hg) (hz.imp id fun h => by rw [Array.size_setIfInBounds]; exact h) (by rw [Array.size_setIfInBounds]; omega) (fun x hx => h1 x (List.mem_cons_of_mem _ hx))
    simp only [storeCells, Sem.run_bind, hone, Result.andThen_ok, ih, setRow_setRow]
    congr 3
    have e := list_seg_step cur.toList (o + i) v us (by simp; omega)
    simpa [Array.toList_setIfInBounds, Nat.add_assoc] using e
theorem ar_store {t : TypeId} {x y : Operand} {b o : Nat} {cs ys : List AC} (hx : σ.ev x = .c (.ptr b o)) (hh : σ.hp[b]? = some cs) (hy : (σ.ev y).cells = some ys) (hn : o + ys.length ≤ cs.length) (ht : sizeB P t ys.length = true) (hok : ys.all okC = true)
    (h : AR P w0 m0 ops Q rest ((σ.sto b (setCells cs o ys)).put d .top)) : AR P w0 m0 ops Q (⟨d, .store t x y, ty, pos, af, none⟩ :: rest) σ :=
  ar_skip _ (fun ρ a w r => by
    have h1 := r.ev x
    rw [hx] at h1
    obtain ⟨g, hg, he⟩ := h1
    obtain ⟨g', hg', vs, t', hb, hl⟩ := r.hp b cs hh
    obtain rfl : g = g' := by rw [hg] at hg'; injection hg'
    have hu := repL_cells (r.ev y) hy
    have hone := okL_one hok hu
    have hlen := hl.len
    have hulen := hu.len
    obtain ⟨ii, hi, hs⟩ := Option.map_eq_some_iff.1 (eq_of_beq ht)
    have hfit : o + (a.eval y).cells.toList.length ≤ vs.size := by rw [← hulen]; simp only [Array.length_toList] at hlen; omega
    have hst := run_storeCells_mk P g o t'.t t'.z (a.eval y).cells.toList 0 vs w hb t'.ok (by simpa using hfit) hone
    simp only [Nat.add_zero] at hst
    refine ⟨ρ, w.setRow g (vs.toList.take o ++ (a.eval y).cells.toList ++ vs.toList.drop (o + (a.eval y).cells.toList.length)).toArray, ?_, r.sto (cs := setCells cs o ys) (vs := (vs.toList.take o ++ (a.eval y).cells.toList ++ vs.toList.drop (o + (a.eval y).cells.toList.length)).toArray) hg _ ⟨t'.t, t'.z, t'.ok.imp id fun h => Nat.le_trans (Nat.le_of_eq (seg_size hfit)) h⟩ (size_setRow _ _ _) rfl rfl rfl (fun k hk => setRow_other w g k _ hk) (setRow_heap w g vs _ t'.t _ hb) ?_⟩
    · have hsz : (a.eval y).cells.size = ys.length := by rw [hulen]; simp
      simp [execOp, he, Instr.storeAt, Instr.sureAddr, storeVar, sizeOf, typeInfo, hi, hs, hsz, hst]
    · unfold setCells
      have h1 := (hl.take o).app hu
      have h2 := h1.app (hl.drop (o + ys.length))
      rw [hulen] at h2 ⊢
      simpa using h2) h

/-! ### New rows -/
def AS.row (σ : AS) : AS := { σ with nx := σ.nx + 1 }
/-- A new row of the call's own. -/
def Env.row (ρ : Env) (g : Nat) (v : Value) : Env := ⟨ρ.B, ρ.m, ρ.om ++ [g], fun x => if x = g then v else ρ.ov x⟩
theorem Rel.row (h : Rel P w0 m0 ρ σ a w) {w' : World} (g : Nat) (v : Value) (hb : Below w.heap.size w w') (hg : w.heap.size ≤ g) (hg' : g < w'.heap.size) :
    Rel P w0 m0 (ρ.row g v) σ.row a w' ∧ Stab ρ w (ρ.row g v) w' ∧ (ρ.om ++ [g])[σ.nx]? = some g := by
  have hw0 : w0.heap.size ≤ w.heap.size := h.fr.size
  have st : Stab ρ w (ρ.row g v) w' := by
    refine ⟨rfl, hb.size, fun k hk _ => hb.block k hk, fun _ _ h => h, fun b k hk => ?_, fun k hk h1 h2 => ⟨h1, ?_⟩, fun k hk => (h.ob k hk).2.2, fun k hk => ?_⟩
    · show (ρ.om ++ [g])[b]? = some k
      rw [List.getElem?_append_left (List.getElem?_eq_some_iff.1 hk).1]; exact hk
    · show k ∉ ρ.om ++ [g]
      simp only [List.mem_append, List.mem_singleton, not_or]
      exact ⟨h2, by omega⟩
    · show (if k = g then v else ρ.ov k) = ρ.ov k
      rw [if_neg (by have := (h.ob k hk).2.1; omega)]
  refine ⟨⟨h.B, h.Bw, h.fr.trans (.of_below hb), h.pre, fun k hk => Nat.lt_of_lt_of_le (h.ml k hk) hb.size, h.nd, fun k hk => ?_, ?_, fun j q hq => ?_, by simp [AS.row, Env.row, h.nx], h.hl, fun b cs hc => ?_, h.tl, fun i x hx => (h.tm i x hx).keep st, h.df⟩, st, ?_⟩
  · rcases List.mem_append.1 hk with hk | hk
    · obtain ⟨h1, h2, h3⟩ := h.ob k hk
      exact ⟨h1, Nat.lt_of_lt_of_le h2 hb.size, h3⟩
    · rw [List.mem_singleton.1 hk]
      exact ⟨.inr (by omega), hg', fun hm => by have := h.ml g hm; omega⟩
  · refine List.nodup_append.2 ⟨h.no, by simp, fun x hx y hy => ?_⟩
    have := (h.ob x hx).2.1
    rw [List.mem_singleton.1 hy]; omega
  · obtain ⟨h1, h2⟩ := h.lp j q hq
    exact ⟨st.om j q h1, by rw [st.ov q (List.mem_of_getElem? h1)]; exact h2⟩
  · obtain ⟨k, hk, us, t', h1, h2⟩ := h.hp b cs hc
    exact ⟨k, hk, us, t', (hb.block k (h.ml k (List.mem_of_getElem? hk))).trans h1, h2.keep st⟩
  · rw [← h.nx]; simp

/-! ### Append -/
theorem run_append_own' {P : Program} {w : World} {base : Nat} (t ty e : TypeId) (i : TypeInfo) (z : Value) (ht : P.underlying t = some (.slice e)) (hi : P.info? e = some i) (hz : i.zero = some z) (hzs : z.cells.size = i.size) (hsz : 0 < i.size)
    (v : Value) (n g : Nat) (xs : List Value) (hown : w.ownsRow base e i.size v n xs) (hvg : v.ownBlock = some g)
    (ad : Addr) (m c : Nat) (news : List Value) (hl : news.length = m * i.size) (hnews : ∀ j u, news[j]? = some u → w.cell? (ad.add j) = some u) (h1 : ∀ u ∈ news, u.oneCell' = true)
    (h63 : n + m ≤ maxLen) (hbytes : (n + m) * i.bytes ≤ 140737488355328) (hbase : base ≤ w.heap.size) :
    ∃ v' w' g', (Builtin.append_ #[t, t] ty #[v, .slice (some ad) m c]).run P w = .ok v' w' ∧ w'.ownsRow base e i.size v' (n + m) (xs ++ news) ∧ w.grownBy w' (some g) ∧ v'.ownBlock = some g' ∧ (g' = g ∨ w.heap.size ≤ g') := by
  obtain ⟨v', w', hr, h2, h3, h4⟩ := run_append_own (P := P) w base t ty e i z i.size i.bytes ht hi hz rfl rfl hzs hsz v n xs hown ad m c news hl hnews h1 h63 hbytes hbase
  rw [hvg] at h3
  have hsmall : n + m ≤ 9223372036854775807 := by simp only [maxLen] at h63; omega
  rcases hown.2 with ⟨rfl, _⟩ | ⟨g0, cap, cur, rfl, hbg, hg, hnc, hcm, hcs, htake⟩
  · simp [Value.ownBlock] at hvg
  · obtain rfl : g0 = g := by simpa [Value.ownBlock] using hvg
    by_cases hroom : n + m ≤ cap
    · have hfit : n * i.size + news.length ≤ cur.size := by rw [hl, hcs, ← Nat.add_mul]; exact Nat.mul_le_mul_right _ hroom
      have hr' := run_append_room (P := P) w t ty e i ht hi g0 n cap cur hg ad m c news hl hnews h1 hroom hfit
      rw [hr] at hr'
      injection hr' with e1 e2
      subst e1
      exact ⟨_, w', g0, hr, h2, h3, rfl, .inl rfl⟩
    · have holds : ∀ j u, xs[j]? = some u → w.cell? ((⟨g0, 0, none⟩ : Addr).add j) = some u := hown.cells (g := g0) rfl
      have hr' := run_append_grow (P := P) w t ty e i z ht hi hz ⟨g0, 0, none⟩ n cap xs hown.1 holds ad m c news hl hnews (by omega) (by omega) (growslice_fits (by omega) hbytes)
      rw [hr] at hr'
      injection hr' with e1 e2
      subst e1
      exact ⟨_, w', w.heap.size, hr, h2, h3, rfl, .inr (Nat.le_refl _)⟩
end
end Go.Proofs.YtdlebdgdcpemmaaGreatDoor
namespace Go.Proofs.YtdlebdgdcpemmaaGreatDoor
open Go.RowKit
set_option linter.unusedVariables false

section
variable {P : Program} {σ : AS} {w0 : World} {m0 : Gv} {ρ : Env} {a : Act} {w : World}
variable {ops : Array Oper} {Q : Exit → AS → Prop} {rest : List Oper} {d : Option Tmp} {ty : TypeId} {pos : String} {af : Array Edge}

/-- e can be an element of a row: its zero value is known, it has cells, few bytes. -/
def rowB (P : Program) (e : TypeId) : Bool := match P.info? e with
  | some i => decide (0 < i.size) && decide (i.bytes ≤ 1048576) && match i.zero with
    | some z => z.cells.size == i.size
    | none => false
  | none => false
theorem rowB_spec {e : TypeId} (h : rowB P e = true) : ∃ (i : TypeInfo) (z : Value), P.info? e = some i ∧ i.zero = some z ∧ z.cells.size = i.size ∧ 0 < i.size ∧ i.bytes ≤ 1048576 ∧ P.cellsOf e = i.size := by
  unfold rowB at h
  split at h
  · rename_i i hi
    simp only [Bool.and_eq_true, decide_eq_true_eq] at h
    obtain ⟨⟨h1, h2⟩, h3⟩ := h
    split at h3
    · rename_i z hz
      exact ⟨i, z, hi, hz, eq_of_beq h3, h1, h2, by simp [Program.cellsOf, hi]⟩
    · cases h3
  · cases h
def okE (ys : List (List Value)) : Prop := ∀ y ∈ ys, ∀ v ∈ y, v.oneCell' = true
theorem okE_flat {ys : List (List Value)} (h : okE ys) : ∀ v ∈ ys.flatten, v.oneCell' = true := by
  intro v hv
  obtain ⟨y, h1, h2⟩ := List.mem_flatten.1 hv
  exact h y h1 v h2
theorem RdS.lens {e : TypeId} {o : Ow} {xs : List (List Value)} {u : Value} (h : RdS P ρ w e o xs u) : ∀ x ∈ xs, x.length = P.cellsOf e := by
  intro x hx
  obtain ⟨i, hi, rfl⟩ := List.getElem_of_mem hx
  obtain ⟨_, _, _, _, _, _, h1, _⟩ := h.at_ (List.getElem?_eq_getElem hi)
  exact h1
/-- The source of an append, as cells. -/
theorem RdS.src {e : TypeId} {o : Ow} {xs : List (List Value)} {u : Value} (h : RdS P ρ w e o xs u) (hs : 0 < P.cellsOf e) :
    (xs = [] ∧ ∃ c, u = .slice none 0 c) ∨ ∃ ad c, u = .slice (some ad) xs.length c ∧ ∀ j v, xs.flatten[j]? = some v → w.cell? (ad.add j) = some v := by
  have hl := h.lens
  rcases h with ⟨rfl, A, c, rfl⟩ | ⟨g, off, c, rfl, hc, hg, ha, he⟩
  · cases A with
    | none => exact .inl ⟨rfl, c, rfl⟩
    | some ad => exact .inr ⟨ad, c, rfl, fun j v hv => by simp at hv⟩
  · refine .inr ⟨_, c, rfl, fun j v hv => ?_⟩
    obtain ⟨x, h1, h2⟩ := flat_inv hs hl hv
    have := (he _ x h1).2 _ v h2
    rw [addr_add, ← this, Nat.mul_comm, Nat.div_add_mod]
theorem nodup_set {l : List Nat} (h : l.Nodup) (k x : Nat) (hx : ∀ j, j ≠ k → l[j]? ≠ some x) : (l.set k x).Nodup := by
  have hp := List.pairwise_iff_getElem.1 h
  refine List.pairwise_iff_getElem.2 fun i j hi hj hij => ?_
  simp only [List.length_set] at hi hj
  rw [List.getElem_set, List.getElem_set]
  by_cases h1 : k = i
  · rw [if_pos h1, if_neg (by omega)]
    intro e
    exact hx j (by omega) (by rw [List.getElem?_eq_getElem hj, e])
  · rw [if_neg h1]
    by_cases h2 : k = j
    · rw [if_pos h2]
      intro e
      exact hx i (by omega) (by rw [List.getElem?_eq_getElem hi, e])
    · rw [if_neg h2]
      exact hp i j hi hj hij
def AS.drp (σ : AS) (k : Nat) : AS := { tm := σ.tm.map (AV.drop k), hp := σ.hp.map (List.map (AC.drop k)), nx := σ.nx }
/-- Row k is written or laid anew. -/
def Env.mov (ρ : Env) (k g' : Nat) (v : Value) : Env := ⟨ρ.B, ρ.m, ρ.om.set k g', fun x => if x = g' then v else ρ.ov x⟩
theorem Rel.moved (h : Rel P w0 m0 ρ σ a w) {k g g' : Nat} (v : Value) {w' : World} (hk : ρ.om[k]? = some g) (hg : w.grownBy w' (some g)) (hg' : g' = g ∨ w.heap.size ≤ g') (hl : g' < w'.heap.size) (hlp : ∀ (j q : Nat), m0.l[j]? = some q → j ≠ k ∨ (g' = q ∧ v = m0.v q)) :
    Move k ρ w g' (ρ.mov k g' v) w' ∧ Rel P w0 m0 (ρ.mov k g' v) (σ.drp k) a w' := by
  have hgm := List.mem_of_getElem? hk
  have mv : Move k ρ w g' (ρ.mov k g' v) w' := by
    refine ⟨rfl, hg.size, fun q hq hne => hg.block q hq (fun e => hne (by rw [hk]; exact e.symm)), rfl, rfl, h.no, ?_, fun q hq hne => ?_⟩
    · rcases hg' with rfl | hg'
      · exact .inl hk
      · exact .inr hg'
    · show (if q = g' then v else ρ.ov q) = ρ.ov q
      rw [if_neg]
      rintro rfl
      rcases hg' with rfl | hg'
      · exact hne hk
      · have := (h.ob q hq).2.1; omega
  have hw0 : w0.heap.size ≤ w.heap.size := h.fr.size
  have hog := h.ob g hgm
  refine ⟨mv, ⟨h.B, h.Bw, ?_, h.pre, fun q hq => Nat.lt_of_lt_of_le (h.ml q hq) hg.size, h.nd, fun q hq => ?_, ?_, fun j q hq => ?_, by simp [AS.drp, Env.mov, h.nx], by simp [AS.drp, Env.mov, h.hl], fun b cs hc => ?_, by simp [AS.drp, h.tl], fun i x hx => ?_, h.df⟩⟩
  · refine ⟨hg.os.trans h.fr.os, hg.tape.trans h.fr.tape, hg.output.trans h.fr.output, Nat.le_trans h.fr.size hg.size, fun q hq hn => ?_⟩
    refine (hg.block q (by omega) (fun e => ?_)).trans (h.fr.blk q hq hn)
    injection e with e; subst e
    rcases hog.1 with h1 | h1
    · exact hn (List.mem_append_right _ h1)
    · omega
  · rcases List.mem_or_eq_of_mem_set hq with hq | rfl
    · obtain ⟨h1, h2, h3⟩ := h.ob q hq
      exact ⟨h1, Nat.lt_of_lt_of_le h2 hg.size, h3⟩
    · rcases hg' with rfl | hg'
      · exact ⟨hog.1, hl, hog.2.2⟩
      · exact ⟨.inr (by omega), hl, fun hm => by have := h.ml _ hm; omega⟩
  · refine nodup_set h.no k g' fun j hj e => ?_
    rcases hg' with rfl | hg'
    · exact om_ne mv hj e hk
    · have := (h.ob g' (List.mem_of_getElem? e)).2.1
      omega
  · obtain ⟨h1, h2⟩ := h.lp j q hq
    by_cases hj : j = k
    · obtain ⟨e1, e2⟩ := (hlp j q hq).resolve_left (fun e => e hj)
      subst hj e1
      refine ⟨?_, ?_⟩
      · show (ρ.om.set j g')[j]? = some g'
        rw [List.getElem?_set_self (List.getElem?_eq_some_iff.1 h1).1]
      · show (if g' = g' then v else ρ.ov g') = m0.v g'
        rw [if_pos rfl]; exact e2
    · refine ⟨?_, by rw [mv.ov q (List.mem_of_getElem? h1) (om_ne mv hj h1)]; exact h2⟩
      show (ρ.om.set k g')[j]? = some q
      rw [List.getElem?_set_ne (fun e => hj e.symm)]; exact h1
  · simp only [AS.drp, List.getElem?_map] at hc
    obtain ⟨ds, hd, rfl⟩ := Option.map_eq_some_iff.1 hc
    obtain ⟨q, hq, us, t', h1, h2⟩ := h.hp b ds hd
    have hqm := List.mem_of_getElem? hq
    exact ⟨q, hq, us, t', (hg.block q (h.ml q hqm) (fun e => by injection e with e; subst e; exact hog.2.2 hqm)).trans h1, h2.moved mv⟩
  · simp only [AS.drp, List.getElem?_map] at hx
    obtain ⟨y, hy, rfl⟩ := Option.map_eq_some_iff.1 hx
    exact (h.tm i y hy).moved mv
theorem ar_append {t e : TypeId} {s x : Operand} {k : Nat} {o : Ow} {xs ys : List (List Value)} (ht : sliceE P t e = true) (hr : rowB P e = true) (hs : σ.ev s = .c (.sl e (.own k) xs)) (hx : σ.ev x = .c (.sl e o ys)) (hok : okE ys)
    (hb : xs.length + ys.length ≤ 134217728) (hl0 : m0.l = []) (h : AR P w0 m0 ops Q rest ((σ.drp k).put d (.c (.sl e (.own k) (xs ++ ys))))) :
    AR P w0 m0 ops Q (⟨d, .call { callee := .builtin .append, args := #[s, x], argTypes := #[t, t] }, ty, pos, af, none⟩ :: rest) σ :=
  ar_val _ _ (fun ρ a w r => by
    have h1 := r.ev s
    rw [hs] at h1
    obtain ⟨_, hlx, g, hg, hvv, hu, ho⟩ := h1
    have h2 := r.ev x
    rw [hx] at h2
    have h2 : RepC P ρ w (.sl e o ys) (a.eval x) := h2
    obtain ⟨i, z, hi, hz, hzs, hsz, hby, hce⟩ := rowB_spec hr
    obtain ⟨hu1, _⟩ := sliceE_spec ht
    have hle : (xs ++ ys).length = xs.length + ys.length := List.length_append
    have hlen : ∀ v ∈ xs ++ ys, v.length = P.cellsOf e := by
      intro v hv
      rcases List.mem_append.1 hv with hv | hv
      · exact hlx v hv
      · exact h2.rdS.lens v hv
    rcases h2.rdS.src (by omega) with ⟨rfl, c, he⟩ | ⟨ad, c, he, hc⟩
    · have hrun : (Builtin.append_ #[t, t] ty #[a.eval s, .slice none 0 c]).run P w = .ok (a.eval s) w := by
        rcases ho.2 with ⟨hv, _⟩ | ⟨g0, cap, cur, hv, _, _, hnc, _⟩
        · rw [hv] at hu; simp [Value.ownBlock] at hu
        · rw [hv]
          simp [Builtin.append_, run_underlying hu1, sizeOf, typeInfo, hi, Builtin.lenOf, Builtin.firstCells, hnc, storeCells]
      obtain ⟨mv, r'⟩ := r.moved (a.eval s) hg (World.grownBy.refl w _) (.inl rfl) (ownsRow_lt ho hu).2 (fun j q hq => by rw [hl0] at hq; simp at hq)
      refine ⟨a.eval s, _, w, ?_, r', ?_⟩
      · simp [execOp, resolve, invoke, builtin, he, hrun]
      · rw [List.append_nil]
        refine ⟨by omega, hlx, g, ?_, ?_, hu, ho⟩
        · show (ρ.om.set k g)[k]? = some g
          rw [List.getElem?_set_self (List.getElem?_eq_some_iff.1 hg).1]
        · show a.eval s = if g = g then a.eval s else ρ.ov g
          rw [if_pos rfl]
    · rw [hce] at ho hlen
      have hfl : ys.flatten.length = ys.length * i.size := flat_len (fun v hv => by rw [h2.rdS.lens v hv, hce])
      have hbase : ρ.B ≤ w.heap.size := by rw [r.B]; exact Nat.le_trans r.Bw r.fr.size
      obtain ⟨v', w', g', hrun, how, hgr, hv', hgg⟩ := run_append_own' t ty e i z hu1 hi hz hzs hsz (a.eval s) xs.length g xs.flatten ho hu ad ys.length c ys.flatten hfl hc (okE_flat hok) (by unfold maxLen; omega)
        (by have := Nat.mul_le_mul hb hby; omega) hbase
      obtain ⟨mv, r'⟩ := r.moved v' hg hgr hgg (ownsRow_lt how hv').2 (fun j q hq => by rw [hl0] at hq; simp at hq)
      refine ⟨v', _, w', ?_, r', ?_⟩
      · simp [execOp, resolve, invoke, builtin, he, hrun]
      · refine ⟨by omega, by rw [hce]; exact hlen, g', ?_, ?_, hv', ?_⟩
        · show (ρ.om.set k g')[k]? = some g'
          rw [List.getElem?_set_self (List.getElem?_eq_some_iff.1 hg).1]
        · show v' = if g' = g' then v' else ρ.ov g'
          rw [if_pos rfl]
        · rw [hce, List.flatten_append, List.length_append]; exact how) h
/-! ### Slices written out -/
theorem foldl_put (off : Nat) : ∀ (vs : List Value) (k : Nat) (cells : List Value), off + k + vs.length ≤ cells.length →
    (vs.zipIdx k).foldl (fun (cs : Array Value) (x : Value × Nat) => cs.setIfInBounds (off + x.2) x.1) cells.toArray = (cells.take (off + k) ++ vs ++ cells.drop (off + k + vs.length)).toArray
  | [], k, cells, h => by simp
  | v :: vs, k, cells, h => by
    rw [List.zipIdx_cons, List.foldl_cons]
    simp only [List.setIfInBounds_toArray]
    simp only [List.length_cons] at h
    rw [foldl_put off vs (k + 1) _ (by rw [List.length_set]; omega)]
    congr 1
    have hl : off + k < cells.length := by omega
    have hA : (cells.take (off + k)).length = off + k := by rw [List.length_take]; omega
    rw [List.set_eq_take_append_cons_drop, if_pos hl, show cells.take (off + k) ++ v :: cells.drop (off + k + 1) = (cells.take (off + k) ++ [v]) ++ cells.drop (off + k + 1) by simp]
    have hB : (cells.take (off + k) ++ [v]).length = off + (k + 1) := by rw [List.length_append, hA]; rfl
    rw [List.take_left' hB, show off + (k + 1) + vs.length = (cells.take (off + k) ++ [v]).length + vs.length by rw [hB], List.drop_length_add_append, List.drop_drop]
    simp [Nat.add_assoc, Nat.add_comm 1]
/-- Parts of s cells each, one behind the other. -/
theorem fill_list (s : Nat) : ∀ (us : List Value) (k : Nat) (cells : List Value), (∀ u ∈ us, u.cells.size = s) → (k + us.length) * s ≤ cells.length →
    Instr.fill (fun i => some (i * s, s)) cells.toArray ((List.range' k us.length).zip us) = some (cells.take (k * s) ++ us.flatMap (fun u => u.cells.toList) ++ cells.drop ((k + us.length) * s)).toArray
  | [], k, cells, _, _ => by simp [Instr.fill]
  | u :: us, k, cells, hu, h => by
    have h1 : u.cells.size = s := hu u (by simp)
    have h2 : (k + 1) * s ≤ cells.length := Nat.le_trans (Nat.mul_le_mul_right s (by simp)) h
    have h3 : k * s + s ≤ cells.length := by rw [Nat.add_mul] at h2; omega
    have hp := foldl_put (k * s) u.cells.toList 0 cells (by simp only [Array.length_toList]; omega)
    have hz : u.cells.zipIdx.foldl (fun (cs : Array Value) (x : Value × Nat) => cs.setIfInBounds (k * s + x.2) x.1) cells.toArray = (u.cells.toList.zipIdx 0).foldl (fun (cs : Array Value) (x : Value × Nat) => cs.setIfInBounds (k * s + x.2) x.1) cells.toArray := by
      rw [← Array.foldl_toList, Array.toList_zipIdx]
    have hl0 : (cells.take (k * s)).length = k * s := by rw [List.length_take]; omega
    have ih := fill_list s us (k + 1) (cells.take (k * s) ++ u.cells.toList ++ cells.drop (k * s + s)) (fun v hv => hu v (by simp [hv])) (by
      simp only [List.length_append, List.length_take, List.length_drop, Array.length_toList, h1]
      simp only [List.length_cons] at h
      have e1 : (k + 1 + us.length) * s = (k + (us.length + 1)) * s := by congr 1; omega
      rw [e1]; omega)
    simp only [List.length_cons, List.range'_succ, List.zip_cons_cons]
    show (if (decide (u.cells.size ≠ s) || decide (k * s + u.cells.size > cells.toArray.size)) = true then none else Instr.fill (fun i => some (i * s, s)) (u.cells.zipIdx.foldl (fun (cs : Array Value) (x : Value × Nat) => cs.setIfInBounds (k * s + x.2) x.1) cells.toArray) ((List.range' (k + 1) us.length).zip us)) = _
    rw [if_neg (by simp [h1]; first | done | omega), hz, hp]
    simp only [Nat.add_zero, Array.length_toList, h1]
    rw [ih]
    have hA : (cells.take (k * s) ++ u.cells.toList).length = (k + 1) * s := by rw [List.length_append, hl0, Array.length_toList, h1, Nat.add_mul]; omega
    congr 2
    rw [List.take_left' hA, List.flatMap_cons]
    have e1 : (k + 1 + us.length) * s = (cells.take (k * s) ++ u.cells.toList).length + us.length * s := by rw [hA, Nat.add_mul (k + 1)]
    rw [e1, List.drop_length_add_append, List.drop_drop]
    have e2 : k * s + s + us.length * s = (k + (us.length + 1)) * s := by rw [Nat.add_mul k, Nat.add_mul us.length]; omega
    rw [e2]
    simp
/-- .. and nothing else. -/
theorem fill_all (s : Nat) (us : List Value) (cells : List Value) (hu : ∀ u ∈ us, u.cells.size = s) (h : cells.length = us.length * s) :
    Instr.fill (fun i => some (i * s, s)) cells.toArray ((List.range' 0 us.length).zip us) = some (us.flatMap fun u => u.cells.toList).toArray := by
  have := fill_list s us 0 cells hu (by rw [Nat.zero_add]; omega)
  rw [this]
  simp [h]
/-- The cells of the parts, plain. -/
def partsV (σ : AS) : List (Nat × Operand) → Option (List (List Value))
  | [] => some []
  | q :: qs => match (σ.ev q.2).cells with
    | some cs => match plainC cs, partsV σ qs with
      | some y, some ys => some (y :: ys)
      | _, _ => none
    | none => none
theorem partsV_spec (r : Rel P w0 m0 ρ σ a w) : ∀ {qs : List (Nat × Operand)} {ys : List (List Value)}, partsV σ qs = some ys → qs.map (fun q => (a.eval q.2).cells.toList) = ys
  | [], ys, h => by simp [partsV] at h; subst h; rfl
  | q :: qs, ys, h => by
    simp only [partsV] at h
    split at h
    · rename_i cs hcs
      split at h
      · rename_i y ys' hy hys
        injection h with h; subst h
        have h1 := repL_cells (r.ev q.2) hcs
        rw [plainC_rep hy] at h1
        rw [List.map_cons, partsV_spec r hys, repL_plain h1]
      · cases h
    · cases h
def idxB : Nat → List (Nat × Operand) → Bool
  | _, [] => true
  | k, q :: qs => q.1 == k && idxB (k + 1) qs
theorem idxB_zip {f : Operand → Value} : ∀ {qs : List (Nat × Operand)} {k : Nat}, idxB k qs = true → qs.map (fun q => (q.1, f q.2)) = (List.range' k qs.length).zip (qs.map fun q => f q.2)
  | [], k, _ => by simp
  | q :: qs, k, h => by
    simp only [idxB, Bool.and_eq_true] at h
    have := eq_of_beq h.1
    simp only [List.map_cons, List.length_cons, List.range'_succ, List.zip_cons_cons, this]
    rw [idxB_zip h.2]
def sizeE (P : Program) (e : TypeId) (s : Nat) : Bool := P.cellsOf e == s
theorem ar_bslice (s : Nat) {t e : TypeId} {n : Nat} {qs : List (Nat × Operand)} {ys : List (List Value)} (hse : sizeE P e s = true) (ht : sliceE P t e = true) (hr : rowB P e = true) (hq : idxB 0 qs = true) (hn : qs.length = n) (hv : partsV σ qs = some ys)
    (hl : ys.all (fun y => y.length == s) = true) (hb : n * s ≤ 16777216) (h : AR P w0 m0 ops Q rest (σ.row.put d (.c (.sl e (.own σ.nx) ys)))) : AR P w0 m0 ops Q (⟨d, .buildSlice t n qs.toArray, ty, pos, af, none⟩ :: rest) σ :=
  ar_val _ _ (fun ρ a w r => by
    obtain ⟨i, z, hi, hz, hzs, hsz, hby, hce⟩ := rowB_spec hr
    obtain ⟨hu1, _⟩ := sliceE_spec ht
    have hs : i.size = s := by rw [← hce]; exact eq_of_beq hse
    have hys := partsV_spec r hv
    have hlen : ys.length = n := by rw [← hys, List.length_map, hn]
    have hall : ∀ y ∈ ys, y.length = s := fun y hy => eq_of_beq (List.all_eq_true.1 hl y hy)
    have hfl : ys.flatten.length = n * s := by rw [flat_len hall, hlen]
    let us := qs.map fun q => a.eval q.2
    have hus : us.flatMap (fun u => u.cells.toList) = ys.flatten := by
      rw [← hys, List.flatMap_def]
      simp [us, Function.comp_def]
    have hul : us.length = n := by simp [us, hn]
    have husz : ∀ u ∈ us, u.cells.size = s := by
      intro u hu
      have : u.cells.toList ∈ ys := by
        rw [← hys]
        obtain ⟨q, hq1, rfl⟩ := List.mem_map.1 hu
        exact List.mem_map.2 ⟨q, hq1, rfl⟩
      have := hall _ this
      simpa using this
    have hfill : ∀ c : Array Value, c.size = n * s → Instr.fill (fun i => some (i * s, s)) c (qs.map fun q => (q.1, a.eval q.2)) = some ys.flatten.toArray := by
      intro c hc
      have := fill_all s us c.toList husz (by simp [hul, hc])
      rw [hul, hus, Array.toArray_toList] at this
      rw [idxB_zip (f := a.eval) hq, hn]
      exact this
    have hbl : Below w.heap.size w (w.alloc (.cells ys.flatten.toArray e)) := (Below.refl _ _).alloc (Nat.le_refl _) _
    obtain ⟨r', st, hom⟩ := r.row w.heap.size (.slice (some ⟨w.heap.size, 0, none⟩) n n) hbl (Nat.le_refl _) (by rw [World.size_alloc]; omega)
    refine ⟨.slice (some ⟨w.heap.size, 0, none⟩) n n, _, w.alloc (.cells ys.flatten.toArray e), ?_, r', ?_⟩
    · have hnb : ¬ (n * s > 2 ^ 24) := by omega
      have hzv : (zeroValue e).run P w = .ok z w := by
        simp only [zeroValue, typeInfo, Sem.run_bind, run_program, Result.andThen_ok, hi, Sem.run_pure]
        rw [hz]; rfl
      have hso : (sizeOf e).run P w = .ok s w := by rw [size_cellsOf (t := t) (by rw [hi]; rfl), hce, hs]
      by_cases hn0 : n * s = 0
      · have e0 := hfill (Array.map (fun x => default) (Array.range 0)) (by simp [hn0])
        simp [execOp, Instr.buildSlice, run_underlying hu1, hso, hn0, e0, newRow]
      · have hf := hfill ((Array.range (n * s)).map fun k => z.cells[k % z.cells.size]!) (by simp)
        simp [execOp, Instr.buildSlice, run_underlying hu1, hso, hzv, hnb, hn0, hf, newRow]
    · refine ⟨?_, fun y hy => by rw [hall y hy]; exact (eq_of_beq hse).symm, w.heap.size, hom, ?_, rfl, ?_⟩
      · rw [hlen]
        have := Nat.le_mul_of_pos_right n (show 0 < s by omega)
        omega
      · show _ = if w.heap.size = w.heap.size then Value.slice (some ⟨w.heap.size, 0, none⟩) n n else ρ.ov w.heap.size
        rw [if_pos rfl]
      · have := Nat.le_mul_of_pos_right n (show 0 < s by omega)
        rw [hce, hs, hlen]
        refine ⟨hfl, .inr ⟨w.heap.size, n, ys.flatten.toArray, rfl, ?_, heap_alloc_new w _, Nat.le_refl _, by unfold maxLen; omega, by simp only [List.size_toArray]; exact hfl, ?_⟩⟩
        · show ρ.B ≤ _
          rw [r.B]; exact Nat.le_trans r.Bw r.fr.size
        · simp only []
          rw [← hfl, List.take_length]) h
end
end Go.Proofs.YtdlebdgdcpemmaaGreatDoor
namespace Go.Proofs.YtdlebdgdcpemmaaGreatDoor
open Go.RowKit
set_option linter.unusedVariables false

/-- A result's rows are numbered on behind the caller's. -/
def AC.sh (n : Nat) : AC → AC
  | .sl e (.own j) xs => .sl e (.own (n + j)) xs
  | x => x
def AW.sh (n : Nat) : AW → AW
  | .c x => .c (x.sh n)
  | .agg cs => .agg (cs.map (AC.sh n))
def AV.sh (n : Nat) : AV → AV
  | .c x => .c (x.sh n)
  | .agg cs => .agg (cs.map (AC.sh n))
  | .tup ws => .tup (ws.map (AW.sh n))
/-- A result's cell that speaks of no old memory. -/
def AC.fresh : AC → Bool
  | .p _ => true
  | .top => true
  | .nl => true
  | .sl _ (.own _) _ => true
  | _ => false
def AW.fresh : AW → Bool
  | .c x => x.fresh
  | .agg cs => cs.all AC.fresh
def AV.fresh : AV → Bool
  | .c x => x.fresh
  | .agg cs => cs.all AC.fresh
  | .tup ws => ws.all AW.fresh
section
variable {P : Program} {σ : AS} {w0 : World} {m0 : Gv} {ρ : Env} {a : Act} {w : World}
variable {ops : Array Oper} {Q : Exit → AS → Prop} {rest : List Oper} {d : Option Tmp} {ty : TypeId} {pos : String} {af : Array Edge}

structure Shift (n : Nat) (ρr : Env) (ρ : Env) : Prop where
  B : ρ.B ≤ ρr.B
  om : ∀ (j g : Nat), ρr.om[j]? = some g → ρ.om[n + j]? = some g
  ov : ∀ (j g : Nat), ρr.om[j]? = some g → ρ.ov g = ρr.ov g
theorem RepC.sh {n : Nat} {ρr : Env} (h : Shift n ρr ρ) {x : AC} {u : Value} (hf : x.fresh = true) (k : RepC P ρr w x u) : RepC P ρ w (x.sh n) u := by
  cases x with
  | p v => exact k
  | nl => exact k
  | sl e o xs =>
    cases o with
    | own j =>
      obtain ⟨h1, h2, g, h3, hv, h4, h5⟩ := k
      refine ⟨h1, h2, g, h.om j g h3, by rw [h.ov j g h3]; exact hv, h4, h5.1, ?_⟩
      rcases h5.2 with h6 | ⟨g', cap, cur, e1, e2, e3⟩
      · exact .inl h6
      · exact .inr ⟨g', cap, cur, e1, Nat.le_trans h.B e2, e3⟩
    | ro => cases hf
    | sub j => cases hf
  | top => exact trivial
  | ptr b o => cases hf
  | bsl b sn sc => cases hf
  | rp o cs => cases hf
  | sv v e xs => cases hf
  | ep e n xs i j => cases hf
  | fo f bs => cases hf
  | fr f css => cases hf
theorem RepL.sh {n : Nat} {ρr : Env} (h : Shift n ρr ρ) : ∀ {xs : List AC} {vs : List Value}, xs.all AC.fresh = true → RepL P ρr w xs vs → RepL P ρ w (xs.map (AC.sh n)) vs
  | [], [], _, _ => trivial
  | _ :: _, _ :: _, hf, k => by
    simp only [List.all_cons, Bool.and_eq_true] at hf
    exact ⟨k.1.sh h hf.1, RepL.sh h hf.2 k.2⟩
theorem RepW.sh {n : Nat} {ρr : Env} (h : Shift n ρr ρ) {x : AW} {u : Value} (hf : x.fresh = true) (k : RepW P ρr w x u) : RepW P ρ w (x.sh n) u := by
  cases x with
  | c x => exact RepC.sh h hf k
  | agg cs => obtain ⟨vs, rfl, hl⟩ := k; exact ⟨vs, rfl, hl.sh h hf⟩
theorem RepWs.sh {n : Nat} {ρr : Env} (h : Shift n ρr ρ) : ∀ {xs : List AW} {vs : List Value}, xs.all AW.fresh = true → RepWs P ρr w xs vs → RepWs P ρ w (xs.map (AW.sh n)) vs
  | [], [], _, _ => trivial
  | _ :: _, _ :: _, hf, k => by
    simp only [List.all_cons, Bool.and_eq_true] at hf
    exact ⟨k.1.sh h hf.1, RepWs.sh h hf.2 k.2⟩
theorem RepV.sh {n : Nat} {ρr : Env} (h : Shift n ρr ρ) {x : AV} {u : Value} (hf : x.fresh = true) (k : RepV P ρr w x u) : RepV P ρ w (x.sh n) u := by
  cases x with
  | c x => exact RepC.sh h hf k
  | agg cs => obtain ⟨vs, rfl, hl⟩ := k; exact ⟨vs, rfl, hl.sh h hf⟩
  | tup ws => obtain ⟨vs, rfl, hl⟩ := k; exact ⟨vs, rfl, hl.sh h hf⟩
def AS.rows (σ : AS) (k : Nat) : AS := { σ with nx := σ.nx + k }
/-- New rows of the call's own. -/
def Env.rows (ρ : Env) (om : List Nat) (ov : Nat → Value) : Env := ⟨ρ.B, ρ.m, ρ.om ++ om, fun x => if om.elem x then ov x else ρ.ov x⟩
theorem Rel.rows (h : Rel P w0 m0 ρ σ a w) {w' : World} {om : List Nat} (ov : Nat → Value) (hb : Below w.heap.size w w') (hn : om.Nodup) (ho : ∀ g ∈ om, w.heap.size ≤ g ∧ g < w'.heap.size) :
    Rel P w0 m0 (ρ.rows om ov) (σ.rows om.length) a w' := by
  have hw0 : w0.heap.size ≤ w.heap.size := h.fr.size
  have st : Stab ρ w (ρ.rows om ov) w' := by
    refine ⟨rfl, hb.size, fun k hk _ => hb.block k hk, fun _ _ h => h, fun b k hk => ?_, fun k hk h1 h2 => ⟨h1, ?_⟩, fun k hk => (h.ob k hk).2.2, fun k hk => ?_⟩
    · show (ρ.om ++ om)[b]? = some k
      rw [List.getElem?_append_left (List.getElem?_eq_some_iff.1 hk).1]; exact hk
    · show k ∉ ρ.om ++ om
      simp only [List.mem_append, not_or]
      exact ⟨h2, fun hm => by have := (ho k hm).1; omega⟩
    · show (if om.elem k then ov k else ρ.ov k) = ρ.ov k
      rw [if_neg]
      intro hm
      have := (ho k (List.elem_iff.1 hm)).1
      have := (h.ob k hk).2.1
      omega
  refine ⟨h.B, h.Bw, h.fr.trans (.of_below hb), h.pre, fun k hk => Nat.lt_of_lt_of_le (h.ml k hk) hb.size, h.nd, fun k hk => ?_, ?_, fun j q hq => ?_, by simp [AS.rows, Env.rows, h.nx], h.hl, fun b cs hc => ?_, h.tl, fun i x hx => (h.tm i x hx).keep st, h.df⟩
  · rcases List.mem_append.1 hk with hk | hk
    · obtain ⟨h1, h2, h3⟩ := h.ob k hk
      exact ⟨h1, Nat.lt_of_lt_of_le h2 hb.size, h3⟩
    · obtain ⟨h1, h2⟩ := ho k hk
      exact ⟨.inr (by omega), h2, fun hm => by have := h.ml k hm; omega⟩
  · refine List.nodup_append.2 ⟨h.no, hn, fun x hx y hy => ?_⟩
    have := (h.ob x hx).2.1
    have := (ho y hy).1
    omega
  · obtain ⟨h1, h2⟩ := h.lp j q hq
    exact ⟨st.om j q h1, by rw [st.ov q (List.mem_of_getElem? h1)]; exact h2⟩
  · obtain ⟨k, hk, us, t', h1, h2⟩ := h.hp b cs hc
    exact ⟨k, hk, us, t', (hb.block k (h.ml k (List.mem_of_getElem? hk))).trans h1, h2.keep st⟩
theorem ar_enter {o : Op} (x : AV) (τ : AS) {f : FuncId} (hq : ∀ ρ a w, Rel P w0 m0 ρ σ a w → ∃ vs, (execOp a.eval ⟨d, o, ty, pos, af, none⟩).run P w = .ok (.enter f vs) w ∧ Calls P f vs w fun e w' => ∃ u ρ', e = .returned u ∧ Rel P w0 m0 ρ' τ a w' ∧ RepV P ρ' w' x u)
    (h : AR P w0 m0 ops Q rest (τ.put d x)) : AR P w0 m0 ops Q (⟨d, o, ty, pos, af, none⟩ :: rest) σ := fun ρ a w r => by
  obtain ⟨vs, h1, h2⟩ := hq ρ a w r
  refine wpList_plain rfl fun K hK => ?_
  unfold Oper.wp
  rw [h1]
  refine h2.mono ?_
  rintro e w' ⟨u, ρ', rfl, h3, h4⟩
  exact hK _ _ (h ρ' _ w' (h3.put d h4))
/-- A call that hands back new rows. -/
theorem ar_call {f : FuncId} {xs : List Operand} {ts : Array TypeId} {r : AV} {k : Nat} (hf : callB P f = true) (hc : ACalls P f (xs.map fun x => (σ.ev x).ro) [] r [] k) (hr : r.fresh = true)
    (h : AR P w0 m0 ops Q rest ((σ.rows k).put d (r.sh σ.nx))) : AR P w0 m0 ops Q (⟨d, .call { callee := .value (.func f), args := xs.toArray, argTypes := ts }, ty, pos, af, none⟩ :: rest) σ :=
  ar_enter (r.sh σ.nx) (σ.rows k) (f := f) (fun ρ a w q => by
    refine ⟨_, run_call hf _ _ _ _ _ _ _ _ _, ?_⟩
    have := hc [] w (xs.toArray.map a.eval) List.nodup_nil (by simp) rfl (by simp) (by simpa using RepVs.of q xs)
    refine this.mono ?_
    rintro e w' ⟨u, om, ov, rfl, h1, rfl, h2, h3, _, _, hfr⟩
    have hb := hfr.below
    refine ⟨u, _, rfl, q.rows ov hb h1 h2, h3.sh ⟨?_, fun j g hj => ?_, fun j g hj => ?_⟩ hr⟩
    · show ρ.B ≤ w.heap.size
      rw [q.B]; exact Nat.le_trans q.Bw q.fr.size
    · show (ρ.om ++ om)[σ.nx + j]? = some g
      rw [List.getElem?_append_right (by rw [q.nx]; omega), q.nx, Nat.add_sub_cancel_left]; exact hj
    · show (if om.elem g then ov g else ρ.ov g) = ov g
      rw [if_pos (List.elem_iff.2 (List.mem_of_getElem? hj))]) h

/-! ### A pointer handed down -/
/-! ### From a body to a contract -/
def AC.ren (ids : List Nat) : AC → AC
  | .sl e (.own j) xs => .sl e (.own (ids.getD j 0)) xs
  | x => x
def AW.ren (ids : List Nat) : AW → AW
  | .c x => .c (x.ren ids)
  | .agg cs => .agg (cs.map (AC.ren ids))
def resV (tmps : Array Value) : ResultVar → Sem Value
  | .tmp t => pure (tmps.getD t undef)
  | .cell ad t => do loadVar t (← asAddr (tmps.getD ad undef))
theorem results_eq (fn : Func) (tmps : Array Value) : results fn tmps = (do let vs ← fn.results.mapM (resV tmps); pure (if h : vs.size = 1 then vs[0] else .tuple vs)) := by
  unfold results
  congr 1
/-- The results are these. -/
def ARes (P : Program) (σ : AS) (rs : List ResultVar) (ws : List AW) : Prop :=
  ∀ (w0 : World) (m0 : Gv) (ρ : Env) (a : Act) (w : World), Rel P w0 m0 ρ σ a w → ∃ vs : List Value, (rs.mapM (resV a.tmps)).run P w = .ok vs w ∧ RepWs P ρ w ws vs
theorem RepWs.len : ∀ {ws : List AW} {vs : List Value}, RepWs P ρ w ws vs → ws.length = vs.length
  | [], [], _ => rfl
  | _ :: _, _ :: _, h => by simp [RepWs.len h.2]
theorem ares_nil : ARes P σ [] [] := fun _ _ ρ a w r => ⟨[], rfl, trivial⟩
theorem repW_av {x : AW} {u : Value} (h : RepV P ρ w x.av u) : RepW P ρ w x u := by cases x <;> exact h
theorem ares_tmp {t : Tmp} {rs : List ResultVar} {ws : List AW} (x : AW) (hx : σ.tm[t]? = some x.av) (h : ARes P σ rs ws) : ARes P σ (.tmp t :: rs) (x :: ws) := fun w0 m0 ρ a w r => by
  obtain ⟨vs, h1, h2⟩ := h w0 m0 ρ a w r
  refine ⟨a.tmps.getD t undef :: vs, ?_, repW_av (r.tm t _ hx), h2⟩
  have hv : (resV a.tmps (.tmp t)).run P w = .ok (a.tmps.getD t undef) w := rfl
  rw [List.mapM_cons]
  simp only [Sem.run_bind, hv, h1, Sem.run_pure, Result.andThen_ok]
theorem ares_cell_a {ad : Tmp} {t : TypeId} {b : Nat} {cs : List AC} {rs : List ResultVar} {ws : List AW} (hx : σ.tm[ad]? = some (.c (.ptr b 0))) (hh : σ.hp[b]? = some cs) {n : Nat} (hn : cs.length = n) (ht : aggB P t n = true) (h : ARes P σ rs ws) : ARes P σ (.cell ad t :: rs) (.agg cs :: ws) := fun w0 m0 ρ a w r => by
  rw [← hn] at ht
  obtain ⟨vs, h1, h2⟩ := h w0 m0 ρ a w r
  obtain ⟨g, hg, he⟩ := r.tm ad _ hx
  obtain ⟨g', hg', us, t', hb, hl⟩ := r.hp b cs hh
  obtain rfl : g = g' := by rw [hg] at hg'; injection hg'
  rw [hl.len] at ht
  have hc := run_load_agg (P := P) (W := w) (g := g) (o := 0) ht (fun j v hv => by
    rw [Nat.zero_add, cell_of_row w g j us t'.t t'.z hb, ← Array.getElem?_toList]; exact hv)
  refine ⟨.agg us :: vs, ?_, ⟨us, rfl, hl⟩, h2⟩
  have hv : (resV a.tmps (.cell ad t)).run P w = .ok (.agg us) w := by simp [resV, he, asAddr, hc]
  rw [List.mapM_cons]
  simp only [Sem.run_bind, hv, h1, Sem.run_pure, Result.andThen_ok]
def one (ws : List AW) : AV := match ws with
  | [x] => x.av
  | ws => .tup ws
/-- The state at the end gives ws (the rows ids, in this order), and hp' in the blocks that were handed in. -/
structure AEnd (P : Program) (n : Nat) (fn : Func) (ws : List AW) (hp' : List (List AC)) (k : Nat) (σ : AS) : Prop where
  res : ∃ ids, ids.length = k ∧ ids.Nodup ∧ (∀ i ∈ ids, i < σ.nx) ∧ ARes P σ fn.results.toList (ws.map (AW.ren ids))
  hp : σ.hp.take n = hp' ∧ hp'.length = n
structure Ren (ids : List Nat) (m : List Nat) (ρ : Env) : Prop where
  m : ∀ g ∈ m, g ∈ ρ.m
  lt : ∀ i ∈ ids, i < ρ.om.length
/-- A result's cell that needs no block of the call's own but its rows. -/
def AC.out : AC → Bool
  | .p _ => true
  | .top => true
  | .nl => true
  | .sl _ .ro _ => true
  | .sl _ (.own _) _ => true
  | .sv _ _ _ => true
  | _ => false
def AW.out : AW → Bool
  | .c x => x.out
  | .agg cs => cs.all AC.out
def AC.ids (n : Nat) : AC → Bool
  | .sl _ (.own j) _ => decide (j < n)
  | _ => true
theorem RepC.ren {ids m : List Nat} (h : Ren ids m ρ) {x : AC} {u : Value} (ho : x.out = true) (hl : x.ids ids.length = true) (k : RepC P ρ w (x.ren ids) u) : RepC P ⟨ρ.B, m, ids.map fun i => ρ.om.getD i 0, ρ.ov⟩ w x u := by
  have ro : ∀ {e xs u}, RdS P ρ w e .ro xs u → RdS P ⟨ρ.B, m, ids.map fun i => ρ.om.getD i 0, ρ.ov⟩ w e .ro xs u := by
    intro e xs u q
    rcases q with q | ⟨g, off, c, rfl, hc, hg, ha, he⟩
    · exact .inl q
    · refine .inr ⟨g, off, c, rfl, hc, hg, ⟨fun hm => ha.1 (h.m g hm), fun hm => ?_⟩, he⟩
      obtain ⟨i, hi, rfl⟩ := List.mem_map.1 hm
      apply ha.2
      have := h.lt i hi
      rw [List.getD_eq_getElem?_getD, List.getElem?_eq_getElem this]
      exact List.getElem_mem this
  cases x with
  | p v => exact k
  | nl => exact k
  | sl e o xs =>
    cases o with
    | own j =>
      obtain ⟨h1, h2, g, h3, hv, h4, h5⟩ := k
      have hj : j < ids.length := of_decide_eq_true hl
      refine ⟨h1, h2, g, ?_, hv, h4, h5⟩
      show (ids.map fun i => ρ.om.getD i 0)[j]? = some g
      rw [List.getElem?_map, List.getElem?_eq_getElem hj]
      rw [List.getD_eq_getElem?_getD, List.getElem?_eq_getElem hj] at h3
      simp only [Option.getD_some] at h3
      rw [Option.map_some, List.getD_eq_getElem?_getD, h3]
      rfl
    | ro => exact ⟨k.1, ro k.2⟩
    | sub j => cases ho
  | sv v e xs => exact ⟨k.1, k.2.1, ro k.2.2⟩
  | top => exact trivial
  | ptr b o => cases ho
  | bsl b sn sc => cases ho
  | rp o cs => cases ho
  | ep e n xs i j => cases ho
  | fo f bs => cases ho
  | fr f css => cases ho
theorem RepL.ren {ids m : List Nat} (h : Ren ids m ρ) : ∀ {xs : List AC} {vs : List Value}, xs.all AC.out = true → xs.all (AC.ids ids.length) = true → RepL P ρ w (xs.map (AC.ren ids)) vs → RepL P ⟨ρ.B, m, ids.map fun i => ρ.om.getD i 0, ρ.ov⟩ w xs vs
  | [], [], _, _, _ => trivial
  | _ :: _, _ :: _, ho, hi, k => by
    simp only [List.all_cons, Bool.and_eq_true] at ho hi
    exact ⟨k.1.ren h ho.1 hi.1, RepL.ren h ho.2 hi.2 k.2⟩
def AW.ids (n : Nat) : AW → Bool
  | .c x => x.ids n
  | .agg cs => cs.all (AC.ids n)
theorem RepW.ren {ids m : List Nat} (h : Ren ids m ρ) {x : AW} {u : Value} (ho : x.out = true) (hl : x.ids ids.length = true) (k : RepW P ρ w (x.ren ids) u) : RepW P ⟨ρ.B, m, ids.map fun i => ρ.om.getD i 0, ρ.ov⟩ w x u := by
  cases x with
  | c x => exact RepC.ren h ho hl k
  | agg cs => obtain ⟨vs, rfl, q⟩ := k; exact ⟨vs, rfl, q.ren h ho hl⟩
theorem RepWs.ren {ids m : List Nat} (h : Ren ids m ρ) : ∀ {xs : List AW} {vs : List Value}, xs.all AW.out = true → xs.all (AW.ids ids.length) = true → RepWs P ρ w (xs.map (AW.ren ids)) vs → RepWs P ⟨ρ.B, m, ids.map fun i => ρ.om.getD i 0, ρ.ov⟩ w xs vs
  | [], [], _, _, _ => trivial
  | _ :: _, _ :: _, ho, hi, k => by
    simp only [List.all_cons, Bool.and_eq_true] at ho hi
    exact ⟨k.1.ren h ho.1 hi.1, RepWs.ren h ho.2 hi.2 k.2⟩
/-- A cell that a block handed in may hold at the end. -/
def AC.back : AC → Bool
  | .top => true
  | .p _ => true
  | .nl => true
  | .sl _ .ro _ => true
  | .sv _ _ _ => true
  | _ => false
theorem RepC.back {m : List Nat} {B : Nat} (h : ∀ g ∈ m, g ∈ ρ.m) {x : AC} {u : Value} (hb : x.back = true) (k : RepC P ρ w x u) : RepC P (E0 B m) w x u := by
  have ro : ∀ {e xs u}, RdS P ρ w e .ro xs u → RdS P (E0 B m) w e .ro xs u := by
    intro e xs u q
    rcases q with q | ⟨g, off, c, rfl, hc, hg, ha, he⟩
    · exact .inl q
    · exact .inr ⟨g, off, c, rfl, hc, hg, ⟨fun hm => ha.1 (h g hm), by simp [E0]⟩, he⟩
  cases x with
  | top => trivial
  | p v => exact k
  | nl => exact k
  | sl e o xs =>
    cases o with
    | ro => exact ⟨k.1, ro k.2⟩
    | own j => cases hb
    | sub j => cases hb
  | sv v e xs => exact ⟨k.1, k.2.1, ro k.2.2⟩
  | ptr b o => cases hb
  | bsl b sn sc => cases hb
  | rp o cs => cases hb
  | ep e n xs i j => cases hb
  | fo f bs => cases hb
  | fr f css => cases hb
theorem RepL.back {m : List Nat} {B : Nat} (h : ∀ g ∈ m, g ∈ ρ.m) : ∀ {xs : List AC} {vs : List Value}, xs.all AC.back = true → RepL P ρ w xs vs → RepL P (E0 B m) w xs vs
  | [], [], _, _ => trivial
  | _ :: _, _ :: _, hb, k => by
    simp only [List.all_cons, Bool.and_eq_true] at hb
    exact ⟨k.1.back h hb.1, RepL.back h hb.2 k.2⟩
theorem RepVs.get : ∀ {xs : List AV} {vs : List Value} {i : Nat} {x : AV}, RepVs P ρ w xs vs → xs[i]? = some x → ∃ v, vs[i]? = some v ∧ RepV P ρ w x v
  | _ :: _, v :: _, 0, x, h, hx => by simp at hx; subst hx; exact ⟨v, rfl, h.1⟩
  | _ :: _, _ :: _, i + 1, x, h, hx => by simp at hx; simpa using RepVs.get h.2 hx
theorem RepVs.len : ∀ {xs : List AV} {vs : List Value}, RepVs P ρ w xs vs → xs.length = vs.length
  | [], [], _ => rfl
  | _ :: _, _ :: _, h => by simp [RepVs.len h.2]
/-- A function's contract out of its body. -/
theorem acalls_of {f : FuncId} {fn : Func} {c : Code} {args : List AV} {hp hp' : List (List AC)} {ws : List AW} {k : Nat} (hf : P.funcs[f]? = some fn) (hb : fn.body = some c) (ho : ws.all AW.out = true) (hi : ws.all (AW.ids k) = true) (hback : hp'.all (fun cs => cs.all AC.back) = true)
    (h : ∀ w0 B m, m.length = hp.length → AWp P w0 ⟨B, m, [], fun _ => .tuple #[]⟩ c (fun e σ => (e = .normal ∨ e = .ret) ∧ AEnd P hp.length fn ws hp' k σ) ⟨args ++ List.replicate (fn.ntmps - args.length) .top, hp, 0⟩) : ACalls P f args hp (one ws) hp' k := by
  intro m w vs hnd hlt hlen hhp hargs
  have hal := hargs.len
  have hvs : vs.size = args.length := by rw [hal]; simp
  refine calls_of_wp hf hb (wp_mono (h w w.heap.size m hlen (E0 w.heap.size m) _ w ?_) ?_)
  · refine ⟨rfl, Nat.le_refl _, .refl _ _, ⟨[], by simp [E0], by simp⟩, hlt, hnd, by simp [E0], by simp [E0], by simp, rfl, hlen.symm, hhp, by simp [hvs], fun i x hx => ?_, rfl⟩
    show RepV P _ w x ((vs ++ Array.replicate (fn.ntmps - vs.size) undef).getD i undef)
    by_cases hi : i < args.length
    · rw [List.getElem?_append_left hi] at hx
      obtain ⟨v, h1, h2⟩ := hargs.get hx
      rw [Array.getD_eq_getD_getElem?, Array.getElem?_append_left (by omega), ← Array.getElem?_toList, h1]
      exact h2
    · rw [List.getElem?_append_right (by omega)] at hx
      have := List.mem_of_getElem? hx
      rw [(List.mem_replicate.1 this).2]
      exact RepV.top
  · rintro e a w' ⟨ρ, σ, ⟨he, ⟨ids, h1, h2, h3, hres⟩, ⟨h4, h5⟩⟩, r⟩
    obtain ⟨us, hrun, hws⟩ := hres w _ ρ a w' r
    have hren : Ren ids m ρ := ⟨fun g hg => by obtain ⟨l, e1, _⟩ := r.pre; rw [e1]; exact List.mem_append_left _ hg, fun i hi => by rw [r.nx]; exact h3 i hi⟩
    have hws' := hws.ren hren ho (by rw [h1]; exact hi)
    have hul := hws'.len
    have hbase : ρ.B = w.heap.size := r.B
    -- the value
    have hval : ∃ u, (results fn a.tmps).run P w' = .ok u w' ∧ RepV P ⟨ρ.B, m, ids.map fun i => ρ.om.getD i 0, ρ.ov⟩ w' (one ws) u := by
      rw [results_eq]
      have hm : (fn.results.mapM (resV a.tmps)).run P w' = .ok us.toArray w' := by
        rw [Array.mapM_eq_mapM_toList]
        simp only [Sem.run_map, hrun]
        rfl
      simp only [Sem.run_bind, hm, Result.andThen_ok, Sem.run_pure]
      have hul' : us.length = ws.length := hul.symm
      match ws, us, hws', hul' with
      | [x], [u], hws', _ => exact ⟨u, rfl, by cases x <;> exact hws'.1⟩
      | [], [], _, _ => exact ⟨_, rfl, _, rfl, trivial⟩
      | x :: y :: ws, u :: v :: us, hws', _ =>
        refine ⟨.tuple (u :: v :: us).toArray, ?_, _, rfl, hws'⟩
        simp
    obtain ⟨u, hu1, hu2⟩ := hval
    have hpost : a.defers = [] ∧ ∃ v, (results fn a.tmps).run P w' = .ok v w' ∧ (∃ (u : Value) (om : List Nat) (ov : Nat → Value), Ending.returned v = .returned u ∧ om.Nodup ∧ om.length = k ∧ (∀ g ∈ om, w.heap.size ≤ g ∧ g < w'.heap.size) ∧ RepV P ⟨w.heap.size, m, om, ov⟩ w' (one ws) u ∧
        hp'.length = hp.length ∧ (∀ (b : Nat) cs, hp'[b]? = some cs → ∃ g : Nat, m[b]? = some g ∧ HpAt P (E0 w.heap.size m) w' cs g) ∧ Framed m w w') := by
      have hfrm : Framed m w w' := by have := r.fr; simpa using this
      refine ⟨r.df, u, hu1, u, ids.map fun i => ρ.om.getD i 0, ρ.ov, rfl, ?_, by simp [h1], fun g hg => ?_, by rw [← hbase]; exact hu2, h5, fun b cs hc => ?_, hfrm⟩
      · refine List.pairwise_map.2 (List.Pairwise.imp_of_mem (fun {i j} hi hj hij e => ?_) h2)
        have l1 := hren.lt i hi
        have l2 := hren.lt j hj
        rw [List.getD_eq_getElem?_getD, List.getD_eq_getElem?_getD, List.getElem?_eq_getElem l1, List.getElem?_eq_getElem l2] at e
        have hp := List.pairwise_iff_getElem.1 r.no
        rcases Nat.lt_or_gt_of_ne hij with hlt | hlt
        · exact hp _ _ l1 l2 hlt e
        · exact hp _ _ l2 l1 hlt e.symm
      · obtain ⟨i, hi, rfl⟩ := List.mem_map.1 hg
        have hlt := hren.lt i hi
        rw [List.getD_eq_getElem?_getD, List.getElem?_eq_getElem hlt]
        have := r.ob _ (List.getElem_mem hlt)
        exact ⟨this.1.resolve_left (by simp), this.2.1⟩
      · have hbl : b < hp.length := by rw [← h5]; exact (List.getElem?_eq_some_iff.1 hc).1
        have hc' := hc
        rw [← h4, List.getElem?_take, if_pos hbl] at hc
        obtain ⟨g, hg, vs', t', e1, e2⟩ := r.hp b cs hc
        obtain ⟨l, e3, _⟩ := r.pre
        rw [e3, List.getElem?_append_left (by show b < m.length; omega)] at hg
        exact ⟨g, hg, vs', t', e1, e2.back hren.m (List.all_eq_true.1 hback cs (List.mem_of_getElem? hc'))⟩
    rcases he with rfl | rfl
    · exact hpost
    · exact hpost

/-! ### Small words for the walk -/
theorem t_norm {K : AS → Prop} {Q : Exit → AS → Prop} (h : K σ) : Exit.thenA K Q .normal σ := h
theorem t_exit {K : AS → Prop} {Q : Exit → AS → Prop} {i : Nat} (h : Q (.exit i) σ) : Exit.thenA K Q (.exit i) σ := h
theorem t_ret {K : AS → Prop} {Q : Exit → AS → Prop} (h : Q .ret σ) : Exit.thenA K Q .ret σ := h
theorem b_norm {i : Nat} {Q : Exit → AS → Prop} (h : Q .normal σ) : Exit.inBlockA i Q .normal σ := h
theorem b_ret {i : Nat} {Q : Exit → AS → Prop} (h : Q .ret σ) : Exit.inBlockA i Q .ret σ := h
theorem b_exit {i : Nat} {Q : Exit → AS → Prop} (h : Q .normal σ) : Exit.inBlockA i Q (.exit i) σ := by simp only [Exit.inBlockA, if_true]; exact h
theorem b_exit_ne {i j : Nat} {Q : Exit → AS → Prop} (hn : (j == i) = false) (h : Q (.exit j) σ) : Exit.inBlockA i Q (.exit j) σ := by
  have : j ≠ i := by simpa using hn
  simp only [Exit.inBlockA, if_neg this]; exact h
theorem awp_norm {c : Code} {Q : Exit → AS → Prop} {τ : AS} (h : σ = τ) (k : AWp P w0 m0 c Q τ) : AWp P w0 m0 c Q σ := by subst h; exact k
theorem ar_norm {Q : Exit → AS → Prop} {l : List Oper} {τ : AS} (h : σ = τ) (k : AR P w0 m0 ops Q l τ) : AR P w0 m0 ops Q l σ := by subst h; exact k
theorem dr_norm {Q : Exit → AS → Prop} {l : List Oper} {τ : AS} (h : σ = τ) (k : DR P w0 m0 ops Q l τ) : DR P w0 m0 ops Q l σ := by subst h; exact k
theorem aend_mk {n k : Nat} {fn : Func} {ws : List AW} {hp' : List (List AC)} (ids : List Nat) (h1 : ids.length = k) (h2 : ids.Nodup) (h3 : ∀ i ∈ ids, i < σ.nx) (h4 : ARes P σ fn.results.toList (ws.map (AW.ren ids))) (h5 : σ.hp.take n = hp') (h6 : hp'.length = n) : AEnd P n fn ws hp' k σ := ⟨⟨ids, h1, h2, h3, h4⟩, h5, h6⟩

/-- A state at a loop's head: the slots of upd hold these values, those of keep what they held, of the others nothing is known. -/
def hdV (keep : List Nat) (upd : List (Nat × AV)) (i : Nat) (x : AV) : AV := match upd.lookup i with
  | some v => v
  | none => if keep.elem i then x else .c .top
def hdL (keep : List Nat) (upd : List (Nat × AV)) : Nat → List AV → List AV
  | _, [] => []
  | i, x :: xs => hdV keep upd i x :: hdL keep upd (i + 1) xs
def AS.head (σ : AS) (keep : List Nat) (upd : List (Nat × AV)) (hp : List (List AC)) (nx : Nat) : AS := ⟨hdL keep upd 0 σ.tm, hp, nx⟩
theorem awp_loopH {α : Type} {c : Code} {Q : Exit → AS → Prop} (keep : List Nat) (V : α → List (Nat × AV)) (H : α → List (List AC)) (N : α → Nat) (R : Nat → α → Prop) (n0 : Nat) (x0 : α) (h0 : R n0 x0) (hle : σ.le (σ.head keep (V x0) (H x0) (N x0)))
    (round : ∀ n x, R n x → AWp P w0 m0 c (Exit.thenA (fun σ' => ∃ n' x', n' < n ∧ R n' x' ∧ σ'.le (σ.head keep (V x') (H x') (N x'))) Q) (σ.head keep (V x) (H x) (N x))) : AWp P w0 m0 (.loop c) Q σ :=
  awp_loop (fun n τ => ∃ x, R n x ∧ τ = σ.head keep (V x) (H x) (N x)) n0 ⟨_, hle, x0, h0, rfl⟩ fun n τ ⟨x, hR, he⟩ => by
    subst he
    exact (round n x hR).mono fun e σ' q => by
      cases e <;> first | exact q | (obtain ⟨n', x', h1, h2, h3⟩ := q; exact ⟨n', _, h1, h3, x', h2, rfl⟩)
theorem le_mk {tm tm' : List AV} {hp hp' : List (List AC)} {nx : Nat} (h2 : Hs.le hp hp') (h1 : AVs.le tm tm') : AS.le ⟨tm, hp, nx⟩ ⟨tm', hp', nx⟩ := ⟨h1, h2, rfl⟩
theorem ares_tmp2 {t : Tmp} {rs : List ResultVar} {ws : List AW} (x : AW) {y : AV} (hx : σ.tm[t]? = some y) (e : y = x.av) (h : ARes P σ rs ws) : ARes P σ (.tmp t :: rs) (x :: ws) := ares_tmp x (hx.trans (congrArg some e)) h
theorem pb {a b : Bool} (h : a = b) : AV.c (.p (.bool a)) = AV.c (.p (.bool b)) := by rw [h]
theorem pi {k : IntKind} {a b : Int} (h : a = b) : AV.c (.p (.int k a)) = AV.c (.p (.int k b)) := by rw [h]
theorem ps {a b : ByteArray} (h : a = b) : AV.c (.p (.string a)) = AV.c (.p (.string b)) := by rw [h]
theorem pl {e : TypeId} {o : Ow} {xs ys : List (List Value)} (h : xs = ys) : AV.c (.sl e o xs) = AV.c (.sl e o ys) := by rw [h]

/-- The contract in the model's words: a plain result, memory that was there as it was. -/
theorem ACalls.calls {f : FuncId} {args : List AV} {v : Value} {r : AV} {vs : Array Value} (h : ACalls P f args [] r [] 0) (hv : plainV r = some v) (hargs : RepVs P (E0 w.heap.size []) w args vs.toList) :
    Calls P f vs w fun e w' => e = .returned v ∧ Below w.heap.size w w' :=
  (h [] w vs List.nodup_nil (by simp) rfl (by simp) hargs).mono fun e w' ⟨u, om, ov, he, _, _, _, h1, _, _, hfr⟩ => by
    rw [plainV_rep hv] at h1
    subst h1
    exact ⟨he, hfr.below⟩
end
end Go.Proofs.YtdlebdgdcpemmaaGreatDoor
namespace Go.Proofs.YtdlebdgdcpemmaaGreatDoor
open Go.RowKit
set_option linter.unusedVariables false

/-! ### A row is rewritten -/
/-- Row k now holds xs. -/
def AC.upd (k : Nat) (xs : List (List Value)) : AC → AC
  | .sl e .ro ys => .sl e .ro ys
  | .sl e (.own j) ys => if j = k then .sl e (.own j) xs else .sl e (.own j) ys
  | .sl e (.sub j) ys => if j = k then .top else .sl e (.sub j) ys
  | .rp .ro cs => .rp .ro cs
  | .rp (.own j) cs => if j = k then .top else .rp (.own j) cs
  | .rp (.sub j) cs => if j = k then .top else .rp (.sub j) cs
  | .ep e j ys a b => if j = k then .top else .ep e j ys a b
  | .fo f bs => .fo f bs
  | .fr f css => .fr f css
  | .top => .top
  | .p v => .p v
  | .nl => .nl
  | .ptr b o => .ptr b o
  | .bsl b sn sc => .bsl b sn sc
  | .sv v e ys => .sv v e ys
def AW.upd (k : Nat) (xs : List (List Value)) : AW → AW
  | .c x => .c (x.upd k xs)
  | .agg cs => .agg (cs.map (AC.upd k xs))
def AV.upd (k : Nat) (xs : List (List Value)) : AV → AV
  | .c x => .c (x.upd k xs)
  | .agg cs => .agg (cs.map (AC.upd k xs))
  | .tup ws => .tup (ws.map (AW.upd k xs))
def AS.upd (σ : AS) (k : Nat) (xs : List (List Value)) : AS := { tm := σ.tm.map (AV.upd k xs), hp := σ.hp.map (List.map (AC.upd k xs)), nx := σ.nx }
section
variable {P : Program} {ρ : Env} {w w' : World} {k g : Nat} {xs : List (List Value)}
structure Rewr (P : Program) (k g : Nat) (xs : List (List Value)) (ρ : Env) (w w' : World) : Prop where
  mv : Move k ρ w g ρ w'
  at_ : ρ.om[k]? = some g
  new : ∀ e ys v, OwS P ρ w e k ys v → xs.length ≤ 9223372036854775807 ∧ OwS P ρ w' e k xs v
theorem set_same {l : List Nat} {k g : Nat} (h : l[k]? = some g) : l.set k g = l := by
  apply List.ext_getElem?
  intro i
  rw [List.getElem?_set]
  by_cases hi : k = i
  · subst hi
    rw [if_pos rfl, if_pos (List.getElem?_eq_some_iff.1 h).1, h]
  · rw [if_neg hi]
theorem RepC.upd (h : Rewr P k g xs ρ w w') {x : AC} {u : Value} (q : RepC P ρ w x u) : RepC P ρ w' (x.upd k xs) u := by
  have hm := RepC.moved h.mv q
  cases x with
  | top => trivial
  | p v => exact q
  | nl => exact q
  | ptr b o => exact hm
  | bsl b sn sc => exact hm
  | sv v e ys => exact hm
  | rp o cs => cases o <;> exact hm
  | ep e j ys a b => exact hm
  | fo f bs => exact hm
  | fr f css => exact hm
  | sl e o ys =>
    cases o with
    | ro => exact hm
    | sub j => exact hm
    | own j =>
      by_cases hj : j = k
      · subst hj
        simp only [AC.upd, if_true]
        exact h.new e ys u q.2
      · simp only [AC.upd, if_neg hj]
        simp only [AC.drop, if_neg hj] at hm
        exact hm
theorem RepL.upd (h : Rewr P k g xs ρ w w') : ∀ {cs : List AC} {vs : List Value}, RepL P ρ w cs vs → RepL P ρ w' (cs.map (AC.upd k xs)) vs
  | [], [], _ => trivial
  | _ :: _, _ :: _, q => ⟨q.1.upd h, RepL.upd h q.2⟩
theorem RepW.upd (h : Rewr P k g xs ρ w w') {x : AW} {u : Value} (q : RepW P ρ w x u) : RepW P ρ w' (x.upd k xs) u := by
  cases x with
  | c x => exact RepC.upd h q
  | agg cs => obtain ⟨vs, rfl, hl⟩ := q; exact ⟨vs, rfl, hl.upd h⟩
theorem RepWs.upd (h : Rewr P k g xs ρ w w') : ∀ {cs : List AW} {vs : List Value}, RepWs P ρ w cs vs → RepWs P ρ w' (cs.map (AW.upd k xs)) vs
  | [], [], _ => trivial
  | _ :: _, _ :: _, q => ⟨q.1.upd h, RepWs.upd h q.2⟩
theorem RepV.upd (h : Rewr P k g xs ρ w w') {x : AV} {u : Value} (q : RepV P ρ w x u) : RepV P ρ w' (x.upd k xs) u := by
  cases x with
  | c x => exact RepC.upd h q
  | agg cs => obtain ⟨vs, rfl, hl⟩ := q; exact ⟨vs, rfl, hl.upd h⟩
  | tup ws => obtain ⟨vs, rfl, hl⟩ := q; exact ⟨vs, rfl, hl.upd h⟩
variable {w0 : World} {m0 : Gv} {σ : AS} {a : Act}
theorem Rel.upd (h : Rel P w0 m0 ρ σ a w) (hk : ρ.om[k]? = some g) (hg : w.grownBy w' (some g)) (hnew : ∀ e ys v, OwS P ρ w e k ys v → xs.length ≤ 9223372036854775807 ∧ OwS P ρ w' e k xs v) :
    Rewr P k g xs ρ w w' ∧ Rel P w0 m0 ρ (σ.upd k xs) a w' := by
  have hl : g < w'.heap.size := Nat.lt_of_lt_of_le (h.ob g (List.mem_of_getElem? hk)).2.1 hg.size
  obtain ⟨mv, r⟩ := h.moved (ρ.ov g) hk hg (.inl rfl) hl (fun j q hq => by
    obtain ⟨h1, h2⟩ := h.lp j q hq
    by_cases hj : j = k
    · subst hj
      rw [hk] at h1; injection h1 with h1
      subst h1
      exact .inr ⟨rfl, h2⟩
    · exact .inl hj)
  have he : ρ.mov k g (ρ.ov g) = ρ := by
    unfold Env.mov
    rw [set_same hk]
    have : (fun x => if x = g then ρ.ov g else ρ.ov x) = ρ.ov := by
      funext x; split
      · rename_i h; rw [h]
      · rfl
    rw [this]
  rw [he] at mv r
  have rw_ : Rewr P k g xs ρ w w' := ⟨mv, hk, hnew⟩
  have hgm := (h.ob g (List.mem_of_getElem? hk)).2.2
  refine ⟨rw_, r.B, r.Bw, r.fr, r.pre, r.ml, r.nd, r.ob, r.no, r.lp, by simp [AS.upd, h.nx], by simp [AS.upd, h.hl], fun b cs hc => ?_, by simp [AS.upd, h.tl], fun i x hx => ?_, r.df⟩
  · simp only [AS.upd, List.getElem?_map] at hc
    obtain ⟨ds, hd, rfl⟩ := Option.map_eq_some_iff.1 hc
    obtain ⟨q, hq, us, t', h1, h2⟩ := h.hp b ds hd
    have hqm := List.mem_of_getElem? hq
    exact ⟨q, hq, us, t', (hg.block q (h.ml q hqm) (fun e => by injection e with e; subst e; exact hgm hqm)).trans h1, h2.upd rw_⟩
  · simp only [AS.upd, List.getElem?_map] at hx
    obtain ⟨y, hy, rfl⟩ := Option.map_eq_some_iff.1 hx
    exact (h.tm i y hy).upd rw_

/-! ### Pointers to elements of a row of the call's own -/
theorem q_indexAddr_o {t e : TypeId} {x y : Operand} {n : Nat} {ys : List (List Value)} {kk : IntKind} {i : Int} (ht : sliceE P t e = true) (hx : σ.ev x = .c (.sl e (.own n) ys)) (hy : σ.ev y = .c (.p (.int kk i))) (hi : 0 ≤ i) (hv : i < ys.length) : QOp P (.indexAddr t x y) σ (.c (.ep e n ys i.toNat 0)) :=
  fun _ _ ρ f w _ _ _ _ _ h => by
    have h1 := h.ev x
    rw [hx] at h1
    have h1 : RepC P ρ w (.sl e (.own n) ys) (f.eval x) := h1
    obtain ⟨hl, h2⟩ := h1
    have h3 := h2
    obtain ⟨hlen, g, hg, hvo, hu, ho⟩ := h2
    obtain ⟨hu1, hz⟩ := sliceE_spec ht
    rcases ho.2 with ⟨hvv, _⟩ | ⟨g', cap, cur, hvv, _⟩
    · rw [hvv] at hu; simp [Value.ownBlock] at hu
    · rw [hvv] at hu
      obtain rfl : g' = g := by simpa [Value.ownBlock] using hu
      refine ⟨.pointer (some ⟨g', i.toNat * P.cellsOf e + 0, none⟩), ⟨by omega, g', f.eval x, hg, rfl, h3⟩, fun W _ => ?_⟩
      have hb : 0 ≤ i ∧ i < (ys.length : Int) := ⟨hi, hv⟩
      simp [execOp, hvv, h.evp hy, Instr.indexAt, asIntOf, run_underlying hu1, size_cellsOf (t := t) hz, hb, addr_add]
theorem q_nilCheck_e {e : TypeId} {x : Operand} {n i j : Nat} {ys : List (List Value)} (hx : σ.ev x = .c (.ep e n ys i j)) : QOp P (.nilCheck x) σ (.c (.ep e n ys i j)) :=
  fun _ _ ρ f w _ _ _ _ _ h => by
    have h1 := h.ev x
    rw [hx] at h1
    obtain ⟨hi, g, v, hg, he, r⟩ := h1
    exact ⟨_, ⟨hi, g, v, hg, rfl, r⟩, fun W _ => by simp [execOp, he]⟩
theorem q_fieldAddr_e {t e : TypeId} {x : Operand} {n i j q : Nat} {ys : List (List Value)} (ht : flatF P t q = true) (hx : σ.ev x = .c (.ep e n ys i j)) : QOp P (.fieldAddr t x q) σ (.c (.ep e n ys i (j + q))) :=
  fun _ _ ρ f w _ _ _ _ _ h => by
    have h1 := h.ev x
    rw [hx] at h1
    obtain ⟨hi, g, v, hg, he, r⟩ := h1
    obtain ⟨fs, fd, hfs, hfd, ho, hw, hs⟩ := flatF_spec ht
    refine ⟨_, ⟨hi, g, v, hg, rfl, r⟩, fun W _ => ?_⟩
    obtain ⟨ii, h1, h2⟩ := Option.map_eq_some_iff.1 hs
    simp [execOp, he, Instr.fieldAt, run_underlying hfs, hfd, Instr.sureAddr, fieldPlace, sizeOf, typeInfo, h1, h2, ho, addr_add, Nat.add_assoc]
theorem OwS.cell {e : TypeId} {ys : List (List Value)} {v : Value} (h : OwS P ρ w e k ys v) (hg : ρ.om[k]? = some g) {i j : Nat} {x : List Value} {u : Value} (hx : ys[i]? = some x) (hu : x[j]? = some u) : w.cell? ⟨g, i * P.cellsOf e + j, none⟩ = some u := by
  obtain ⟨hl, g2, hg2, _, hb, ho⟩ := h
  obtain rfl : g = g2 := by rw [hg] at hg2; injection hg2
  have := ho.cells (g := g) hb _ _ (flat_get hl hx hu)
  rw [addr_add, Nat.zero_add] at this
  exact this
theorem OwS.lt {e : TypeId} {ys : List (List Value)} {v : Value} (h : OwS P ρ w e k ys v) (hg : ρ.om[k]? = some g) : g < w.heap.size := by
  obtain ⟨hl, g2, hg2, _, hb, ho⟩ := h
  obtain rfl : g = g2 := by rw [hg] at hg2; injection hg2
  exact (ownsRow_lt ho hb).2
theorem q_load_e {t e : TypeId} {x : Operand} {n i j : Nat} {ys : List (List Value)} {y : List Value} {u : Value} (ht : wordB P t = true) (hx : σ.ev x = .c (.ep e n ys i j)) (hy : ys[i]? = some y) (hu : y[j]? = some u) : QOp P (.load t x) σ (.c (.p u)) :=
  fun _ _ ρ f w _ _ _ _ _ h => by
    have h1 := h.ev x
    rw [hx] at h1
    obtain ⟨hi, g, v, hg, he, r⟩ := h1
    refine ⟨u, rfl, fun W hW => ?_⟩
    have hc : W.cell? ⟨g, i * P.cellsOf e + j, none⟩ = some u := by rw [cell_blk (hW.block g (r.lt hg))]; exact r.cell hg hy hu
    simp [execOp, he, Instr.loadAt, Instr.sureAddr, run_load_word ht hc]
theorem q_load_ea {t e : TypeId} {x : Operand} {n i : Nat} {ys : List (List Value)} {y : List Value} (hx : σ.ev x = .c (.ep e n ys i 0)) (hy : ys[i]? = some y) {m : Nat} (hn : y.length = m) (ht : aggB P t m = true) : QOp P (.load t x) σ (.agg (y.map .p)) :=
  fun _ _ ρ f w _ _ _ _ _ h => by
    have h1 := h.ev x
    rw [hx] at h1
    obtain ⟨hi, g, v, hg, he, r⟩ := h1
    refine ⟨.agg y.toArray, ⟨y.toArray, rfl, repL_p y⟩, fun W hW => ?_⟩
    rw [← hn] at ht
    have hc := run_load_agg (g := g) (o := i * P.cellsOf e + 0) ht (W := W) (fun j u hu => by rw [cell_blk (hW.block g (r.lt hg)), Nat.add_assoc, Nat.zero_add]; exact r.cell hg hy hu)
    simp [execOp, he, Instr.loadAt, Instr.sureAddr] at hc ⊢
    simp [hc]

/-! ### A store into a row of the call's own -/
variable {ops : Array Oper} {Q : Exit → AS → Prop} {rest : List Oper} {d : Option Tmp} {ty : TypeId} {pos : String} {af : Array Edge}
def setAt (x : List Value) (j : Nat) (us : List Value) : List Value := x.take j ++ us ++ x.drop (j + us.length)
/-! ### make -/
/-! ### Rows that are lent -/
/-- What a call of f does to rows that it is lent: args speak of them as rows 0, 1, ..; row j holds rows[j] before and rows'[j] behind it. -/
def ALent (P : Program) (f : FuncId) (rows : List (TypeId × List (List Value))) (args : List AV) (v : Value) (rows' : List (List (List Value))) : Prop :=
  ∀ (om : List Nat) (ov : Nat → Value) (w : World) (vs : Array Value), om.Nodup → om.length = rows.length → (∀ g ∈ om, g < w.heap.size) → RepVs P ⟨0, [], om, ov⟩ w args vs.toList →
    Calls P f vs w (fun e w' => e = .returned v ∧ (∀ (j : Nat) e xs u, rows[j]? = some (e, xs) → OwS P ⟨0, [], om, ov⟩ w e j xs u → ∃ xs', rows'[j]? = some xs' ∧ xs'.length ≤ 9223372036854775807 ∧ OwS P ⟨0, [], om, ov⟩ w' e j xs' u) ∧ Framed om w w')
theorem OwS.base {ρ : Env} {w : World} {k : Nat} {e : TypeId} {xs : List (List Value)} {u : Value} (h : OwS P ρ w e k xs u) {ρ' : Env} {k' : Nat} (hB : ρ'.B ≤ ρ.B) (ho : ∀ g, ρ.om[k]? = some g → ρ'.om[k']? = some g ∧ ρ'.ov g = ρ.ov g) : OwS P ρ' w e k' xs u := by
  obtain ⟨hl, g, hg, hv, hb, how⟩ := h
  obtain ⟨h1, h2⟩ := ho g hg
  refine ⟨hl, g, h1, by rw [h2]; exact hv, hb, how.1, ?_⟩
  rcases how.2 with hn | ⟨g3, cap, cur, e1, b1, r1⟩
  · exact .inl hn
  · exact .inr ⟨g3, cap, cur, e1, Nat.le_trans hB b1, r1⟩
end
end Go.Proofs.YtdlebdgdcpemmaaGreatDoor
namespace Go.Proofs.YtdlebdgdcpemmaaGreatDoor
open Go.RowKit
set_option linter.unusedVariables false
section
variable {P : Program} {σ : AS}
theorem q_conv_byte {s t : TypeId} {x : Operand} {k : IntKind} {a : Int} (hs : (P.underlying s).isSome = true) (ht : intB P t .u8 = true) (hx : σ.ev x = .c (.p (.int k a))) (hb : 0 ≤ a ∧ a ≤ 255) : QOp P (.convert s t x) σ (.c (.p (.int .u8 a))) := by
  have := q_conv (P := P) .u8 hs ht hx
  have e : IntKind.u8.wrap a = a := by simp [IntKind.wrap, IntKind.signed, IntKind.bits]; omega
  rwa [e] at this
/-- string(b): the bytes l. -/
theorem q_conv_bs {s t e : TypeId} {x : Operand} {o : Ow} {xs : List (List Value)} (l : List UInt8) (hs : sliceE P s e = true) (he : intB P e .u8 = true) (hc1 : sizeE P e 1 = true) (ht : P.underlying t = some .string) (hx : σ.ev x = .c (.sl e o xs)) (hl : xs = l.map fun b => [.int .u8 b.toNat]) :
    QOp P (.convert s t x) σ (.c (.p (.string ⟨l.toArray⟩))) :=
  fun _ _ ρ f w _ _ _ _ _ h => by
    have h1 := h.ev x
    rw [hx] at h1
    have h1 : RepC P ρ w (.sl e o xs) (f.eval x) := h1
    have hlen : xs.length = l.length := by rw [hl]; simp
    have hsz : P.cellsOf e = 1 := eq_of_beq hc1
    refine ⟨_, rfl, fun W hW => ?_⟩
    rcases h1.rdS with ⟨h0, A, c, hv⟩ | ⟨g, off, c, hv, hc, hg, ha, hels⟩
    · have hl0 : l = [] := by cases l with
        | nil => rfl
        | cons b l => rw [h0] at hl; simp at hl
      subst hl0
      have hrun : (convert s t (.slice A 0 c)).run P W = .ok (.string ⟨#[]⟩) W := by
        rw [run_convert_bytes_string W s t e A 0 c (sliceE_spec hs).1 (intB_spec he) ht]
        cases A with
        | none => simp [Conv.bytesToString]; rfl
        | some a => simp [Conv.bytesToString, loadCells, loadCellsFrom]; rfl
      simp [execOp, hv, hrun]
    · have hrun := run_convert_bytes_back (P := P) W s t e ⟨g, off, none⟩ c l (sliceE_spec hs).1 (intB_spec he) ht (fun j hj => by
        have hx : xs[j]? = some [.int .u8 l[j].toNat] := by rw [hl, List.getElem?_map, List.getElem?_eq_getElem hj]; rfl
        have := (hels j _ hx).2 0 _ rfl
        rw [hsz, Nat.mul_one, Nat.add_zero] at this
        rw [addr_add, cell_blk (hW.block g hg)]; exact this)
      rw [hlen] at hv
      simp [execOp, hv, hrun]
theorem repV_nl {ρ : Env} {w : World} {u : Value} {e : TypeId} (h : RepV P ρ w (.c .nl) u) : RepV P ρ w (.c (.sl e .ro [])) u := by
  obtain rfl : u = _ := h
  exact ⟨by simp, .inl ⟨rfl, none, 0, rfl⟩⟩
/-- nil is the empty slice. -/
theorem ACalls.nl0 {f : FuncId} {e : TypeId} {args : List AV} {hp hp' : List (List AC)} {r : AV} {k : Nat} (h : ACalls P f (.c (.sl e .ro []) :: args) hp r hp' k) : ACalls P f (.c .nl :: args) hp r hp' k :=
  fun m w vs h1 h2 h3 h4 h5 => h m w vs h1 h2 h3 h4 (by
    obtain ⟨l⟩ := vs
    cases l with
    | nil => exact h5
    | cons v l => exact ⟨repV_nl h5.1, h5.2⟩)
end
end Go.Proofs.YtdlebdgdcpemmaaGreatDoor
