/- Words for memory: a slice that reads as a list of one-cell values; small lemmas on results. -/
import Derived.Test.YtadjkldpflidhaaRows
import Derived.WalkKit
import Derived.ProofKit
import Derived.Below
import Derived.WalkSpells
import Derived.WalkLawsBesides
import Derived.LoopN
import Derived.OpenShut
import Derived.Lib.Hide
import Derived.Outline
import Derived.Deep.QuietTactic
import Derived.BigQuiet
import Derived.RegionTactic
import Derived.BigRegion
import Derived.ChangeAlike

namespace Go.Proofs.Ytadjkldpflidhaa
open Go.RowKit
theorem ret_bool {a b : Bool} (h : a = b) : Ending.returned (.bool a) = .returned (.bool b) := by rw [h]
/-- The slice value '.slice A n c' reads as the one-cell values vs. -/
def RdV (w : World) (A : Option Addr) (n : Nat) (vs : List Value) : Prop :=
  vs.length = n ∧ n ≤ 9223372036854775807 ∧ (0 < n → ∃ b off, A = some ⟨b, off, none⟩ ∧ b < w.heap.size ∧ ∀ i v, vs[i]? = some v → w.cell? ⟨b, off + i, none⟩ = some v)
theorem RdV.below {w w' : World} {A : Option Addr} {n : Nat} {vs : List Value} (h : RdV w A n vs) (hb : Below w.heap.size w w') : RdV w' A n vs :=
  ⟨h.1, h.2.1, fun hn => by
    obtain ⟨b, off, rfl, hl, hc⟩ := h.2.2 hn
    exact ⟨b, off, rfl, Nat.lt_of_lt_of_le hl hb.size, fun i v hv => (hb.cell (p := ⟨b, off + i, none⟩) hl).trans (hc i v hv)⟩⟩
theorem RdV.at_ {w : World} {A : Option Addr} {n k : Nat} {vs : List Value} (h : RdV w A n vs) (hk : k < n) :
    ∃ b off v, A = some ⟨b, off, none⟩ ∧ vs[k]? = some v ∧ w.cell? ⟨b, off + k, none⟩ = some v := by
  obtain ⟨b, off, rfl, _, hc⟩ := h.2.2 (by omega)
  have hl : k < vs.length := by have := h.1; omega
  exact ⟨b, off, vs[k], rfl, List.getElem?_eq_getElem hl, hc k _ (List.getElem?_eq_getElem hl)⟩
/-- It reads as the integers xs. -/
def RdI (w : World) (A : Option Addr) (n : Nat) (xs : List Int) : Prop := RdV w A n (xs.map (Value.int .i64))
theorem RdI.at_ {w : World} {A : Option Addr} {n k : Nat} {xs : List Int} (h : RdI w A n xs) (hk : k < n) :
    ∃ b off x, A = some ⟨b, off, none⟩ ∧ xs[k]? = some x ∧ w.cell? ⟨b, off + k, none⟩ = some (.int .i64 x) := by
  obtain ⟨b, off, v, hA, hv, hc⟩ := RdV.at_ h hk
  rw [List.getElem?_map] at hv
  cases hx : xs[k]? with
  | none => rw [hx] at hv; cases hv
  | some x => rw [hx] at hv; injection hv with hv; subst hv; exact ⟨b, off, x, hA, rfl, hc⟩
theorem RdI.len {w : World} {A : Option Addr} {n : Nat} {xs : List Int} (h : RdI w A n xs) : xs.length = n := by have := h.1; simpa using this
theorem RdI.le {w : World} {A : Option Addr} {n : Nat} {xs : List Int} (h : RdI w A n xs) : n ≤ 9223372036854775807 := h.2.1
theorem RdI.below {w w' : World} {A : Option Addr} {n : Nat} {xs : List Int} (h : RdI w A n xs) (hb : Below w.heap.size w w') : RdI w' A n xs := RdV.below h hb
theorem below_drewN {B : Nat} {a w : World} (h : Below B a w) (n : Nat) : Below B a (w.drewN n) := ⟨h.os, h.tape, h.output, h.size, h.block⟩

theorem take_succ_eq {α : Type} {xs ys : List α} {k : Nat} {x y : α} (hx : xs[k]? = some x) (hy : ys[k]? = some y) (h : xs.take k = ys.take k) (e : x = y) : xs.take (k+1) = ys.take (k+1) := by
  rw [List.take_add_one, List.take_add_one, hx, hy, h, e]
theorem ret_int {k : IntKind} {a b : Int} (h : a = b) : Ending.returned (.int k a) = .returned (.int k b) := by rw [h]
theorem bcell {W w1 : World} (hb : Below W.heap.size W w1) : (∀ b o, b < W.heap.size → w1.cell? ⟨b, o, none⟩ = W.cell? ⟨b, o, none⟩) ∧ (∀ b o, b < W.heap.size → w1.frozen? ⟨b, o, none⟩ = W.frozen? ⟨b, o, none⟩) :=
  ⟨fun _ _ h => hb.cell h, fun _ _ h => hb.frozen h⟩
theorem nextC {w W w1 : World} (hb : Below W.heap.size W w1) (q : Below w.heap.size w W) : Below w.heap.size w w1 := q.trans (hb.mono q.size)
theorem nextB {w W w1 : World} (q : Below w.heap.size w W) (hb : Below W.heap.size W w1) : Below w.heap.size w w1 := q.trans (hb.mono q.size)
theorem bcj {w W w1 : World} (j : Nat) (hb : Below W.heap.size W w1) (h : w.heap.size + j < W.heap.size) : (∀ o, w1.cell? ⟨w.heap.size + j, o, none⟩ = W.cell? ⟨w.heap.size + j, o, none⟩) ∧ (∀ o, w1.frozen? ⟨w.heap.size + j, o, none⟩ = W.frozen? ⟨w.heap.size + j, o, none⟩) ∧ w.heap.size + j < w1.heap.size :=
  ⟨fun _ => hb.cell h, fun _ => hb.frozen h, Nat.lt_of_lt_of_le h hb.size⟩
theorem bc0 {w W w1 : World} (hb : Below W.heap.size W w1) (h : w.heap.size < W.heap.size) : (∀ o, w1.cell? ⟨w.heap.size, o, none⟩ = W.cell? ⟨w.heap.size, o, none⟩) ∧ (∀ o, w1.frozen? ⟨w.heap.size, o, none⟩ = W.frozen? ⟨w.heap.size, o, none⟩) ∧ w.heap.size < w1.heap.size :=
  ⟨fun _ => hb.cell h, fun _ => hb.frozen h, Nat.lt_of_lt_of_le h hb.size⟩
/-- Block g is just the cells cs of type t, none frozen. -/
def Blk (w : World) (g : Nat) (t : TypeId) (cs : Array Value) : Prop := w.heap[g]? = some (.cells cs t (0, 0))
section
variable {w w' : World} {g : Nat} {t : TypeId} {cs : Array Value}
theorem Blk.lt (h : Blk w g t cs) : g < w.heap.size := (Array.getElem?_eq_some_iff.1 h).1
theorem Blk.cell (h : Blk w g t cs) (i : Nat) : w.cell? ⟨g, i, none⟩ = cs[i]? := cell_of_row w g i cs t (0, 0) h
theorem Blk.frozen (h : Blk w g t cs) (i : Nat) : w.frozen? ⟨g, i, none⟩ = false := by
  unfold Blk at h
  simp [World.frozen?, h]
theorem Blk.new (w : World) (t : TypeId) (cs : Array Value) : Blk (w.alloc (.cells cs t)) w.heap.size t cs := heap_alloc_new w _
theorem Blk.new_at (w : World) (t : TypeId) (cs : Array Value) {g : Nat} (h : w.heap.size = g) : Blk (w.alloc (.cells cs t)) g t cs := by subst h; exact Blk.new w t cs
theorem Blk.conv {w : World} {g : Nat} {t : TypeId} {cs cs' : Array Value} (h : Blk w g t cs) (e : cs = cs') : Blk w g t cs' := e ▸ h
theorem Blk.drew (h : Blk w g t cs) : Blk w.drew g t cs := h
theorem Blk.drewN (h : Blk w g t cs) (n : Nat) : Blk (w.drewN n) g t cs := h
theorem Blk.alloc (h : Blk w g t cs) (o : Obj) : Blk (w.alloc o) g t cs := (Below.heap_alloc w o g h.lt).trans h
theorem Blk.set_ (h : Blk w g t cs) (i : Nat) (u : Value) : Blk (w.setCell ⟨g, i, none⟩ u) g t (cs.setIfInBounds i u) := by
  unfold Blk at h ⊢
  simp [World.setCell, Array.getElem?_modify, h]
theorem Blk.far (h : Blk w g t cs) {p : Addr} (hp : g ≠ p.block) (u : Value) : Blk (w.setCell p u) g t cs := (Below.heap_setCell w p u g hp).trans h
theorem Blk.below {B : Nat} (h : Blk w g t cs) (hb : Below B w w') (hg : g < B) : Blk w' g t cs := (hb.block g hg).trans h
end
theorem own : ownKnob Try.prog.godebug = none := by kernel_rfl
theorem laidOut : laidOutB Try.prog = true := by kernel_rfl
end Go.Proofs.Ytadjkldpflidhaa
