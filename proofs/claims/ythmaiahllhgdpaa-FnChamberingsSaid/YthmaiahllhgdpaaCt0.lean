/- Parts of a list of hulls; lists of numbers. -/
import Derived.Test.YthmaiahllhgdpaaCn
import Derived.Test.YthmaiahllhgdpaaCp
import Derived.Test.YthmaiahllhgdpaaMk



namespace Go.Proofs.Ythmaiahllhgdpaa
open Go.RowKit
set_option linter.unusedVariables false
set_option linter.unusedSimpArgs false
abbrev nats (l : List Nat) : List (List Value) := its (l.map fun n : Nat => (n : Int))
theorem nats_len (l : List Nat) : (nats l).length = l.length := by simp [nats, its]
theorem nats_put (l : List Nat) (x : Nat) : nats l ++ [[Value.int .i64 (x : Int)]] = nats (l ++ [x]) := by simp [nats, its]
/-- The hulls from a number to another one. -/
def partH (hs : List Hull_) (b e : Nat) : List Hull_ := (hs.take e).drop b
theorem partH_hulls {hs : List Hull_} {b e : Nat} {x y : Int} (hx : x = b) (hy : y = e) : hulls (partH hs b e) = ((hulls hs).take y.toNat).drop x.toNat := by subst hx hy; simp [hulls, partH, List.map_take, List.map_drop]
theorem partH_sub (hs : List Hull_) (b e : Nat) : (partH hs b e).Sublist hs := (List.drop_sublist _ _).trans (List.take_sublist _ _)
def fitP (c : Chamber_) (hs : List Hull_) (b e : Nat) : Bool := fitsF c (partH hs b e)
theorem fitP_one {c : Chamber_} {hs : List Hull_} (hh : hullsF hs = true) {b i : Nat} (hb : b ≤ i) (h : fitP c hs b (i + 1) = true) : fitP c hs i (i + 1) = true := by
  refine fitsF_sub (fun x hx => ?_) ?_ h
  · have := (partH_sub hs b (i + 1)).subset hx
    obtain ⟨j, hj, rfl⟩ := List.getElem_of_mem this
    have := hullF_iff.1 ((hullsF_iff.1 hh).1 j hj)
    omega
  · have e : partH hs i (i + 1) = (partH hs b (i + 1)).drop (i - b) := by rw [partH, partH, List.drop_drop]; congr 1; omega
    rw [e]; exact List.drop_sublist _ _
end Go.Proofs.Ythmaiahllhgdpaa
