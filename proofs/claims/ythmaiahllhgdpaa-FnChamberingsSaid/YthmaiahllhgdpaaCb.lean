/- Packings: the plain words. -/
import Derived.Test.YthmaiahllhgdpaaCa


namespace Go.Proofs.Ythmaiahllhgdpaa
open Go.RowKit
set_option linter.unusedVariables false
set_option linter.unusedSimpArgs false
def hz : Hull_ := ⟨0, 0, 0⟩
def sz : Spot_ := ⟨0, 0⟩
/-- A hull at a spot is in a chamber. -/
def insB (c : Chamber_) (h : Hull_) (s : Spot_) : Bool := decide (0 ≤ s.at_) && decide (0 ≤ s.sd) && decide (s.at_ ≤ c.ln - h.ln) && decide (s.sd ≤ c.wd - h.wd)
theorem insB_iff {c : Chamber_} {h : Hull_} {s : Spot_} : insB c h s = true ↔ 0 ≤ s.at_ ∧ 0 ≤ s.sd ∧ s.at_ ≤ c.ln - h.ln ∧ s.sd ≤ c.wd - h.wd := by simp [insB, and_assoc]
/-- Two hulls at spots cover a cell in common. -/
def meetB (a : Hull_) (s : Spot_) (b : Hull_) (t : Spot_) : Bool := decide (s.at_ < t.at_ + b.ln) && decide (t.at_ < s.at_ + a.ln) && decide (s.sd < t.sd + b.wd) && decide (t.sd < s.sd + a.wd)
theorem meetB_iff {a b : Hull_} {s t : Spot_} : meetB a s b t = true ↔ s.at_ < t.at_ + b.ln ∧ t.at_ < s.at_ + a.ln ∧ s.sd < t.sd + b.wd ∧ t.sd < s.sd + a.wd := by simp [meetB, and_assoc]
def hAt (l : List Hull_) (i : Nat) : Hull_ := l.getD i hz
def sAt (l : List Spot_) (i : Nat) : Spot_ := l.getD i sz
theorem hAt_eq {l : List Hull_} {i : Nat} (h : i < l.length) : hAt l i = l[i] := by simp [hAt, h]
theorem sAt_eq {l : List Spot_} {i : Nat} (h : i < l.length) : sAt l i = l[i] := by simp [sAt, h]
/-- The spot number i is one for its hull next to the others before it. -/
def fitB (c : Chamber_) (hs : List Hull_) (ss : List Spot_) (i : Nat) : Bool := insB c (hAt hs i) (sAt ss i) && (List.range i).all fun k => !meetB (hAt hs i) (sAt ss i) (hAt hs k) (sAt ss k)
theorem fitB_iff {c : Chamber_} {hs : List Hull_} {ss : List Spot_} {i : Nat} : fitB c hs ss i = true ↔ insB c (hAt hs i) (sAt ss i) = true ∧ ∀ k, k < i → meetB (hAt hs i) (sAt ss i) (hAt hs k) (sAt ss k) = false := by
  simp [fitB, List.all_eq_true]
/-- Spots are a packing of the first hulls. -/
def packB (c : Chamber_) (hs : List Hull_) (ss : List Spot_) : Bool := (List.range ss.length).all (fitB c hs ss)
theorem packB_iff {c : Chamber_} {hs : List Hull_} {ss : List Spot_} : packB c hs ss = true ↔ ∀ i, i < ss.length → fitB c hs ss i = true := by
  simp [packB, List.all_eq_true]
theorem fitB_take {c : Chamber_} {hs : List Hull_} {ss : List Spot_} {i n : Nat} (h : i < n) (hn : n ≤ ss.length) : fitB c hs (ss.take n) i = fitB c hs ss i := by
  have e : ∀ k, k < n → sAt (ss.take n) k = sAt ss k := fun k hk => by
    have h1 : k < (ss.take n).length := by simp; omega
    rw [sAt_eq h1, sAt_eq (by omega), List.getElem_take]
  rw [Bool.eq_iff_iff, fitB_iff, fitB_iff, e i h]
  constructor
  · rintro ⟨h1, h2⟩
    exact ⟨h1, fun k hk => by have := h2 k hk; rwa [e k (by omega)] at this⟩
  · rintro ⟨h1, h2⟩
    exact ⟨h1, fun k hk => by rw [e k (by omega)]; exact h2 k hk⟩
def askB (c : Chamber_) (hs : List Hull_) (ss : List Spot_) : Bool := chF c && hullsF hs && decide (ss.length = hs.length) && packB c hs ss
end Go.Proofs.Ythmaiahllhgdpaa
