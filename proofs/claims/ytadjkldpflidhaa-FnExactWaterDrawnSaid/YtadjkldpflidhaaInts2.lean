/- Slices of integers in the laws: copied, marked, held. -/
import Derived.Test.YtadjkldpflidhaaInts
import Derived.Deep.OwnRows

namespace Go.Proofs.Ytadjkldpflidhaa
open Go.RowKit

theorem intInfo : (Try.prog.info? 3).map (fun i => (i.zero, i.size, i.bytes)) = some (some (.int .i64 0), 1, 8) := by kernel_rfl
/-- The slice '.slice A n c' is the call's own (from block B on) and holds the integers xs. -/
def OwnI (B : Nat) (w : World) (A : Option Addr) (n c : Nat) (xs : List Int) : Prop := w.ownsRow B 3 1 (.slice A n c) n (xs.map (Value.int .i64)) ∧ n ≤ 9223372036854775807
theorem OwnI.rd {B : Nat} {w : World} {A : Option Addr} {n c : Nat} {xs : List Int} (h : OwnI B w A n c xs) : RdI w A n xs := by
  obtain ⟨h, h63⟩ := h
  refine ⟨by have := h.1; simpa using this, h63, fun hn => ?_⟩
  rcases h.2 with ⟨_, h0⟩ | ⟨g, cap, cur, hv, hb, hg, h1, h2, h3, h4⟩
  · omega
  · have hA : A = some ⟨g, 0, none⟩ := by injection hv
    subst hA
    have hl := (Array.getElem?_eq_some_iff.1 hg).1
    refine ⟨g, 0, rfl, hl, fun i v hv => ?_⟩
    have hi : i < n * 1 := by have := h.1; have := (List.getElem?_eq_some_iff.1 hv).1; omega
    rw [Nat.zero_add, h.cellAt i hi]
    exact hv
/-- What a call that returns a new slice of integers gives. -/
def RetI (xs : List Int) (w : World) (e : Ending) (w' : World) : Prop := ∃ A c, e = .returned (.slice A xs.length c) ∧ OwnI w.heap.size w' A xs.length c xs ∧ Below w.heap.size w w'

theorem fill_step {α β : Type} {f : α → β} {z : α} {xs : List α} {k n : Nat} {x : α} (hk : k < n) (hn : xs.length = n) (e : xs[k]? = some x) :
    ((xs.take k ++ List.replicate (n - k) z).map f).set k (f x) = (xs.take (k + 1) ++ List.replicate (n - (k + 1)) z).map f := by
  have h1 : n - k = (n - (k + 1)) + 1 := by omega
  have h2 : (xs.take k).length = k := by rw [List.length_take]; omega
  rw [h1, List.replicate_succ, List.map_append, List.map_cons, List.set_append_right _ _ (by rw [List.length_map, h2]; exact Nat.le_refl _), List.length_map, h2, Nat.sub_self, List.set_cons_zero, List.take_add_one, e]
  simp

theorem law_toIntS (A : Option Addr) (n c : Nat) (xs : List Int) (w : World) (hA : RdI w A n xs) (hn : n ≤ 2097152) :
    Calls Try.prog 37 #[.slice A n c] w (RetI xs w) := by
  have hx := Lib.hid hA.len
  have hmk := run_make_row' (P := Try.prog) 40 3 (.int .i64 0) 8 Try.underlying40 intInfo rfl .i64 .i64 n (by omega) (by omega)
  go_enter Try.func37, Try.ntmps37
  go_wp2
  go_loopw [4] (fun i wr => ∃ k : Nat, k ≤ n ∧ i = .int .i64 k ∧ wr.ownsRow w.heap.size 3 1 (.slice (some ⟨w.heap.size, 0, none⟩) n n) n ((xs.take k ++ List.replicate (n - k) 0).map (Value.int .i64)) ∧ Below w.heap.size w wr) (fun i _ => n - (intOf i).toNat)
  case atStart =>
    refine ⟨0, Nat.zero_le _, rfl, ?_, by (repeat' (first | (with_reducible exact Below.refl _ _) | (with_reducible assumption) | (with_reducible refine Below.alloc ?_ ?_ _) | (with_reducible refine Below.drew ?_) | (with_reducible refine below_drewN ?_ _) | (with_reducible refine Below.setCell ?_ ?_ _) | (first | (with_reducible exact Nat.le_refl _) | (with_reducible assumption) | omega | (simp; omega) | (simp; done))))⟩
    have := World.ownsRow_lit (base := w.heap.size) (e := 3) (size := 1) w (madeCells #[.int .i64 0] n) n (Nat.le_refl _) (by unfold maxLen; omega) (by simp [madeCells])
    rw [toList_madeCells_one] at this
    simpa using this
  case round =>
    obtain ⟨k, hk, rfl, ho, hb⟩ := hrel
    by_cases hlt : k < n
    · obtain ⟨b, off, x, rfl, e1, c1⟩ := (hA.below hb).at_ hlt
      have e1 := Lib.hid e1
      have f1 := ho.frozenAt k
      have g1 : ∃ v, wr.cell? ⟨w.heap.size, k, none⟩ = some v := by
        rw [ho.cellAt k (by omega)]
        have : k < ((xs.take k ++ List.replicate (n - k) 0).map (Value.int .i64)).length := by rw [ho.1]; omega
        exact ⟨_, List.getElem?_eq_getElem this⟩
      obtain ⟨v, g1⟩ := g1
      have ho := Lib.hid ho
      go_wp2
      go_roundw
      case rel =>
        refine ⟨k + 1, by omega, by go_num, ?_, by (repeat' (first | (with_reducible exact Below.refl _ _) | (with_reducible assumption) | (with_reducible refine Below.alloc ?_ ?_ _) | (with_reducible refine Below.drew ?_) | (with_reducible refine below_drewN ?_ _) | (with_reducible refine Below.setCell ?_ ?_ _) | (first | (with_reducible exact Nat.le_refl _) | (with_reducible assumption) | omega | (simp; omega) | (simp; done))))⟩
        have := (ho.out.stored k (.int .i64 x)).1
        rw [fill_step hlt hx.out e1.out] at this
        exact this
      case measure => simp [intOf]; omega
    · obtain rfl : k = n := by omega
      have ho := Lib.hid ho
      go_wp2
      go_ret
      have h1 : xs.take k = xs := List.take_of_length_le (by rw [hx.out]; omega)
      have ho := ho.out
      rw [h1, Nat.sub_self, List.replicate_zero, List.append_nil] at ho
      have hx := hx.out
      subst hx
      exact ⟨_, _, rfl, ⟨ho, by omega⟩, hb⟩
/-- k, k + 1, .. : n numbers. -/
def marks (k : Int) : Nat → List Int
  | 0 => []
  | n + 1 => k :: marks (k + 1) n
theorem marks_len (k : Int) (n : Nat) : (marks k n).length = n := by
  induction n generalizing k with
  | zero => rfl
  | succ n ih => simp [marks, ih]
theorem marks_get (n j : Nat) : ∀ k : Int, j < n → (marks k n)[j]? = some (k + j) := by
  induction n generalizing j with
  | zero => intro k h; omega
  | succ n ih =>
    intro k h
    cases j with
    | zero => simp [marks]
    | succ j => rw [marks, List.getElem?_cons_succ, ih j (k + 1) (by omega)]; congr 1; omega
theorem mark_step {xs : List Int} {k : Int} {j : Nat} (hj : j < xs.length) :
    ((marks k j ++ xs.drop j).map (Value.int .i64)).set j (.int .i64 (k + j)) = (marks k (j + 1) ++ xs.drop (j + 1)).map (Value.int .i64) := by
  have hm : marks k (j + 1) = marks k j ++ [k + j] := by
    clear hj
    induction j generalizing k with
    | zero => simp [marks]
    | succ j ih => rw [marks, ih, marks, List.cons_append]; congr 3; omega
  have h2 : ((marks k j).map (Value.int .i64)).length = j := by rw [List.length_map, marks_len]
  rw [List.drop_eq_getElem_cons hj, List.map_append, List.map_cons, List.set_append_right _ _ (by rw [h2]; exact Nat.le_refl _), h2, Nat.sub_self, List.set_cons_zero, hm]
  simp
/-- What markIntS does: the call's own slice holds k, k + 1, ..; nothing else is changed. -/
theorem law_markIntS (B : Nat) (A : Option Addr) (n c : Nat) (xs : List Int) (k : Int) (w : World) (hA : OwnI B w A n c xs) (hk : 0 ≤ k) (hn : n ≤ 2097152) (hk2 : k ≤ 1000000000) :
    Calls Try.prog 34 #[.slice A n c, .int .i64 k] w fun e w' => e = .returned (.int .i64 (k + n)) ∧ OwnI B w' A n c (marks k n) ∧ w.grownBy w' (Value.ownBlock (.slice A n c)) := by
  have hl : xs.length = n := hA.rd.len
  go_enter Try.func34, Try.ntmps34
  go_wp2
  go_loopw [1, 5] (fun q i wr => ∃ j : Nat, j ≤ n ∧ i = .int .i64 j ∧ q = .int .i64 (k + j) ∧ wr.ownsRow B 3 1 (.slice A n c) n ((marks k j ++ xs.drop j).map (Value.int .i64)) ∧ w.grownBy wr (Value.ownBlock (.slice A n c))) (fun _ i _ => n - (intOf i).toNat)
  case atStart => exact ⟨0, Nat.zero_le _, rfl, by go_num, by simpa [marks] using hA.1, World.grownBy.refl w _⟩
  case round =>
    obtain ⟨j, hj, rfl, rfl, ho, hb⟩ := hrel
    by_cases hlt : j < n
    · rcases ho.2 with ⟨_, h0⟩ | ⟨g, cap, cur, hv, _⟩
      · omega
      · obtain rfl : A = some ⟨g, 0, none⟩ := by injection hv
        clear hv
        have f1 := ho.frozenAt j
        have g1 : ∃ v, wr.cell? ⟨g, j, none⟩ = some v := by
          rw [ho.cellAt j (by omega)]
          have : j < ((marks k j ++ xs.drop j).map (Value.int .i64)).length := by rw [ho.1]; omega
          exact ⟨_, List.getElem?_eq_getElem this⟩
        obtain ⟨v, g1⟩ := g1
        have h2 := (ho.stored j (.int .i64 (k + j)))
        rw [mark_step (by omega)] at h2
        have h2 := Lib.hid h2
        have ho := Lib.hid ho
        have hl := Lib.hid hl
        go_wp2
        go_roundw
        case rel => exact ⟨j + 1, by omega, by go_num, by go_num, h2.out.1, World.grownBy.trans hb h2.out.2⟩
        case measure => simp [intOf]; omega
    · obtain rfl : j = n := by omega
      have ho := Lib.hid ho
      have hl := Lib.hid hl
      go_wp2
      go_ret
      have ho := ho.out
      rw [List.drop_of_length_le (by rw [hl.out]; exact Nat.le_refl _), List.append_nil] at ho
      exact ⟨rfl, ⟨ho, hA.2⟩, hb⟩
/-- heldIntS of the marks: they are held. -/
theorem law_heldIntS (A : Option Addr) (n c : Nat) (k : Int) (w : World) (hA : RdI w A n (marks k n)) (hk : 0 ≤ k) (hn : n ≤ 2097152) (hk2 : k ≤ 1000000000) :
    Calls Try.prog 35 #[.slice A n c, .int .i64 k] w fun e w' => e = .returned (.int .i64 (k + n)) ∧ Below w.heap.size w w' := by
  go_enter Try.func35, Try.ntmps35
  go_wp2
  go_loopw [1, 5] (fun q i wr => ∃ j : Nat, j ≤ n ∧ i = .int .i64 j ∧ q = .int .i64 (k + j) ∧ Below w.heap.size w wr) (fun _ i _ => n - (intOf i).toNat)
  case atStart => exact ⟨0, Nat.zero_le _, rfl, by go_num, Below.refl _ _⟩
  case round =>
    obtain ⟨j, hj, rfl, rfl, hb⟩ := hrel
    by_cases hlt : j < n
    · obtain ⟨b, off, x, rfl, e1, c1⟩ := (hA.below hb).at_ hlt
      rw [marks_get n j k hlt] at e1
      injection e1 with e1
      subst e1
      go_wp2
      go_roundw
      case rel => exact ⟨j + 1, by omega, by go_num, by go_num, by (repeat' (first | (with_reducible exact Below.refl _ _) | (with_reducible assumption) | (with_reducible refine Below.alloc ?_ ?_ _) | (with_reducible refine Below.drew ?_) | (with_reducible refine below_drewN ?_ _) | (with_reducible refine Below.setCell ?_ ?_ _) | (first | (with_reducible exact Nat.le_refl _) | (with_reducible assumption) | omega | (simp; omega) | (simp; done))))⟩
      case measure => simp [intOf]; omega
    · obtain rfl : j = n := by omega
      go_wp2
      go_ret
      exact ⟨rfl, hb⟩
end Go.Proofs.Ytadjkldpflidhaa
