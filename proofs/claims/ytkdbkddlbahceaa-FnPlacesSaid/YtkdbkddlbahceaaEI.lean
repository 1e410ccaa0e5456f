/- The abstract machine: a struct of two rows is lent. -/
import Derived.Test.YtkdbkddlbahceaaEH
namespace Go.Proofs.Ytkdbkddlbahceaa
open Go.RowKit
set_option linter.unusedVariables false
set_option linter.unusedSimpArgs false
section
variable {P : Program} {σ : AS} {w0 : World} {m0 : Gv} {ρ : Env} {a : Act} {w : World}
variable {ops : Array Oper} {Q : Exit → AS → Prop} {rest : List Oper} {d : Option Tmp} {ty : TypeId} {pos : String} {af : Array Edge}
theorem OwS.blk {e : TypeId} {k g : Nat} {xs : List (List Value)} {v : Value} {w' : World} (h : OwS P ρ w e k xs v) (hk : ρ.om[k]? = some g) (hb : w'.heap[g]? = w.heap[g]?) : OwS P ρ w' e k xs v := by
  obtain ⟨t1, g5, t2, t3, t4, t5⟩ := h
  obtain rfl : g = g5 := by rw [hk] at t2; injection t2
  exact ⟨t1, g, t2, t3, t4, ownsRow_blk t5 t4 hb⟩
theorem rows_or {om : List Nat} {g1 g2 g : Nat} (h : g ∉ [g1, g2]) : g ≠ g1 ∧ g ≠ g2 := by simpa using h
/-- A call that writes the two rows of the struct that is handed to it first; the other arguments are plain. -/
theorem ar_lent2 {f : FuncId} {x : Operand} {xs : List Operand} {ts : Array TypeId} {e1 e2 : TypeId} {k1 k2 : Nat} {ys1 ys2 zs1 zs2 : List (List Value)} {us : List Value} {v : Value} {r : AV} (hf : callB P f = true) (hx : σ.ev x = .agg [.sl e1 (.own k1) ys1, .sl e2 (.own k2) ys2]) (hne : (k1 == k2) = false) (hxs : xs.map σ.ev = us.map fun u => .c (.p u)) (hr : plainV r = some v)
    (hc : ALent P f [(e1, ys1), (e2, ys2)] (.agg [.sl e1 (.own 0) ys1, .sl e2 (.own 1) ys2] :: us.map fun u => .c (.p u)) v [zs1, zs2])
    (h : AR P w0 m0 ops Q rest (((σ.upd k1 zs1).upd k2 zs2).put d r)) : AR P w0 m0 ops Q (⟨d, .call { callee := .value (.func f), args := (x :: xs).toArray, argTypes := ts }, ty, pos, af, none⟩ :: rest) σ :=
  ar_enter r ((σ.upd k1 zs1).upd k2 zs2) (f := f) (fun ρ a w q => by
    refine ⟨_, run_call hf _ _ _ _ _ _ _ _ _, ?_⟩
    have hk : k1 ≠ k2 := by simpa using hne
    have h1 := q.ev x
    rw [hx] at h1
    obtain ⟨vs, hvs, hL⟩ := h1
    match hl : vs.toList, hL with
    | [v1, v2], hL =>
      obtain ⟨h1, h2, _⟩ := hL
      have h1 : RepC P ρ w (.sl e1 (.own k1) ys1) v1 := h1
      have h2 : RepC P ρ w (.sl e2 (.own k2) ys2) v2 := h2
      obtain ⟨hle1, how1⟩ := h1
      obtain ⟨hle2, how2⟩ := h2
      have hw1 := how1
      have hw2 := how2
      obtain ⟨_, g1, hg1, hv1, hb1, ho1⟩ := how1
      obtain ⟨_, g2, hg2, hv2, hb2, ho2⟩ := how2
      have hgl1 := (ownsRow_lt ho1 hb1)
      have hgl2 := (ownsRow_lt ho2 hb2)
      have hg12 : g1 ≠ g2 := by
        rintro rfl
        have l1 := (List.getElem?_eq_some_iff.1 hg1).1
        have l2 := (List.getElem?_eq_some_iff.1 hg2).1
        have hp := List.pairwise_iff_getElem.1 q.no
        have e1 := (List.getElem?_eq_some_iff.1 hg1).2
        have e2 := (List.getElem?_eq_some_iff.1 hg2).2
        rcases Nat.lt_or_gt_of_ne hk with hlt | hlt
        · exact hp _ _ l1 l2 hlt (e1.trans e2.symm)
        · exact hp _ _ l2 l1 hlt (e2.trans e1.symm)
      have b1 : OwS P ⟨0, [], [g1, g2], ρ.ov⟩ w e1 0 ys1 v1 := hw1.env hg1 rfl rfl (Nat.zero_le _)
      have b2 : OwS P ⟨0, [], [g1, g2], ρ.ov⟩ w e2 1 ys2 v2 := hw2.env hg2 rfl rfl (Nat.zero_le _)
      have hargs : RepVs P ⟨0, [], [g1, g2], ρ.ov⟩ w (.agg [.sl e1 (.own 0) ys1, .sl e2 (.own 1) ys2] :: us.map fun u => .c (.p u)) ((x :: xs).toArray.map a.eval).toList := by
        have hrest : ∀ (xs : List Operand) (us : List Value), xs.map σ.ev = (us.map fun u => .c (.p u)) → RepVs P ⟨0, [], [g1, g2], ρ.ov⟩ w (us.map fun u => .c (.p u)) (xs.map a.eval) := by
          intro xs
          induction xs with
          | nil => intro us he; cases us with
            | nil => trivial
            | cons u us => simp at he
          | cons z zs ih => intro us he; cases us with
            | nil => simp at he
            | cons u us =>
              simp only [List.map_cons, List.cons.injEq] at he
              exact ⟨q.evp he.1, ih us he.2⟩
        have := hrest xs us hxs
        simp only [List.map_toArray, List.map_cons]
        refine ⟨⟨vs, hvs, ?_⟩, this⟩
        rw [hl]
        exact ⟨⟨hle1, b1⟩, ⟨hle2, b2⟩, trivial⟩
      refine (hc [g1, g2] ρ.ov w _ (by simp [hg12]) rfl (by simp; exact ⟨hgl1.2, hgl2.2⟩) hargs).mono ?_
      rintro en w' ⟨rfl, hrow, hfr⟩
      obtain ⟨ys3, hy3, hl3, hw3⟩ := hrow 0 e1 ys1 _ rfl b1
      obtain rfl : zs1 = ys3 := by simpa using hy3
      obtain ⟨ys4, hy4, hl4, hw4⟩ := hrow 1 e2 ys2 _ rfl b2
      obtain rfl : zs2 = ys4 := by simpa using hy4
      have hs2 : g2 < w'.heap.size := Nat.lt_of_lt_of_le hgl2.2 hfr.size
      let wm : World := { w' with heap := w'.heap.setIfInBounds g2 (w.heap[g2]'hgl2.2) }
      have m2 : wm.heap[g2]? = w.heap[g2]? := by
        show (w'.heap.setIfInBounds g2 _)[g2]? = _
        rw [Array.getElem?_setIfInBounds_self_of_lt hs2, Array.getElem?_eq_getElem hgl2.2]
      have mo : ∀ g, g ≠ g2 → wm.heap[g]? = w'.heap[g]? := fun g hg => by
        show (w'.heap.setIfInBounds g2 _)[g]? = _
        rw [Array.getElem?_setIfInBounds_ne (Ne.symm hg)]
      have ms : wm.heap.size = w'.heap.size := by show (w'.heap.setIfInBounds g2 _).size = _; simp
      have gr1 : w.grownBy wm (some g1) := ⟨hfr.os, hfr.tape, hfr.output, by rw [ms]; exact hfr.size, fun b hb hne => by
        by_cases hb2 : b = g2
        · subst hb2; exact m2
        · rw [mo b hb2]
          exact hfr.blk b hb (by simp only [List.mem_cons, List.not_mem_nil, or_false, not_or]; exact ⟨fun e => hne (by rw [e]), hb2⟩)⟩
      have gr2 : wm.grownBy w' (some g2) := ⟨rfl, rfl, rfl, by rw [ms]; exact Nat.le_refl _, fun b hb hne => (mo b (fun e => hne (by rw [e]))).symm⟩
      have r1 := (q.upd (xs := zs1) hg1 gr1 fun e zs v' q2 => ⟨hl3, by
        obtain ⟨s1, s2, s3⟩ := hw1.same q2
        subst s1 s2
        exact (hw3.env (k := k1) (ρ' := ρ) rfl hg1 rfl hgl1.1).blk hg1 (mo g1 hg12)⟩).2
      have r2 := (r1.upd (xs := zs2) hg2 gr2 fun e zs v' q2 => ⟨hl4, by
        have q3 : OwS P ρ w e k2 zs v' := q2.blk hg2 m2.symm
        obtain ⟨s1, s2, s3⟩ := hw2.same q3
        subst s1 s2
        exact hw4.env (k := k2) (ρ' := ρ) rfl hg2 rfl hgl2.1⟩).2
      exact ⟨v, ρ, rfl, r2, (plainV_rep hr).2 rfl⟩) h
end
end Go.Proofs.Ytkdbkddlbahceaa
