/- The abstract machine: in a region that draws its order and makes memory, what does not look at the world is taken first. -/
import Derived.Test.YtdlebdgdcpemmaaGreatDoorEW
namespace Go.Proofs.YtdlebdgdcpemmaaGreatDoor
open Go.RowKit
set_option linter.unusedVariables false
section
variable {P : Program} {σ : AS} {w0 : World} {m0 : Gv} {ops : Array Oper} {Q : Exit → AS → Prop} {l : List Oper} {n : Nat} {listed : List Bool} {cand : List Nat} {ds : List Nat} {σ0 : AS}
theorem qa_cat {t yt : TypeId} {x y : Operand} {a b : ByteArray} (hx : σ.ev x = .c (.p (.string a))) (hy : σ.ev y = .c (.p (.string b))) (hs : a.size + b.size ≤ 9223372036854775807) : QAll P (.binOp .add t x y yt) σ (.c (.p (.string (a ++ b)))) :=
  fun _ _ ρ f w _ _ _ _ _ h => ⟨_, rfl, fun W => by simp [execOp, h.evp hx, h.evp hy, eqGuard, binOp, run_string_add_sum _ a b hs]⟩
def AGc (P : Program) (w0 : World) (m0 : Gv) (n : Nat) (l : List Oper) (Q : Exit → AS → Prop) (ds : List Nat) (σ0 : AS) (cand : List Nat) (listed : List Bool) (σ : AS) : Prop := (∀ c σ, ¬ Q (.panic c) σ) → AG P w0 m0 n l Q ds σ0 listed σ
/-- Only those of cand are tried. -/
theorem agc_startL (cand : List Nat) (hq : ∀ c σ, ¬ Q (.panic c) σ) (h : AGc P w0 m0 n l Q ds σ0 cand listed σ) : AG P w0 m0 n l Q ds σ0 listed σ := h hq
/-- The steps of those that may come up, named. -/
theorem ag_ready {rs : List Nat} (hr : (Region.ready .any l.toArray listed.toArray) = rs) (hne : rs.isEmpty = false) (h : ∀ i ∈ rs, ∃ oi, l[i]? = some oi ∧ (match oi.dst with | some t => ds.elem t | none => true) = true ∧ ∀ w1 B, AR P w1 (Gv.inn B) l.toArray (fun e τ => e = .normal ∧ AG P w0 m0 n l Q ds σ0 (listed.set i true) τ) [oi] σ) : AG P w0 m0 n l Q ds σ0 listed σ := by
  have key : ∀ cand, AGs P w0 m0 n l Q ds σ0 listed σ cand := fun cand => by
    induction cand with
    | nil => trivial
    | cons i c ih =>
      refine ⟨?_, ih⟩
      by_cases hi : i ∈ rs
      · exact .inr (h i hi)
      · exact .inl (by rw [hr]; simpa using hi)
  exact ag_all rfl (by rw [hr]; exact hne) (key _)
theorem agc_nil (h : AG P w0 m0 n l Q ds σ0 listed σ) : AGc P w0 m0 n l Q ds σ0 [] listed σ := fun _ => h
theorem agc_skip {i : Nat} (h : AGc P w0 m0 n l Q ds σ0 cand listed σ) : AGc P w0 m0 n l Q ds σ0 (i :: cand) listed σ := h
def dstIn (ds : List Nat) : Option Tmp → Bool
  | some t => ds.elem t
  | none => true
theorem agc_take {i : Nat} {d : Option Tmp} {o : Op} {ty : TypeId} {pos : String} {af : Array Edge} {x : AV} (hi : l[i]? = some ⟨d, o, ty, pos, af, none⟩) (hs : Region.noSelect l.toArray = true) (hst : (decide (i < n) && sinkT .any l.toArray n && downB .any l listed) = true)
    (hf : Region.free .any l.toArray listed.toArray i = true) (hr : (Region.ready .any l.toArray listed.toArray).contains i = true) (hd : dstIn ds d = true) (hx : QAll P o σ x)
    (h : AGc P w0 m0 n l Q ds σ0 cand (listed.set i true) (σ.put d x)) : AGc P w0 m0 n l Q ds σ0 (i :: cand) listed σ := fun hq ρ0 a0 w1 q0 ρ a w q ho fuel hfu => by
  obtain ⟨u, h1, h2⟩ := hx w1 (Gv.inn ρ0.B) ρ a w d ty pos af none q
  have hrr : i ∈ Region.ready .any l.toArray listed.toArray := by simpa using hr
  have ht := todo_set (listed_of (mem_ready.1 hrr).1)
  obtain ⟨f, rfl⟩ : ∃ f, fuel = f + 1 := ⟨fuel - 1, by omega⟩
  simp only [Bool.and_eq_true, decide_eq_true_eq] at hst
  refine anyT_take (v := u) (oi := ⟨d, o, ty, pos, af, none⟩) hst.1.1 (by simpa using hi) hs hst.1.2 (fun c a w => noPanic hq) _ _ _ _ (Region.free_spec (by simpa using hi) hf) (downB_spec hst.2) hrr (.inl ⟨rfl, fun W _ => h2 W⟩) (Framed.below q.fr) ?_
  have := h hq ρ0 a0 w1 q0 ρ _ w (q.put d h1) (ho.put (fun t ht => by subst ht; exact hd) u) f (by omega)
  rw [List.setIfInBounds_toArray]
  exact this
theorem agc_nrm {listed' : List Bool} {τ : AS} (hl : listed = listed' := by simp only [List.set_cons_succ, List.set_cons_zero]; exact rfl) (h : σ = τ := by simp only [AV.top, if_true, reduceIte, Nat.reduceEqDiff, AS.put, AS.ev, AS.box, AS.sto, AS.row, AS.rows, AS.drp, setCells, AS.upd, AV.upd, AC.upd, AW.upd, cst_nil, cst_int, cst_bool, cst_str, cst_agg, cst_ptr, cst_tup, cstC_nil, cstC_int, cstC_bool, cstC_str, AV.sh, AC.sh, AW.sh, AW.av, AV.drop, AC.drop, AW.drop, Ow.part, List.set_cons_succ, List.set_cons_zero, gt_s, gt_z, List.map_cons, List.map_nil, List.nil_append, List.cons_append, List.length_cons, List.length_nil, List.take_succ_cons, List.take_zero, List.drop_succ_cons, List.drop_zero, Nat.reduceAdd, Nat.zero_add, Nat.add_zero]; exact rfl) (k : AGc P w0 m0 n l Q ds σ0 cand listed' τ) : AGc P w0 m0 n l Q ds σ0 cand listed σ := by subst h hl; exact k
theorem qAll2 {o : Op} {x : AV} (h : QAll P o σ x := by first | exact qa_move | exact qa_assign | (apply qa_cat; exact rfl; exact rfl; omega) | ((first | apply qa_add | apply qa_sub); exact rfl; exact rfl; omega) | (apply qa_indexAddr_o; kernel_rfl; exact rfl; exact rfl; omega; (focus (first | omega | (simp; omega)))) | (apply qa_int; exact rfl; exact rfl; exact rfl) | fail) : QAll P o σ x := h
end
end Go.Proofs.YtdlebdgdcpemmaaGreatDoor
