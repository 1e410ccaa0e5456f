/- The abstract machine: structs of ints compared. -/
import Derived.Test.YthmaiahllhgdpaaEN
namespace Go.Proofs.Ythmaiahllhgdpaa
open Go.RowKit
set_option linter.unusedVariables false
set_option linter.unusedSimpArgs false
section
variable {P : Program} {σ : AS}
def intT (P : Program) (t : TypeId) : Bool := match P.underlying t with
  | some (.int _) => true
  | _ => false
def intsB (P : Program) (t : TypeId) (n : Nat) : Bool := match P.underlying t with
  | some (.struct fs) => !P.stoodInHeld t && !P.eqGuardType P.depth t && decide (fs.toList.map (·.offset) = List.range n) && fs.toList.all fun f => decide (f.name ≠ "_") && intT P f.type && decide (f.offset < n)
  | _ => false
theorem run_ints {xs ys : List Int} (hl : ys.length = xs.length) (d : Nat) (w : World) : ∀ fs : List Field, (fs.all fun f => decide (f.name ≠ "_") && intT P f.type && decide (f.offset < xs.length)) = true →
    (Op.eqFields (d + 1) (xs.map (Value.int .i64)).toArray (ys.map (Value.int .i64)).toArray fs).run P w = .ok ((fs.map (·.offset)).all fun i => decide (xs[i]? = ys[i]?)) w
  | [], _ => by simp [Op.eqFields]
  | f :: fs, h => by
    simp only [List.all_cons, Bool.and_eq_true, decide_eq_true_eq] at h
    obtain ⟨⟨⟨h1, h2⟩, h3⟩, h4⟩ := h
    have ih := run_ints hl d w fs (by simpa only [Bool.and_eq_true, decide_eq_true_eq] using h4)
    unfold intT at h2
    split at h2
    · rename_i k hu
      have hk : P.plainKey f.type = true := by simp [Program.plainKey, hu]
      have ea : xs[f.offset]? = some xs[f.offset] := List.getElem?_eq_getElem h3
      have eb : ys[f.offset]? = some (ys[f.offset]'(by omega)) := List.getElem?_eq_getElem (by omega)
      have hp1 : (part f.type (xs.map (Value.int .i64)).toArray f.offset).run P w = .ok (.int .i64 xs[f.offset]) w := run_part_plain w hk (by simp [ea])
      have hp2 : (part f.type (ys.map (Value.int .i64)).toArray f.offset).run P w = .ok (.int .i64 (ys[f.offset]'(by omega))) w := run_part_plain w hk (by simp [eb])
      have he : (Op.equalIn (d + 1) f.type (.int .i64 xs[f.offset]) (.int .i64 (ys[f.offset]'(by omega)))).run P w = .ok (xs[f.offset] == ys[f.offset]'(by omega)) w := by simp [Op.equalIn, run_underlying hu]
      simp only [Op.eqFields]
      rw [if_pos h1]
      simp only [Sem.run_bind, hp1, hp2, he, Result.andThen_ok, List.map_cons, List.all_cons, ea, eb]
      by_cases hq : xs[f.offset] = ys[f.offset]'(by omega)
      · rw [if_neg (by simp [hq]), ih]
        simp [hq]
      · rw [if_pos (by simp [hq])]
        simp [hq]
    · cases h2
theorem q_eql_ints (xs ys : List Int) {t yt : TypeId} {x y : Operand} (hx : σ.ev x = .agg (xs.map fun a => .p (.int .i64 a))) (hy : σ.ev y = .agg (ys.map fun a => .p (.int .i64 a))) (ht : intsB P t xs.length = true) (hl : ys.length = xs.length) : QOp P (.binOp .eql t x y yt) σ (.c (.p (.bool (decide (xs = ys))))) :=
  fun _ _ ρ f w _ _ _ _ _ h => ⟨_, rfl, fun W _ => by
    have hplain : ∀ xs : List Int, plainC (xs.map fun a => AC.p (.int .i64 a)) = some (xs.map (Value.int .i64)) := fun xs => by
      induction xs with
      | nil => rfl
      | cons a xs ih => simp [plainC, ih]
    have hev : ∀ {z : Operand} {xs : List Int}, σ.ev z = .agg (xs.map fun a => .p (.int .i64 a)) → f.eval z = .agg (xs.map (Value.int .i64)).toArray := fun {z xs} hz => by
      have h1 := h.ev z
      rw [hz] at h1
      obtain ⟨vs, e, hl⟩ := h1
      rw [plainC_rep (hplain xs)] at hl
      rw [e, ← repL_plain hl]
    have e1 := hev hx
    have e2 := hev hy
    unfold intsB at ht
    split at ht
    · rename_i fs hu
      simp only [Bool.and_eq_true, Bool.not_eq_true', decide_eq_true_eq] at ht
      obtain ⟨⟨⟨h1, h2⟩, h3⟩, h4⟩ := ht
      have hf : P.fieldsOf t = fs := by simp [Program.fieldsOf, hu]
      have h5 : (Op.equal t (.agg (xs.map (Value.int .i64)).toArray) (.agg (ys.map (Value.int .i64)).toArray)).run P W = .ok (decide (xs = ys)) W := by
        unfold Op.equal
        rw [show Op.maxDepth = 9998 + 1 + 1 from rfl, run_equalIn_struct W (9998 + 1) t _ _ (by rw [hf]; exact hu) h1, hf, run_ints hl 9998 W fs.toList (by simpa only [Bool.and_eq_true, decide_eq_true_eq] using h4), h3]
        congr 1
        rw [Bool.eq_iff_iff, List.all_eq_true, decide_eq_true_eq]
        constructor
        · intro hh
          refine List.ext_getElem? fun i => ?_
          by_cases hi : i < xs.length
          · simpa using hh i (by simpa using hi)
          · rw [List.getElem?_eq_none (by omega), List.getElem?_eq_none (by omega)]
        · rintro rfl i _
          simp
      simp [execOp, e1, e2, binOp, eqGuard, h5, h2]
    · cases ht⟩
end
end Go.Proofs.Ythmaiahllhgdpaa
