/- The abstract machine: a struct of plain cells compared with itself. -/
import Derived.Test.YtdlebdgdcpemmaaGreatDoorEM
import Derived.Laws.StructEq
import Derived.ChangeKeysEq
namespace Go.Proofs.YtdlebdgdcpemmaaGreatDoor
open Go.RowKit
set_option linter.unusedVariables false
set_option linter.unusedSimpArgs false
section
variable {P : Program} {σ : AS}
def sameV (P : Program) (t : TypeId) (v : Value) : Bool := match P.underlying t, v with
  | some .bool, .bool _ => true
  | some (.int _), .int _ _ => true
  | some .string, .string _ => true
  | _, _ => false
def sameB (P : Program) (t : TypeId) (us : List Value) : Bool := match P.underlying t with
  | some (.struct fs) => !P.stoodInHeld t && !P.eqGuardType P.depth t && fs.toList.all fun f => match us[f.offset]? with
    | some v => sameV P f.type v
    | none => false
  | _ => false
theorem ba_beq (s : ByteArray) : (s == s) = true := by
  show ByteArray.beq s s = true
  unfold ByteArray.beq; simp
theorem run_sameV {t : TypeId} {v : Value} (h : sameV P t v = true) (d : Nat) (w : World) : P.plainKey t = true ∧ (Op.equalIn (d + 1) t v v).run P w = .ok true w := by
  unfold sameV at h
  split at h
  · rename_i hu
    exact ⟨by simp [Program.plainKey, hu], by simp [Op.equalIn, run_underlying hu]⟩
  · rename_i hu
    exact ⟨by simp [Program.plainKey, hu], by simp [Op.equalIn, run_underlying hu]⟩
  · rename_i s hu
    have e : (s == s) = true := by exact ba_beq s
    exact ⟨by simp [Program.plainKey, hu], by simp [Op.equalIn, run_underlying hu, e]⟩
  · cases h
theorem run_same_fields {us : List Value} (d : Nat) (w : World) : ∀ fs : List Field, (fs.all fun f => match us[f.offset]? with
    | some v => sameV P f.type v
    | none => false) = true → (Op.eqFields (d + 1) us.toArray us.toArray fs).run P w = .ok true w
  | [], _ => by simp [Op.eqFields]
  | f :: fs, h => by
    simp only [List.all_cons, Bool.and_eq_true] at h
    have ih := run_same_fields (us := us) d w fs h.2
    have h1 := h.1
    split at h1
    · rename_i v hv
      obtain ⟨hk, he⟩ := run_sameV h1 d w
      have hp : (part f.type us.toArray f.offset).run P w = .ok v w := run_part_plain w hk (by simpa using hv)
      simp only [Op.eqFields]
      split
      · simp only [Sem.run_bind, hp, he, Result.andThen_ok]
        simpa using ih
      · exact ih
    · cases h1
theorem run_same {t : TypeId} {us : List Value} (h : sameB P t us = true) (w : World) : (Op.equal t (.agg us.toArray) (.agg us.toArray)).run P w = .ok true w ∧ P.eqGuardType P.depth t = false := by
  unfold sameB at h
  split at h
  · rename_i fs hu
    simp only [Bool.and_eq_true, Bool.not_eq_true'] at h
    obtain ⟨⟨h1, h2⟩, h3⟩ := h
    have hf : P.fieldsOf t = fs := by simp [Program.fieldsOf, hu]
    refine ⟨?_, h2⟩
    unfold Op.equal
    rw [show Op.maxDepth = 9998 + 1 + 1 from rfl, run_equalIn_struct w (9998 + 1) t _ _ (by rw [hf]; exact hu) h1, hf]
    exact run_same_fields 9998 w fs.toList h3
  · cases h
theorem q_neq_same {t yt : TypeId} {x y : Operand} {cs : List AC} {us : List Value} (hx : σ.ev x = .agg cs) (hy : σ.ev y = .agg cs) (hp : plainC cs = some us) (hs : sameB P t us = true) : QOp P (.binOp .neq t x y yt) σ (.c (.p (.bool false))) :=
  fun _ _ ρ f w _ _ _ _ _ h => ⟨_, rfl, fun W _ => by
    have e1 : f.eval x = .agg us.toArray := by
      have h1 := h.ev x
      rw [hx] at h1
      obtain ⟨vs, e, hl⟩ := h1
      rw [plainC_rep hp] at hl
      rw [e, ← repL_plain hl]
    have e2 : f.eval y = .agg us.toArray := by
      have h1 := h.ev y
      rw [hy] at h1
      obtain ⟨vs, e, hl⟩ := h1
      rw [plainC_rep hp] at hl
      rw [e, ← repL_plain hl]
    obtain ⟨h3, h4⟩ := run_same hs W
    simp [execOp, e1, e2, binOp, eqGuard, h3, h4]⟩
theorem q_eql_same {t yt : TypeId} {x y : Operand} {cs : List AC} {us : List Value} (hx : σ.ev x = .agg cs) (hy : σ.ev y = .agg cs) (hp : plainC cs = some us) (hs : sameB P t us = true) : QOp P (.binOp .eql t x y yt) σ (.c (.p (.bool true))) :=
  fun _ _ ρ f w _ _ _ _ _ h => ⟨_, rfl, fun W _ => by
    have e1 : f.eval x = .agg us.toArray := by
      have h1 := h.ev x
      rw [hx] at h1
      obtain ⟨vs, e, hl⟩ := h1
      rw [plainC_rep hp] at hl
      rw [e, ← repL_plain hl]
    have e2 : f.eval y = .agg us.toArray := by
      have h1 := h.ev y
      rw [hy] at h1
      obtain ⟨vs, e, hl⟩ := h1
      rw [plainC_rep hp] at hl
      rw [e, ← repL_plain hl]
    obtain ⟨h3, h4⟩ := run_same hs W
    simp [execOp, e1, e2, binOp, eqGuard, h3, h4]⟩
end
end Go.Proofs.YtdlebdgdcpemmaaGreatDoor
