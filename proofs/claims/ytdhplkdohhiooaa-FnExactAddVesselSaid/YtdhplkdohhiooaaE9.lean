/- The abstract machine: small additions. -/
import Derived.Test.YtdhplkdohhiooaaE8
namespace Go.Proofs.Ytdhplkdohhiooaa
open Go.RowKit
set_option linter.unusedVariables false
section
variable {P : Program} {σ : AS}
theorem q_conv_byte {s t : TypeId} {x : Operand} {k : IntKind} {a : Int} (hs : (P.underlying s).isSome = true) (ht : intB P t .u8 = true) (hx : σ.ev x = .c (.p (.int k a))) (hb : 0 ≤ a ∧ a ≤ 255) : QOp P (.convert s t x) σ (.c (.p (.int .u8 a))) := by
  have := q_conv (P := P) .u8 hs ht hx
  have e : IntKind.u8.wrap a = a := by simp [IntKind.wrap, IntKind.signed, IntKind.bits]; omega
  rwa [e] at this
/-- string(b): the bytes l. -/
theorem q_conv_bs {s t e : TypeId} {x : Operand} {o : Ow} {xs : List (List Value)} (l : List UInt8) (hs : sliceE P s e = true) (he : intB P e .u8 = true) (hc1 : sizeE P e 1 = true) (ht : P.underlying t = some .string) (hx : σ.ev x = .c (.sl e o xs)) (hl : xs = l.map fun b => [.int .u8 b.toNat]) :
    QOp P (.convert s t x) σ (.c (.p (.string ⟨l.toArray⟩))) :=
  fun _ _ ρ f w _ _ _ _ _ h => by
    have h1 := h.ev x
    rw [hx] at h1
    have h1 : RepC P ρ w (.sl e o xs) (f.eval x) := h1
    have hlen : xs.length = l.length := by rw [hl]; simp
    have hsz : P.cellsOf e = 1 := eq_of_beq hc1
    refine ⟨_, rfl, fun W hW => ?_⟩
    rcases h1.rdS with ⟨h0, A, c, hv⟩ | ⟨g, off, c, hv, hc, hg, ha, hels⟩
    · have hl0 : l = [] := by cases l with
        | nil => rfl
        | cons b l => rw [h0] at hl; simp at hl
      subst hl0
      have hrun : (convert s t (.slice A 0 c)).run P W = .ok (.string ⟨#[]⟩) W := by
        rw [run_convert_bytes_string W s t e A 0 c (sliceE_spec hs).1 (intB_spec he) ht]
        cases A with
        | none => simp [Conv.bytesToString]; rfl
        | some a => simp [Conv.bytesToString, loadCells, loadCellsFrom]; rfl
      simp [execOp, hv, hrun]
    · have hrun := run_convert_bytes_back (P := P) W s t e ⟨g, off, none⟩ c l (sliceE_spec hs).1 (intB_spec he) ht (fun j hj => by
        have hx : xs[j]? = some [.int .u8 l[j].toNat] := by rw [hl, List.getElem?_map, List.getElem?_eq_getElem hj]; rfl
        have := (hels j _ hx).2 0 _ rfl
        rw [hsz, Nat.mul_one, Nat.add_zero] at this
        rw [addr_add, cell_blk (hW.block g hg)]; exact this)
      rw [hlen] at hv
      simp [execOp, hv, hrun]
theorem repV_nl {ρ : Env} {w : World} {u : Value} {e : TypeId} (h : RepV P ρ w (.c .nl) u) : RepV P ρ w (.c (.sl e .ro [])) u := by
  obtain rfl : u = _ := h
  exact ⟨by simp, .inl ⟨rfl, none, 0, rfl⟩⟩
/-- nil is the empty slice. -/
theorem ACalls.nl0 {f : FuncId} {e : TypeId} {args : List AV} {hp hp' : List (List AC)} {r : AV} {k : Nat} (h : ACalls P f (.c (.sl e .ro []) :: args) hp r hp' k) : ACalls P f (.c .nl :: args) hp r hp' k :=
  fun m w vs h1 h2 h3 h4 h5 => h m w vs h1 h2 h3 h4 (by
    obtain ⟨l⟩ := vs
    cases l with
    | nil => exact h5
    | cons v l => exact ⟨repV_nl h5.1, h5.2⟩)
theorem ACalls.nl1 {f : FuncId} {e : TypeId} {x : AV} {args : List AV} {hp hp' : List (List AC)} {r : AV} {k : Nat} (h : ACalls P f (x :: .c (.sl e .ro []) :: args) hp r hp' k) : ACalls P f (x :: .c .nl :: args) hp r hp' k :=
  fun m w vs h1 h2 h3 h4 h5 => h m w vs h1 h2 h3 h4 (by
    obtain ⟨l⟩ := vs
    match l, h5 with
    | v :: u :: l, h5 => exact ⟨h5.1, repV_nl h5.2.1, h5.2.2⟩)
end
end Go.Proofs.Ytdhplkdohhiooaa
