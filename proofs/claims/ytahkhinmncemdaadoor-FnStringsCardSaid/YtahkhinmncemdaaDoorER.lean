/- The abstract machine: the bytes of a string in a block of the call's own. -/
import Derived.Test.YtahkhinmncemdaaDoorEM
import Derived.Test.YtahkhinmncemdaaDoorEH
namespace Go.Proofs.YtahkhinmncemdaaDoor
open Go.RowKit
set_option linter.unusedVariables false
set_option linter.unusedSimpArgs false
section
variable {P : Program} {σ : AS} {w0 : World} {m0 : Gv} {ρ : Env} {a : Act} {w : World}
variable {ops : Array Oper} {Q : Exit → AS → Prop} {rest : List Oper} {d : Option Tmp} {ty : TypeId} {pos : String} {af : Array Edge}
/-- A new block, whatever its mark behind its cells. -/
theorem Rel.boxW (h : Rel P w0 m0 ρ σ a w) {ys : List AC} {vs : Array Value} (t : TM vs) {w' : World} (hbel : Below w.heap.size w w') (hsz : w'.heap.size = w.heap.size + 1) (hnew : w'.heap[w.heap.size]? = some (.cells vs t.t t.z)) (hl : RepL P ρ w ys vs.toList) :
    Rel P w0 m0 ⟨ρ.B, ρ.m ++ [w.heap.size], ρ.om, ρ.ov⟩ (σ.box ys) a w' ∧ (ρ.m ++ [w.heap.size])[σ.hp.length]? = some w.heap.size := by
  have hold : ∀ g, g < w.heap.size → w'.heap[g]? = w.heap[g]? := fun g hg => hbel.block g hg
  have st : Stab ρ w ⟨ρ.B, ρ.m ++ [w.heap.size], ρ.om, ρ.ov⟩ w' := by
    refine ⟨rfl, by omega, fun g hg _ => hold g hg, fun b g hb => ?_, fun _ _ h => h, fun g hg h1 h2 => ⟨?_, h2⟩, fun g hg => (h.ob g hg).2.2, fun _ _ => rfl⟩
    · show (ρ.m ++ [w.heap.size])[b]? = some g
      rw [List.getElem?_append_left (List.getElem?_eq_some_iff.1 hb).1]; exact hb
    · show g ∉ ρ.m ++ [w.heap.size]
      simp only [List.mem_append, List.mem_singleton, not_or]
      exact ⟨h1, by omega⟩
  have hfr : Framed (m0.m ++ m0.l) w w' := .of_below hbel
  have hw0 : w0.heap.size ≤ w.heap.size := h.fr.size
  have hat : (ρ.m ++ [w.heap.size])[σ.hp.length]? = some w.heap.size := by rw [h.hl]; simp
  refine ⟨⟨h.B, h.Bw, h.fr.trans hfr, ?_, ?_, ?_, ?_, h.no, h.lp, h.nx, by simp [AS.box, h.hl], fun b cs hc => ?_, h.tl, fun i x hx => (h.tm i x hx).keep st, h.df⟩, hat⟩
  · obtain ⟨l, h1, h2⟩ := h.pre
    refine ⟨l ++ [w.heap.size], by rw [← List.append_assoc, ← h1], fun g hg => ?_⟩
    rcases List.mem_append.1 hg with hg | hg
    · exact h2 g hg
    · rw [List.mem_singleton.1 hg]; exact hw0
  · intro g hg
    rcases List.mem_append.1 hg with hg | hg
    · have := h.ml g hg; omega
    · rw [List.mem_singleton.1 hg]; omega
  · refine List.nodup_append.2 ⟨h.nd, by simp, fun x hx y hy => ?_⟩
    have := h.ml x hx
    rw [List.mem_singleton.1 hy]; omega
  · intro g hg
    obtain ⟨h1, h2, h3⟩ := h.ob g hg
    refine ⟨h1, by omega, ?_⟩
    simp only [List.mem_append, List.mem_singleton, not_or]
    exact ⟨h3, by omega⟩
  · simp only [AS.box] at hc
    by_cases hb : b < σ.hp.length
    · rw [List.getElem?_append_left hb] at hc
      obtain ⟨g, hg, us, t', h1, h2⟩ := h.hp b cs hc
      refine ⟨g, st.m b g hg, us, t', (hold g (h.ml g (List.mem_of_getElem? hg))).trans h1, h2.keep st⟩
    · rw [List.getElem?_append_right (by omega)] at hc
      have hb' : b = σ.hp.length := by
        have := (List.getElem?_eq_some_iff.1 hc).1; simp at this; omega
      subst hb'
      simp at hc
      subst hc
      exact ⟨w.heap.size, hat, vs, t, hnew, hl.keep st⟩
/-- What the block of '[]byte(y)' holds: the bytes, then zeros up to c. -/
def byV (y : ByteArray) (c : Nat) : List Value := (y.data.toList.map fun b => Value.int .u8 b.toNat) ++ List.replicate (c - y.size) (.int .u8 0)
theorem byV_len {y : ByteArray} {c : Nat} (h : y.size ≤ c) : (byV y c).length = c := by
  have : y.data.toList.length = y.size := by rw [Array.length_toList]; rfl
  simp only [byV, List.length_append, List.length_map, List.length_replicate, this]; omega
theorem byV_take (y : ByteArray) (c : Nat) : (byV y c).take y.size = y.data.toList.map fun b => Value.int .u8 b.toNat := by
  have : y.data.toList.length = y.size := by rw [Array.length_toList]; rfl
  rw [byV, List.take_append_of_le_length (by rw [List.length_map, this]; exact Nat.le_refl _), List.take_of_length_le (by rw [List.length_map, this]; exact Nat.le_refl _)]
theorem ar_bytes {s t e : TypeId} {x : Operand} {y : ByteArray} (hs : P.underlying s = some .string) (ht : sliceE P t e = true) (he : intB P e .u8 = true) (hx : σ.ev x = .c (.p (.string y)))
    (h : ∀ c, y.size ≤ c → AR P w0 m0 ops Q rest ((σ.box ((byV y c).map .p)).put d (.c (.bsl σ.hp.length y.size c)))) : AR P w0 m0 ops Q (⟨d, .convert s t x, ty, pos, af, none⟩ :: rest) σ := fun ρ a w r => by
  have hrun := run_bytes_of_string (P := P) w s t e y hs (sliceE_spec ht).1 (intB_spec he)
  have hcap := grownCap_ge w y.size 0 e
  generalize hc : grownCap w y.size 0 e = c at hrun hcap
  refine wpList_plain rfl fun K hK => ?_
  have hex : (execOp a.eval ⟨d, .convert s t x, ty, pos, af, none⟩).run P w = .ok (.value (.slice (some ⟨w.heap.size, 0, none⟩) y.size c)) (w.drew.alloc (.cells (bytesRow y c) e ((bytesRow y c).size, (bytesRow y c).size + 1))) := by
    simp [execOp, r.evp hx, hrun]
  have hrow : (bytesRow y c).toList = byV y c := by simp [bytesRow, byV]
  have hbel : Below w.heap.size w (w.drew.alloc (.cells (bytesRow y c) e ((bytesRow y c).size, (bytesRow y c).size + 1))) :=
    ⟨rfl, rfl, rfl, by rw [World.size_alloc]; exact Nat.le_succ _, fun g hg => Below.heap_alloc w.drew _ g hg⟩
  have hnew := heap_alloc_new w.drew (.cells (bytesRow y c) e ((bytesRow y c).size, (bytesRow y c).size + 1))
  obtain ⟨h1, h2⟩ := r.boxW (ys := (byV y c).map .p) ⟨e, ((bytesRow y c).size, (bytesRow y c).size + 1), .inr (Nat.le_refl _)⟩ hbel (World.size_alloc _ _) hnew (by rw [← hrow]; exact repL_p _)
  unfold Oper.wp
  rw [hex]
  exact hK _ _ (h c hcap _ _ _ (h1.put d (x := .c (.bsl σ.hp.length y.size c)) ⟨w.heap.size, h2, rfl⟩))
theorem q_len_bs {t : TypeId} {x : Operand} {b n c : Nat} (ht : sliceB P t = true) (hx : σ.ev x = .c (.bsl b n c)) : QOp P (.call { callee := .builtin .len, args := #[x], argTypes := #[t] }) σ (.c (.p (.int .i64 n))) :=
  fun _ _ ρ f w _ _ _ _ _ h => by
    have h1 := h.ev x
    rw [hx] at h1
    obtain ⟨g, hg, he⟩ := h1
    obtain ⟨e, hu⟩ := sliceB_spec ht
    exact ⟨_, rfl, fun W _ => by simp [execOp, resolve, invoke, builtin, he, Builtin.len_, run_underlying hu, goInt]⟩
theorem q_indexAddr_bs {t e : TypeId} {x y : Operand} {b n c : Nat} {k : IntKind} {i : Int} (ht : sliceE P t e = true) (hc1 : sizeE P e 1 = true) (hx : σ.ev x = .c (.bsl b n c)) (hy : σ.ev y = .c (.p (.int k i))) (hi : 0 ≤ i ∧ i < n) : QOp P (.indexAddr t x y) σ (.c (.ptr b i.toNat)) :=
  fun _ _ ρ f w _ _ _ _ _ h => by
    have h1 := h.ev x
    rw [hx] at h1
    obtain ⟨g, hg, he⟩ := h1
    obtain ⟨hu, hz⟩ := sliceE_spec ht
    have hs1 : P.cellsOf e = 1 := eq_of_beq hc1
    refine ⟨.pointer (some ⟨g, i.toNat, none⟩), ⟨g, hg, rfl⟩, fun W _ => ?_⟩
    simp [execOp, he, h.evp hy, Instr.indexAt, asIntOf, run_underlying hu, size_cellsOf (t := t) hz, hi, addr_add, hs1]
/-- string(b) of the block's bytes. -/
theorem q_conv_bs2 {s t e : TypeId} {x : Operand} {b n c : Nat} {cs : List AC} (l : List UInt8) (hs : sliceE P s e = true) (he : intB P e .u8 = true) (ht : P.underlying t = some .string) (hx : σ.ev x = .c (.bsl b n c)) (hh : σ.hp[b]? = some cs) (hl : cs.take n = (l.map fun b => Value.int .u8 b.toNat).map .p) (hn : l.length = n) :
    QOp P (.convert s t x) σ (.c (.p (.string ⟨l.toArray⟩))) :=
  fun _ _ ρ f w _ _ _ _ _ h => by
    have h1 := h.ev x
    rw [hx] at h1
    obtain ⟨g, hg, hv⟩ := h1
    obtain ⟨g', hg', vs, t', hb, hls⟩ := h.hp b cs hh
    obtain rfl : g = g' := by rw [hg] at hg'; injection hg'
    have h3 := hls.take n
    rw [hl] at h3
    have h4 := repL_plain h3
    refine ⟨_, rfl, fun W hW => ?_⟩
    subst hn
    have hrun := run_convert_bytes_back (P := P) W s t e ⟨g, 0, none⟩ c l (sliceE_spec hs).1 (intB_spec he) ht (fun j hj => by
      have h5 : vs.toList[j]? = some (.int .u8 l[j].toNat) := by
        have := congrArg (fun q : List Value => q[j]?) h4
        simp only [List.getElem?_take, if_pos hj] at this
        rw [this, List.getElem?_map, List.getElem?_eq_getElem hj]; rfl
      rw [addr_add, Nat.zero_add, cell_blk (hW.block g (h.ml g (List.mem_of_getElem? hg))), cell_of_row w g j vs t'.t t'.z hb, ← Array.getElem?_toList]; exact h5)
    simp [execOp, hv, hrun]
/-- As awp_region_any, n chosen. -/
theorem awp_region_n {id : Nat} {n : Nat} {l : List Oper} {cand : List Nat} {listed : List Bool} (hm : P.follows .mixedOrders = true) (hq : ∀ c σ, ¬ Q (.panic c) σ) (hc : idxs 0 l = cand) (hl : l.map (fun _ => false) = listed) (h : AG0 P w0 m0 n l Q cand listed σ) : AWp P w0 m0 (.region id l.toArray true) Q σ := fun ρ a w r => by
  subst hl
  have r' := r.world (Below.drew (Below.refl _ _) : Below w.heap.size w { w with drawn := w.drawn + 1 })
  have := h hq ρ a _ r' l.toArray.size (by
    unfold todo
    refine Nat.le_trans List.count_le_length ?_
    simp)
  refine wp_region_any hm ?_
  have e : (l.map fun _ => false).toArray = Array.replicate l.toArray.size false := by
    rw [List.map_const', List.size_toArray, List.toArray_replicate]
  rw [← e]
  exact anyT_any _ _ _ _ this
end
end Go.Proofs.YtahkhinmncemdaaDoor
