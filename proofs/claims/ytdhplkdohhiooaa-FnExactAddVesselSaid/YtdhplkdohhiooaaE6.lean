/- The abstract machine: append, slices written out, calls that make rows or write through a pointer. -/
import Derived.Test.YtdhplkdohhiooaaE5
namespace Go.Proofs.Ytdhplkdohhiooaa
open Go.RowKit
set_option linter.unusedVariables false

section
variable {P : Program} {σ : AS} {w0 : World} {m0 : Gv} {ρ : Env} {a : Act} {w : World}
variable {ops : Array Oper} {Q : Exit → AS → Prop} {rest : List Oper} {d : Option Tmp} {ty : TypeId} {pos : String} {af : Array Edge}

/-- e can be an element of a row: its zero value is known, it has cells, few bytes. -/
def rowB (P : Program) (e : TypeId) : Bool := match P.info? e with
  | some i => decide (0 < i.size) && decide (i.bytes ≤ 1048576) && match i.zero with
    | some z => z.cells.size == i.size
    | none => false
  | none => false
theorem rowB_spec {e : TypeId} (h : rowB P e = true) : ∃ (i : TypeInfo) (z : Value), P.info? e = some i ∧ i.zero = some z ∧ z.cells.size = i.size ∧ 0 < i.size ∧ i.bytes ≤ 1048576 ∧ P.cellsOf e = i.size := by
  unfold rowB at h
  split at h
  · rename_i i hi
    simp only [Bool.and_eq_true, decide_eq_true_eq] at h
    obtain ⟨⟨h1, h2⟩, h3⟩ := h
    split at h3
    · rename_i z hz
      exact ⟨i, z, hi, hz, eq_of_beq h3, h1, h2, by simp [Program.cellsOf, hi]⟩
    · cases h3
  · cases h
def okE (ys : List (List Value)) : Prop := ∀ y ∈ ys, ∀ v ∈ y, v.oneCell' = true
theorem okE_flat {ys : List (List Value)} (h : okE ys) : ∀ v ∈ ys.flatten, v.oneCell' = true := by
  intro v hv
  obtain ⟨y, h1, h2⟩ := List.mem_flatten.1 hv
  exact h y h1 v h2
theorem RdS.lens {e : TypeId} {o : Ow} {xs : List (List Value)} {u : Value} (h : RdS P ρ w e o xs u) : ∀ x ∈ xs, x.length = P.cellsOf e := by
  intro x hx
  obtain ⟨i, hi, rfl⟩ := List.getElem_of_mem hx
  obtain ⟨_, _, _, _, _, _, h1, _⟩ := h.at_ (List.getElem?_eq_getElem hi)
  exact h1
/-- The source of an append, as cells. -/
theorem RdS.src {e : TypeId} {o : Ow} {xs : List (List Value)} {u : Value} (h : RdS P ρ w e o xs u) (hs : 0 < P.cellsOf e) :
    (xs = [] ∧ ∃ c, u = .slice none 0 c) ∨ ∃ ad c, u = .slice (some ad) xs.length c ∧ ∀ j v, xs.flatten[j]? = some v → w.cell? (ad.add j) = some v := by
  have hl := h.lens
  rcases h with ⟨rfl, A, c, rfl⟩ | ⟨g, off, c, rfl, hc, hg, ha, he⟩
  · cases A with
    | none => exact .inl ⟨rfl, c, rfl⟩
    | some ad => exact .inr ⟨ad, c, rfl, fun j v hv => by simp at hv⟩
  · refine .inr ⟨_, c, rfl, fun j v hv => ?_⟩
    obtain ⟨x, h1, h2⟩ := flat_inv hs hl hv
    have := (he _ x h1).2 _ v h2
    rw [addr_add, ← this, Nat.mul_comm, Nat.div_add_mod]
theorem nodup_set {l : List Nat} (h : l.Nodup) (k x : Nat) (hx : ∀ j, j ≠ k → l[j]? ≠ some x) : (l.set k x).Nodup := by
  have hp := List.pairwise_iff_getElem.1 h
  refine List.pairwise_iff_getElem.2 fun i j hi hj hij => ?_
  simp only [List.length_set] at hi hj
  rw [List.getElem_set, List.getElem_set]
  by_cases h1 : k = i
  · rw [if_pos h1, if_neg (by omega)]
    intro e
    exact hx j (by omega) (by rw [List.getElem?_eq_getElem hj, e])
  · rw [if_neg h1]
    by_cases h2 : k = j
    · rw [if_pos h2]
      intro e
      exact hx i (by omega) (by rw [List.getElem?_eq_getElem hi, e])
    · rw [if_neg h2]
      exact hp i j hi hj hij
def AS.drp (σ : AS) (k : Nat) : AS := { tm := σ.tm.map (AV.drop k), hp := σ.hp.map (List.map (AC.drop k)), nx := σ.nx }
/-- Row k is written or laid anew. -/
def Env.mov (ρ : Env) (k g' : Nat) (v : Value) : Env := ⟨ρ.B, ρ.m, ρ.om.set k g', fun x => if x = g' then v else ρ.ov x⟩
theorem Rel.moved (h : Rel P w0 m0 ρ σ a w) {k g g' : Nat} (v : Value) {w' : World} (hk : ρ.om[k]? = some g) (hg : w.grownBy w' (some g)) (hg' : g' = g ∨ w.heap.size ≤ g') (hl : g' < w'.heap.size) (hlp : ∀ (j q : Nat), m0.l[j]? = some q → j ≠ k ∨ (g' = q ∧ v = m0.v q)) :
    Move k ρ w g' (ρ.mov k g' v) w' ∧ Rel P w0 m0 (ρ.mov k g' v) (σ.drp k) a w' := by
  have hgm := List.mem_of_getElem? hk
  have mv : Move k ρ w g' (ρ.mov k g' v) w' := by
    refine ⟨rfl, hg.size, fun q hq hne => hg.block q hq (fun e => hne (by rw [hk]; exact e.symm)), rfl, rfl, h.no, ?_, fun q hq hne => ?_⟩
    · rcases hg' with rfl | hg'
      · exact .inl hk
      · exact .inr hg'
    · show (if q = g' then v else ρ.ov q) = ρ.ov q
      rw [if_neg]
      rintro rfl
      rcases hg' with rfl | hg'
      · exact hne hk
      · have := (h.ob q hq).2.1; omega
  have hw0 : w0.heap.size ≤ w.heap.size := h.fr.size
  have hog := h.ob g hgm
  refine ⟨mv, ⟨h.B, h.Bw, ?_, h.pre, fun q hq => Nat.lt_of_lt_of_le (h.ml q hq) hg.size, h.nd, fun q hq => ?_, ?_, fun j q hq => ?_, by simp [AS.drp, Env.mov, h.nx], by simp [AS.drp, Env.mov, h.hl], fun b cs hc => ?_, by simp [AS.drp, h.tl], fun i x hx => ?_, h.df⟩⟩
  · refine ⟨hg.os.trans h.fr.os, hg.tape.trans h.fr.tape, hg.output.trans h.fr.output, Nat.le_trans h.fr.size hg.size, fun q hq hn => ?_⟩
    refine (hg.block q (by omega) (fun e => ?_)).trans (h.fr.blk q hq hn)
    injection e with e; subst e
    rcases hog.1 with h1 | h1
    · exact hn (List.mem_append_right _ h1)
    · omega
  · rcases List.mem_or_eq_of_mem_set hq with hq | rfl
    · obtain ⟨h1, h2, h3⟩ := h.ob q hq
      exact ⟨h1, Nat.lt_of_lt_of_le h2 hg.size, h3⟩
    · rcases hg' with rfl | hg'
      · exact ⟨hog.1, hl, hog.2.2⟩
      · exact ⟨.inr (by omega), hl, fun hm => by have := h.ml _ hm; omega⟩
  · refine nodup_set h.no k g' fun j hj e => ?_
    rcases hg' with rfl | hg'
    · exact om_ne mv hj e hk
    · have := (h.ob g' (List.mem_of_getElem? e)).2.1
      omega
  · obtain ⟨h1, h2⟩ := h.lp j q hq
    by_cases hj : j = k
    · obtain ⟨e1, e2⟩ := (hlp j q hq).resolve_left (fun e => e hj)
      subst hj e1
      refine ⟨?_, ?_⟩
      · show (ρ.om.set j g')[j]? = some g'
        rw [List.getElem?_set_self (List.getElem?_eq_some_iff.1 h1).1]
      · show (if g' = g' then v else ρ.ov g') = m0.v g'
        rw [if_pos rfl]; exact e2
    · refine ⟨?_, by rw [mv.ov q (List.mem_of_getElem? h1) (om_ne mv hj h1)]; exact h2⟩
      show (ρ.om.set k g')[j]? = some q
      rw [List.getElem?_set_ne (fun e => hj e.symm)]; exact h1
  · simp only [AS.drp, List.getElem?_map] at hc
    obtain ⟨ds, hd, rfl⟩ := Option.map_eq_some_iff.1 hc
    obtain ⟨q, hq, us, t', h1, h2⟩ := h.hp b ds hd
    have hqm := List.mem_of_getElem? hq
    exact ⟨q, hq, us, t', (hg.block q (h.ml q hqm) (fun e => by injection e with e; subst e; exact hog.2.2 hqm)).trans h1, h2.moved mv⟩
  · simp only [AS.drp, List.getElem?_map] at hx
    obtain ⟨y, hy, rfl⟩ := Option.map_eq_some_iff.1 hx
    exact (h.tm i y hy).moved mv
theorem ar_append {t e : TypeId} {s x : Operand} {k : Nat} {o : Ow} {xs ys : List (List Value)} (ht : sliceE P t e = true) (hr : rowB P e = true) (hs : σ.ev s = .c (.sl e (.own k) xs)) (hx : σ.ev x = .c (.sl e o ys)) (hok : okE ys)
    (hb : xs.length + ys.length ≤ 134217728) (hl0 : m0.l = []) (h : AR P w0 m0 ops Q rest ((σ.drp k).put d (.c (.sl e (.own k) (xs ++ ys))))) :
    AR P w0 m0 ops Q (⟨d, .call { callee := .builtin .append, args := #[s, x], argTypes := #[t, t] }, ty, pos, af, none⟩ :: rest) σ :=
  ar_val _ _ (fun ρ a w r => by
    have h1 := r.ev s
    rw [hs] at h1
    obtain ⟨_, hlx, g, hg, hvv, hu, ho⟩ := h1
    have h2 := r.ev x
    rw [hx] at h2
    have h2 : RepC P ρ w (.sl e o ys) (a.eval x) := h2
    obtain ⟨i, z, hi, hz, hzs, hsz, hby, hce⟩ := rowB_spec hr
    obtain ⟨hu1, _⟩ := sliceE_spec ht
    have hle : (xs ++ ys).length = xs.length + ys.length := List.length_append
    have hlen : ∀ v ∈ xs ++ ys, v.length = P.cellsOf e := by
      intro v hv
      rcases List.mem_append.1 hv with hv | hv
      · exact hlx v hv
      · exact h2.rdS.lens v hv
    rcases h2.rdS.src (by omega) with ⟨rfl, c, he⟩ | ⟨ad, c, he, hc⟩
    · have hrun : (Builtin.append_ #[t, t] ty #[a.eval s, .slice none 0 c]).run P w = .ok (a.eval s) w := by
        rcases ho.2 with ⟨hv, _⟩ | ⟨g0, cap, cur, hv, _, _, hnc, _⟩
        · rw [hv] at hu; simp [Value.ownBlock] at hu
        · rw [hv]
          simp [Builtin.append_, run_underlying hu1, sizeOf, typeInfo, hi, Builtin.lenOf, Builtin.firstCells, hnc, storeCells]
      obtain ⟨mv, r'⟩ := r.moved (a.eval s) hg (World.grownBy.refl w _) (.inl rfl) (ownsRow_lt ho hu).2 (fun j q hq => by rw [hl0] at hq; simp at hq)
      refine ⟨a.eval s, _, w, ?_, r', ?_⟩
      · simp [execOp, resolve, invoke, builtin, he, hrun]
      · rw [List.append_nil]
        refine ⟨by omega, hlx, g, ?_, ?_, hu, ho⟩
        · show (ρ.om.set k g)[k]? = some g
          rw [List.getElem?_set_self (List.getElem?_eq_some_iff.1 hg).1]
        · show a.eval s = if g = g then a.eval s else ρ.ov g
          rw [if_pos rfl]
    · rw [hce] at ho hlen
      have hfl : ys.flatten.length = ys.length * i.size := flat_len (fun v hv => by rw [h2.rdS.lens v hv, hce])
      have hbase : ρ.B ≤ w.heap.size := by rw [r.B]; exact Nat.le_trans r.Bw r.fr.size
      obtain ⟨v', w', g', hrun, how, hgr, hv', hgg⟩ := run_append_own' t ty e i z hu1 hi hz hzs hsz (a.eval s) xs.length g xs.flatten ho hu ad ys.length c ys.flatten hfl hc (okE_flat hok) (by unfold maxLen; omega)
        (by have := Nat.mul_le_mul hb hby; omega) hbase
      obtain ⟨mv, r'⟩ := r.moved v' hg hgr hgg (ownsRow_lt how hv').2 (fun j q hq => by rw [hl0] at hq; simp at hq)
      refine ⟨v', _, w', ?_, r', ?_⟩
      · simp [execOp, resolve, invoke, builtin, he, hrun]
      · refine ⟨by omega, by rw [hce]; exact hlen, g', ?_, ?_, hv', ?_⟩
        · show (ρ.om.set k g')[k]? = some g'
          rw [List.getElem?_set_self (List.getElem?_eq_some_iff.1 hg).1]
        · show v' = if g' = g' then v' else ρ.ov g'
          rw [if_pos rfl]
        · rw [hce, List.flatten_append, List.length_append]; exact how) h
/-- append to nil of what is not empty: a new row. -/
theorem ar_append_n {t e : TypeId} {s x : Operand} {o : Ow} {ys : List (List Value)} (ht : sliceE P t e = true) (hr : rowB P e = true) (hs : σ.ev s = .c .nl) (hx : σ.ev x = .c (.sl e o ys)) (hok : okE ys) (hne : 0 < ys.length)
    (hb : ys.length ≤ 134217728) (h : AR P w0 m0 ops Q rest (σ.row.put d (.c (.sl e (.own σ.nx) ys)))) :
    AR P w0 m0 ops Q (⟨d, .call { callee := .builtin .append, args := #[s, x], argTypes := #[t, t] }, ty, pos, af, none⟩ :: rest) σ :=
  ar_val _ _ (fun ρ a w r => by
    have h1 : a.eval s = .slice none 0 0 := by have := r.ev s; rw [hs] at this; exact this
    have h2 := r.ev x
    rw [hx] at h2
    have h2 : RepC P ρ w (.sl e o ys) (a.eval x) := h2
    obtain ⟨i, z, hi, hz, hzs, hsz, hby, hce⟩ := rowB_spec hr
    obtain ⟨hu1, _⟩ := sliceE_spec ht
    rcases h2.rdS.src (by omega) with ⟨rfl, c, he⟩ | ⟨ad, c, he, hc⟩
    · simp at hne
    · have hfl : ys.flatten.length = ys.length * i.size := flat_len (fun v hv => by rw [h2.rdS.lens v hv, hce])
      obtain ⟨v', w', hrun, how, hgr, hnil⟩ := run_append_own (P := P) w w.heap.size t ty e i z i.size i.bytes hu1 hi hz rfl rfl hzs hsz (.slice none 0 0) 0 [] (World.ownsRow_nil w _ e i.size) ad ys.length c ys.flatten hfl hc (okE_flat hok) (by unfold maxLen; omega)
        (by have := Nat.mul_le_mul hb hby; rw [Nat.zero_add]; omega) (Nat.le_refl _)
      rw [List.nil_append, Nat.zero_add] at how
      rcases how.2 with ⟨rfl, h0⟩ | ⟨g, cap, cur, rfl, hgb, hgh, _⟩
      · omega
      · have hbl : Below w.heap.size w w' := ⟨hgr.os, hgr.tape, hgr.output, hgr.size, fun q hq => hgr.block q hq (by simp [Value.ownBlock])⟩
        have hlt := (Array.getElem?_eq_some_iff.1 hgh).1
        obtain ⟨r', st, hom⟩ := r.row g (.slice (some ⟨g, 0, none⟩) ys.length cap) hbl hgb hlt
        refine ⟨.slice (some ⟨g, 0, none⟩) ys.length cap, _, w', ?_, r', ?_⟩
        · simp [execOp, resolve, invoke, builtin, he, h1, hrun]
        · refine ⟨by omega, h2.rdS.lens, g, hom, ?_, rfl, ?_⟩
          · show _ = if g = g then Value.slice (some ⟨g, 0, none⟩) ys.length cap else ρ.ov g
            rw [if_pos rfl]
          rw [hce]
          refine ⟨how.1, .inr ⟨g, cap, cur, rfl, ?_, ?_⟩⟩
          · show ρ.B ≤ g
            rw [r.B]; exact Nat.le_trans r.Bw (Nat.le_trans r.fr.size hgb)
          · rcases how.2 with ⟨hv, _⟩ | ⟨g2, cap2, cur2, hv, _, q⟩
            · cases hv
            · injection hv with e1 e2 e3
              injection e1 with e1; injection e1 with e1
              subst e1; subst e3
              have := q.1
              rw [hgh] at this
              injection this with this
              injection this with t1 t2 t3
              subst t1
              exact q) h

/-! ### Slices written out -/
theorem foldl_put (off : Nat) : ∀ (vs : List Value) (k : Nat) (cells : List Value), off + k + vs.length ≤ cells.length →
    (vs.zipIdx k).foldl (fun (cs : Array Value) (x : Value × Nat) => cs.setIfInBounds (off + x.2) x.1) cells.toArray = (cells.take (off + k) ++ vs ++ cells.drop (off + k + vs.length)).toArray
  | [], k, cells, h => by simp
  | v :: vs, k, cells, h => by
    rw [List.zipIdx_cons, List.foldl_cons]
    simp only [List.setIfInBounds_toArray]
    simp only [List.length_cons] at h
    rw [foldl_put off vs (k + 1) _ (by rw [List.length_set]; omega)]
    congr 1
    have hl : off + k < cells.length := by omega
    have hA : (cells.take (off + k)).length = off + k := by rw [List.length_take]; omega
    rw [List.set_eq_take_append_cons_drop, if_pos hl, show cells.take (off + k) ++ v :: cells.drop (off + k + 1) = (cells.take (off + k) ++ [v]) ++ cells.drop (off + k + 1) by simp]
    have hB : (cells.take (off + k) ++ [v]).length = off + (k + 1) := by rw [List.length_append, hA]; rfl
    rw [List.take_left' hB, show off + (k + 1) + vs.length = (cells.take (off + k) ++ [v]).length + vs.length by rw [hB], List.drop_length_add_append, List.drop_drop]
    simp [Nat.add_assoc, Nat.add_comm 1]
/-- Parts of s cells each, one behind the other. -/
theorem fill_list (s : Nat) : ∀ (us : List Value) (k : Nat) (cells : List Value), (∀ u ∈ us, u.cells.size = s) → (k + us.length) * s ≤ cells.length →
    Instr.fill (fun i => some (i * s, s)) cells.toArray ((List.range' k us.length).zip us) = some (cells.take (k * s) ++ us.flatMap (fun u => u.cells.toList) ++ cells.drop ((k + us.length) * s)).toArray
  | [], k, cells, _, _ => by simp [Instr.fill]
  | u :: us, k, cells, hu, h => by
    have h1 : u.cells.size = s := hu u (by simp)
    have h2 : (k + 1) * s ≤ cells.length := Nat.le_trans (Nat.mul_le_mul_right s (by simp)) h
    have h3 : k * s + s ≤ cells.length := by rw [Nat.add_mul] at h2; omega
    have hp := foldl_put (k * s) u.cells.toList 0 cells (by simp only [Array.length_toList]; omega)
    have hz : u.cells.zipIdx.foldl (fun (cs : Array Value) (x : Value × Nat) => cs.setIfInBounds (k * s + x.2) x.1) cells.toArray = (u.cells.toList.zipIdx 0).foldl (fun (cs : Array Value) (x : Value × Nat) => cs.setIfInBounds (k * s + x.2) x.1) cells.toArray := by
      rw [← Array.foldl_toList, Array.toList_zipIdx]
    have hl0 : (cells.take (k * s)).length = k * s := by rw [List.length_take]; omega
    have ih := fill_list s us (k + 1) (cells.take (k * s) ++ u.cells.toList ++ cells.drop (k * s + s)) (fun v hv => hu v (by simp [hv])) (by
      simp only [List.length_append, List.length_take, List.length_drop, Array.length_toList, h1]
      simp only [List.length_cons] at h
      have e1 : (k + 1 + us.length) * s = (k + (us.length + 1)) * s := by congr 1; omega
      rw [e1]; omega)
    simp only [List.length_cons, List.range'_succ, List.zip_cons_cons]
    show (if (decide (u.cells.size ≠ s) || decide (k * s + u.cells.size > cells.toArray.size)) = true then none else Instr.fill (fun i => some (i * s, s)) (u.cells.zipIdx.foldl (fun (cs : Array Value) (x : Value × Nat) => cs.setIfInBounds (k * s + x.2) x.1) cells.toArray) ((List.range' (k + 1) us.length).zip us)) = _
    rw [if_neg (by simp [h1]; first | done | omega), hz, hp]
    simp only [Nat.add_zero, Array.length_toList, h1]
    rw [ih]
    have hA : (cells.take (k * s) ++ u.cells.toList).length = (k + 1) * s := by rw [List.length_append, hl0, Array.length_toList, h1, Nat.add_mul]; omega
    congr 2
    rw [List.take_left' hA, List.flatMap_cons]
    have e1 : (k + 1 + us.length) * s = (cells.take (k * s) ++ u.cells.toList).length + us.length * s := by rw [hA, Nat.add_mul (k + 1)]
    rw [e1, List.drop_length_add_append, List.drop_drop]
    have e2 : k * s + s + us.length * s = (k + (us.length + 1)) * s := by rw [Nat.add_mul k, Nat.add_mul us.length]; omega
    rw [e2]
    simp
/-- .. and nothing else. -/
theorem fill_all (s : Nat) (us : List Value) (cells : List Value) (hu : ∀ u ∈ us, u.cells.size = s) (h : cells.length = us.length * s) :
    Instr.fill (fun i => some (i * s, s)) cells.toArray ((List.range' 0 us.length).zip us) = some (us.flatMap fun u => u.cells.toList).toArray := by
  have := fill_list s us 0 cells hu (by rw [Nat.zero_add]; omega)
  rw [this]
  simp [h]
/-- The cells of the parts, plain. -/
def partsV (σ : AS) : List (Nat × Operand) → Option (List (List Value))
  | [] => some []
  | q :: qs => match (σ.ev q.2).cells with
    | some cs => match plainC cs, partsV σ qs with
      | some y, some ys => some (y :: ys)
      | _, _ => none
    | none => none
theorem partsV_spec (r : Rel P w0 m0 ρ σ a w) : ∀ {qs : List (Nat × Operand)} {ys : List (List Value)}, partsV σ qs = some ys → qs.map (fun q => (a.eval q.2).cells.toList) = ys
  | [], ys, h => by simp [partsV] at h; subst h; rfl
  | q :: qs, ys, h => by
    simp only [partsV] at h
    split at h
    · rename_i cs hcs
      split at h
      · rename_i y ys' hy hys
        injection h with h; subst h
        have h1 := repL_cells (r.ev q.2) hcs
        rw [plainC_rep hy] at h1
        rw [List.map_cons, partsV_spec r hys, repL_plain h1]
      · cases h
    · cases h
def idxB : Nat → List (Nat × Operand) → Bool
  | _, [] => true
  | k, q :: qs => q.1 == k && idxB (k + 1) qs
theorem idxB_zip {f : Operand → Value} : ∀ {qs : List (Nat × Operand)} {k : Nat}, idxB k qs = true → qs.map (fun q => (q.1, f q.2)) = (List.range' k qs.length).zip (qs.map fun q => f q.2)
  | [], k, _ => by simp
  | q :: qs, k, h => by
    simp only [idxB, Bool.and_eq_true] at h
    have := eq_of_beq h.1
    simp only [List.map_cons, List.length_cons, List.range'_succ, List.zip_cons_cons, this]
    rw [idxB_zip h.2]
def sizeE (P : Program) (e : TypeId) (s : Nat) : Bool := P.cellsOf e == s
theorem ar_bslice (s : Nat) {t e : TypeId} {n : Nat} {qs : List (Nat × Operand)} {ys : List (List Value)} (hse : sizeE P e s = true) (ht : sliceE P t e = true) (hr : rowB P e = true) (hq : idxB 0 qs = true) (hn : qs.length = n) (hv : partsV σ qs = some ys)
    (hl : ys.all (fun y => y.length == s) = true) (hb : n * s ≤ 16777216) (h : AR P w0 m0 ops Q rest (σ.row.put d (.c (.sl e (.own σ.nx) ys)))) : AR P w0 m0 ops Q (⟨d, .buildSlice t n qs.toArray, ty, pos, af, none⟩ :: rest) σ :=
  ar_val _ _ (fun ρ a w r => by
    obtain ⟨i, z, hi, hz, hzs, hsz, hby, hce⟩ := rowB_spec hr
    obtain ⟨hu1, _⟩ := sliceE_spec ht
    have hs : i.size = s := by rw [← hce]; exact eq_of_beq hse
    have hys := partsV_spec r hv
    have hlen : ys.length = n := by rw [← hys, List.length_map, hn]
    have hall : ∀ y ∈ ys, y.length = s := fun y hy => eq_of_beq (List.all_eq_true.1 hl y hy)
    have hfl : ys.flatten.length = n * s := by rw [flat_len hall, hlen]
    let us := qs.map fun q => a.eval q.2
    have hus : us.flatMap (fun u => u.cells.toList) = ys.flatten := by
      rw [← hys, List.flatMap_def]
      simp [us, Function.comp_def]
    have hul : us.length = n := by simp [us, hn]
    have husz : ∀ u ∈ us, u.cells.size = s := by
      intro u hu
      have : u.cells.toList ∈ ys := by
        rw [← hys]
        obtain ⟨q, hq1, rfl⟩ := List.mem_map.1 hu
        exact List.mem_map.2 ⟨q, hq1, rfl⟩
      have := hall _ this
      simpa using this
    have hfill : ∀ c : Array Value, c.size = n * s → Instr.fill (fun i => some (i * s, s)) c (qs.map fun q => (q.1, a.eval q.2)) = some ys.flatten.toArray := by
      intro c hc
      have := fill_all s us c.toList husz (by simp [hul, hc])
      rw [hul, hus, Array.toArray_toList] at this
      rw [idxB_zip (f := a.eval) hq, hn]
      exact this
    have hbl : Below w.heap.size w (w.alloc (.cells ys.flatten.toArray e)) := (Below.refl _ _).alloc (Nat.le_refl _) _
    obtain ⟨r', st, hom⟩ := r.row w.heap.size (.slice (some ⟨w.heap.size, 0, none⟩) n n) hbl (Nat.le_refl _) (by rw [World.size_alloc]; omega)
    refine ⟨.slice (some ⟨w.heap.size, 0, none⟩) n n, _, w.alloc (.cells ys.flatten.toArray e), ?_, r', ?_⟩
    · have hnb : ¬ (n * s > 2 ^ 24) := by omega
      have hzv : (zeroValue e).run P w = .ok z w := by
        simp only [zeroValue, typeInfo, Sem.run_bind, run_program, Result.andThen_ok, hi, Sem.run_pure]
        rw [hz]; rfl
      have hso : (sizeOf e).run P w = .ok s w := by rw [size_cellsOf (t := t) (by rw [hi]; rfl), hce, hs]
      by_cases hn0 : n * s = 0
      · have e0 := hfill (Array.map (fun x => default) (Array.range 0)) (by simp [hn0])
        simp [execOp, Instr.buildSlice, run_underlying hu1, hso, hn0, e0, newRow]
      · have hf := hfill ((Array.range (n * s)).map fun k => z.cells[k % z.cells.size]!) (by simp)
        simp [execOp, Instr.buildSlice, run_underlying hu1, hso, hzv, hnb, hn0, hf, newRow]
    · refine ⟨?_, fun y hy => by rw [hall y hy]; exact (eq_of_beq hse).symm, w.heap.size, hom, ?_, rfl, ?_⟩
      · rw [hlen]
        have := Nat.le_mul_of_pos_right n (show 0 < s by omega)
        omega
      · show _ = if w.heap.size = w.heap.size then Value.slice (some ⟨w.heap.size, 0, none⟩) n n else ρ.ov w.heap.size
        rw [if_pos rfl]
      · have := Nat.le_mul_of_pos_right n (show 0 < s by omega)
        rw [hce, hs, hlen]
        refine ⟨hfl, .inr ⟨w.heap.size, n, ys.flatten.toArray, rfl, ?_, heap_alloc_new w _, Nat.le_refl _, by unfold maxLen; omega, by simp only [List.size_toArray]; exact hfl, ?_⟩⟩
        · show ρ.B ≤ _
          rw [r.B]; exact Nat.le_trans r.Bw r.fr.size
        · simp only []
          rw [← hfl, List.take_length]) h
end
end Go.Proofs.Ytdhplkdohhiooaa
