/- The abstract machine: rows of the call's own are written element by element; rows that are lent to a callee; make. -/
import Derived.Test.YtdhplkdohhiooaaE7
namespace Go.Proofs.Ytdhplkdohhiooaa
open Go.RowKit
set_option linter.unusedVariables false

/-! ### A row is rewritten -/
/-- Row k now holds xs. -/
def AC.upd (k : Nat) (xs : List (List Value)) : AC → AC
  | .sl e .ro ys => .sl e .ro ys
  | .sl e (.own j) ys => if j = k then .sl e (.own j) xs else .sl e (.own j) ys
  | .sl e (.sub j) ys => if j = k then .top else .sl e (.sub j) ys
  | .rp .ro cs => .rp .ro cs
  | .rp (.own j) cs => if j = k then .top else .rp (.own j) cs
  | .rp (.sub j) cs => if j = k then .top else .rp (.sub j) cs
  | .ep e j ys a b => if j = k then .top else .ep e j ys a b
  | .fo f bs => .fo f bs
  | .fr f css => .fr f css
  | .top => .top
  | .p v => .p v
  | .nl => .nl
  | .ptr b o => .ptr b o
  | .bsl b sn sc => .bsl b sn sc
  | .sv v e ys => .sv v e ys
def AW.upd (k : Nat) (xs : List (List Value)) : AW → AW
  | .c x => .c (x.upd k xs)
  | .agg cs => .agg (cs.map (AC.upd k xs))
def AV.upd (k : Nat) (xs : List (List Value)) : AV → AV
  | .c x => .c (x.upd k xs)
  | .agg cs => .agg (cs.map (AC.upd k xs))
  | .tup ws => .tup (ws.map (AW.upd k xs))
def AS.upd (σ : AS) (k : Nat) (xs : List (List Value)) : AS := { tm := σ.tm.map (AV.upd k xs), hp := σ.hp.map (List.map (AC.upd k xs)), nx := σ.nx }
section
variable {P : Program} {ρ : Env} {w w' : World} {k g : Nat} {xs : List (List Value)}
structure Rewr (P : Program) (k g : Nat) (xs : List (List Value)) (ρ : Env) (w w' : World) : Prop where
  mv : Move k ρ w g ρ w'
  at_ : ρ.om[k]? = some g
  new : ∀ e ys v, OwS P ρ w e k ys v → xs.length ≤ 9223372036854775807 ∧ OwS P ρ w' e k xs v
theorem set_same {l : List Nat} {k g : Nat} (h : l[k]? = some g) : l.set k g = l := by
  apply List.ext_getElem?
  intro i
  rw [List.getElem?_set]
  by_cases hi : k = i
  · subst hi
    rw [if_pos rfl, if_pos (List.getElem?_eq_some_iff.1 h).1, h]
  · rw [if_neg hi]
theorem RepC.upd (h : Rewr P k g xs ρ w w') {x : AC} {u : Value} (q : RepC P ρ w x u) : RepC P ρ w' (x.upd k xs) u := by
  have hm := RepC.moved h.mv q
  cases x with
  | top => trivial
  | p v => exact q
  | nl => exact q
  | ptr b o => exact hm
  | bsl b sn sc => exact hm
  | sv v e ys => exact hm
  | rp o cs => cases o <;> exact hm
  | ep e j ys a b => exact hm
  | fo f bs => exact hm
  | fr f css => exact hm
  | sl e o ys =>
    cases o with
    | ro => exact hm
    | sub j => exact hm
    | own j =>
      by_cases hj : j = k
      · subst hj
        simp only [AC.upd, if_true]
        exact h.new e ys u q.2
      · simp only [AC.upd, if_neg hj]
        simp only [AC.drop, if_neg hj] at hm
        exact hm
theorem RepL.upd (h : Rewr P k g xs ρ w w') : ∀ {cs : List AC} {vs : List Value}, RepL P ρ w cs vs → RepL P ρ w' (cs.map (AC.upd k xs)) vs
  | [], [], _ => trivial
  | _ :: _, _ :: _, q => ⟨q.1.upd h, RepL.upd h q.2⟩
theorem RepW.upd (h : Rewr P k g xs ρ w w') {x : AW} {u : Value} (q : RepW P ρ w x u) : RepW P ρ w' (x.upd k xs) u := by
  cases x with
  | c x => exact RepC.upd h q
  | agg cs => obtain ⟨vs, rfl, hl⟩ := q; exact ⟨vs, rfl, hl.upd h⟩
theorem RepWs.upd (h : Rewr P k g xs ρ w w') : ∀ {cs : List AW} {vs : List Value}, RepWs P ρ w cs vs → RepWs P ρ w' (cs.map (AW.upd k xs)) vs
  | [], [], _ => trivial
  | _ :: _, _ :: _, q => ⟨q.1.upd h, RepWs.upd h q.2⟩
theorem RepV.upd (h : Rewr P k g xs ρ w w') {x : AV} {u : Value} (q : RepV P ρ w x u) : RepV P ρ w' (x.upd k xs) u := by
  cases x with
  | c x => exact RepC.upd h q
  | agg cs => obtain ⟨vs, rfl, hl⟩ := q; exact ⟨vs, rfl, hl.upd h⟩
  | tup ws => obtain ⟨vs, rfl, hl⟩ := q; exact ⟨vs, rfl, hl.upd h⟩
variable {w0 : World} {m0 : Gv} {σ : AS} {a : Act}
theorem Rel.upd (h : Rel P w0 m0 ρ σ a w) (hk : ρ.om[k]? = some g) (hg : w.grownBy w' (some g)) (hnew : ∀ e ys v, OwS P ρ w e k ys v → xs.length ≤ 9223372036854775807 ∧ OwS P ρ w' e k xs v) :
    Rewr P k g xs ρ w w' ∧ Rel P w0 m0 ρ (σ.upd k xs) a w' := by
  have hl : g < w'.heap.size := Nat.lt_of_lt_of_le (h.ob g (List.mem_of_getElem? hk)).2.1 hg.size
  obtain ⟨mv, r⟩ := h.moved (ρ.ov g) hk hg (.inl rfl) hl (fun j q hq => by
    obtain ⟨h1, h2⟩ := h.lp j q hq
    by_cases hj : j = k
    · subst hj
      rw [hk] at h1; injection h1 with h1
      subst h1
      exact .inr ⟨rfl, h2⟩
    · exact .inl hj)
  have he : ρ.mov k g (ρ.ov g) = ρ := by
    unfold Env.mov
    rw [set_same hk]
    have : (fun x => if x = g then ρ.ov g else ρ.ov x) = ρ.ov := by
      funext x; split
      · rename_i h; rw [h]
      · rfl
    rw [this]
  rw [he] at mv r
  have rw_ : Rewr P k g xs ρ w w' := ⟨mv, hk, hnew⟩
  have hgm := (h.ob g (List.mem_of_getElem? hk)).2.2
  refine ⟨rw_, r.B, r.Bw, r.fr, r.pre, r.ml, r.nd, r.ob, r.no, r.lp, by simp [AS.upd, h.nx], by simp [AS.upd, h.hl], fun b cs hc => ?_, by simp [AS.upd, h.tl], fun i x hx => ?_, r.df⟩
  · simp only [AS.upd, List.getElem?_map] at hc
    obtain ⟨ds, hd, rfl⟩ := Option.map_eq_some_iff.1 hc
    obtain ⟨q, hq, us, t', h1, h2⟩ := h.hp b ds hd
    have hqm := List.mem_of_getElem? hq
    exact ⟨q, hq, us, t', (hg.block q (h.ml q hqm) (fun e => by injection e with e; subst e; exact hgm hqm)).trans h1, h2.upd rw_⟩
  · simp only [AS.upd, List.getElem?_map] at hx
    obtain ⟨y, hy, rfl⟩ := Option.map_eq_some_iff.1 hx
    exact (h.tm i y hy).upd rw_

/-! ### Pointers to elements of a row of the call's own -/
theorem q_indexAddr_o {t e : TypeId} {x y : Operand} {n : Nat} {ys : List (List Value)} {kk : IntKind} {i : Int} (ht : sliceE P t e = true) (hx : σ.ev x = .c (.sl e (.own n) ys)) (hy : σ.ev y = .c (.p (.int kk i))) (hi : 0 ≤ i) (hv : i < ys.length) : QOp P (.indexAddr t x y) σ (.c (.ep e n ys i.toNat 0)) :=
  fun _ _ ρ f w _ _ _ _ _ h => by
    have h1 := h.ev x
    rw [hx] at h1
    have h1 : RepC P ρ w (.sl e (.own n) ys) (f.eval x) := h1
    obtain ⟨hl, h2⟩ := h1
    have h3 := h2
    obtain ⟨hlen, g, hg, hvo, hu, ho⟩ := h2
    obtain ⟨hu1, hz⟩ := sliceE_spec ht
    rcases ho.2 with ⟨hvv, _⟩ | ⟨g', cap, cur, hvv, _⟩
    · rw [hvv] at hu; simp [Value.ownBlock] at hu
    · rw [hvv] at hu
      obtain rfl : g' = g := by simpa [Value.ownBlock] using hu
      refine ⟨.pointer (some ⟨g', i.toNat * P.cellsOf e + 0, none⟩), ⟨by omega, g', f.eval x, hg, rfl, h3⟩, fun W _ => ?_⟩
      have hb : 0 ≤ i ∧ i < (ys.length : Int) := ⟨hi, hv⟩
      simp [execOp, hvv, h.evp hy, Instr.indexAt, asIntOf, run_underlying hu1, size_cellsOf (t := t) hz, hb, addr_add]
theorem q_nilCheck_e {e : TypeId} {x : Operand} {n i j : Nat} {ys : List (List Value)} (hx : σ.ev x = .c (.ep e n ys i j)) : QOp P (.nilCheck x) σ (.c (.ep e n ys i j)) :=
  fun _ _ ρ f w _ _ _ _ _ h => by
    have h1 := h.ev x
    rw [hx] at h1
    obtain ⟨hi, g, v, hg, he, r⟩ := h1
    exact ⟨_, ⟨hi, g, v, hg, rfl, r⟩, fun W _ => by simp [execOp, he]⟩
theorem q_fieldAddr_e {t e : TypeId} {x : Operand} {n i j q : Nat} {ys : List (List Value)} (ht : flatF P t q = true) (hx : σ.ev x = .c (.ep e n ys i j)) : QOp P (.fieldAddr t x q) σ (.c (.ep e n ys i (j + q))) :=
  fun _ _ ρ f w _ _ _ _ _ h => by
    have h1 := h.ev x
    rw [hx] at h1
    obtain ⟨hi, g, v, hg, he, r⟩ := h1
    obtain ⟨fs, fd, hfs, hfd, ho, hw, hs⟩ := flatF_spec ht
    refine ⟨_, ⟨hi, g, v, hg, rfl, r⟩, fun W _ => ?_⟩
    obtain ⟨ii, h1, h2⟩ := Option.map_eq_some_iff.1 hs
    simp [execOp, he, Instr.fieldAt, run_underlying hfs, hfd, Instr.sureAddr, fieldPlace, sizeOf, typeInfo, h1, h2, ho, addr_add, Nat.add_assoc]
theorem OwS.cell {e : TypeId} {ys : List (List Value)} {v : Value} (h : OwS P ρ w e k ys v) (hg : ρ.om[k]? = some g) {i j : Nat} {x : List Value} {u : Value} (hx : ys[i]? = some x) (hu : x[j]? = some u) : w.cell? ⟨g, i * P.cellsOf e + j, none⟩ = some u := by
  obtain ⟨hl, g2, hg2, _, hb, ho⟩ := h
  obtain rfl : g = g2 := by rw [hg] at hg2; injection hg2
  have := ho.cells (g := g) hb _ _ (flat_get hl hx hu)
  rw [addr_add, Nat.zero_add] at this
  exact this
theorem OwS.lt {e : TypeId} {ys : List (List Value)} {v : Value} (h : OwS P ρ w e k ys v) (hg : ρ.om[k]? = some g) : g < w.heap.size := by
  obtain ⟨hl, g2, hg2, _, hb, ho⟩ := h
  obtain rfl : g = g2 := by rw [hg] at hg2; injection hg2
  exact (ownsRow_lt ho hb).2
theorem q_load_e {t e : TypeId} {x : Operand} {n i j : Nat} {ys : List (List Value)} {y : List Value} {u : Value} (ht : wordB P t = true) (hx : σ.ev x = .c (.ep e n ys i j)) (hy : ys[i]? = some y) (hu : y[j]? = some u) : QOp P (.load t x) σ (.c (.p u)) :=
  fun _ _ ρ f w _ _ _ _ _ h => by
    have h1 := h.ev x
    rw [hx] at h1
    obtain ⟨hi, g, v, hg, he, r⟩ := h1
    refine ⟨u, rfl, fun W hW => ?_⟩
    have hc : W.cell? ⟨g, i * P.cellsOf e + j, none⟩ = some u := by rw [cell_blk (hW.block g (r.lt hg))]; exact r.cell hg hy hu
    simp [execOp, he, Instr.loadAt, Instr.sureAddr, run_load_word ht hc]
theorem q_load_ea {t e : TypeId} {x : Operand} {n i : Nat} {ys : List (List Value)} {y : List Value} (hx : σ.ev x = .c (.ep e n ys i 0)) (hy : ys[i]? = some y) {m : Nat} (hn : y.length = m) (ht : aggB P t m = true) : QOp P (.load t x) σ (.agg (y.map .p)) :=
  fun _ _ ρ f w _ _ _ _ _ h => by
    have h1 := h.ev x
    rw [hx] at h1
    obtain ⟨hi, g, v, hg, he, r⟩ := h1
    refine ⟨.agg y.toArray, ⟨y.toArray, rfl, repL_p y⟩, fun W hW => ?_⟩
    rw [← hn] at ht
    have hc := run_load_agg (g := g) (o := i * P.cellsOf e + 0) ht (W := W) (fun j u hu => by rw [cell_blk (hW.block g (r.lt hg)), Nat.add_assoc, Nat.zero_add]; exact r.cell hg hy hu)
    simp [execOp, he, Instr.loadAt, Instr.sureAddr] at hc ⊢
    simp [hc]

/-! ### A store into a row of the call's own -/
variable {ops : Array Oper} {Q : Exit → AS → Prop} {rest : List Oper} {d : Option Tmp} {ty : TypeId} {pos : String} {af : Array Edge}
def setAt (x : List Value) (j : Nat) (us : List Value) : List Value := x.take j ++ us ++ x.drop (j + us.length)
theorem setAt_len {x us : List Value} {j : Nat} (h : j + us.length ≤ x.length) : (setAt x j us).length = x.length := by
  simp [setAt, List.length_take, List.length_drop]; omega
theorem flatten_set {s : Nat} : ∀ {ys : List (List Value)} {i : Nat} {y us : List Value} {j : Nat}, (∀ x ∈ ys, x.length = s) → ys[i]? = some y → j + us.length ≤ s →
    (ys.set i (setAt y j us)).flatten = ys.flatten.take (i * s + j) ++ us ++ ys.flatten.drop (i * s + j + us.length)
  | z :: zs, 0, y, us, j, h, hy, hj => by
    simp at hy; subst hy
    have hz := h z (by simp)
    rw [List.set_cons_zero, List.flatten_cons, List.flatten_cons, Nat.zero_mul, Nat.zero_add, List.take_append_of_le_length (by omega), List.drop_append_of_le_length (by omega)]
    simp [setAt]
  | z :: zs, i + 1, y, us, j, h, hy, hj => by
    simp at hy
    have hz := h z (by simp)
    have ih := flatten_set (fun x hx => h x (by simp [hx])) hy hj
    have e1 : (i + 1) * s + j = z.length + (i * s + j) := by rw [hz, Nat.add_mul]; omega
    rw [List.set_cons_succ, List.flatten_cons, List.flatten_cons, ih, e1, List.take_length_add_append, Nat.add_assoc z.length, List.drop_length_add_append]
    simp
theorem splice_take {α : Type} (l us : List α) (a N : Nat) (h : a + us.length ≤ N) (hN : N ≤ l.length) : (l.take a ++ us ++ l.drop (a + us.length)).take N = (l.take N).take a ++ us ++ (l.take N).drop (a + us.length) := by
  have hA : (l.take a ++ us).length = a + us.length := by rw [List.length_append, List.length_take]; omega
  rw [List.take_append, hA, List.take_of_length_le (by omega), List.take_take, Nat.min_eq_left (by omega), List.drop_take]
theorem ar_store_e {t e : TypeId} {x y : Operand} {n i j : Nat} {ys : List (List Value)} {z us : List Value} {cs : List AC} (hx : σ.ev x = .c (.ep e n ys i j)) (hz : ys[i]? = some z) (hy : (σ.ev y).cells = some cs) (hp : plainC cs = some us) (hn : j + us.length ≤ z.length) (ht : sizeB P t us.length = true) (hok : us.all Value.oneCell' = true)
    (h : AR P w0 m0 ops Q rest ((σ.upd n (ys.set i (setAt z j us))).put d .top)) : AR P w0 m0 ops Q (⟨d, .store t x y, ty, pos, af, none⟩ :: rest) σ :=
  ar_skip _ (fun ρ a w r => by
    have h1 := r.ev x
    rw [hx] at h1
    obtain ⟨hi, g, v, hg, he, q⟩ := h1
    have hu := repL_cells (r.ev y) hy
    rw [plainC_rep hp] at hu
    have hval := repL_plain hu
    obtain ⟨ii, hii, hs⟩ := Option.map_eq_some_iff.1 (eq_of_beq ht)
    have q0 := q
    obtain ⟨hl, g2, hg2, hov, hb, ho⟩ := q
    obtain rfl : g = g2 := by rw [hg] at hg2; injection hg2
    rcases ho.2 with ⟨hvv, _⟩ | ⟨g', cap, cur, hvv, hB, hh, hnc, hcm, hcs, htk⟩
    · rw [hvv] at hb; simp [Value.ownBlock] at hb
    · rw [hvv] at hb
      obtain rfl : g' = g := by simpa [Value.ownBlock] using hb
      have hzl : z.length = P.cellsOf e := hl z (List.mem_of_getElem? hz)
      have hbnd : i * P.cellsOf e + j + us.length ≤ ys.length * P.cellsOf e := by
        have : (i + 1) * P.cellsOf e ≤ ys.length * P.cellsOf e := Nat.mul_le_mul_right _ hi
        rw [Nat.add_mul] at this; omega
      have hcur : ys.length * P.cellsOf e ≤ cur.size := by rw [hcs]; exact Nat.mul_le_mul_right _ hnc
      have hst := run_storeCells_at P g' (i * P.cellsOf e + j) e us 0 cur w hh (by omega) (List.all_eq_true.1 hok)
      simp only [Nat.add_zero] at hst
      have hgr : w.grownBy (w.setRow g' (cur.toList.take (i * P.cellsOf e + j) ++ us ++ cur.toList.drop (i * P.cellsOf e + j + us.length)).toArray) (some g') :=
        ⟨rfl, rfl, rfl, by simp, fun k hk hne => setRow_other w g' k _ (fun e => hne (by rw [e]))⟩
      have hfl : ys.flatten.length = ys.length * P.cellsOf e := flat_len hl
      refine ⟨ρ, _, ?_, (r.upd (xs := ys.set i (setAt z j us)) hg hgr fun e2 ys2 v2 q2 => ?_).2⟩
      · have hsz : (a.eval y).cells.size = us.length := by rw [← hval]; simp
        simp [execOp, he, Instr.storeAt, Instr.sureAddr, storeVar, sizeOf, typeInfo, hii, hs, hsz, hval, hst]
      · -- any other slice of the row is the row itself
        obtain ⟨hl2, g3, hg3, hov2, hb2, ho2⟩ := q2
        obtain rfl : g' = g3 := by rw [hg] at hg3; injection hg3
        have hsame : v2 = .slice (some ⟨g', 0, none⟩) ys.length cap := by rw [hov2, ← hov, hvv]
        subst hsame
        rcases ho2.2 with ⟨hv2, _⟩ | ⟨g4, cap4, cur4, hv2, hB4, hh4, _⟩
        · cases hv2
        · injection hv2 with e1 e3 e4
          injection e1 with e1; injection e1 with e1
          subst e1
          rw [hh] at hh4
          injection hh4 with hh4
          injection hh4 with t1 t2 t3
          subst t2
          have hlen : (ys.set i (setAt z j us)).length = ys.length := List.length_set
          have hall : ∀ x ∈ ys.set i (setAt z j us), x.length = P.cellsOf e := by
            intro x hx
            rcases List.mem_or_eq_of_mem_set hx with hx | rfl
            · exact hl x hx
            · rw [setAt_len hn, hzl]
          refine ⟨by rw [hlen]; unfold maxLen at hcm; omega, hall, g', hg, hov2, rfl, ?_⟩
          rw [hlen]
          refine ⟨by rw [flat_len hall, hlen], .inr ⟨g', cap, _, rfl, hB, setRow_heap w g' cur _ e _ hh, hnc, hcm, ?_, ?_⟩⟩
          · simp only [List.size_toArray, List.length_append, List.length_take, List.length_drop, Array.length_toList]
            omega
          · rw [flatten_set hl hz (by omega), ← htk]
            exact splice_take _ _ _ _ hbnd (by simpa using hcur)) h

/-! ### make -/
theorem made_flat {z : Array Value} (n : Nat) (hz : 0 < z.size) : (madeCells z (n * z.size)).toList = (List.replicate n z.toList).flatten := by
  have hall : ∀ x ∈ List.replicate n z.toList, x.length = z.size := fun x hx => by rw [(List.mem_replicate.1 hx).2]; simp
  have hlen : (List.replicate n z.toList).flatten.length = n * z.size := by rw [flat_len hall, List.length_replicate]
  apply List.ext_getElem?
  intro j
  by_cases hj : j < n * z.size
  · have h1 : j / z.size < n := (Nat.div_lt_iff_lt_mul hz).2 hj
    have h2 : j % z.size < z.size := Nat.mod_lt _ hz
    have := flat_get (xs := List.replicate n z.toList) (i := j / z.size) (j := j % z.size) (x := z.toList) (v := z[j % z.size]) hall (by simp [h1]) (by simp [h2])
    rw [Nat.mul_comm, Nat.div_add_mod] at this
    rw [this]
    simp [madeCells, hj, h2]
  · rw [List.getElem?_eq_none (by simp [size_madeCells]; omega), List.getElem?_eq_none (by rw [hlen]; omega)]
theorem ar_make (s : Nat) {t e : TypeId} {x : Operand} {k : IntKind} {n : Nat} {z : List Value} (hse : sizeE P e s = true) (ht : sliceE P t e = true) (hr : rowB P e = true) (hz : zeroC P e = some z) (hzl : z.length = s) (hx : σ.ev x = .c (.p (.int k (n : Int)))) (hn : n ≤ 134217728)
    (h : AR P w0 m0 ops Q rest (σ.row.put d (.c (.sl e (.own σ.nx) (List.replicate n z))))) : AR P w0 m0 ops Q (⟨d, .makeSlice t x x, ty, pos, af, none⟩ :: rest) σ :=
  ar_val _ _ (fun ρ a w r => by
    obtain ⟨i, zv, hi, hzv, hzs, hsz, hby, hce⟩ := rowB_spec hr
    obtain ⟨hu1, _⟩ := sliceE_spec ht
    have hs : i.size = s := by rw [← hce]; exact eq_of_beq hse
    have hz' : zv.cells.toList = z := by
      unfold zeroC at hz
      obtain ⟨i2, h1, h2⟩ := Option.bind_eq_some_iff.1 hz
      rw [hi] at h1
      injection h1 with h1
      subst h1
      rw [hzv] at h2
      simpa using h2
    have hbytes : n * i.bytes ≤ 281474976710656 := by have := Nat.mul_le_mul hn hby; omega
    obtain ⟨w', hrun, how, hgr⟩ := run_make_full (P := P) w w.heap.size t e i zv i.size hu1 hi hzv rfl k k n (by rw [Nat.mul_comm]; exact hbytes) (by unfold maxLen; omega) (Nat.le_refl _)
    have hbl : Below w.heap.size w w' := ⟨hgr.os, hgr.tape, hgr.output, hgr.size, fun q hq => hgr.block q hq (by simp)⟩
    have hlt : w.heap.size < w'.heap.size := (ownsRow_lt (g := w.heap.size) how rfl).2
    obtain ⟨r', st, hom⟩ := r.row w.heap.size (.slice (some ⟨w.heap.size, 0, none⟩) n n) hbl (Nat.le_refl _) hlt
    have hx' := r.evp hx
    refine ⟨.slice (some ⟨w.heap.size, 0, none⟩) n n, _, w', by simp [execOp, hx', hrun], r', ?_⟩
    refine ⟨by rw [List.length_replicate]; omega, fun y hy => by rw [(List.mem_replicate.1 hy).2, hzl]; exact (eq_of_beq hse).symm, w.heap.size, hom, ?_, rfl, ?_⟩
    · show _ = if w.heap.size = w.heap.size then Value.slice (some ⟨w.heap.size, 0, none⟩) n n else ρ.ov w.heap.size
      rw [if_pos rfl]
    · rw [← hzs, made_flat (z := zv.cells) n (by omega), hz'] at how
      rw [hce, ← hzs, List.length_replicate]
      refine ⟨how.1, ?_⟩
      rcases how.2 with ⟨hv, _⟩ | ⟨g, cap, cur, hv, q⟩
      · cases hv
      · refine .inr ⟨g, cap, cur, hv, ?_, q.2⟩
        show ρ.B ≤ g
        have := q.1
        rw [r.B]
        exact Nat.le_trans r.Bw (Nat.le_trans r.fr.size this)) h

/-! ### Rows that are lent -/
/-- What a call of f does to rows that it is lent: args speak of them as rows 0, 1, ..; row j holds rows[j] before and rows'[j] behind it. -/
def ALent (P : Program) (f : FuncId) (rows : List (TypeId × List (List Value))) (args : List AV) (v : Value) (rows' : List (List (List Value))) : Prop :=
  ∀ (om : List Nat) (ov : Nat → Value) (w : World) (vs : Array Value), om.Nodup → om.length = rows.length → (∀ g ∈ om, g < w.heap.size) → RepVs P ⟨0, [], om, ov⟩ w args vs.toList →
    Calls P f vs w (fun e w' => e = .returned v ∧ (∀ (j : Nat) e xs u, rows[j]? = some (e, xs) → OwS P ⟨0, [], om, ov⟩ w e j xs u → ∃ xs', rows'[j]? = some xs' ∧ xs'.length ≤ 9223372036854775807 ∧ OwS P ⟨0, [], om, ov⟩ w' e j xs' u) ∧ Framed om w w')
theorem OwS.same {ρ : Env} {w : World} {k : Nat} {e e' : TypeId} {xs ys : List (List Value)} {u v : Value} (h : OwS P ρ w e k xs u) (q : OwS P ρ w e' k ys v) : u = v ∧ e = e' ∧ xs.length = ys.length := by
  obtain ⟨hl, g, hg, hv, hb, ho⟩ := h
  obtain ⟨hl2, g2, hg2, hv2, hb2, ho2⟩ := q
  obtain rfl : g = g2 := by rw [hg] at hg2; injection hg2
  have huv : u = v := by rw [hv, hv2]
  subst huv
  rcases ho.2 with ⟨hn, _⟩ | ⟨g3, cap, cur, e1, b1, h1, r1⟩
  · rw [hn] at hb; simp [Value.ownBlock] at hb
  · rcases ho2.2 with ⟨hn, _⟩ | ⟨g4, cap4, cur4, e4, b4, h4, r4⟩
    · rw [hn] at hb; simp [Value.ownBlock] at hb
    · rw [e1] at e4
      injection e4 with t1 t2 t3
      injection t1 with t1; injection t1 with t1
      subst t1
      rw [h1] at h4
      injection h4 with h4; injection h4 with q1 q2 q3
      exact ⟨rfl, q2, t2⟩
theorem OwS.base {ρ : Env} {w : World} {k : Nat} {e : TypeId} {xs : List (List Value)} {u : Value} (h : OwS P ρ w e k xs u) {ρ' : Env} {k' : Nat} (hB : ρ'.B ≤ ρ.B) (ho : ∀ g, ρ.om[k]? = some g → ρ'.om[k']? = some g ∧ ρ'.ov g = ρ.ov g) : OwS P ρ' w e k' xs u := by
  obtain ⟨hl, g, hg, hv, hb, how⟩ := h
  obtain ⟨h1, h2⟩ := ho g hg
  refine ⟨hl, g, h1, by rw [h2]; exact hv, hb, how.1, ?_⟩
  rcases how.2 with hn | ⟨g3, cap, cur, e1, b1, r1⟩
  · exact .inl hn
  · exact .inr ⟨g3, cap, cur, e1, Nat.le_trans hB b1, r1⟩
/-- A call that writes the row handed to it first; the other arguments are plain. -/
theorem ar_lent {f : FuncId} {x : Operand} {xs : List Operand} {ts : Array TypeId} {e : TypeId} {k : Nat} {ys ys' : List (List Value)} {us : List Value} {v : Value} {r : AV} (hf : callB P f = true) (hx : σ.ev x = .c (.sl e (.own k) ys)) (hxs : xs.map σ.ev = us.map fun u => .c (.p u)) (hr : plainV r = some v)
    (hc : ALent P f [(e, ys)] (.c (.sl e (.own 0) ys) :: us.map fun u => .c (.p u)) v [ys'])
    (h : AR P w0 m0 ops Q rest ((σ.upd k ys').put d r)) : AR P w0 m0 ops Q (⟨d, .call { callee := .value (.func f), args := (x :: xs).toArray, argTypes := ts }, ty, pos, af, none⟩ :: rest) σ :=
  ar_enter r (σ.upd k ys') (f := f) (fun ρ a w q => by
    refine ⟨_, run_call hf _ _ _ _ _ _ _ _ _, ?_⟩
    have h1 := q.ev x
    rw [hx] at h1
    have h1 : RepC P ρ w (.sl e (.own k) ys) (a.eval x) := h1
    obtain ⟨hle, how⟩ := h1
    have how0 := how
    obtain ⟨hl, g, hg, hv, hb, ho⟩ := how
    have hgl : g < w.heap.size := (ownsRow_lt ho hb).2
    have hargs : RepVs P ⟨0, [], [g], ρ.ov⟩ w (.c (.sl e (.own 0) ys) :: us.map fun u => .c (.p u)) ((x :: xs).toArray.map a.eval).toList := by
      have hrest : ∀ (xs : List Operand) (us : List Value), xs.map σ.ev = (us.map fun u => .c (.p u)) → RepVs P ⟨0, [], [g], ρ.ov⟩ w (us.map fun u => .c (.p u)) (xs.map a.eval) := by
        intro xs
        induction xs with
        | nil => intro us he; cases us with
          | nil => trivial
          | cons u us => simp at he
        | cons z zs ih => intro us he; cases us with
          | nil => simp at he
          | cons u us =>
            simp only [List.map_cons, List.cons.injEq] at he
            exact ⟨q.evp he.1, ih us he.2⟩
      have := hrest xs us hxs
      simp only [List.map_toArray, List.map_cons]
      refine ⟨⟨hle, how0.base (Nat.zero_le _) fun g2 hg2 => ?_⟩, this⟩
      obtain rfl : g = g2 := by rw [hg] at hg2; injection hg2
      exact ⟨rfl, rfl⟩
    refine (hc [g] ρ.ov w _ (by simp) rfl (by simpa using hgl) hargs).mono ?_
    rintro en w' ⟨rfl, hrow, hfr⟩
    have hgr : w.grownBy w' (some g) := ⟨hfr.os, hfr.tape, hfr.output, hfr.size, fun b hb hne => hfr.blk b hb (by simp only [List.mem_singleton]; rintro rfl; exact hne rfl)⟩
    have hbase : OwS P ⟨0, [], [g], ρ.ov⟩ w e 0 ys (a.eval x) := how0.base (Nat.zero_le _) fun g2 hg2 => by
      obtain rfl : g = g2 := by rw [hg] at hg2; injection hg2
      exact ⟨rfl, rfl⟩
    obtain ⟨ys2, hy2, hl2, hw2⟩ := hrow 0 e ys _ rfl hbase
    obtain rfl : ys' = ys2 := by simpa using hy2
    refine ⟨v, ρ, rfl, (q.upd (xs := ys') hg hgr fun e2 zs v2 q2 => ⟨hl2, ?_⟩).2, (plainV_rep hr).2 rfl⟩
    obtain ⟨s1, s2, s3⟩ := how0.same q2
    subst s1 s2
    obtain ⟨t1, g5, t2, t3, t4, t5⟩ := hw2
    obtain rfl : g = g5 := by simpa using t2
    refine ⟨t1, g, hg, t3, t4, t5.1, ?_⟩
    have hBg := (ownsRow_lt ho hb).1
    rcases t5.2 with hn | ⟨g6, cap, cur, e1, b1, r1⟩
    · exact .inl hn
    · refine .inr ⟨g6, cap, cur, e1, ?_, r1⟩
      have : g6 = g := by rw [e1] at t4; simpa [Value.ownBlock] using t4
      rw [this]; exact hBg) h
/-- .. out of a body. -/
theorem alent_of {f : FuncId} {fn : Func} {c : Code} {rows : List (TypeId × List (List Value))} {args : List AV} {x : AW} {v : Value} {rows' : List (List (List Value))} (hf : P.funcs[f]? = some fn) (hb : fn.body = some c) (hv : plainW x = some v)
    (h : ∀ w0 l g, l.length = rows.length → AWp P w0 ⟨0, [], l, g⟩ c (fun e σ => (e = .normal ∨ e = .ret) ∧ ARes P σ fn.results.toList [x] ∧ ∀ (j : Nat) e xs, rows[j]? = some (e, xs) → ∃ (i : Nat) (xs' : List (List Value)), rows'[j]? = some xs' ∧ σ.tm[i]? = some (.c (.sl e (.own j) xs'))) ⟨args ++ List.replicate (fn.ntmps - args.length) .top, [], rows.length⟩) :
    ALent P f rows args v rows' := by
  intro om ov w vs hnd hlen hlt hargs
  have hal := hargs.len
  have hvs : vs.size = args.length := by rw [hal]; simp
  refine calls_of_wp hf hb (wp_mono (h w om ov hlen ⟨0, [], om, ov⟩ _ w ?_) ?_)
  · refine ⟨rfl, Nat.zero_le _, .refl _ _, ⟨[], rfl, by simp⟩, by simp, by simp, fun g hg => ⟨.inl hg, hlt g hg, by simp⟩, hnd, fun j g hg => ⟨hg, rfl⟩, hlen, rfl, by simp, by simp [hvs], fun i y hy => ?_, rfl⟩
    show RepV P _ w y ((vs ++ Array.replicate (fn.ntmps - vs.size) undef).getD i undef)
    by_cases hi : i < args.length
    · rw [List.getElem?_append_left hi] at hy
      obtain ⟨u, h1, h2⟩ := hargs.get hy
      rw [Array.getD_eq_getD_getElem?, Array.getElem?_append_left (by omega), ← Array.getElem?_toList, h1]
      exact h2
    · rw [List.getElem?_append_right (by omega)] at hy
      have := List.mem_of_getElem? hy
      rw [(List.mem_replicate.1 this).2]
      exact RepV.top
  · rintro e a w' ⟨ρ, σ, ⟨he, hres, hrows⟩, r⟩
    obtain ⟨us, hrun, hws⟩ := hres w _ ρ a w' r
    have hval : (results fn a.tmps).run P w' = .ok v w' := by
      rw [results_eq]
      have hm : (fn.results.mapM (resV a.tmps)).run P w' = .ok us.toArray w' := by
        rw [Array.mapM_eq_mapM_toList]
        simp only [Sem.run_map, hrun]
        rfl
      simp only [Sem.run_bind, hm, Result.andThen_ok, Sem.run_pure]
      match us, hws with
      | [u], hws => rw [(plainW_rep hv).1 hws.1]; rfl
    have hpost : a.defers = [] ∧ ∃ u, (results fn a.tmps).run P w' = .ok u w' ∧ (Ending.returned u = .returned v ∧ (∀ (j : Nat) e xs u, rows[j]? = some (e, xs) → OwS P ⟨0, [], om, ov⟩ w e j xs u → ∃ xs', rows'[j]? = some xs' ∧ xs'.length ≤ 9223372036854775807 ∧ OwS P ⟨0, [], om, ov⟩ w' e j xs' u) ∧ Framed om w w') := by
      refine ⟨r.df, v, hval, rfl, fun j e xs u hj how => ?_, by simpa using r.fr⟩
      obtain ⟨i, xs', h1, h2⟩ := hrows j e xs hj
      have h3 := r.tm i _ h2
      have h3 : RepC P ρ w' (.sl e (.own j) xs') (a.tmps.getD i undef) := h3
      refine ⟨xs', h1, h3.1, ?_⟩
      obtain ⟨q1, g, q2, q3, q4, q5⟩ := h3.2
      obtain ⟨p1, g2, p2, p3, p4, p5⟩ := how
      have hlp := r.lp j g2 p2
      obtain rfl : g = g2 := by rw [q2] at hlp; simpa using hlp.1
      have hu : a.tmps.getD i undef = u := by rw [q3, p3]; exact hlp.2
      rw [hu] at q4 q5
      refine ⟨q1, g, p2, p3, p4, q5.1, ?_⟩
      rcases q5.2 with hn | ⟨g6, cap, cur, e1, b1, r1⟩
      · exact .inl hn
      · exact .inr ⟨g6, cap, cur, e1, Nat.zero_le _, r1⟩
    rcases he with rfl | rfl
    · exact hpost
    · exact hpost
end
end Go.Proofs.Ytdhplkdohhiooaa
