/- Elements of several cells: copied between slices. -/
import Derived.Laws.IdiomCopy
import Derived.Laws.AppendOwn
import Derived.WalkKit
import Derived.Lib.Walk
import Derived.Lib.SliceRun
import Derived.Lib.JoinLaws
import Derived.Lib.AppendZeros
import Derived.Lib.Overlaps
import Derived.Laws.Externs
import Derived.Shelf.RegionOpenPlain
import Derived.Test.YtdlebdgdcpemmaaGreatDoorProg
import Derived.Test.YtdlebdgdcpemmaaGreatDoorE9
import Derived.Lib.AppendZerosOnto
namespace Go.Proofs.YtdlebdgdcpemmaaGreatDoor
open Go.Lib Go.RowKit Go.Shelf
set_option linter.unusedVariables false
set_option linter.unusedSimpArgs false
variable {P : Program}
/-- All is read before anything is written; elements of s cells. -/
theorem run_copy_k (w : World) (dT sT ty elem : TypeId) (s b o dLen dCap : Nat) (a : Addr) (sLen sCap k : Nat) (cs : List Value)
    (hu : P.underlying dT = some (.slice elem)) (hs : (P.info? elem).map (·.size) = some s) (hk : Nat.min sLen dLen = k) (hn : cs.length = k * s)
    (hsrc : ∀ j v, cs[j]? = some v → w.cell? (a.add j) = some v) (hc : ∀ j, j < cs.length → (w.cell? ⟨b, o + j, none⟩).isSome = true) (hf : ∀ j, j < cs.length → w.frozen? ⟨b, o + j, none⟩ = false) (h1 : ∀ v ∈ cs, v.oneCell' = true) :
    (Builtin.copy_ #[dT, sT] ty #[.slice (some ⟨b, o, none⟩) dLen dCap, .slice (some a) sLen sCap]).run P w = .ok (goInt k) (w.setCells b o cs) := by
  have hl := run_loadCells_list (P := P) w a cs hsrc
  have hst := run_storeCells_cells (P := P) b o cs 0 w (by simpa using hc) (by simpa using hf) h1
  cases hq : P.info? elem with
  | none => simp [hq] at hs
  | some i =>
    have hi : i.size = s := by simpa [hq] using hs
    have hn' : k * s = cs.length := hn.symm
    simp [Builtin.copy_, run_underlying hu, Builtin.lenOf, Builtin.firstCells, sizeOf, typeInfo, hq, hi, hk, hn', hl, hst]
set_option maxHeartbeats 4000000 in
set_option maxRecDepth 100000 in
/-- At the end: what append gives. -/
theorem insert_end (w : World) (g n c vb voff vc : Nat) (hn : n ≤ 1000000) {v' : Value} {w1 : World} (hr : (Builtin.append_ #[33, 33] 33 #[.slice (some ⟨g, 0, none⟩) n c, .slice (some ⟨vb, voff, none⟩) 1 vc]).run Tryz.prog w = .ok v' w1) :
    Calls Tryz.prog 40 #[.slice (some ⟨g, 0, none⟩) n c, .int .i64 n, .slice (some ⟨vb, voff, none⟩) 1 vc] w fun e w' => e = .returned v' ∧ w' = w1 := by
  go_enter Tryz.func40, Tryz.ntmps40
  go_wp2_with (at_builtin; refine Lib.wpList_append_run _ rfl _ _ _ _ rfl _ _ rfl rfl _ _ hr ?_)
  all_goals (go_ret; exact ⟨rfl, rfl⟩)
/-- What a run of copy gives, as a step. -/
theorem wp_copy_runV (w : World) {o : Oper} {a : Act} {K : Act → World → Prop} {Q : Exit → Act → World → Prop} (d s : Operand) (t t' : TypeId)
    (ho : o.op = .call { callee := .builtin .copy, args := #[d, s], argTypes := #[t, t'] }) (v u : Value) (hd : a.eval d = v) (hs : a.eval s = u) {v' : Value} {w' : World}
    (hr : (Builtin.copy_ #[t, t'] o.type #[v, u]).run P w = .ok v' w') (h : K (a.put o.dst v') w') : o.wp P a w K Q := by
  unfold Oper.wp execOp
  simp only [ho, resolve, invoke, builtin, Sem.run_bind, Sem.run_pure, Result.andThen_ok, List.map_toArray, List.map_cons, List.map_nil, hd, hs, hr]
  exact h
theorem wpList_copy_runV (w : World) {ops : Array Oper} {rest : List Oper} {o : Oper} {a : Act} {Q : Exit → Act → World → Prop} (hgd : o.guard = none) (d s : Operand) (t t' : TypeId)
    (ho : o.op = .call { callee := .builtin .copy, args := #[d, s], argTypes := #[t, t'] }) (v u : Value) (hd : a.eval d = v) (hs : a.eval s = u) {v' : Value} {w' : World}
    (hr : (Builtin.copy_ #[t, t'] o.type #[v, u]).run P w = .ok v' w') (h : wpList P ops Q rest (a.put o.dst v') w') : wpList P ops Q (o :: rest) a w :=
  wpList_plain hgd fun _ hK => wp_copy_runV w d s t t' ho v u hd hs hr (hK _ _ h)
theorem step_copy_runV {ops : Array Oper} {o : Oper} {a : Act} {w : World} {K : Act → World → Prop} {Q : Exit → Act → World → Prop} {E : Prop}
    (hg : o.guard = none) (d x : Operand) (dT sT : TypeId) (hop : o.op = Op.call { callee := Callee.builtin Builtin.copy, args := #[d, x], argTypes := #[dT, sT] })
    (v u : Value) (hd : a.eval d = v) (hx : a.eval x = u) {v' : Value} {w' : World} (hr : (Builtin.copy_ #[dT, sT] o.type #[v, u]).run P w = .ok v' w') (hK : K (a.put o.dst v') w') :
    if Region.wanted o (yielded ops a.tmps) = true then Oper.wp P o a w K Q else E := by
  have hw : Region.wanted o (yielded ops a.tmps) = true := by simp [Region.wanted, hg]
  rw [if_pos hw]
  unfold Oper.wp
  simp [execOp, hop, resolve, invoke, builtin, hd, hx, hr, Result.andThen]
  exact hK
theorem isSome_setCellsV (b : Nat) (vs : List Value) (o : Nat) (w : World) (h : ∀ j, j < vs.length → (w.cell? ⟨b, o + j, none⟩).isSome = true) (k : Nat) (hk : (w.cell? ⟨b, k, none⟩).isSome = true) : ((w.setCells b o vs).cell? ⟨b, k, none⟩).isSome = true := by
  by_cases hin : o ≤ k ∧ k < o + vs.length
  · have := World.cell?_setCells_in b vs o w h (k - o) (by omega)
    rw [show o + (k - o) = k by omega] at this
    rw [this]; rfl
  · rw [World.cell?_setCells_out b vs o w ⟨b, k, none⟩ (fun _ _ => by show k < o ∨ o + vs.length ≤ k; omega)]
    exact hk
set_option maxHeartbeats 4000000 in
set_option maxRecDepth 100000 in
/-- Ahead of the end, where there is room: in place. -/
theorem insert_shift (w : World) (b n c i vb voff vc : Nat) (cs vs : List Value) (hi : i < n) (hroom : n + 1 ≤ c) (hc63 : c ≤ 9223372036854775807) (hvb : vb ≠ b)
    (hcl : cs.length = n * 6) (hvl : vs.length = 6)
    (hcs : ∀ j v, cs[j]? = some v → w.cell? ⟨b, j, none⟩ = some v) (hsp : ∀ j, j < (n + 1) * 6 → (w.cell? ⟨b, j, none⟩).isSome = true) (hfz : ∀ j, w.frozen? ⟨b, j, none⟩ = false)
    (hvs : ∀ j v, vs[j]? = some v → w.cell? ⟨vb, voff + j, none⟩ = some v) (h1c : ∀ v ∈ cs, v.oneCell' = true) (h1v : ∀ v ∈ vs, v.oneCell' = true)
    (tA tB : TypeId) (kA kB : Nat) (hsa : w.shape? vb = some (tA, kA)) (hsb : w.shape? b = some (tB, kB)) (hkB : kB ≠ 0) (hfa : w.frozen? ⟨vb, voff, none⟩ = false) (hfe : w.frozen? ⟨vb, kA, none⟩ = false) :
    Calls Tryz.prog 40 #[.slice (some ⟨b, 0, none⟩) n c, .int .i64 i, .slice (some ⟨vb, voff, none⟩) 1 vc] w fun e w' =>
      e = .returned (.slice (some ⟨b, 0, none⟩) (n + 1) c) ∧ w' = (w.drew.setCells b ((i + 1) * 6) (cs.drop (i * 6))).setCells b (i * 6) vs := by
  have mixed : Tryz.prog.follows .mixedOrders = true := by kernel_rfl
  have hz2 : ¬ ((i : Int) = (n : Int)) := by omega
  have hu : Tryz.prog.underlying 33 = some (.slice 25) := by kernel_rfl
  have hsz : (Tryz.prog.info? 25).map (·.size) = some 6 := by kernel_rfl
  have hov : ∀ lb cb, (callFunc 56 #[.slice (some ⟨vb, voff, none⟩) 1 vc, .slice (some ⟨b, (i + 1) * 6, none⟩) lb cb]).run Tryz.prog w = .ok (.value (.bool false)) w := fun lb cb => by
    rw [run_callFunc_extern Tryz.func56 (by kernel_rfl) (by kernel_rfl) (by kernel_rfl) (e := Extern.SlicesOverlaps.overlaps #[33, 33] #[4]) (by kernel_rfl),
      Lib.run_overlaps_apart w 33 4 25 hu 6 (fun w => by simp [sizeOf, typeInfo]; kernel_rfl) ⟨vb, voff, none⟩ ⟨b, (i + 1) * 6, none⟩ 1 vc lb cb hvb tA tB kA kB hsa hsb hkB hfa hfe]
    rfl
  have hdl : (cs.drop (i * 6)).length = (n - i) * 6 := by rw [List.length_drop, hcl]; omega
  have hw1 : IntKind.i64.wrap ((i : Int) + 1) = (i : Int) + 1 := by rw [IntKind.wrap_i64]; omega
  have hb1 : (0 : Int) ≤ (i : Int) + 1 := by omega
  have hin : i ≤ n := by omega
  have htn : ((i : Int) + 1).toNat = i + 1 := by omega
  have hb2 : ¬ (c = i + 1) := by omega
  have hb3 : (i : Int) ≤ (n : Int) + 1 := by omega
  have hb4 : ¬ (c = i) := by omega
  have hcp1 : ∀ ty dc sc, (Builtin.copy_ #[33, 33] ty #[.slice (some ⟨b, (i + 1) * 6, none⟩) (n - i) dc, .slice (some ⟨b, i * 6, none⟩) (n + 1 - i) sc]).run Tryz.prog w.drew = .ok (goInt (n - i : Nat)) (w.drew.setCells b ((i + 1) * 6) (cs.drop (i * 6))) := fun ty dc sc =>
    run_copy_k w.drew _ _ ty 25 6 b ((i + 1) * 6) (n - i) dc ⟨b, i * 6, none⟩ (n + 1 - i) sc (n - i) (cs.drop (i * 6)) hu hsz (by simp only [Nat.min_def]; split <;> omega) hdl
      (fun j v hj => by rw [Addr.add_lit]; exact hcs (i * 6 + j) v (by rwa [List.getElem?_drop] at hj))
      (fun j hj => hsp _ (by omega)) (fun j hj => hfz _) (fun v hv => h1c v (List.mem_of_mem_drop hv))
  obtain ⟨W1, hW1⟩ : ∃ W1, W1 = w.drew.setCells b ((i + 1) * 6) (cs.drop (i * 6)) := ⟨_, rfl⟩
  have hsp1 : ∀ k, k < (n + 1) * 6 → (W1.cell? ⟨b, k, none⟩).isSome = true := fun k hk => by
    rw [hW1]
    exact isSome_setCellsV b (cs.drop (i * 6)) ((i + 1) * 6) w.drew (fun j hj => hsp _ (by omega)) k (hsp k hk)
  have hcp2 : ∀ (W : World), (∀ x, W.cell? x = W1.cell? x) → (∀ x, W.frozen? x = W1.frozen? x) → ∀ ty dc, (Builtin.copy_ #[33, 33] ty #[.slice (some ⟨b, i * 6, none⟩) (n + 1 - i) dc, .slice (some ⟨vb, voff, none⟩) 1 vc]).run Tryz.prog W = .ok (goInt (1 : Nat)) (W.setCells b (i * 6) vs) := fun W hWc hWf ty dc =>
    run_copy_k W _ _ ty 25 6 b (i * 6) (n + 1 - i) dc ⟨vb, voff, none⟩ 1 vc 1 vs hu hsz (by simp only [Nat.min_def]; split <;> omega) (by omega)
      (fun j v hj => by
        rw [Addr.add_lit, hWc, hW1, World.cell?_setCells_out b _ _ _ _ (fun h _ => absurd h hvb)]
        exact hvs j v hj)
      (fun j hj => by rw [hWc]; exact hsp1 _ (by omega)) (fun j hj => by rw [hWf, hW1, World.frozen?_setCells]; exact hfz _) h1v
  rw [← hW1] at hcp1
  go_enter Tryz.func40, Tryz.ntmps40
  go_wp2_with (simp only [hov])
  go_region_law_o (refine step_copy_runV rfl _ _ 33 33 rfl _ _ (by simp [Act.eval, Act.put]) (by simp [Act.eval, Act.put]) (hcp1 _ _ _) ?_)
  go_wp2_with (at_builtin; refine wpList_copy_runV _ rfl _ _ 33 33 rfl _ _ rfl rfl (hcp2 _ (fun _ => rfl) (fun _ => rfl) _ _) ?_)
  go_ret
  first | exact ⟨rfl, rfl⟩ | exact ⟨rfl, by rw [hW1]⟩
end Go.Proofs.YtdlebdgdcpemmaaGreatDoor
namespace Go.Proofs.YtdlebdgdcpemmaaGreatDoor
open Go.Lib Go.RowKit Go.Shelf
set_option linter.unusedVariables false
set_option linter.unusedSimpArgs false
set_option maxHeartbeats 4000000 in
set_option maxRecDepth 100000 in
/-- Ahead of the end, where there is no room: a new row. -/
theorem insert_grow (w : World) (b n c i vb voff vc : Nat) (cs vs : List Value) (hi : i < n) (hnc : n ≤ c) (hroom : c < n + 1) (hbig : n + 1 ≤ 134217728)
    (hcl : cs.length = n * 6) (hvl : vs.length = 6)
    (hcs : ∀ j v, cs[j]? = some v → w.cell? ⟨b, j, none⟩ = some v)
    (hvs : ∀ j v, vs[j]? = some v → w.cell? ⟨vb, voff + j, none⟩ = some v) (h1c : ∀ v ∈ cs, v.oneCell' = true) (h1v : ∀ v ∈ vs, v.oneCell' = true) :
    Calls Tryz.prog 40 #[.slice (some ⟨b, 0, none⟩) n c, .int .i64 i, .slice (some ⟨vb, voff, none⟩) 1 vc] w fun e w' => ∃ (G : Nat) (ROW : Array Value),
      e = .returned (.slice (some ⟨w.heap.size, 0, none⟩) (n + 1) G) ∧ n + 1 ≤ G ∧ G ≤ maxLen ∧ ROW.size = G * 6 ∧ ROW.toList.take (i * 6) = cs.take (i * 6) ∧
      w' = (((w.alloc (.cells ROW 25)).drew.setCells w.heap.size (i * 6) vs).drew).setCells w.heap.size ((i + 1) * 6) (cs.drop (i * 6)) := by
  have mixed : Tryz.prog.follows .mixedOrders = true := by kernel_rfl
  have hu : Tryz.prog.underlying 33 = some (.slice 25) := by kernel_rfl
  have hui : Tryz.prog.underlying 3 = some (.int .i64) := by kernel_rfl
  obtain ⟨i0, z0, hi0, hz0, hzs, hsz0, hby, hce⟩ := rowB_spec (P := Tryz.prog) (e := 25) (by kernel_rfl)
  have h6 : i0.size = 6 := by rw [← hce]; kernel_rfl
  have hsz : (Tryz.prog.info? 25).map (·.size) = some 6 := by rw [hi0]; simp [h6]
  have hzc : z0.cells.size = 6 := by rw [hzs, h6]
  have hz2 : ¬ ((i : Int) = (n : Int)) := by omega
  have hz3 : (c : Int) < (n : Int) + 1 := by omega
  have hbw : b < w.heap.size := block_lt_of_cell (hcs 0 _ (List.getElem?_eq_getElem (by omega)))
  have hvw : vb < w.heap.size := block_lt_of_cell (hvs 0 _ (List.getElem?_eq_getElem (by omega)))
  have hkk : (n : Int) + 1 - (i : Int) = ((n + 1 - i : Nat) : Int) := by omega
  have hik : i + (n + 1 - i) = n + 1 := by omega
  have hold : (Builtin.firstCells i0.size i (.slice (some ⟨b, 0, none⟩) i c)).run Tryz.prog w.drew = .ok (cs.take (i * 6)).toArray w.drew := by
    rw [h6]
    exact run_firstCells_some w.drew 6 i ⟨b, 0, none⟩ i c (cs.take (i * 6)) (by rw [List.length_take]; omega) (fun j v hj => by
      rw [Addr.add_lit, Nat.zero_add]
      rw [List.getElem?_take] at hj
      split at hj
      · exact hcs j v hj
      · cases hj)
  have hfit := Nat.mul_le_mul hbig hby
  have hrz : ∀ ty, (Builtin.append_ #[33, 3] ty #[.slice (some ⟨b, 0, none⟩) i c, .int .i64 ((n : Int) + 1 - (i : Int))]).run Tryz.prog w =
      .ok (.slice (some ⟨w.heap.size, 0, none⟩) (n + 1) (grownCap w (n + 1) c 25)) (w.drew.alloc (.cells ((cs.take (i * 6)).toArray ++ Builtin.zeroCells z0.cells (n + 1 - i) ++ Builtin.zeroCells z0.cells (grownCap w (n + 1) c 25 - (n + 1))) 25)) := fun ty => by
    have hlt : (n + 1 - i) * i0.bytes ≤ (n + 1) * i0.bytes := Nat.mul_le_mul_right _ (by omega)
    have h := Lib.run_append_grow_zeros w 33 3 ty 25 i0 _ .i64 .i64 hu hui hi0 hz0 (some ⟨b, 0, none⟩) i c (cs.take (i * 6)) hold (n + 1 - i) (by omega) hsz0 (by omega) (by omega) (by omega) (by rw [hik]; exact growslice_fits hroom (by omega))
    rw [hik] at h
    rw [hkk]
    exact h
  obtain ⟨G, hG⟩ : ∃ G, G = grownCap w (n + 1) c 25 := ⟨_, rfl⟩
  obtain ⟨ROW, hROW⟩ : ∃ ROW : Array Value, ROW = (cs.take (i * 6)).toArray ++ Builtin.zeroCells z0.cells (n + 1 - i) ++ Builtin.zeroCells z0.cells (G - (n + 1)) := ⟨_, rfl⟩
  rw [← hG] at hrz
  rw [← hROW] at hrz
  have hGn : n + 1 ≤ G := by rw [hG]; exact grownCap_ge w _ _ _
  have hGm : G ≤ maxLen := by
    have := grownCap_le_maxLen w (n + 1) c 25 (by unfold maxLen; omega)
    rwa [← hG] at this
  have hG63 : G ≤ 9223372036854775807 := by unfold maxLen at hGm; omega
  have hct : (cs.take (i * 6)).length = i * 6 := by rw [List.length_take]; omega
  have hzl : ∀ k, (Builtin.zeroCells z0.cells k).size = k * 6 := fun k => by simp [Builtin.zeroCells, hzc]
  have hRs : ROW.size = G * 6 := by
    rw [hROW, Array.size_append, Array.size_append, List.size_toArray, hct, hzl, hzl]
    omega
  have hRt : ROW.toList.take (i * 6) = cs.take (i * 6) := by
    rw [hROW]
    simp only [Array.toList_append]
    rw [List.append_assoc, List.take_append_of_le_length (by simp [hct]), List.take_of_length_le (by simp [hct])]
  obtain ⟨W1, hW1⟩ : ∃ W1, W1 = w.drew.alloc (.cells ROW 25) := ⟨_, rfl⟩
  rw [← hW1] at hrz
  have hN : ∀ j, j < (n + 1) * 6 → (W1.cell? ⟨w.heap.size, j, none⟩).isSome = true := fun j hj => by
    have : j < G * 6 := Nat.lt_of_lt_of_le hj (Nat.mul_le_mul_right _ hGn)
    rw [hW1, World.cell?_alloc_at (w := w.drew) ROW _ w.heap.size j rfl, Array.getElem?_eq_getElem (by omega)]; rfl
  have hNf : ∀ j, W1.frozen? ⟨w.heap.size, j, none⟩ = false := fun j => by rw [hW1]; exact World.frozen?_alloc_at (w := w.drew) ROW _ w.heap.size j rfl
  have hOb : ∀ j v, w.cell? ⟨b, j, none⟩ = some v → W1.cell? ⟨b, j, none⟩ = some v := fun j v h => by rw [hW1, World.cell?_alloc_past (w := w.drew) _ b j hbw]; exact h
  have hOv : ∀ j v, w.cell? ⟨vb, j, none⟩ = some v → W1.cell? ⟨vb, j, none⟩ = some v := fun j v h => by rw [hW1, World.cell?_alloc_past (w := w.drew) _ vb j hvw]; exact h
  have hcpA : ∀ (W : World), (∀ x, W.cell? x = W1.cell? x) → (∀ x, W.frozen? x = W1.frozen? x) → ∀ ty dc, (Builtin.copy_ #[33, 33] ty #[.slice (some ⟨w.heap.size, i * 6, none⟩) (n + 1 - i) dc, .slice (some ⟨vb, voff, none⟩) 1 vc]).run Tryz.prog W = .ok (goInt (1 : Nat)) (W.setCells w.heap.size (i * 6) vs) := fun W hWc hWf ty dc =>
    run_copy_k W _ _ ty 25 6 w.heap.size (i * 6) (n + 1 - i) dc ⟨vb, voff, none⟩ 1 vc 1 vs hu hsz (by simp only [Nat.min_def]; split <;> omega) (by omega)
      (fun j v hj => by rw [Addr.add_lit, hWc]; exact hOv _ v (hvs j v hj))
      (fun j hj => by rw [hWc]; exact hN _ (by omega)) (fun j hj => by rw [hWf]; exact hNf _) h1v
  have hGi : ¬ (G = i) := by omega
  have hGim : ¬ (G = i + 1) := by omega
  have hci : ¬ (c = i) := by omega
  have hbN : b ≠ w.heap.size := by omega
  have hdl : (cs.drop (i * 6)).length = (n - i) * 6 := by rw [List.length_drop, hcl]; omega
  have hcpB : ∀ (W : World), (∀ x, W.cell? x = (W1.setCells w.heap.size (i * 6) vs).cell? x) → (∀ x, W.frozen? x = (W1.setCells w.heap.size (i * 6) vs).frozen? x) → ∀ ty dc sc, (Builtin.copy_ #[33, 33] ty #[.slice (some ⟨w.heap.size, (i + 1) * 6, none⟩) (n - i) dc, .slice (some ⟨b, i * 6, none⟩) (n - i) sc]).run Tryz.prog W = .ok (goInt (n - i : Nat)) (W.setCells w.heap.size ((i + 1) * 6) (cs.drop (i * 6))) := fun W hWc hWf ty dc sc =>
    run_copy_k W _ _ ty 25 6 w.heap.size ((i + 1) * 6) (n - i) dc ⟨b, i * 6, none⟩ (n - i) sc (n - i) (cs.drop (i * 6)) hu hsz (by simp only [Nat.min_def]; split <;> omega) hdl
      (fun j v hj => by
        rw [Addr.add_lit, hWc, World.cell?_setCells_out _ _ _ _ _ (fun h _ => absurd h hbN)]
        exact hOb _ v (hcs (i * 6 + j) v (by rwa [List.getElem?_drop] at hj)))
      (fun j hj => by rw [hWc]; exact isSome_setCellsV w.heap.size vs (i * 6) W1 (fun t ht => hN _ (by omega)) _ (hN _ (by omega)))
      (fun j hj => by rw [hWf, World.frozen?_setCells]; exact hNf _) (fun v hv => h1c v (List.mem_of_mem_drop hv))
  subst hW1
  have hE1 : ∀ x, ((w.alloc (.cells ROW 25)).drew).cell? x = (w.drew.alloc (.cells ROW 25)).cell? x := fun x => rfl
  have hE2 : ∀ x, ((w.alloc (.cells ROW 25)).drew).frozen? x = (w.drew.alloc (.cells ROW 25)).frozen? x := fun x => rfl
  have hF1 : ∀ x, (((w.alloc (.cells ROW 25)).drew.setCells w.heap.size (i * 6) vs).drew).cell? x = ((w.drew.alloc (.cells ROW 25)).setCells w.heap.size (i * 6) vs).cell? x := fun x => rfl
  have hF2 : ∀ x, (((w.alloc (.cells ROW 25)).drew.setCells w.heap.size (i * 6) vs).drew).frozen? x = ((w.drew.alloc (.cells ROW 25)).setCells w.heap.size (i * 6) vs).frozen? x := fun x => rfl
  have hw1 : IntKind.i64.wrap ((i : Int) + 1) = (i : Int) + 1 := by rw [IntKind.wrap_i64]; omega
  have hb1 : (0 : Int) ≤ (i : Int) + 1 := by omega
  have hin : i ≤ n := by omega
  have htn : ((i : Int) + 1).toNat = i + 1 := by omega
  have hb3 : (i : Int) ≤ (n : Int) := by omega
  clear hkk hik hold hROW hG
  go_enter Tryz.func40, Tryz.ntmps40
  go_wp2_with (first
    | (at_builtin; refine Lib.wpList_append_run _ rfl _ _ _ _ rfl _ _ rfl rfl _ _ (hrz _) ?_)
    | (at_builtin; refine wpList_copy_runV _ rfl _ _ 33 33 rfl _ _ rfl rfl (hcpA _ hE1 hE2 _ _) ?_)
    | (at_builtin; refine wpList_copy_runV _ rfl _ _ 33 33 rfl _ _ rfl rfl (hcpB _ (fun _ => rfl) (fun _ => rfl) _ _ _) ?_))
  go_region_law_o (refine step_copy_runV rfl _ _ 33 33 rfl (.slice (some ⟨w.heap.size, (i + 1) * 6, none⟩) (n - i) (G - (i + 1))) (.slice (some ⟨b, i * 6, none⟩) (n - i) (c - i)) (by simp [Act.eval, Act.put]) (by simp [Act.eval, Act.put]) (hcpB _ hF1 hF2 _ (G - (i + 1)) (c - i)) ?_)
  go_wp2
  go_ret
  exact ⟨G, ROW, rfl, hGn, hGm, hRs, hRt, rfl⟩
end Go.Proofs.YtdlebdgdcpemmaaGreatDoor
namespace Go.Proofs.YtdlebdgdcpemmaaGreatDoor
open Go.Lib Go.RowKit Go.Shelf
set_option linter.unusedVariables false
set_option linter.unusedSimpArgs false
theorem set_mid {α : Type} (l : List α) (o : Nat) (v : α) (h : o < l.length) : l.set o v = l.take o ++ v :: l.drop (o + 1) := by
  rw [List.set_eq_take_append_cons_drop, if_pos h]
/-- The cells of a block behind setCells. -/
theorem block_setCells (b : Nat) (t : TypeId) (z : Nat × Nat) : ∀ (vs : List Value) (o : Nat) (w : World) (cur : Array Value), w.heap[b]? = some (.cells cur t z) → o + vs.length ≤ cur.size →
    ∃ cur' : Array Value, (w.setCells b o vs).heap[b]? = some (.cells cur' t z) ∧ cur'.toList = cur.toList.take o ++ vs ++ cur.toList.drop (o + vs.length)
  | [], o, w, cur, h, _ => ⟨cur, h, by simp⟩
  | v :: vs, o, w, cur, h, hl => by
    simp only [List.length_cons] at hl
    have hb : b < w.heap.size := (Array.getElem?_eq_some_iff.1 h).1
    have h1 : (w.setCell ⟨b, o, none⟩ v).heap[b]? = some (.cells (cur.setIfInBounds o v) t z) := by
      simp only [World.setCell, Array.getElem?_modify, if_true, h, Option.map_some]
      rfl
    obtain ⟨cur', h2, h3⟩ := block_setCells b t z vs (o + 1) (w.setCell ⟨b, o, none⟩ v) (cur.setIfInBounds o v) h1 (by rw [Array.size_setIfInBounds]; omega)
    refine ⟨cur', h2, ?_⟩
    have hlen : o < cur.toList.length := by rw [Array.length_toList]; omega
    rw [h3, Array.toList_setIfInBounds, set_mid _ _ _ hlen]
    have e1 : (cur.toList.take o ++ v :: cur.toList.drop (o + 1)).take (o + 1) = cur.toList.take o ++ [v] := by
      rw [List.take_append, List.take_of_length_le (by simp; omega), List.length_take, Nat.min_eq_left (by omega), show o + 1 - o = 1 by omega]
      rfl
    have e2 : (cur.toList.take o ++ v :: cur.toList.drop (o + 1)).drop (o + 1 + vs.length) = cur.toList.drop (o + 1 + vs.length) := by
      rw [List.drop_append, List.drop_of_length_le (by simp; omega), List.length_take, Nat.min_eq_left (by omega), List.nil_append, show o + 1 + vs.length - o = vs.length + 1 by omega, List.drop_succ_cons, List.drop_drop]
    rw [e1, e2, List.length_cons, show o + (vs.length + 1) = o + 1 + vs.length by omega]
    simp
theorem heap_size_setCells (b : Nat) : ∀ (vs : List Value) (o : Nat) (w : World), (w.setCells b o vs).heap.size = w.heap.size
  | [], _, _ => rfl
  | v :: vs, o, w => by rw [World.setCells, heap_size_setCells b vs]; simp [World.setCell]
theorem block_other_setCells (b : Nat) {g : Nat} (hg : g ≠ b) : ∀ (vs : List Value) (o : Nat) (w : World), (w.setCells b o vs).heap[g]? = w.heap[g]?
  | [], _, _ => rfl
  | v :: vs, o, w => by
    rw [World.setCells, block_other_setCells b hg vs]
    simp only [World.setCell, Array.getElem?_modify]
    rw [if_neg (fun e => hg e.symm)]
theorem frame_setCells (b : Nat) : ∀ (vs : List Value) (o : Nat) (w : World), (w.setCells b o vs).os = w.os ∧ (w.setCells b o vs).tape = w.tape ∧ (w.setCells b o vs).output = w.output
  | [], _, _ => ⟨rfl, rfl, rfl⟩
  | v :: vs, o, w => by
    have h := frame_setCells b vs (o + 1) (w.setCell ⟨b, o, none⟩ v)
    exact h
end Go.Proofs.YtdlebdgdcpemmaaGreatDoor
namespace Go.Proofs.YtdlebdgdcpemmaaGreatDoor
open Go.Lib Go.RowKit Go.Shelf
set_option linter.unusedVariables false
set_option linter.unusedSimpArgs false
theorem insert_own (w : World) (base b n c i vb vc : Nat) (cur vcur : Array Value) (tV : TypeId) (hb : w.heap[b]? = some (.cells cur 25 (0, 0))) (hbase : base ≤ b) (hn : n ≤ c) (hcm : c ≤ maxLen) (hcs : cur.size = c * 6)
    (hv : w.heap[vb]? = some (.cells vcur tV (0, 0))) (hvs : 6 ≤ vcur.size) (hvb : vb ≠ b) (h1c : ∀ v ∈ cur.toList.take (n * 6), v.oneCell' = true) (h1v : ∀ v ∈ vcur.toList.take 6, v.oneCell' = true) (hi : i ≤ n) (hbig : n + 1 ≤ 1000000) (hbw : base ≤ w.heap.size) :
    Calls Tryz.prog 40 #[.slice (some ⟨b, 0, none⟩) n c, .int .i64 i, .slice (some ⟨vb, 0, none⟩) 1 vc] w fun e w' => ∃ v' g', e = .returned v' ∧
      w'.ownsRow base 25 6 v' (n + 1) ((cur.toList.take (n * 6)).take (i * 6) ++ vcur.toList.take 6 ++ (cur.toList.take (n * 6)).drop (i * 6)) ∧ w.grownBy w' (some b) ∧ v'.ownBlock = some g' ∧ (g' = b ∨ w.heap.size ≤ g') := by
  have hbl : b < w.heap.size := (Array.getElem?_eq_some_iff.1 hb).1
  have hvl : vb < w.heap.size := (Array.getElem?_eq_some_iff.1 hv).1
  have hcb : ∀ j, w.cell? ⟨b, j, none⟩ = cur[j]? := fun j => by simp [World.cell?, hb]
  have hcv : ∀ j, w.cell? ⟨vb, j, none⟩ = vcur[j]? := fun j => by simp [World.cell?, hv]
  have hfb : ∀ j, w.frozen? ⟨b, j, none⟩ = false := fun j => by simp [World.frozen?, hb]
  have hfv : ∀ j, w.frozen? ⟨vb, j, none⟩ = false := fun j => by simp [World.frozen?, hv]
  have hcl : (cur.toList.take (n * 6)).length = n * 6 := by rw [List.length_take, Array.length_toList, hcs]; omega
  have hvl6 : (vcur.toList.take 6).length = 6 := by rw [List.length_take, Array.length_toList]; omega
  have hcx : ∀ j v, (cur.toList.take (n * 6))[j]? = some v → w.cell? ⟨b, j, none⟩ = some v := fun j v h => by
    rw [hcb]
    rw [List.getElem?_take] at h
    split at h
    · simpa using h
    · cases h
  have hvx : ∀ j v, (vcur.toList.take 6)[j]? = some v → w.cell? ⟨vb, 0 + j, none⟩ = some v := fun j v h => by
    rw [Nat.zero_add, hcv]
    rw [List.getElem?_take] at h
    split at h
    · simpa using h
    · cases h
  obtain ⟨i0, z0, hi0, hz0, hzs, hsz0, hby, hce⟩ := rowB_spec (P := Tryz.prog) (e := 25) (by kernel_rfl)
  have h6 : i0.size = 6 := by rw [← hce]; kernel_rfl
  rcases Nat.lt_or_ge i n with hlt | hge
  · by_cases hroom : n + 1 ≤ c
    · have hsh := insert_shift w b n c i vb 0 vc (cur.toList.take (n * 6)) (vcur.toList.take 6) hlt hroom (by unfold maxLen at hcm; omega) hvb hcl hvl6 hcx
        (fun j hj => by rw [hcb, Array.getElem?_eq_getElem (by omega)]; rfl) hfb hvx h1c h1v tV 25 vcur.size cur.size (by simp [World.shape?, hv]) (by simp [World.shape?, hb]) (by omega) (hfv 0) (hfv _)
      refine hsh.mono ?_
      rintro e w' ⟨rfl, rfl⟩
      have hdl : ((cur.toList.take (n * 6)).drop (i * 6)).length = (n - i) * 6 := by rw [List.length_drop, hcl]; omega
      obtain ⟨c1, k1, k2⟩ := block_setCells b 25 (0, 0) ((cur.toList.take (n * 6)).drop (i * 6)) ((i + 1) * 6) w.drew cur hb (by omega)
      have k1s : c1.size = c * 6 := by
        have := congrArg List.length k2
        simp only [Array.length_toList, List.length_append, List.length_take, List.length_drop, hcs] at this
        omega
      obtain ⟨c2, k3, k4⟩ := block_setCells b 25 (0, 0) (vcur.toList.take 6) (i * 6) _ c1 k1 (by omega)
      have k3s : c2.size = c * 6 := by
        have := congrArg List.length k4
        simp only [Array.length_toList, List.length_append, List.length_take, List.length_drop, k1s] at this
        omega
      refine ⟨_, b, rfl, ⟨?_, .inr ⟨b, c, c2, rfl, hbase, k3, hroom, hcm, k3s, ?_⟩⟩, ?_, rfl, .inl rfl⟩
      · simp only [List.length_append, List.length_take, List.length_drop, Array.length_toList, hcs]; omega
      · have e1 : c1.toList.take (i * 6) = (cur.toList.take (n * 6)).take (i * 6) := by
          rw [k2, List.append_assoc, List.take_append_of_le_length (by rw [List.length_take, Array.length_toList]; omega), List.take_take, List.take_take]
          exact congrArg (fun n => List.take n cur.toList) (by omega)
        have e2 : c1.toList.drop (i * 6 + 6) = (cur.toList.take (n * 6)).drop (i * 6) ++ cur.toList.drop ((i + 1) * 6 + ((cur.toList.take (n * 6)).drop (i * 6)).length) := by
          rw [k2, List.append_assoc]
          exact List.drop_left' (by rw [List.length_take, Array.length_toList]; omega)
        rw [k4, hvl6, e1, e2, ← List.append_assoc]
        refine List.take_left' ?_
        rw [List.length_append, List.length_append, hdl, hvl6, List.length_take, hcl]
        omega
      · obtain ⟨o1, o2, o3⟩ := frame_setCells b (vcur.toList.take 6) (i * 6) (w.drew.setCells b ((i + 1) * 6) ((cur.toList.take (n * 6)).drop (i * 6)))
        obtain ⟨p1, p2, p3⟩ := frame_setCells b ((cur.toList.take (n * 6)).drop (i * 6)) ((i + 1) * 6) w.drew
        refine ⟨o1.trans p1, o2.trans p2, o3.trans p3, ?_, fun k hk hne => ?_⟩
        · rw [heap_size_setCells, heap_size_setCells]; exact Nat.le_refl _
        · have hkb : k ≠ b := fun e => hne (by rw [e])
          rw [block_other_setCells b hkb, block_other_setCells b hkb]; rfl
    · have hg := insert_grow w b n c i vb 0 vc (cur.toList.take (n * 6)) (vcur.toList.take 6) hlt hn (by omega) (by omega) hcl hvl6 hcx hvx h1c h1v
      refine hg.mono ?_
      rintro e w' ⟨G, ROW, rfl, hG1, hG2, hR1, hR2, rfl⟩
      have hdl : ((cur.toList.take (n * 6)).drop (i * 6)).length = (n - i) * 6 := by rw [List.length_drop, hcl]; omega
      have hnew : (w.alloc (.cells ROW 25)).drew.heap[w.heap.size]? = some (.cells ROW 25 (0, 0)) := by
        show (w.heap.push _)[w.heap.size]? = _
        simp
      obtain ⟨c1, k1, k2⟩ := block_setCells w.heap.size 25 (0, 0) (vcur.toList.take 6) (i * 6) _ ROW hnew (by rw [hvl6, hR1]; omega)
      have k1s : c1.size = G * 6 := by
        have := congrArg List.length k2
        simp only [Array.length_toList, List.length_append, List.length_take, List.length_drop, hR1] at this
        omega
      obtain ⟨c2, k3, k4⟩ := block_setCells w.heap.size 25 (0, 0) ((cur.toList.take (n * 6)).drop (i * 6)) ((i + 1) * 6) ((((w.alloc (.cells ROW 25)).drew.setCells w.heap.size (i * 6) (vcur.toList.take 6)).drew)) c1 k1 (by omega)
      have k3s : c2.size = G * 6 := by
        have := congrArg List.length k4
        simp only [Array.length_toList, List.length_append, List.length_take, List.length_drop, hcs] at this
        omega
      refine ⟨_, w.heap.size, rfl, ⟨?_, .inr ⟨w.heap.size, G, c2, rfl, hbw, k3, hG1, hG2, k3s, ?_⟩⟩, ?_, rfl, .inr (Nat.le_refl _)⟩
      · simp only [List.length_append, List.length_take, List.length_drop, Array.length_toList, hcs]; omega
      · have e1 : c1.toList.take ((i + 1) * 6) = (cur.toList.take (n * 6)).take (i * 6) ++ vcur.toList.take 6 := by
          rw [k2, hR2]
          refine List.take_left' ?_
          rw [List.length_append, List.length_take, hcl, hvl6]
          omega
        rw [k4, e1]
        refine List.take_left' ?_
        rw [List.length_append, List.length_append, hdl, hvl6, List.length_take, hcl]
        omega
      · obtain ⟨o1, o2, o3⟩ := frame_setCells w.heap.size ((cur.toList.take (n * 6)).drop (i * 6)) ((i + 1) * 6) (((w.alloc (.cells ROW 25)).drew.setCells w.heap.size (i * 6) (vcur.toList.take 6)).drew)
        obtain ⟨p1, p2, p3⟩ := frame_setCells w.heap.size (vcur.toList.take 6) (i * 6) (w.alloc (.cells ROW 25)).drew
        refine ⟨o1.trans p1, o2.trans p2, o3.trans p3, ?_, fun k hk hne => ?_⟩
        · rw [heap_size_setCells]
          show w.heap.size ≤ ((w.alloc (.cells ROW 25)).drew.setCells w.heap.size (i * 6) (vcur.toList.take 6)).heap.size
          rw [heap_size_setCells]
          show w.heap.size ≤ (w.heap.push _).size
          simp
        · have hkb : k ≠ w.heap.size := by omega
          rw [block_other_setCells _ hkb]
          show ((w.alloc (.cells ROW 25)).drew.setCells w.heap.size (i * 6) (vcur.toList.take 6)).heap[k]? = _
          rw [block_other_setCells _ hkb]
          show (w.heap.push _)[k]? = _
          rw [Array.getElem?_push, if_neg hkb]
  · obtain rfl : i = n := by omega
    have ho : w.ownsRow base 25 i0.size (.slice (some ⟨b, 0, none⟩) i c) i (cur.toList.take (i * 6)) := by
      rw [h6]
      exact ⟨hcl, .inr ⟨b, c, cur, rfl, hbase, hb, hn, hcm, hcs, rfl⟩⟩
    have hfit := Nat.mul_le_mul (show i + 1 ≤ 134217728 by omega) hby
    obtain ⟨v', w', g', hrun, how, hgr, hv', hgg⟩ := run_append_own' (P := Tryz.prog) 33 33 25 i0 z0 (by kernel_rfl) hi0 hz0 hzs hsz0 _ i b _ ho rfl ⟨vb, 0, none⟩ 1 vc (vcur.toList.take 6) (by rw [hvl6, h6]) (fun j u hj => by rw [Addr.add_lit]; exact hvx j u hj) h1v (by unfold maxLen; omega) (by omega) hbw
    refine (insert_end w b i c vb 0 vc (by omega) hrun).mono ?_
    rintro e w'' ⟨rfl, rfl⟩
    rw [h6] at how
    refine ⟨v', g', rfl, ?_, hgr, hv', hgg⟩
    have ea : (cur.toList.take (i * 6)).take (i * 6) = cur.toList.take (i * 6) := List.take_of_length_le (by omega)
    have eb : (cur.toList.take (i * 6)).drop (i * 6) = [] := List.drop_of_length_le (by omega)
    rw [ea, eb, List.append_nil]
    exact how
end Go.Proofs.YtdlebdgdcpemmaaGreatDoor
namespace Go.Proofs.YtdlebdgdcpemmaaGreatDoor
open Go.Lib Go.RowKit
set_option linter.unusedVariables false
set_option linter.unusedSimpArgs false
theorem take_flat {s : Nat} : ∀ (xs : List (List Value)) (h : Nat), (∀ v ∈ xs, v.length = s) → h ≤ xs.length → (xs.take h).flatten = xs.flatten.take (h * s)
  | xs, 0, _, _ => by simp
  | [], h + 1, _, hh => by simp at hh
  | x :: xs, h + 1, hl, hh => by
    have hx := hl x (by simp)
    have ih := take_flat xs h (fun v hv => hl v (List.mem_cons_of_mem _ hv)) (by simpa using hh)
    have e1 : List.take (s + h * s) x = x := List.take_of_length_le (by omega)
    rw [List.take_succ_cons, List.flatten_cons, List.flatten_cons, ih, Nat.add_mul, Nat.one_mul, Nat.add_comm (h * s) s, List.take_append, e1, hx, show s + h * s - s = h * s by omega]
theorem drop_flat {s : Nat} : ∀ (xs : List (List Value)) (h : Nat), (∀ v ∈ xs, v.length = s) → h ≤ xs.length → (xs.drop h).flatten = xs.flatten.drop (h * s)
  | xs, 0, _, _ => by simp
  | [], h + 1, _, hh => by simp at hh
  | x :: xs, h + 1, hl, hh => by
    have hx := hl x (by simp)
    have ih := drop_flat xs h (fun v hv => hl v (List.mem_cons_of_mem _ hv)) (by simpa using hh)
    have e1 : List.drop (s + h * s) x = [] := List.drop_of_length_le (by omega)
    rw [List.drop_succ_cons, List.flatten_cons, ih, Nat.add_mul, Nat.one_mul, Nat.add_comm (h * s) s, List.drop_append, e1, hx, List.nil_append, show s + h * s - s = h * s by omega]
section
variable {σ : AS} {w0 : World} {m0 : Gv} {ops : Array Oper} {Q : Exit → AS → Prop} {rest : List Oper} {d : Option Tmp} {ty : TypeId} {pos : String} {af : Array Edge}
theorem ar_insert {s y x : Operand} {k j : Nat} {xs : List (List Value)} {v : List Value} {i : Int} {ts : Array TypeId} (hs : σ.ev s = .c (.sl 25 (.own k) xs)) (hy : σ.ev y = .c (.p (.int .i64 i))) (hx : σ.ev x = .c (.sl 25 (.own j) [v])) (hjk : j ≠ k)
    (h0 : 0 ≤ i) (h1 : i ≤ xs.length) (hbig : xs.length + 1 ≤ 1000000) (hok : okE xs) (hokv : okE [v]) (hl0 : m0.l = [])
    (h : AR Tryz.prog w0 m0 ops Q rest ((σ.drp k).put d (.c (.sl 25 (.own k) (xs.take i.toNat ++ [v] ++ xs.drop i.toNat))))) : AR Tryz.prog w0 m0 ops Q (⟨d, .call { callee := .value (.func 40), args := #[s, y, x], argTypes := ts }, ty, pos, af, none⟩ :: rest) σ := by
  refine ar_enter _ (σ.drp k) (f := 40) (fun ρ a w q => ?_) h
  refine ⟨_, run_call (by kernel_rfl) _ _ _ _ _ _ _ _ _, ?_⟩
  obtain ⟨m, rfl⟩ := Int.eq_ofNat_of_zero_le h0
  have q1 := q.ev s
  rw [hs] at q1
  have q1 : RepC Tryz.prog ρ w (.sl 25 (.own k) xs) (a.eval s) := q1
  obtain ⟨_, hlx, g, hg, hvv, hu, ho⟩ := q1
  have q2 := q.ev x
  rw [hx] at q2
  have q2 : RepC Tryz.prog ρ w (.sl 25 (.own j) [v]) (a.eval x) := q2
  obtain ⟨_, hlv, gv, hgv, hvv2, hu2, ho2⟩ := q2
  have hce : Tryz.prog.cellsOf 25 = 6 := by kernel_rfl
  rw [hce] at ho ho2 hlx hlv
  obtain ⟨hf, ho⟩ := ho
  obtain ⟨hf2, ho2⟩ := ho2
  rcases ho with ⟨e, _⟩ | ⟨b, c, cur, e, hb1, hb2, hb3, hb4, hb5, hb6⟩
  · rw [e] at hu; simp [Value.ownBlock] at hu
  rcases ho2 with ⟨e2, _⟩ | ⟨vb, vc, vcur, e2, hc1, hc2, hc3, hc4, hc5, hc6⟩
  · rw [e2] at hu2; simp [Value.ownBlock] at hu2
  obtain rfl : b = g := by rw [e] at hu; simpa [Value.ownBlock] using hu
  obtain rfl : vb = gv := by rw [e2] at hu2; simpa [Value.ownBlock] using hu2
  have hne : vb ≠ b := fun e3 => by
    subst e3
    have l1 := (List.getElem?_eq_some_iff.1 hg)
    have l2 := (List.getElem?_eq_some_iff.1 hgv)
    have hpp := List.pairwise_iff_getElem.1 q.no
    rcases Nat.lt_or_gt_of_ne hjk with hlt | hlt
    · exact hpp _ _ l2.1 l1.1 hlt (l2.2.trans l1.2.symm)
    · exact hpp _ _ l1.1 l2.1 hlt (l1.2.trans l2.2.symm)
  have hv6 : v.length = 6 := hlv v (by simp)
  have hvf : vcur.toList.take 6 = v := by simpa using hc6
  have hin := insert_own w ρ.B b xs.length c m vb vc cur vcur 25 hb2 hb1 hb3 hb4 hb5 hc2 (by have := hc3; simp at this; omega) hne
    (by rw [hb6]; exact okE_flat hok) (by rw [hvf]; exact hokv v (by simp)) (by omega) hbig (by have := (Array.getElem?_eq_some_iff.1 hb2).1; omega)
  have ea : (#[s, y, x].map a.eval) = #[.slice (some ⟨b, 0, none⟩) xs.length c, .int .i64 m, .slice (some ⟨vb, 0, none⟩) 1 vc] := by
    have e3 : a.eval y = .int .i64 m := q.evp hy
    simp [e, e2, e3]
  rw [ea]
  refine hin.mono ?_
  rintro en w' ⟨v', g', rfl, how, hgr, hv', hgg⟩
  obtain ⟨mv, r'⟩ := q.moved v' hg hgr hgg (ownsRow_lt how hv').2 (fun j' q' hq => by rw [hl0] at hq; simp at hq)
  refine ⟨v', _, rfl, r', ?_⟩
  have hlen : (xs.take m ++ [v] ++ xs.drop m).length = xs.length + 1 := by simp; omega
  show RepC Tryz.prog (ρ.mov k g' v') w' (.sl 25 (.own k) (xs.take ((m : Nat) : Int).toNat ++ [v] ++ xs.drop ((m : Nat) : Int).toNat)) v'
  refine ⟨by rw [Int.toNat_natCast, hlen]; omega, fun z hz => ?_, g', ?_, ?_, hv', ?_⟩
  · rw [hce]
    simp only [Int.toNat_natCast, List.mem_append, List.mem_singleton] at hz
    rcases hz with (hz | rfl) | hz
    · exact hlx z (List.mem_of_mem_take hz)
    · exact hv6
    · exact hlx z (List.mem_of_mem_drop hz)
  · show (ρ.om.set k g')[k]? = some g'
    rw [List.getElem?_set_self (List.getElem?_eq_some_iff.1 hg).1]
  · show v' = if g' = g' then v' else ρ.ov g'
    rw [if_pos rfl]
  · rw [hce, Int.toNat_natCast, hlen, List.flatten_append, List.flatten_append, take_flat xs m hlx (by omega), drop_flat xs m hlx (by omega)]
    rw [hb6, hvf] at how
    refine (?_ : w'.ownsRow ρ.B _ _ _ _ _)
    simpa using how
end
end Go.Proofs.YtdlebdgdcpemmaaGreatDoor
