/- VesselText: both sides and the law. -/
import Derived.Test.YtdlebdgdcpemmaaGreatDoorEA
import Derived.Test.YtdlebdgdcpemmaaGreatDoorGa
import Derived.Test.YtdlebdgdcpemmaaGreatDoorEX
import Derived.Test.YtdlebdgdcpemmaaGreatDoorEY
import Derived.Stop.LaidErr
namespace Go.Proofs.YtdlebdgdcpemmaaGreatDoor
open Go.RowKit
set_option linter.unusedVariables false
set_option linter.unusedSimpArgs false
def kindL : List ByteArray := [⟨#[]⟩, ⟨#[98, 97, 114, 103, 101]⟩, ⟨#[116, 97, 110, 107, 101, 114]⟩, ⟨#[112, 97, 115, 115, 101, 110, 103, 101, 114]⟩, ⟨#[112, 108, 101, 97, 115, 117, 114, 101]⟩]
/-- The words of the kinds stand in old memory. -/
def KW (w : World) : Prop := w.var? Tryz.prog "loop.example/g00924/impl.kindWords" = some (kindL.map fun s => Value.string s).toArray
theorem keptKW : KeptT KW := fun w w' h hb => by
  unfold KW at h ⊢
  have hg : Tryz.prog.globalNamed "loop.example/g00924/impl.kindWords" = some 0 := by kernel_rfl
  refine var?_below hb hg ?_ h
  apply Classical.byContradiction
  intro hn
  have : w.heap[0]? = none := Array.getElem?_eq_none (by omega)
  simp [World.var?, hg, this] at h
theorem KW.cell {w : World} (h : KW w) {i : Nat} {s : ByteArray} (hs : kindL[i]? = some s) : w.cell? ⟨0, i, none⟩ = some (.string s) := by
  have hg : Tryz.prog.globalNamed "loop.example/g00924/impl.kindWords" = some 0 := by kernel_rfl
  have := World.var?_cell hg h i
  rw [this]
  simp [hs]
def TK (w : World) : Prop := TT w ∧ KW w
theorem keptTK : KeptT TK := fun w w' h hb => ⟨keptTT w w' h.1 hb, keptKW w w' h.2 hb⟩
/-- An array of strings that reads as the table holds the table's strings. -/
theorem cells_of_strs {H : Type} {enc : TypeId × Value → H} {P : Program} {w : World} {base : Nat} {sp : Nat → Bool} {held : Bool} {fuel : Nat} {t e : TypeId} {n : Nat} {cs : List Value} {zs : List (List UInt8)} {p : List MemPlace}
    (ht : P.underlying t = some (.array n e)) (he : P.underlying e = some .string) (hce : P.cellsOf e = 1) (hct : P.cellsOf t = n)
    (h : DataW.trod enc P w base sp held fuel t cs = some (.agg (zs.map fun z => .lit (.string z)), p)) : cs = zs.map fun z => Value.string ⟨z.toArray⟩ := by
  cases fuel with
  | zero => simp [DataW.trod] at h
  | succ fuel =>
    simp only [DataW.trod, ht, hce, hct, Nat.mul_one] at h
    split at h
    · rename_i hl
      obtain ⟨xs, hm, hx⟩ := Option.map_eq_some_iff.1 h
      have hxs : xs.map (·.1) = zs.map fun z => (DataW.lit (.string z) : DataW H) := by
        have := congrArg Prod.fst hx
        simpa using this
      have hxl : xs.length = n := by simpa using Lib.mapM_length hm
      have hzl : zs.length = n := by
        have := congrArg List.length hxs
        simp at this
        omega
      apply List.ext_getElem?
      intro i
      by_cases hi : i < n
      · obtain ⟨b, hb, hf⟩ := Lib.mapM_at hm i i (by simp [hi])
        obtain ⟨z, hc, rfl, _⟩ := DataW.trod_string he hf
        have h1 : cs[i]? = some (.string z) := by
          have := congrArg (·[0]?) hc
          simpa [List.getElem?_take, List.getElem?_drop] using this
        have h2 : (xs.map (·.1))[i]? = some (DataW.lit (.string z.data.toList) : DataW H) := by simp [hb]
        rw [hxs] at h2
        simp only [List.getElem?_map, Option.map_eq_some_iff, DataW.lit.injEq, Lit.string.injEq] at h2
        obtain ⟨z', hz', rfl⟩ := h2
        simp [h1, hz']
      · rw [List.getElem?_eq_none (by omega), List.getElem?_eq_none (by simp; omega)]
    · cases h
theorem kw_of_laid {W : World} {r : List (String × DataW Unit)} (h : laidMet Tryz.prog (("loop.example/g00924/impl.kindWords", Rows.laid_loop_example_g00924_impl_kindWords) :: r) W) : KW W := by
  obtain ⟨ps, ⟨g', t', cs, fuel, p, q, hg', ht', hvar, hd, _, _⟩, _⟩ := h
  obtain rfl := Option.some.inj ((show Tryz.prog.globalNamed "loop.example/g00924/impl.kindWords" = some 0 by kernel_rfl).symm.trans hg')
  obtain rfl := Option.some.inj ((show (Tryz.prog.globals[0]?).map (·.type) = some 57 by kernel_rfl).symm.trans ht')
  unfold KW
  have e := cells_of_strs (zs := kindL.map fun s => s.data.toList) Tryz.underlying57 Tryz.underlying9 (by kernel_rfl) (by kernel_rfl) hd
  rw [hvar]
  congr 1
  apply Array.toList_inj.1
  rw [e]
  rfl
attribute [local irreducible] AR DR AWp QOp Qt ACalls ARes Exit.thenA Exit.inBlockA
attribute [local irreducible] AG0 AG AGs
attribute [local irreducible] AGc
def wordK (x : Vessel_) : ByteArray := (kindL[x.kd.toNat]?).getD ⟨#[]⟩
def textV (x : Vessel_) : ByteArray := numS x.id ++ ⟨#[32]⟩ ++ x.nm ++ ⟨#[32]⟩ ++ wordK x ++ ⟨#[32]⟩ ++ numS x.ln ++ ⟨#[120]⟩ ++ numS x.wd ++ ⟨#[32, 100, 114, 97, 117, 103, 104, 116, 32]⟩ ++ numS x.dr
theorem vesF_bd {x : Vessel_} (h : vesF x = true) : (1 ≤ x.id ∧ x.id ≤ 99) ∧ x.nm.size ≤ 10 ∧ (1 ≤ x.ln ∧ x.ln ≤ 8) ∧ (1 ≤ x.wd ∧ x.wd ≤ 3) ∧ (50 ≤ x.dr ∧ x.dr ≤ 500) ∧ (1 ≤ x.kd ∧ x.kd ≤ 4) := by
  simp only [vesF, wordF, inB, Bool.and_eq_true, decide_eq_true_eq] at h
  omega
theorem wordK_at {x : Vessel_} (h : 1 ≤ x.kd ∧ x.kd ≤ 4) : kindL[x.kd.toNat]? = some (wordK x) ∧ (wordK x).size ≤ 9 := by
  have e : ∀ i : Fin 5, kindL[i.1]? = some ((kindL[i.1]?).getD ⟨#[]⟩) ∧ ((kindL[i.1]?).getD ⟨#[]⟩).size ≤ 9 := by decide
  exact e ⟨x.kd.toNat, by omega⟩
theorem numS_sz0 {n : Int} (h : 0 ≤ n ∧ n ≤ 1000) : (numS n).size ≤ 1001 := by
  obtain ⟨u, rfl⟩ : ∃ u : Nat, n = (u : Int) := ⟨n.toNat, by omega⟩
  have := dN_size u
  rw [numS_nat]
  omega
theorem spec_l3Kinds : ACalls Tryz.prog 38 [] [] (.c (.sl 9 (.own 0) (kindL.map fun s => [Value.string s]))) [] 1 := by
  refine acalls_of (ws := [.c (.sl 9 (.own 0) (kindL.map fun s => [Value.string s]))]) Tryz.func38 rfl rfl rfl rfl fun w0 B m hm0 => ?_; (refine awp_norm (τ := ?_) ?_ ?_; rotate_left; (focus (simp only [AV.top, Tryz.ntmps38, List.length_cons, List.length_nil, Nat.reduceAdd, Nat.reduceSub, List.replicate_succ, List.replicate_zero, List.cons_append, List.nil_append]; exact rfl)))
  (repeat' (first | (first | refine awp_seq ?_ | refine awp_region ?_ | refine awp_block ?_ | refine awp_exit ?_ | refine awp_ret ?_ | refine awp_skip ?_ | refine ar_nil ?_ | refine dr_nil ?_ | (first | refine t_norm ?_ | refine t_exit ?_ | refine t_ret ?_ | refine b_norm ?_ | refine b_exit ?_ | refine b_exit_ne rfl ?_ | refine b_ret ?_)) | ((first | ((first | apply ar_q | apply dr_q); exact qOp1) | ((first | apply ar_gu | apply dr_gu); exact rfl) | ((first | apply ar_gn | apply dr_gn); exact rfl; exact bdOk) | (apply ar_bslice (e := 9) 1; kernel_rfl; (focus (decide +kernel)); kernel_rfl; exact rfl; exact rfl; exact rfl; exact rfl; decide)); (first | refine ar_nrm (k := ?_) | refine dr_nrm (k := ?_))) | ((first | apply ar_gy | apply dr_gy); exact rfl; exact bdOk) | (first | (apply awp_cond_t; exact rfl; exact bdOk) | (apply awp_cond_f; exact rfl; exact bdOk)) | fail))
  refine ⟨.inr rfl, aend_mk [0] rfl (by simp) (by first | (simp; done) | (simp; omega)) (ares_tmp2 _ rfl ?_ ares_nil) rfl rfl⟩
  exact rfl
set_option maxRecDepth 10000 in
theorem impl_text (x : Vessel_) (h : vesF x = true) : ACallsT Tryz.prog TK 22 [.agg [.p (.int .i64 x.id), .p (.string x.nm), .p (.int .i64 x.ln), .p (.int .i64 x.wd), .p (.int .i64 x.dr), .p (.int .i64 x.kd)]] [] (.c (.p (.string (textV x)))) [] 0 := by
  obtain ⟨b1, b2, b3, b4, b5, b6⟩ := vesF_bd h
  obtain ⟨hk1, hk2⟩ := wordK_at b6
  have hkw : ∀ w, TK w → w.cell? ⟨0, x.kd.toNat, none⟩ = some (.string (wordK x)) := fun w hw => hw.2.cell hk1
  have n1 := numS_sz0 (n := x.id) (by omega)
  have n2 := numS_sz0 (n := x.ln) (by omega)
  have n3 := numS_sz0 (n := x.wd) (by omega)
  have n4 := numS_sz0 (n := x.dr) (by omega)
  have c1 : (⟨#[32]⟩ : ByteArray).size = 1 := rfl
  have c2 : (⟨#[120]⟩ : ByteArray).size = 1 := rfl
  have c3 : (⟨#[32, 100, 114, 97, 117, 103, 104, 116, 32]⟩ : ByteArray).size = 9 := rfl
  have t1 := (impl_Itoa x.id (by omega)).weak (T' := TK) fun w h => h.1
  have t2 := (impl_Itoa x.ln (by omega)).weak (T' := TK) fun w h => h.1
  have t3 := (impl_Itoa x.wd (by omega)).weak (T' := TK) fun w h => h.1
  have t4 := (impl_Itoa x.dr (by omega)).weak (T' := TK) fun w h => h.1
  have z1 : (numS x.id ++ ⟨#[32]⟩).size = (numS x.id).size + (⟨#[32]⟩ : ByteArray).size := ByteArray.size_append
  have z2 : (numS x.id ++ ⟨#[32]⟩ ++ x.nm).size = (numS x.id ++ ⟨#[32]⟩).size + (x.nm : ByteArray).size := ByteArray.size_append
  have z3 : (numS x.id ++ ⟨#[32]⟩ ++ x.nm ++ ⟨#[32]⟩).size = (numS x.id ++ ⟨#[32]⟩ ++ x.nm).size + (⟨#[32]⟩ : ByteArray).size := ByteArray.size_append
  have z4 : (numS x.id ++ ⟨#[32]⟩ ++ x.nm ++ ⟨#[32]⟩ ++ wordK x).size = (numS x.id ++ ⟨#[32]⟩ ++ x.nm ++ ⟨#[32]⟩).size + (wordK x : ByteArray).size := ByteArray.size_append
  have z5 : (numS x.id ++ ⟨#[32]⟩ ++ x.nm ++ ⟨#[32]⟩ ++ wordK x ++ ⟨#[32]⟩).size = (numS x.id ++ ⟨#[32]⟩ ++ x.nm ++ ⟨#[32]⟩ ++ wordK x).size + (⟨#[32]⟩ : ByteArray).size := ByteArray.size_append
  have z6 : (numS x.id ++ ⟨#[32]⟩ ++ x.nm ++ ⟨#[32]⟩ ++ wordK x ++ ⟨#[32]⟩ ++ numS x.ln).size = (numS x.id ++ ⟨#[32]⟩ ++ x.nm ++ ⟨#[32]⟩ ++ wordK x ++ ⟨#[32]⟩).size + (numS x.ln : ByteArray).size := ByteArray.size_append
  have z7 : (numS x.id ++ ⟨#[32]⟩ ++ x.nm ++ ⟨#[32]⟩ ++ wordK x ++ ⟨#[32]⟩ ++ numS x.ln ++ ⟨#[120]⟩).size = (numS x.id ++ ⟨#[32]⟩ ++ x.nm ++ ⟨#[32]⟩ ++ wordK x ++ ⟨#[32]⟩ ++ numS x.ln).size + (⟨#[120]⟩ : ByteArray).size := ByteArray.size_append
  have z8 : (numS x.id ++ ⟨#[32]⟩ ++ x.nm ++ ⟨#[32]⟩ ++ wordK x ++ ⟨#[32]⟩ ++ numS x.ln ++ ⟨#[120]⟩ ++ numS x.wd).size = (numS x.id ++ ⟨#[32]⟩ ++ x.nm ++ ⟨#[32]⟩ ++ wordK x ++ ⟨#[32]⟩ ++ numS x.ln ++ ⟨#[120]⟩).size + (numS x.wd : ByteArray).size := ByteArray.size_append
  have z9 : (numS x.id ++ ⟨#[32]⟩ ++ x.nm ++ ⟨#[32]⟩ ++ wordK x ++ ⟨#[32]⟩ ++ numS x.ln ++ ⟨#[120]⟩ ++ numS x.wd ++ ⟨#[32, 100, 114, 97, 117, 103, 104, 116, 32]⟩).size = (numS x.id ++ ⟨#[32]⟩ ++ x.nm ++ ⟨#[32]⟩ ++ wordK x ++ ⟨#[32]⟩ ++ numS x.ln ++ ⟨#[120]⟩ ++ numS x.wd).size + (⟨#[32, 100, 114, 97, 117, 103, 104, 116, 32]⟩ : ByteArray).size := ByteArray.size_append
  refine acallsT_of (ws := [.c (.p (.string (textV x)))]) Tryz.func22 rfl rfl rfl rfl fun w0 B m hT hm0 => ?_; (obtain rfl : m = [] := List.eq_nil_of_length_eq_zero hm0); (refine awp_norm (τ := ?_) ?_ ?_; rotate_left; (focus (simp only [AV.top, Tryz.ntmps22, List.length_cons, List.length_nil, Nat.reduceAdd, Nat.reduceSub, List.replicate_succ, List.replicate_zero, List.cons_append, List.nil_append]; exact rfl)))
  (repeat' (first | (first | refine awp_seq ?_ | refine awp_region ?_ | refine awp_block ?_ | refine awp_exit ?_ | refine awp_ret ?_ | refine awp_skip ?_ | refine ar_nil ?_ | refine dr_nil ?_ | (first | refine t_norm ?_ | refine t_exit ?_ | refine t_ret ?_ | refine b_norm ?_ | refine b_exit ?_ | refine b_exit_ne rfl ?_ | refine b_ret ?_)) | ((first | ((first | apply ar_q | apply dr_q); exact qOp1) | ((first | apply ar_gu | apply dr_gu); exact rfl) | ((first | apply ar_gn | apply dr_gn); exact rfl; exact bdOk) | (first | (apply ar_box; exact rfl) | (apply ar_store; exact rfl; exact rfl; exact rfl; (focus (first | decide | (simp; done) | exact Nat.le_refl _)); kernel_rfl; exact rfl))); (first | refine ar_nrm (k := ?_) | refine dr_nrm (k := ?_))) | ((first | apply ar_gy | apply dr_gy); exact rfl; exact bdOk) | (first | (apply awp_cond_t; exact rfl; exact bdOk) | (apply awp_cond_f; exact rfl; exact bdOk)) | fail))
  (refine awp_region_draw ?_ ?_ ?_; kernel_rfl; kernel_rfl)
  (repeat' (first | (first | refine awp_seq ?_ | refine awp_region ?_ | refine awp_block ?_ | refine awp_exit ?_ | refine awp_ret ?_ | refine awp_skip ?_ | refine ar_nil ?_ | refine dr_nil ?_ | (first | refine t_norm ?_ | refine t_exit ?_ | refine t_ret ?_ | refine b_norm ?_ | refine b_exit ?_ | refine b_exit_ne rfl ?_ | refine b_ret ?_)) | ((first | ((first | apply ar_q | apply dr_q); exact qOp1) | ((first | apply ar_gu | apply dr_gu); exact rfl) | ((first | apply ar_gn | apply dr_gn); exact rfl; exact bdOk) | ((first | (apply ar_ct hT keptTK rfl rfl) | (apply dr_ct hT keptTK rfl rfl)); kernel_rfl; exact (t1); exact rfl) | ((first | (apply ar_ct hT keptTK rfl rfl) | (apply dr_ct hT keptTK rfl rfl)); kernel_rfl; exact (t2); exact rfl) | ((first | (apply ar_ct hT keptTK rfl rfl) | (apply dr_ct hT keptTK rfl rfl)); kernel_rfl; exact (t3); exact rfl) | ((first | (apply ar_ct hT keptTK rfl rfl) | (apply dr_ct hT keptTK rfl rfl)); kernel_rfl; exact (t4); exact rfl) | ((first | apply ar_q | apply dr_q); (focus (apply q_indexAddr_g (e := 9) (n := 5); kernel_rfl; exact rfl; omega))) | (apply dr_gload hT keptTK rfl rfl; kernel_rfl; exact rfl; exact hkw)); (first | refine ar_nrm (k := ?_) | refine dr_nrm (k := ?_))) | ((first | apply ar_gy | apply dr_gy); exact rfl; exact bdOk) | (first | (apply awp_cond_t; exact rfl; exact bdOk) | (apply awp_cond_f; exact rfl; exact bdOk)) | fail))
  refine ⟨.inr rfl, aend_mk [] rfl (by simp) (by first | (simp; done) | (simp; omega)) (ares_tmp2 _ rfl ?_ ares_nil) rfl rfl⟩
  exact rfl
set_option maxHeartbeats 4000000 in
set_option maxRecDepth 10000 in
theorem spec_text (x : Vessel_) (h : vesF x = true) : ACalls Tryz.prog 24 [.agg [.p (.int .i64 x.id), .p (.string x.nm), .p (.int .i64 x.ln), .p (.int .i64 x.wd), .p (.int .i64 x.dr), .p (.int .i64 x.kd)]] [] (.c (.p (.string (textV x)))) [] 0 := by
  obtain ⟨b1, b2, b3, b4, b5, b6⟩ := vesF_bd h
  obtain ⟨hk1, hk2⟩ := wordK_at b6
  have hkl : (kindL.map fun s => [Value.string s]).length = 5 := rfl
  have e1 : (kindL.map fun s => [Value.string s])[x.kd.toNat]? = some [Value.string (wordK x)] := by rw [List.getElem?_map, hk1]; rfl
  have n1 := numS_sz0 (n := x.id) (by omega)
  have n2 := numS_sz0 (n := x.ln) (by omega)
  have n3 := numS_sz0 (n := x.wd) (by omega)
  have n4 := numS_sz0 (n := x.dr) (by omega)
  have c1 : (⟨#[32]⟩ : ByteArray).size = 1 := rfl
  have c2 : (⟨#[120]⟩ : ByteArray).size = 1 := rfl
  have c3 : (⟨#[32, 100, 114, 97, 117, 103, 104, 116, 32]⟩ : ByteArray).size = 9 := rfl
  have z1 : (numS x.id ++ ⟨#[32]⟩).size = (numS x.id).size + (⟨#[32]⟩ : ByteArray).size := ByteArray.size_append
  have z2 : (numS x.id ++ ⟨#[32]⟩ ++ x.nm).size = (numS x.id ++ ⟨#[32]⟩).size + (x.nm : ByteArray).size := ByteArray.size_append
  have z3 : (numS x.id ++ ⟨#[32]⟩ ++ x.nm ++ ⟨#[32]⟩).size = (numS x.id ++ ⟨#[32]⟩ ++ x.nm).size + (⟨#[32]⟩ : ByteArray).size := ByteArray.size_append
  have z4 : (numS x.id ++ ⟨#[32]⟩ ++ x.nm ++ ⟨#[32]⟩ ++ wordK x).size = (numS x.id ++ ⟨#[32]⟩ ++ x.nm ++ ⟨#[32]⟩).size + (wordK x : ByteArray).size := ByteArray.size_append
  have z5 : (numS x.id ++ ⟨#[32]⟩ ++ x.nm ++ ⟨#[32]⟩ ++ wordK x ++ ⟨#[32]⟩).size = (numS x.id ++ ⟨#[32]⟩ ++ x.nm ++ ⟨#[32]⟩ ++ wordK x).size + (⟨#[32]⟩ : ByteArray).size := ByteArray.size_append
  have z6 : (numS x.id ++ ⟨#[32]⟩ ++ x.nm ++ ⟨#[32]⟩ ++ wordK x ++ ⟨#[32]⟩ ++ numS x.ln).size = (numS x.id ++ ⟨#[32]⟩ ++ x.nm ++ ⟨#[32]⟩ ++ wordK x ++ ⟨#[32]⟩).size + (numS x.ln : ByteArray).size := ByteArray.size_append
  have z7 : (numS x.id ++ ⟨#[32]⟩ ++ x.nm ++ ⟨#[32]⟩ ++ wordK x ++ ⟨#[32]⟩ ++ numS x.ln ++ ⟨#[120]⟩).size = (numS x.id ++ ⟨#[32]⟩ ++ x.nm ++ ⟨#[32]⟩ ++ wordK x ++ ⟨#[32]⟩ ++ numS x.ln).size + (⟨#[120]⟩ : ByteArray).size := ByteArray.size_append
  have z8 : (numS x.id ++ ⟨#[32]⟩ ++ x.nm ++ ⟨#[32]⟩ ++ wordK x ++ ⟨#[32]⟩ ++ numS x.ln ++ ⟨#[120]⟩ ++ numS x.wd).size = (numS x.id ++ ⟨#[32]⟩ ++ x.nm ++ ⟨#[32]⟩ ++ wordK x ++ ⟨#[32]⟩ ++ numS x.ln ++ ⟨#[120]⟩).size + (numS x.wd : ByteArray).size := ByteArray.size_append
  have z9 : (numS x.id ++ ⟨#[32]⟩ ++ x.nm ++ ⟨#[32]⟩ ++ wordK x ++ ⟨#[32]⟩ ++ numS x.ln ++ ⟨#[120]⟩ ++ numS x.wd ++ ⟨#[32, 100, 114, 97, 117, 103, 104, 116, 32]⟩).size = (numS x.id ++ ⟨#[32]⟩ ++ x.nm ++ ⟨#[32]⟩ ++ wordK x ++ ⟨#[32]⟩ ++ numS x.ln ++ ⟨#[120]⟩ ++ numS x.wd).size + (⟨#[32, 100, 114, 97, 117, 103, 104, 116, 32]⟩ : ByteArray).size := ByteArray.size_append
  refine acalls_of (ws := [.c (.p (.string (textV x)))]) Tryz.func24 rfl rfl rfl rfl fun w0 B m hm0 => ?_; (refine awp_norm (τ := ?_) ?_ ?_; rotate_left; (focus (simp only [AV.top, Tryz.ntmps24, List.length_cons, List.length_nil, Nat.reduceAdd, Nat.reduceSub, List.replicate_succ, List.replicate_zero, List.cons_append, List.nil_append]; exact rfl)))
  (repeat' (first | (first | refine awp_seq ?_ | refine awp_region ?_ | refine awp_block ?_ | refine awp_exit ?_ | refine awp_ret ?_ | refine awp_skip ?_ | refine ar_nil ?_ | refine dr_nil ?_ | (first | refine t_norm ?_ | refine t_exit ?_ | refine t_ret ?_ | refine b_norm ?_ | refine b_exit ?_ | refine b_exit_ne rfl ?_ | refine b_ret ?_)) | ((first | ((first | apply ar_q | apply dr_q); exact qOp1) | ((first | apply ar_gu | apply dr_gu); exact rfl) | ((first | apply ar_gn | apply dr_gn); exact rfl; exact bdOk) | (first | (apply ar_box; exact rfl) | (apply ar_store; exact rfl; exact rfl; exact rfl; (focus (first | decide | (simp; done) | exact Nat.le_refl _)); kernel_rfl; exact rfl))); (first | refine ar_nrm (k := ?_) | refine dr_nrm (k := ?_))) | ((first | apply ar_gy | apply dr_gy); exact rfl; exact bdOk) | (first | (apply awp_cond_t; exact rfl; exact bdOk) | (apply awp_cond_f; exact rfl; exact bdOk)) | fail))
  (apply awp_region_any; (focus (kernel_rfl)); (focus (intro c σ h; simp [Exit.thenA, Exit.inBlockA] at h)); (focus (simp only [idxs, Nat.reduceAdd]; exact rfl)); (focus (simp only [List.map_cons, List.map_nil]; exact rfl)); (focus (exact rfl)))
  (repeat (first | ((apply ag0_take; exact rfl; rotate_left 3; (focus (decide +kernel)); (focus (first | exact .inl rfl | (refine .inr ⟨_, _, _, rfl, rfl, ?_⟩; exact bdOk))); exact qOp1; rotate_left 1; kernel_rfl; (focus (decide +kernel)); (focus (decide +kernel))); refine ag0_nrm (k := ?_)) | apply ag0_skip))
  (apply ag_start; (focus (simp only [dsOf, List.zip_cons_cons, List.zip_nil_left, List.filter_cons, List.filter_nil, List.filterMap_cons, List.filterMap_nil, Bool.not_true, Bool.not_false, Bool.false_eq_true, if_true, if_false, reduceIte]; exact rfl)); (focus (simp only [AS.inn, List.map_cons, List.map_nil, AV.roB, plainB, plainC, rpO, Option.map_some, List.drop_zero, List.drop_succ_cons, AW.ro, AC.ro, AV.top]; exact rfl)))
  (apply ag_ready (rs := [2]); (focus (decide +kernel)); exact rfl); intro i hi; obtain rfl : i = 2 := (by simpa using hi); refine ⟨_, rfl, ?_, fun w1 B1 => ?_⟩; (focus (decide +kernel)); ((first | apply ar_qt | apply dr_qt); (focus (apply qt_call; kernel_rfl; exact (spec_l1Num x.id (by omega)); exact rfl))); refine ar_nrm (k := ?_); refine ar_nil ?_; refine ⟨rfl, ?_⟩; apply ag_norm; (focus (simp only [List.set_cons_succ, List.set_cons_zero]; exact rfl))
  (apply agc_startL [3, 6, 7]; (focus (intro c σ h; simp [Exit.thenA, Exit.inBlockA] at h)); (repeat (first | (apply agc_take; exact rfl; rotate_left 3; (focus (decide +kernel)); (focus (decide +kernel)); exact qAll2; rotate_left 1; kernel_rfl; (focus (decide +kernel)); (focus (decide +kernel)); refine agc_nrm (k := ?_)) | apply agc_skip)); apply agc_nil)
  (apply ag_ready (rs := [8]); (focus (decide +kernel)); exact rfl); intro i hi; obtain rfl : i = 8 := (by simpa using hi); refine ⟨_, rfl, ?_, fun w1 B1 => ?_⟩; (focus (decide +kernel)); (apply ar_call; kernel_rfl; exact (spec_l3Kinds); exact rfl); refine ar_nrm (k := ?_); refine ar_nil ?_; refine ⟨rfl, ?_⟩; apply ag_norm; (focus (simp only [List.set_cons_succ, List.set_cons_zero]; exact rfl))
  (apply agc_startL [11]; (focus (intro c σ h; simp [Exit.thenA, Exit.inBlockA] at h)); (repeat (first | (apply agc_take; exact rfl; rotate_left 3; (focus (decide +kernel)); (focus (decide +kernel)); exact qAll2; rotate_left 1; kernel_rfl; (focus (decide +kernel)); (focus (decide +kernel)); refine agc_nrm (k := ?_)) | apply agc_skip)); apply agc_nil)
  (apply ag_ready (rs := [12, 17]); (focus (decide +kernel)); exact rfl); intro i hi; rcases (by simpa using hi : i = 12 ∨ i = 17) with rfl | rfl; all_goals (refine ⟨_, rfl, ?_, fun w1 B1 => ?_⟩; (focus (decide +kernel)))
  · ((first | apply ar_q | apply dr_q); exact qOp1); refine ar_nrm (k := ?_); refine ar_nil ?_; refine ⟨rfl, ?_⟩; apply ag_norm; (focus (simp only [List.set_cons_succ, List.set_cons_zero]; exact rfl))
    (apply agc_startL [13, 14]; (focus (intro c σ h; simp [Exit.thenA, Exit.inBlockA] at h)); (repeat (first | (apply agc_take; exact rfl; rotate_left 3; (focus (decide +kernel)); (focus (decide +kernel)); exact qAll2; rotate_left 1; kernel_rfl; (focus (decide +kernel)); (focus (decide +kernel)); refine agc_nrm (k := ?_)) | apply agc_skip)); apply agc_nil)
    (apply ag_ready (rs := [17]); (focus (decide +kernel)); exact rfl); intro i hi; obtain rfl : i = 17 := (by simpa using hi); refine ⟨_, rfl, ?_, fun w1 B1 => ?_⟩; (focus (decide +kernel)); ((first | apply ar_qt | apply dr_qt); (focus (apply qt_call; kernel_rfl; exact (spec_l1Num x.ln (by omega)); exact rfl))); refine ar_nrm (k := ?_); refine ar_nil ?_; refine ⟨rfl, ?_⟩; apply ag_norm; (focus (simp only [List.set_cons_succ, List.set_cons_zero]; exact rfl))
    (apply agc_startL [18, 19]; (focus (intro c σ h; simp [Exit.thenA, Exit.inBlockA] at h)); (repeat (first | (apply agc_take; exact rfl; rotate_left 3; (focus (decide +kernel)); (focus (decide +kernel)); exact qAll2; rotate_left 1; kernel_rfl; (focus (decide +kernel)); (focus (decide +kernel)); refine agc_nrm (k := ?_)) | apply agc_skip)); apply agc_nil)
    (apply ag_ready (rs := [22]); (focus (decide +kernel)); exact rfl); intro i hi; obtain rfl : i = 22 := (by simpa using hi); refine ⟨_, rfl, ?_, fun w1 B1 => ?_⟩; (focus (decide +kernel)); ((first | apply ar_qt | apply dr_qt); (focus (apply qt_call; kernel_rfl; exact (spec_l1Num x.wd (by omega)); exact rfl))); refine ar_nrm (k := ?_); refine ar_nil ?_; refine ⟨rfl, ?_⟩; apply ag_norm; (focus (simp only [List.set_cons_succ, List.set_cons_zero]; exact rfl))
    (apply agc_startL [23, 24]; (focus (intro c σ h; simp [Exit.thenA, Exit.inBlockA] at h)); (repeat (first | (apply agc_take; exact rfl; rotate_left 3; (focus (decide +kernel)); (focus (decide +kernel)); exact qAll2; rotate_left 1; kernel_rfl; (focus (decide +kernel)); (focus (decide +kernel)); refine agc_nrm (k := ?_)) | apply agc_skip)); apply agc_nil)
    (apply ag_ready (rs := [27]); (focus (decide +kernel)); exact rfl); intro i hi; obtain rfl : i = 27 := (by simpa using hi); refine ⟨_, rfl, ?_, fun w1 B1 => ?_⟩; (focus (decide +kernel)); ((first | apply ar_qt | apply dr_qt); (focus (apply qt_call; kernel_rfl; exact (spec_l1Num x.dr (by omega)); exact rfl))); refine ar_nrm (k := ?_); refine ar_nil ?_; refine ⟨rfl, ?_⟩; apply ag_norm; (focus (simp only [List.set_cons_succ, List.set_cons_zero]; exact rfl))
    (apply agc_startL [28]; (focus (intro c σ h; simp [Exit.thenA, Exit.inBlockA] at h)); (repeat (first | (apply agc_take; exact rfl; rotate_left 3; (focus (decide +kernel)); (focus (decide +kernel)); exact qAll2; rotate_left 1; kernel_rfl; (focus (decide +kernel)); (focus (decide +kernel)); refine agc_nrm (k := ?_)) | apply agc_skip)); apply agc_nil)
    (((first | (apply ag_done []; (focus (exact rfl)); (focus (decide +kernel))) | (apply ag_done [0]; (focus (exact rfl)); (focus (decide +kernel))) | (apply ag_done [0, 1]; (focus (exact rfl)); (focus (decide +kernel))) | (apply ag_done [0, 1, 2]; (focus (exact rfl)); (focus (decide +kernel))) | (apply ag_late []; (focus (decide +kernel)); (focus (exact rfl))) | (apply ag_late [0]; (focus (decide +kernel)); (focus (exact rfl))) | (apply ag_late [0, 1]; (focus (decide +kernel)); (focus (exact rfl))) | (apply ag_late [0, 1, 2]; (focus (decide +kernel)); (focus (exact rfl))))); (focus (decide)); (focus (first | decide | (simp; done))); (focus (simp only [AS.back, backT, Nat.reduceAdd, Nat.zero_add, Nat.add_zero, List.elem, List.idxOf, List.findIdx, List.findIdx.go, Nat.reduceBEq, beq_self_eq_true, reduceIte, if_true, if_false, Bool.false_eq_true, cond_true, cond_false, AV.bk, AW.bk, AC.bk, List.map_cons, List.map_nil, List.length_cons, List.length_nil, List.append_nil, List.nil_append, List.cons_append, AV.top]; exact rfl))); (repeat' (first | (first | refine awp_seq ?_ | refine awp_region ?_ | refine awp_block ?_ | refine awp_exit ?_ | refine awp_ret ?_ | refine awp_skip ?_ | refine ar_nil ?_ | refine dr_nil ?_ | (first | refine t_norm ?_ | refine t_exit ?_ | refine t_ret ?_ | refine b_norm ?_ | refine b_exit ?_ | refine b_exit_ne rfl ?_ | refine b_ret ?_)) | exact ags_nil | exact als_nil | ((first | apply ags_no | apply als_no); (focus (decide +kernel))) | (apply ags_yes; (focus (exact rfl)); (focus (kernel_rfl))) | (apply als_yes; (focus (exact rfl)); (focus (decide +kernel))) | (apply al_done; (focus (decide +kernel))) | (apply al_all; (focus (simp only [idxs, Nat.reduceAdd]; exact rfl)); (focus (decide +kernel))) | (refine ⟨rfl, ?_⟩; apply al_norm; (focus (simp only [List.set_cons_succ, List.set_cons_zero]; exact rfl))) | (((first | apply ar_q | apply dr_q); exact qOp1); refine ar_nrm (k := ?_)))); refine ⟨.inr rfl, aend_mk [] rfl (by simp) (by first | (simp; done) | (simp; omega)) (ares_tmp2 _ rfl ?_ ares_nil) rfl rfl⟩; exact rfl
  · ((first | apply ar_qt | apply dr_qt); (focus (apply qt_call; kernel_rfl; exact (spec_l1Num x.ln (by omega)); exact rfl))); refine ar_nrm (k := ?_); refine ar_nil ?_; refine ⟨rfl, ?_⟩; apply ag_norm; (focus (simp only [List.set_cons_succ, List.set_cons_zero]; exact rfl))
    (apply ag_ready (rs := [12, 22]); (focus (decide +kernel)); exact rfl); intro i hi; rcases (by simpa using hi : i = 12 ∨ i = 22) with rfl | rfl; all_goals (refine ⟨_, rfl, ?_, fun w1 B1 => ?_⟩; (focus (decide +kernel)))
    · ((first | apply ar_q | apply dr_q); exact qOp1); refine ar_nrm (k := ?_); refine ar_nil ?_; refine ⟨rfl, ?_⟩; apply ag_norm; (focus (simp only [List.set_cons_succ, List.set_cons_zero]; exact rfl))
      (apply agc_startL [13, 14, 18, 19]; (focus (intro c σ h; simp [Exit.thenA, Exit.inBlockA] at h)); (repeat (first | (apply agc_take; exact rfl; rotate_left 3; (focus (decide +kernel)); (focus (decide +kernel)); exact qAll2; rotate_left 1; kernel_rfl; (focus (decide +kernel)); (focus (decide +kernel)); refine agc_nrm (k := ?_)) | apply agc_skip)); apply agc_nil)
      (apply ag_ready (rs := [22]); (focus (decide +kernel)); exact rfl); intro i hi; obtain rfl : i = 22 := (by simpa using hi); refine ⟨_, rfl, ?_, fun w1 B1 => ?_⟩; (focus (decide +kernel)); ((first | apply ar_qt | apply dr_qt); (focus (apply qt_call; kernel_rfl; exact (spec_l1Num x.wd (by omega)); exact rfl))); refine ar_nrm (k := ?_); refine ar_nil ?_; refine ⟨rfl, ?_⟩; apply ag_norm; (focus (simp only [List.set_cons_succ, List.set_cons_zero]; exact rfl))
      (apply agc_startL [23, 24]; (focus (intro c σ h; simp [Exit.thenA, Exit.inBlockA] at h)); (repeat (first | (apply agc_take; exact rfl; rotate_left 3; (focus (decide +kernel)); (focus (decide +kernel)); exact qAll2; rotate_left 1; kernel_rfl; (focus (decide +kernel)); (focus (decide +kernel)); refine agc_nrm (k := ?_)) | apply agc_skip)); apply agc_nil)
      (apply ag_ready (rs := [27]); (focus (decide +kernel)); exact rfl); intro i hi; obtain rfl : i = 27 := (by simpa using hi); refine ⟨_, rfl, ?_, fun w1 B1 => ?_⟩; (focus (decide +kernel)); ((first | apply ar_qt | apply dr_qt); (focus (apply qt_call; kernel_rfl; exact (spec_l1Num x.dr (by omega)); exact rfl))); refine ar_nrm (k := ?_); refine ar_nil ?_; refine ⟨rfl, ?_⟩; apply ag_norm; (focus (simp only [List.set_cons_succ, List.set_cons_zero]; exact rfl))
      (apply agc_startL [28]; (focus (intro c σ h; simp [Exit.thenA, Exit.inBlockA] at h)); (repeat (first | (apply agc_take; exact rfl; rotate_left 3; (focus (decide +kernel)); (focus (decide +kernel)); exact qAll2; rotate_left 1; kernel_rfl; (focus (decide +kernel)); (focus (decide +kernel)); refine agc_nrm (k := ?_)) | apply agc_skip)); apply agc_nil)
      (((first | (apply ag_done []; (focus (exact rfl)); (focus (decide +kernel))) | (apply ag_done [0]; (focus (exact rfl)); (focus (decide +kernel))) | (apply ag_done [0, 1]; (focus (exact rfl)); (focus (decide +kernel))) | (apply ag_done [0, 1, 2]; (focus (exact rfl)); (focus (decide +kernel))) | (apply ag_late []; (focus (decide +kernel)); (focus (exact rfl))) | (apply ag_late [0]; (focus (decide +kernel)); (focus (exact rfl))) | (apply ag_late [0, 1]; (focus (decide +kernel)); (focus (exact rfl))) | (apply ag_late [0, 1, 2]; (focus (decide +kernel)); (focus (exact rfl))))); (focus (decide)); (focus (first | decide | (simp; done))); (focus (simp only [AS.back, backT, Nat.reduceAdd, Nat.zero_add, Nat.add_zero, List.elem, List.idxOf, List.findIdx, List.findIdx.go, Nat.reduceBEq, beq_self_eq_true, reduceIte, if_true, if_false, Bool.false_eq_true, cond_true, cond_false, AV.bk, AW.bk, AC.bk, List.map_cons, List.map_nil, List.length_cons, List.length_nil, List.append_nil, List.nil_append, List.cons_append, AV.top]; exact rfl))); (repeat' (first | (first | refine awp_seq ?_ | refine awp_region ?_ | refine awp_block ?_ | refine awp_exit ?_ | refine awp_ret ?_ | refine awp_skip ?_ | refine ar_nil ?_ | refine dr_nil ?_ | (first | refine t_norm ?_ | refine t_exit ?_ | refine t_ret ?_ | refine b_norm ?_ | refine b_exit ?_ | refine b_exit_ne rfl ?_ | refine b_ret ?_)) | exact ags_nil | exact als_nil | ((first | apply ags_no | apply als_no); (focus (decide +kernel))) | (apply ags_yes; (focus (exact rfl)); (focus (kernel_rfl))) | (apply als_yes; (focus (exact rfl)); (focus (decide +kernel))) | (apply al_done; (focus (decide +kernel))) | (apply al_all; (focus (simp only [idxs, Nat.reduceAdd]; exact rfl)); (focus (decide +kernel))) | (refine ⟨rfl, ?_⟩; apply al_norm; (focus (simp only [List.set_cons_succ, List.set_cons_zero]; exact rfl))) | (((first | apply ar_q | apply dr_q); exact qOp1); refine ar_nrm (k := ?_)))); refine ⟨.inr rfl, aend_mk [] rfl (by simp) (by first | (simp; done) | (simp; omega)) (ares_tmp2 _ rfl ?_ ares_nil) rfl rfl⟩; exact rfl
    · ((first | apply ar_qt | apply dr_qt); (focus (apply qt_call; kernel_rfl; exact (spec_l1Num x.wd (by omega)); exact rfl))); refine ar_nrm (k := ?_); refine ar_nil ?_; refine ⟨rfl, ?_⟩; apply ag_norm; (focus (simp only [List.set_cons_succ, List.set_cons_zero]; exact rfl))
      (apply ag_ready (rs := [12, 27]); (focus (decide +kernel)); exact rfl); intro i hi; rcases (by simpa using hi : i = 12 ∨ i = 27) with rfl | rfl; all_goals (refine ⟨_, rfl, ?_, fun w1 B1 => ?_⟩; (focus (decide +kernel)))
      · ((first | apply ar_q | apply dr_q); exact qOp1); refine ar_nrm (k := ?_); refine ar_nil ?_; refine ⟨rfl, ?_⟩; apply ag_norm; (focus (simp only [List.set_cons_succ, List.set_cons_zero]; exact rfl))
        (apply agc_startL [13, 14, 18, 19, 23, 24]; (focus (intro c σ h; simp [Exit.thenA, Exit.inBlockA] at h)); (repeat (first | (apply agc_take; exact rfl; rotate_left 3; (focus (decide +kernel)); (focus (decide +kernel)); exact qAll2; rotate_left 1; kernel_rfl; (focus (decide +kernel)); (focus (decide +kernel)); refine agc_nrm (k := ?_)) | apply agc_skip)); apply agc_nil)
        (apply ag_ready (rs := [27]); (focus (decide +kernel)); exact rfl); intro i hi; obtain rfl : i = 27 := (by simpa using hi); refine ⟨_, rfl, ?_, fun w1 B1 => ?_⟩; (focus (decide +kernel)); ((first | apply ar_qt | apply dr_qt); (focus (apply qt_call; kernel_rfl; exact (spec_l1Num x.dr (by omega)); exact rfl))); refine ar_nrm (k := ?_); refine ar_nil ?_; refine ⟨rfl, ?_⟩; apply ag_norm; (focus (simp only [List.set_cons_succ, List.set_cons_zero]; exact rfl))
        (apply agc_startL [28]; (focus (intro c σ h; simp [Exit.thenA, Exit.inBlockA] at h)); (repeat (first | (apply agc_take; exact rfl; rotate_left 3; (focus (decide +kernel)); (focus (decide +kernel)); exact qAll2; rotate_left 1; kernel_rfl; (focus (decide +kernel)); (focus (decide +kernel)); refine agc_nrm (k := ?_)) | apply agc_skip)); apply agc_nil)
        (((first | (apply ag_done []; (focus (exact rfl)); (focus (decide +kernel))) | (apply ag_done [0]; (focus (exact rfl)); (focus (decide +kernel))) | (apply ag_done [0, 1]; (focus (exact rfl)); (focus (decide +kernel))) | (apply ag_done [0, 1, 2]; (focus (exact rfl)); (focus (decide +kernel))) | (apply ag_late []; (focus (decide +kernel)); (focus (exact rfl))) | (apply ag_late [0]; (focus (decide +kernel)); (focus (exact rfl))) | (apply ag_late [0, 1]; (focus (decide +kernel)); (focus (exact rfl))) | (apply ag_late [0, 1, 2]; (focus (decide +kernel)); (focus (exact rfl))))); (focus (decide)); (focus (first | decide | (simp; done))); (focus (simp only [AS.back, backT, Nat.reduceAdd, Nat.zero_add, Nat.add_zero, List.elem, List.idxOf, List.findIdx, List.findIdx.go, Nat.reduceBEq, beq_self_eq_true, reduceIte, if_true, if_false, Bool.false_eq_true, cond_true, cond_false, AV.bk, AW.bk, AC.bk, List.map_cons, List.map_nil, List.length_cons, List.length_nil, List.append_nil, List.nil_append, List.cons_append, AV.top]; exact rfl))); (repeat' (first | (first | refine awp_seq ?_ | refine awp_region ?_ | refine awp_block ?_ | refine awp_exit ?_ | refine awp_ret ?_ | refine awp_skip ?_ | refine ar_nil ?_ | refine dr_nil ?_ | (first | refine t_norm ?_ | refine t_exit ?_ | refine t_ret ?_ | refine b_norm ?_ | refine b_exit ?_ | refine b_exit_ne rfl ?_ | refine b_ret ?_)) | exact ags_nil | exact als_nil | ((first | apply ags_no | apply als_no); (focus (decide +kernel))) | (apply ags_yes; (focus (exact rfl)); (focus (kernel_rfl))) | (apply als_yes; (focus (exact rfl)); (focus (decide +kernel))) | (apply al_done; (focus (decide +kernel))) | (apply al_all; (focus (simp only [idxs, Nat.reduceAdd]; exact rfl)); (focus (decide +kernel))) | (refine ⟨rfl, ?_⟩; apply al_norm; (focus (simp only [List.set_cons_succ, List.set_cons_zero]; exact rfl))) | (((first | apply ar_q | apply dr_q); exact qOp1); refine ar_nrm (k := ?_)))); refine ⟨.inr rfl, aend_mk [] rfl (by simp) (by first | (simp; done) | (simp; omega)) (ares_tmp2 _ rfl ?_ ares_nil) rfl rfl⟩; exact rfl
      · ((first | apply ar_qt | apply dr_qt); (focus (apply qt_call; kernel_rfl; exact (spec_l1Num x.dr (by omega)); exact rfl))); refine ar_nrm (k := ?_); refine ar_nil ?_; refine ⟨rfl, ?_⟩; apply ag_norm; (focus (simp only [List.set_cons_succ, List.set_cons_zero]; exact rfl))
        (apply ag_ready (rs := [12]); (focus (decide +kernel)); exact rfl); intro i hi; obtain rfl : i = 12 := (by simpa using hi); refine ⟨_, rfl, ?_, fun w1 B1 => ?_⟩; (focus (decide +kernel)); ((first | apply ar_q | apply dr_q); exact qOp1); refine ar_nrm (k := ?_); refine ar_nil ?_; refine ⟨rfl, ?_⟩; apply ag_norm; (focus (simp only [List.set_cons_succ, List.set_cons_zero]; exact rfl))
        (apply agc_startL [13, 14, 18, 19, 23, 24, 28]; (focus (intro c σ h; simp [Exit.thenA, Exit.inBlockA] at h)); (repeat (first | (apply agc_take; exact rfl; rotate_left 3; (focus (decide +kernel)); (focus (decide +kernel)); exact qAll2; rotate_left 1; kernel_rfl; (focus (decide +kernel)); (focus (decide +kernel)); refine agc_nrm (k := ?_)) | apply agc_skip)); apply agc_nil)
        (((first | (apply ag_done []; (focus (exact rfl)); (focus (decide +kernel))) | (apply ag_done [0]; (focus (exact rfl)); (focus (decide +kernel))) | (apply ag_done [0, 1]; (focus (exact rfl)); (focus (decide +kernel))) | (apply ag_done [0, 1, 2]; (focus (exact rfl)); (focus (decide +kernel))) | (apply ag_late []; (focus (decide +kernel)); (focus (exact rfl))) | (apply ag_late [0]; (focus (decide +kernel)); (focus (exact rfl))) | (apply ag_late [0, 1]; (focus (decide +kernel)); (focus (exact rfl))) | (apply ag_late [0, 1, 2]; (focus (decide +kernel)); (focus (exact rfl))))); (focus (decide)); (focus (first | decide | (simp; done))); (focus (simp only [AS.back, backT, Nat.reduceAdd, Nat.zero_add, Nat.add_zero, List.elem, List.idxOf, List.findIdx, List.findIdx.go, Nat.reduceBEq, beq_self_eq_true, reduceIte, if_true, if_false, Bool.false_eq_true, cond_true, cond_false, AV.bk, AW.bk, AC.bk, List.map_cons, List.map_nil, List.length_cons, List.length_nil, List.append_nil, List.nil_append, List.cons_append, AV.top]; exact rfl))); (repeat' (first | (first | refine awp_seq ?_ | refine awp_region ?_ | refine awp_block ?_ | refine awp_exit ?_ | refine awp_ret ?_ | refine awp_skip ?_ | refine ar_nil ?_ | refine dr_nil ?_ | (first | refine t_norm ?_ | refine t_exit ?_ | refine t_ret ?_ | refine b_norm ?_ | refine b_exit ?_ | refine b_exit_ne rfl ?_ | refine b_ret ?_)) | exact ags_nil | exact als_nil | ((first | apply ags_no | apply als_no); (focus (decide +kernel))) | (apply ags_yes; (focus (exact rfl)); (focus (kernel_rfl))) | (apply als_yes; (focus (exact rfl)); (focus (decide +kernel))) | (apply al_done; (focus (decide +kernel))) | (apply al_all; (focus (simp only [idxs, Nat.reduceAdd]; exact rfl)); (focus (decide +kernel))) | (refine ⟨rfl, ?_⟩; apply al_norm; (focus (simp only [List.set_cons_succ, List.set_cons_zero]; exact rfl))) | (((first | apply ar_q | apply dr_q); exact qOp1); refine ar_nrm (k := ?_)))); refine ⟨.inr rfl, aend_mk [] rfl (by simp) (by first | (simp; done) | (simp; omega)) (ares_tmp2 _ rfl ?_ ares_nil) rfl rfl⟩; exact rfl
def txtR (x : Vessel_) : ByteArray × Bool := if vesF x then (textV x, true) else (⟨#[]⟩, false)
theorem spec_VesselText (x : Vessel_) (hs : x.len) : ACalls Tryz.prog 7 [.agg [.p (.int .i64 x.id), .p (.string x.nm), .p (.int .i64 x.ln), .p (.int .i64 x.wd), .p (.int .i64 x.dr), .p (.int .i64 x.kd)]] [] (.tup [.c (.p (.string ((txtR x).1))), .c (.p (.bool ((txtR x).2)))]) [] 0 := by
  have hg := spec_l3Good x hs
  cases h : vesF x with
  | true =>
    have e : txtR x = (textV x, true) := by simp [txtR, h]
    rw [h] at hg
    have ht := spec_text x h
    rw [e]
    refine acalls_of (ws := [.c (.p (.string (textV x))), .c (.p (.bool (true)))]) Tryz.func7 rfl rfl rfl rfl fun w0 B m hm0 => ?_; (refine awp_norm (τ := ?_) ?_ ?_; rotate_left; (focus (simp only [AV.top, Tryz.ntmps7, List.length_cons, List.length_nil, Nat.reduceAdd, Nat.reduceSub, List.replicate_succ, List.replicate_zero, List.cons_append, List.nil_append]; exact rfl)))
    (repeat' (first | (first | refine awp_seq ?_ | refine awp_region ?_ | refine awp_block ?_ | refine awp_exit ?_ | refine awp_ret ?_ | refine awp_skip ?_ | refine ar_nil ?_ | refine dr_nil ?_ | (first | refine t_norm ?_ | refine t_exit ?_ | refine t_ret ?_ | refine b_norm ?_ | refine b_exit ?_ | refine b_exit_ne rfl ?_ | refine b_ret ?_)) | ((first | ((first | apply ar_q | apply dr_q); exact qOp1) | ((first | apply ar_gu | apply dr_gu); exact rfl) | ((first | apply ar_gn | apply dr_gn); exact rfl; exact bdOk) | (first | (apply ar_box; exact rfl) | (apply ar_store; exact rfl; exact rfl; exact rfl; (focus (first | decide | (simp; done) | exact Nat.le_refl _)); kernel_rfl; exact rfl)) | ((first | apply ar_qt | apply dr_qt); (focus (apply qt_call; kernel_rfl; exact (hg); exact rfl))) | ((first | apply ar_qt | apply dr_qt); (focus (apply qt_call; kernel_rfl; exact (ht); exact rfl)))); (first | refine ar_nrm (k := ?_) | refine dr_nrm (k := ?_))) | ((first | apply ar_gy | apply dr_gy); exact rfl; exact bdOk) | (first | (apply awp_cond_t; exact rfl; exact bdOk) | (apply awp_cond_f; exact rfl; exact bdOk)) | fail))
    refine ⟨.inr rfl, aend_mk [] rfl (by simp) (by first | (simp; done) | (simp; omega)) (ares_tmp2 _ rfl ?_ (ares_tmp2 _ rfl ?_ ares_nil)) rfl rfl⟩ <;> exact rfl
  | false =>
    have e : txtR x = (⟨#[]⟩, false) := by simp [txtR, h]
    rw [h] at hg
    rw [e]
    refine acalls_of (ws := [.c (.p (.string (⟨#[]⟩))), .c (.p (.bool (false)))]) Tryz.func7 rfl rfl rfl rfl fun w0 B m hm0 => ?_; (refine awp_norm (τ := ?_) ?_ ?_; rotate_left; (focus (simp only [AV.top, Tryz.ntmps7, List.length_cons, List.length_nil, Nat.reduceAdd, Nat.reduceSub, List.replicate_succ, List.replicate_zero, List.cons_append, List.nil_append]; exact rfl)))
    (repeat' (first | (first | refine awp_seq ?_ | refine awp_region ?_ | refine awp_block ?_ | refine awp_exit ?_ | refine awp_ret ?_ | refine awp_skip ?_ | refine ar_nil ?_ | refine dr_nil ?_ | (first | refine t_norm ?_ | refine t_exit ?_ | refine t_ret ?_ | refine b_norm ?_ | refine b_exit ?_ | refine b_exit_ne rfl ?_ | refine b_ret ?_)) | ((first | ((first | apply ar_q | apply dr_q); exact qOp1) | ((first | apply ar_gu | apply dr_gu); exact rfl) | ((first | apply ar_gn | apply dr_gn); exact rfl; exact bdOk) | (first | (apply ar_box; exact rfl) | (apply ar_store; exact rfl; exact rfl; exact rfl; (focus (first | decide | (simp; done) | exact Nat.le_refl _)); kernel_rfl; exact rfl)) | ((first | apply ar_qt | apply dr_qt); (focus (apply qt_call; kernel_rfl; exact (hg); exact rfl)))); (first | refine ar_nrm (k := ?_) | refine dr_nrm (k := ?_))) | ((first | apply ar_gy | apply dr_gy); exact rfl; exact bdOk) | (first | (apply awp_cond_t; exact rfl; exact bdOk) | (apply awp_cond_f; exact rfl; exact bdOk)) | fail))
    refine ⟨.inr rfl, aend_mk [] rfl (by simp) (by first | (simp; done) | (simp; omega)) (ares_tmp2 _ rfl ?_ (ares_tmp2 _ rfl ?_ ares_nil)) rfl rfl⟩ <;> exact rfl
theorem impl_VesselText (x : Vessel_) (hs : x.len) : ACallsT Tryz.prog TK 6 [.agg [.p (.int .i64 x.id), .p (.string x.nm), .p (.int .i64 x.ln), .p (.int .i64 x.wd), .p (.int .i64 x.dr), .p (.int .i64 x.kd)]] [] (.tup [.c (.p (.string ((txtR x).1))), .c (.p (.bool ((txtR x).2)))]) [] 0 := by
  have hg := impl_IsValidVessel x hs
  cases h : vesF x with
  | true =>
    have e : txtR x = (textV x, true) := by simp [txtR, h]
    rw [h] at hg
    have ht := impl_text x h
    rw [e]
    refine acallsT_of (ws := [.c (.p (.string (textV x))), .c (.p (.bool (true)))]) Tryz.func6 rfl rfl rfl rfl fun w0 B m hT hm0 => ?_; (obtain rfl : m = [] := List.eq_nil_of_length_eq_zero hm0); (refine awp_norm (τ := ?_) ?_ ?_; rotate_left; (focus (simp only [AV.top, Tryz.ntmps6, List.length_cons, List.length_nil, Nat.reduceAdd, Nat.reduceSub, List.replicate_succ, List.replicate_zero, List.cons_append, List.nil_append]; exact rfl)))
    (repeat' (first | (first | refine awp_seq ?_ | refine awp_region ?_ | refine awp_block ?_ | refine awp_exit ?_ | refine awp_ret ?_ | refine awp_skip ?_ | refine ar_nil ?_ | refine dr_nil ?_ | (first | refine t_norm ?_ | refine t_exit ?_ | refine t_ret ?_ | refine b_norm ?_ | refine b_exit ?_ | refine b_exit_ne rfl ?_ | refine b_ret ?_)) | ((first | ((first | apply ar_q | apply dr_q); exact qOp1) | ((first | apply ar_gu | apply dr_gu); exact rfl) | ((first | apply ar_gn | apply dr_gn); exact rfl; exact bdOk) | (first | (apply ar_box; exact rfl) | (apply ar_store; exact rfl; exact rfl; exact rfl; (focus (first | decide | (simp; done) | exact Nat.le_refl _)); kernel_rfl; exact rfl)) | ((first | apply ar_qt | apply dr_qt); (focus (apply qt_call; kernel_rfl; exact (hg); exact rfl))) | ((first | (apply ar_ct hT keptTK rfl rfl) | (apply dr_ct hT keptTK rfl rfl)); kernel_rfl; exact (ht); exact rfl)); (first | refine ar_nrm (k := ?_) | refine dr_nrm (k := ?_))) | ((first | apply ar_gy | apply dr_gy); exact rfl; exact bdOk) | (first | (apply awp_cond_t; exact rfl; exact bdOk) | (apply awp_cond_f; exact rfl; exact bdOk)) | fail))
    refine ⟨.inr rfl, aend_mk [] rfl (by simp) (by first | (simp; done) | (simp; omega)) (ares_tmp2 _ rfl ?_ (ares_tmp2 _ rfl ?_ ares_nil)) rfl rfl⟩ <;> exact rfl
  | false =>
    have e : txtR x = (⟨#[]⟩, false) := by simp [txtR, h]
    rw [h] at hg
    rw [e]
    refine acallsT_of (ws := [.c (.p (.string (⟨#[]⟩))), .c (.p (.bool (false)))]) Tryz.func6 rfl rfl rfl rfl fun w0 B m hT hm0 => ?_; (obtain rfl : m = [] := List.eq_nil_of_length_eq_zero hm0); (refine awp_norm (τ := ?_) ?_ ?_; rotate_left; (focus (simp only [AV.top, Tryz.ntmps6, List.length_cons, List.length_nil, Nat.reduceAdd, Nat.reduceSub, List.replicate_succ, List.replicate_zero, List.cons_append, List.nil_append]; exact rfl)))
    (repeat' (first | (first | refine awp_seq ?_ | refine awp_region ?_ | refine awp_block ?_ | refine awp_exit ?_ | refine awp_ret ?_ | refine awp_skip ?_ | refine ar_nil ?_ | refine dr_nil ?_ | (first | refine t_norm ?_ | refine t_exit ?_ | refine t_ret ?_ | refine b_norm ?_ | refine b_exit ?_ | refine b_exit_ne rfl ?_ | refine b_ret ?_)) | ((first | ((first | apply ar_q | apply dr_q); exact qOp1) | ((first | apply ar_gu | apply dr_gu); exact rfl) | ((first | apply ar_gn | apply dr_gn); exact rfl; exact bdOk) | (first | (apply ar_box; exact rfl) | (apply ar_store; exact rfl; exact rfl; exact rfl; (focus (first | decide | (simp; done) | exact Nat.le_refl _)); kernel_rfl; exact rfl)) | ((first | apply ar_qt | apply dr_qt); (focus (apply qt_call; kernel_rfl; exact (hg); exact rfl)))); (first | refine ar_nrm (k := ?_) | refine dr_nrm (k := ?_))) | ((first | apply ar_gy | apply dr_gy); exact rfl; exact bdOk) | (first | (apply awp_cond_t; exact rfl; exact bdOk) | (apply awp_cond_f; exact rfl; exact bdOk)) | fail))
    refine ⟨.inr rfl, aend_mk [] rfl (by simp) (by first | (simp; done) | (simp; omega)) (ares_tmp2 _ rfl ?_ (ares_tmp2 _ rfl ?_ ares_nil)) rfl rfl⟩ <;> exact rfl
end Go.Proofs.YtdlebdgdcpemmaaGreatDoor
