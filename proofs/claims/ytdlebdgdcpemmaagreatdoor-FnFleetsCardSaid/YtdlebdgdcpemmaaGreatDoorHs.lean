/- Texts split at a byte: the parts, plain; what both sides' splitting gives. -/
import Derived.Test.YtdlebdgdcpemmaaGreatDoorEA
import Derived.Test.YtdlebdgdcpemmaaGreatDoorEW
import Derived.Test.YtdlebdgdcpemmaaGreatDoorFf
import Derived.Lib.SplitLaws
import Derived.Lib.IndexBytes
namespace Go.Proofs.YtdlebdgdcpemmaaGreatDoor
open Go.RowKit
set_option linter.unusedVariables false
set_option linter.unusedSimpArgs false
/-- The parts of a list between bytes b. -/
def splitL (b : UInt8) : List UInt8 → List (List UInt8)
  | [] => [[]]
  | c :: l => if c = b then [] :: splitL b l else match splitL b l with
    | h :: t => (c :: h) :: t
    | [] => [[c]]
theorem splitL_ne (b : UInt8) (l : List UInt8) : splitL b l ≠ [] := by
  cases l with
  | nil => simp [splitL]
  | cons c l => unfold splitL; split <;> (try split) <;> simp
theorem splitL_none {b : UInt8} {l : List UInt8} (h : b ∉ l) : splitL b l = [l] := by
  induction l with
  | nil => rfl
  | cons c l ih =>
    simp only [List.mem_cons, not_or] at h
    unfold splitL
    rw [if_neg fun e => h.1 e.symm, ih h.2]
theorem splitL_cons {b : UInt8} {x : List UInt8} (h : b ∉ x) (y : List UInt8) : splitL b (x ++ b :: y) = x :: splitL b y := by
  induction x with
  | nil => rw [List.nil_append, splitL, if_pos rfl]
  | cons c x ih =>
    simp only [List.mem_cons, not_or] at h
    rw [List.cons_append, splitL, if_neg fun e => h.1 e.symm, ih h.2]
/-- Lines with a byte b behind each. -/
def linesL (b : UInt8) (ls : List (List UInt8)) : List UInt8 := ls.flatMap fun l => l ++ [b]
def stepL (b : UInt8) (s : List (List UInt8) × List UInt8) (c : UInt8) : List (List UInt8) × List UInt8 := if c = b then (s.1 ++ [s.2], []) else (s.1, s.2 ++ [c])
theorem fold_splitL (b : UInt8) : ∀ (l : List UInt8) (d : List (List UInt8)) (cur : List UInt8), (l.foldl (stepL b) (d, cur)).1 ++ [(l.foldl (stepL b) (d, cur)).2] = d ++ (match splitL b l with
    | h :: t => (cur ++ h) :: t
    | [] => [cur])
  | [], d, cur => by simp [splitL]
  | c :: l, d, cur => by
    rw [List.foldl_cons]
    by_cases h : c = b
    · rw [show stepL b (d, cur) c = (d ++ [cur], []) from if_pos h, fold_splitL b l, splitL, if_pos h]
      cases hs : splitL b l with
      | nil => exact absurd hs (splitL_ne b l)
      | cons x t => simp
    · rw [show stepL b (d, cur) c = (d, cur ++ [c]) from if_neg h, fold_splitL b l, splitL, if_neg h]
      cases hs : splitL b l with
      | nil => exact absurd hs (splitL_ne b l)
      | cons x t => simp
theorem split_fold (b : UInt8) (l : List UInt8) : splitL b l = (l.foldl (stepL b) ([], [])).1 ++ [(l.foldl (stepL b) ([], [])).2] := by
  rw [fold_splitL]
  cases hs : splitL b l with
  | nil => exact absurd hs (splitL_ne b l)
  | cons x t => simp
abbrev strs (l : List ByteArray) : List (List Value) := l.map fun x => [Value.string x]
theorem strs_ok (l : List ByteArray) : okE (strs l) := by
  intro y hy v hv
  obtain ⟨x, _, rfl⟩ := List.mem_map.1 hy
  simp at hv; subst hv; rfl
theorem strs_one (x : ByteArray) : okE [[Value.string x]] := strs_ok [x]
theorem strs_at {l : List ByteArray} {i : Nat} {x : ByteArray} (h : l[i]? = some x) : (strs l)[i]? = some [Value.string x] := by simp [strs, h]
def baL (l : List UInt8) : ByteArray := ⟨l.toArray⟩
theorem baL_data (s : ByteArray) : baL s.data.toList = s := by simp [baL]
theorem data_baL (l : List UInt8) : (baL l).data.toList = l := by simp [baL]
theorem baL_inj {a b : ByteArray} (h : a.data.toList = b.data.toList) : a = b := ByteArray.ext (Array.toList_inj.1 h)
/-- The parts of a text. -/
def parts (s : ByteArray) (b : UInt8) : List ByteArray := (splitL b s.data.toList).map baL
theorem parts_of {ls : List ByteArray} {s : ByteArray} {b : UInt8} (h : ls.map (·.data.toList) = splitL b s.data.toList) : ls = parts s b := by
  unfold parts
  rw [← h, List.map_map]
  conv => lhs; rw [← List.map_id ls]
  exact List.map_congr_left fun x _ => (baL_data x).symm
/-! ### The kit's splitting -/
theorem idx_cons (c b : UInt8) (l : List UInt8) : Lib.index (c :: l) [b] = if c = b then 0 else if Lib.index l [b] = -1 then -1 else Lib.index l [b] + 1 := by
  rw [Lib.index_one, Lib.index_one]
  conv => lhs; unfold Lib.indexByte
  by_cases h : c = b
  · subst h; simp
  · rw [if_neg (by simpa using h), if_neg h]
    by_cases h1 : Lib.indexByte l b = -1
    · simp [h1]
    · rw [if_neg h1]
      split
      · rename_i e; exact absurd (by simpa using e) h1
      · omega
theorem splitK_L (b : UInt8) : ∀ (l : List UInt8) (k : Nat), l.count b = k → Lib.splitK [b] 0 k l = splitL b l
  | [], k, h => by simp at h; subst h; rfl
  | c :: l, k, h => by
    by_cases hc : c = b
    · subst hc
      rw [List.count_cons_self] at h
      subst h
      rw [Lib.splitK, idx_cons, if_pos rfl, splitL, if_pos rfl]
      simp only [show ((0 : Int) == -1) = false from rfl, Bool.false_eq_true, if_false, Int.toNat_zero, Nat.zero_add, List.take_zero, List.length_cons, List.length_nil, List.drop_succ_cons, List.drop_zero]
      rw [splitK_L c l _ rfl]
    · rw [List.count_cons_of_ne (by simpa using hc)] at h
      have ih := splitK_L b l k h
      rw [splitL, if_neg hc, ← ih]
      cases k with
      | zero => rfl
      | succ k =>
        rw [Lib.splitK, Lib.splitK, idx_cons, if_neg hc]
        have hg := Lib.indexByte_ge l b
        rw [← Lib.index_one] at hg
        by_cases h1 : Lib.index l [b] = -1
        · rw [if_pos h1, h1]; rfl
        · have h2 : ¬ ((Lib.index l [b] + 1 == -1) = true) := by rw [beq_iff_eq]; omega
          have h3 : ¬ ((Lib.index l [b] == -1) = true) := by rw [beq_iff_eq]; exact h1
          rw [if_neg h1, if_neg h2, if_neg h3]
          obtain ⟨i, hi⟩ : ∃ i : Nat, Lib.index l [b] = i := ⟨(Lib.index l [b]).toNat, by omega⟩
          rw [hi]
          rw [show ((i : Int) + 1).toNat = i + 1 by omega, show ((i : Int)).toNat = i by omega]
          simp only [Nat.add_zero, List.take_succ_cons, List.length_cons, List.length_nil, Nat.zero_add, List.drop_succ_cons]
theorem countB_one (s : ByteArray) (b : UInt8) : Lib.countB s ⟨#[b]⟩ = s.data.toList.count b := by
  show Lib.count s.data.toList [b] = _
  exact Lib.count_one b _
theorem splitB_parts (s : ByteArray) (b : UInt8) : Lib.splitB ⟨#[b]⟩ 0 (Lib.countB s ⟨#[b]⟩) s = parts s b := by
  refine parts_of ?_
  rw [Lib.splitB_data, countB_one]
  exact splitK_L b _ _ rfl
theorem parts_len (s : ByteArray) (b : UInt8) : (parts s b).length = s.data.toList.count b + 1 := by
  rw [← splitB_parts, Lib.splitB_all ⟨#[b]⟩ (Nat.le_refl 1) 0 _ s rfl, countB_one]
theorem parts_le (s : ByteArray) (b : UInt8) : 1 ≤ (parts s b).length ∧ (parts s b).length ≤ s.size + 1 := by
  rw [parts_len]
  have := List.count_le_length (a := b) (l := s.data.toList)
  rw [Array.length_toList] at this
  have e : s.size = s.data.size := rfl
  omega
/-- The library's variable holds a number. -/
def MX (w : World) : Prop := ∃ m, w.cell? ⟨1, 0, none⟩ = some (.int .i64 m)
theorem keptMX : KeptT MX := fun w w' ⟨m, h⟩ hb => by
  refine ⟨m, ?_⟩
  have hlt := World.block_lt_of_cell? _ _ h
  have e := hb.block _ hlt
  unfold World.cell? at h ⊢
  rw [e]
  exact h
theorem impl_Split (s : ByteArray) (b : UInt8) (hs : s.size ≤ 1048576) : ACallsT Tryz.prog MX 28 [.c (.p (.string (s))), .c (.p (.string (⟨#[b]⟩)))] [] (.c (.sl 9 (.own 0) (strs (parts s b)))) [] 1 := by
  have hle := (parts_le s b).2
  have h := ACallsT.ofRow (P := Tryz.prog) (T := MX) (f := 28) (args := [.c (.p (.string (s))), .c (.p (.string (⟨#[b]⟩)))]) (us := [.string s, .string ⟨#[b]⟩]) (e := 9) (vs := (parts s b).map Value.string) rfl (by kernel_rfl) (by rw [List.length_map]; omega) fun w ⟨m, hm⟩ => ?_
  · rw [List.map_map] at h
    exact h
  · refine (Tryz.strings_Split s ⟨#[b]⟩ m w (by omega) hm (Nat.le_refl 1)).mono fun e w' ⟨h1, h2⟩ => ?_
    have hl := Lib.splitB_all ⟨#[b]⟩ (Nat.le_refl 1) 0 _ s rfl
    rw [splitB_parts] at h2 hl
    rw [← hl] at h1
    exact ⟨by rw [List.length_map]; exact h1, h2⟩
/-! ### The reference's splitting -/
theorem ba_getH (s : ByteArray) {k : Nat} (h : k < s.size) : ∃ c, s[k]? = some c ∧ s.data.toList.take (k + 1) = s.data.toList.take k ++ [c] := by
  refine ⟨s[k], by simp [getElem?_pos, h], ?_⟩
  rw [List.take_succ_eq_append_getElem (by simpa using h)]
  rfl
theorem u8_injH {a b : UInt8} (h : (a.toNat : Int) = b.toNat) : a = b := UInt8.toNat_inj.1 (by omega)
/-- The parts before byte k, and where the part under way begins. -/
def splitTo (s : ByteArray) (b : UInt8) : Nat → List ByteArray × Nat
  | 0 => ([], 0)
  | k + 1 => if s[k]? = some b then ((splitTo s b k).1 ++ [s.extract (splitTo s b k).2 k], k + 1) else splitTo s b k
theorem splitTo_le (s : ByteArray) (b : UInt8) (k : Nat) : (splitTo s b k).2 ≤ k ∧ (splitTo s b k).1.length ≤ k := by
  induction k with
  | zero => simp [splitTo]
  | succ k ih => unfold splitTo; split <;> (try simp) <;> omega
theorem splitTo_yes {s : ByteArray} {b : UInt8} {k : Nat} (h : s[k]? = some b) : splitTo s b (k + 1) = ((splitTo s b k).1 ++ [s.extract (splitTo s b k).2 k], k + 1) := by rw [splitTo, if_pos h]
theorem splitTo_no {s : ByteArray} {b c : UInt8} {k : Nat} (h : s[k]? = some c) (hn : c ≠ b) : splitTo s b (k + 1) = splitTo s b k := by
  rw [splitTo, if_neg (by rw [h]; simpa using hn)]
theorem extract_list (s : ByteArray) (a k : Nat) : (s.extract a k).data.toList = (s.data.toList.take k).drop a := by
  rw [List.drop_take]
  simp
theorem splitTo_fold (s : ByteArray) (b : UInt8) (k : Nat) (hk : k ≤ s.size) : (s.data.toList.take k).foldl (stepL b) ([], []) = ((splitTo s b k).1.map (·.data.toList), (s.data.toList.take k).drop (splitTo s b k).2) := by
  induction k with
  | zero => simp [splitTo]
  | succ k ih =>
    obtain ⟨c, h1, h2⟩ := ba_getH s (k := k) (by omega)
    have hle := (splitTo_le s b k).1
    have hlen : (s.data.toList.take k).length = k := by
      rw [List.length_take, Array.length_toList]
      have e : s.size = s.data.size := rfl
      omega
    rw [h2, List.foldl_append, ih (by omega), List.foldl_cons, List.foldl_nil]
    by_cases hc : c = b
    · subst hc
      rw [splitTo_yes h1]
      show (if c = c then _ else _) = _
      rw [if_pos rfl]
      simp only [List.map_append, List.map_cons, List.map_nil, extract_list, Prod.mk.injEq, true_and]
      rw [List.drop_of_length_le (by rw [List.length_append, hlen]; simp)]
    · rw [splitTo_no h1 hc]
      show (if c = b then _ else _) = _
      rw [if_neg hc, List.drop_append_of_le_length (by omega)]
theorem splitTo_parts (s : ByteArray) (b : UInt8) : (splitTo s b s.size).1 ++ [s.extract (splitTo s b s.size).2 s.size] = parts s b := by
  refine parts_of ?_
  have h := splitTo_fold s b s.size (Nat.le_refl _)
  have e : s.data.toList.take s.size = s.data.toList := List.take_of_length_le (by rw [Array.length_toList]; exact Nat.le_refl _)
  rw [split_fold]
  rw [e] at h
  rw [h, List.map_append, List.map_cons, List.map_nil, extract_list, e]
attribute [local irreducible] AR DR AWp QOp Qt ACalls ARes Exit.thenA Exit.inBlockA
theorem spec_l1Split (s : ByteArray) (b : UInt8) (hs : s.size ≤ 1048576) : ACalls Tryz.prog 35 [.c (.p (.string s)), .c (.p (.int .u8 b.toNat))] [] (.c (.sl 9 (.own 0) (strs (parts s b)))) [] 1 := by
  refine acalls_of (ws := [.c (.sl 9 (.own 0) (strs (parts s b)))]) Tryz.func35 rfl rfl rfl rfl fun w0 B m hm0 => ?_; (refine awp_norm (τ := ?_) ?_ ?_; rotate_left; (focus (simp only [AV.top, Tryz.ntmps35, List.length_cons, List.length_nil, Nat.reduceAdd, Nat.reduceSub, List.replicate_succ, List.replicate_zero, List.cons_append, List.nil_append]; exact rfl)))
  (repeat' (first | (first | refine awp_seq ?_ | refine awp_region ?_ | refine awp_block ?_ | refine awp_exit ?_ | refine awp_ret ?_ | refine awp_skip ?_ | refine ar_nil ?_ | refine dr_nil ?_ | (first | refine t_norm ?_ | refine t_exit ?_ | refine t_ret ?_ | refine b_norm ?_ | refine b_exit ?_ | refine b_exit_ne rfl ?_ | refine b_ret ?_)) | ((first | ((first | apply ar_q | apply dr_q); exact qOp1) | ((first | apply ar_gu | apply dr_gu); exact rfl) | ((first | apply ar_gn | apply dr_gn); exact rfl; exact bdOk) | (apply ar_bslice 1; kernel_rfl; kernel_rfl; kernel_rfl; exact rfl; exact rfl; exact rfl; exact rfl; decide)); (first | refine ar_nrm (k := ?_) | refine dr_nrm (k := ?_))) | ((first | apply ar_gy | apply dr_gy); exact rfl; exact bdOk) | (first | (apply awp_cond_t; exact rfl; exact bdOk) | (apply awp_cond_f; exact rfl; exact bdOk)) | fail))
  refine awp_loopH [0, 1] (fun x : Nat × Nat => [(5, .c (.sl 9 (.own 0) (strs (splitTo s b x.1).1))), (6, .c (.p (.int .i64 ((splitTo s b x.1).2)))), (7, .c (.p (.int .i64 (x.1))))]) (fun _ => []) (fun x => x.2) (fun n x => x.1 ≤ s.size ∧ n = s.size - x.1) _ (0, 1) ⟨Nat.zero_le _, rfl⟩ ?_ ?_
  · refine le_nrm (k := ?_); refine le_mk hsLe ?_; (repeat (first | exact AVs.le.nil | (with_reducible refine AVs.le.top _ ?_) | (with_reducible refine AVs.le.eq _ ?_) | refine AVs.le.eqv ?_ ?_)) <;> exact rfl
  rintro n ⟨i, nx⟩ ⟨h1, rfl⟩
  dsimp only at h1 ⊢
  refine nh_nrm (k := ?_)
  have hle := splitTo_le s b i
  by_cases hi : i < s.size
  · obtain ⟨c, e1, e2⟩ := ba_getH s (k := i) (by omega)
    have e1' : s[(i : Int).toNat]? = some c := e1
    by_cases hcb : c = b
    · subst hcb
      (repeat' (first | (first | refine awp_seq ?_ | refine awp_region ?_ | refine awp_block ?_ | refine awp_exit ?_ | refine awp_ret ?_ | refine awp_skip ?_ | refine ar_nil ?_ | refine dr_nil ?_ | (first | refine t_norm ?_ | refine t_exit ?_ | refine t_ret ?_ | refine b_norm ?_ | refine b_exit ?_ | refine b_exit_ne rfl ?_ | refine b_ret ?_)) | ((first | ((first | apply ar_q | apply dr_q); exact qOp1) | ((first | apply ar_gu | apply dr_gu); exact rfl) | ((first | apply ar_gn | apply dr_gn); exact rfl; exact bdOk) | (apply ar_bslice 1; kernel_rfl; kernel_rfl; kernel_rfl; exact rfl; exact rfl; exact rfl; exact rfl; decide) | (apply ar_append; kernel_rfl; kernel_rfl; exact rfl; exact rfl; exact (strs_one _); (focus (simp; omega)); exact rfl)); (first | refine ar_nrm (k := ?_) | refine dr_nrm (k := ?_))) | ((first | apply ar_gy | apply dr_gy); exact rfl; exact bdOk) | (first | (apply awp_cond_t; exact rfl; exact bdOk) | (apply awp_cond_f; exact rfl; exact bdOk)) | fail))
      refine ⟨_, (i + 1, nx + 1), ?_, ⟨by dsimp only; omega, rfl⟩, ?_⟩
      · dsimp only; omega
      · simp only [splitTo_yes e1]
        refine le_nrm (k := ?_); refine le_mk hsLe ?_; (repeat (first | exact AVs.le.nil | (with_reducible refine AVs.le.top _ ?_) | (with_reducible refine AVs.le.eq _ ?_) | refine AVs.le.eqv ?_ ?_))
        all_goals first | exact rfl | exact pi (by omega) | exact pl (by simp [strs])
    · have hne : ¬ ((c.toNat : Int) = b.toNat) := fun e => hcb (u8_injH e)
      (repeat' (first | (first | refine awp_seq ?_ | refine awp_region ?_ | refine awp_block ?_ | refine awp_exit ?_ | refine awp_ret ?_ | refine awp_skip ?_ | refine ar_nil ?_ | refine dr_nil ?_ | (first | refine t_norm ?_ | refine t_exit ?_ | refine t_ret ?_ | refine b_norm ?_ | refine b_exit ?_ | refine b_exit_ne rfl ?_ | refine b_ret ?_)) | ((first | ((first | apply ar_q | apply dr_q); exact qOp1) | ((first | apply ar_gu | apply dr_gu); exact rfl) | ((first | apply ar_gn | apply dr_gn); exact rfl; exact bdOk) | fail); (first | refine ar_nrm (k := ?_) | refine dr_nrm (k := ?_))) | ((first | apply ar_gy | apply dr_gy); exact rfl; exact bdOk) | (first | (apply awp_cond_t; exact rfl; exact bdOk) | (apply awp_cond_f; exact rfl; exact bdOk)) | fail))
      refine ⟨_, (i + 1, nx), ?_, ⟨by dsimp only; omega, rfl⟩, ?_⟩
      · dsimp only; omega
      · simp only [splitTo_no e1 hcb]
        refine le_nrm (k := ?_); refine le_mk hsLe ?_; (repeat (first | exact AVs.le.nil | (with_reducible refine AVs.le.top _ ?_) | (with_reducible refine AVs.le.eq _ ?_) | refine AVs.le.eqv ?_ ?_)) <;> first | exact rfl | exact pi (by omega)
  · obtain rfl : i = s.size := by omega
    (repeat' (first | (first | refine awp_seq ?_ | refine awp_region ?_ | refine awp_block ?_ | refine awp_exit ?_ | refine awp_ret ?_ | refine awp_skip ?_ | refine ar_nil ?_ | refine dr_nil ?_ | (first | refine t_norm ?_ | refine t_exit ?_ | refine t_ret ?_ | refine b_norm ?_ | refine b_exit ?_ | refine b_exit_ne rfl ?_ | refine b_ret ?_)) | ((first | ((first | apply ar_q | apply dr_q); exact qOp1) | ((first | apply ar_gu | apply dr_gu); exact rfl) | ((first | apply ar_gn | apply dr_gn); exact rfl; exact bdOk) | (apply ar_bslice 1; kernel_rfl; kernel_rfl; kernel_rfl; exact rfl; exact rfl; exact rfl; exact rfl; decide) | (apply ar_append; kernel_rfl; kernel_rfl; exact rfl; exact rfl; exact (strs_one _); (focus (simp; omega)); exact rfl)); (first | refine ar_nrm (k := ?_) | refine dr_nrm (k := ?_))) | ((first | apply ar_gy | apply dr_gy); exact rfl; exact bdOk) | (first | (apply awp_cond_t; exact rfl; exact bdOk) | (apply awp_cond_f; exact rfl; exact bdOk)) | fail))
    refine ⟨.inr rfl, aend_mk [0] rfl (by simp) (by first | (simp; done) | (simp; omega)) (ares_tmp2 _ rfl ?_ ares_nil) rfl rfl⟩
    exact pl (by rw [← splitTo_parts]; simp [strs])
end Go.Proofs.YtdlebdgdcpemmaaGreatDoor
