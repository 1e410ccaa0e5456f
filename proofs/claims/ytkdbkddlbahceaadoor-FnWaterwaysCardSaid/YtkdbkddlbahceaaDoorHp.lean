/- The text of a waterway: plain, and what both sides give. -/
import Derived.Test.YtkdbkddlbahceaaDoorEE
import Derived.Test.YtkdbkddlbahceaaDoorFf
import Derived.Test.YtkdbkddlbahceaaDoorWb
namespace Go.Proofs.YtkdbkddlbahceaaDoor
open Go.RowKit
set_option linter.unusedVariables false
set_option linter.unusedSimpArgs false
theorem num_dig (n : Int) : ∀ c ∈ (numS n).data.toList, isD c ∨ c = 45 := by
  by_cases hn : n < 0
  · obtain ⟨u, rfl⟩ : ∃ u : Nat, n = -(u : Int) := ⟨n.natAbs, by omega⟩
    have e : (numS (-(u : Int))).data.toList = 45 :: Lib.decDigits u := by rw [numS_neg (by omega)]; simp [dN]
    rw [e]
    intro c hc
    rcases List.mem_cons.1 hc with rfl | hc
    · exact .inr rfl
    · exact .inl (isD_dec u c hc)
  · obtain ⟨u, rfl⟩ : ∃ u : Nat, n = (u : Int) := ⟨n.toNat, by omega⟩
    have e : (numS (u : Int)).data.toList = Lib.decDigits u := by rw [numS_nat]; simp [dN]
    rw [e]
    exact fun c hc => .inl (isD_dec u c hc)
theorem num_no {n : Int} {b : UInt8} (h1 : ¬ isD b) (h2 : b ≠ 45) : b ∉ (numS n).data.toList := fun h => by
  rcases num_dig n b h with h | h
  · exact h1 h
  · exact h2 h
theorem num_sz {n : Int} (h : -9999 ≤ n ∧ n ≤ 9999) : (numS n).size ≤ 5 := by
  by_cases hn : n < 0
  · obtain ⟨u, rfl⟩ : ∃ u : Nat, n = -(u : Int) := ⟨n.natAbs, by omega⟩
    have e : (numS (-(u : Int))).data.toList = 45 :: Lib.decDigits u := by rw [numS_neg (by omega)]; simp [dN]
    have h1 := congrArg List.length e
    have h2 := (len_dec 3 u (by omega)).2
    rw [Array.length_toList, List.length_cons] at h1
    show (numS (-(u : Int))).data.size ≤ 5
    omega
  · obtain ⟨u, rfl⟩ : ∃ u : Nat, n = (u : Int) := ⟨n.toNat, by omega⟩
    have e : (numS (u : Int)).data.toList = Lib.decDigits u := by rw [numS_nat]; simp [dN]
    have h1 := congrArg List.length e
    have h2 := (len_dec 3 u (by omega)).2
    rw [Array.length_toList] at h1
    show (numS (u : Int)).data.size ≤ 5
    omega
def bR : ByteArray := ⟨#[114, 101, 97, 99, 104, 32]⟩
def bK : ByteArray := ⟨#[32, 107, 109, 32]⟩
def bC : ByteArray := ⟨#[32, 99, 109, 32]⟩
def bH : ByteArray := ⟨#[32, 107, 109, 47, 104, 10]⟩
def bL : ByteArray := ⟨#[108, 111, 99, 107, 32]⟩
def bN : ByteArray := ⟨#[10]⟩
def lockT (k : Int) : ByteArray := bL ++ numS k ++ bN
def reachT (r : Reach_) : ByteArray := bR ++ numS r.ln ++ bK ++ numS r.dp ++ bC ++ numS r.sp ++ bH
/-- The text of the first i reaches and of the locks between them. -/
def textTo (x : Way_) : Nat → ByteArray
  | 0 => ⟨#[]⟩
  | i + 1 => (if i = 0 then textTo x i else textTo x i ++ lockT (x.is.getD (i - 1) 0)) ++ reachT (x.rs.getD i ⟨0, 0, 0⟩)
def textW (x : Way_) : ByteArray := textTo x x.rs.length
theorem lockT_sz {k : Int} (h : -1000 ≤ k ∧ k ≤ 1000) : (bL ++ numS k).size = 5 + (numS k).size ∧ (lockT k).size = 6 + (numS k).size ∧ (numS k).size ≤ 5 := by
  have h1 := num_sz (n := k) (by omega)
  have e1 : (bL ++ numS k).size = bL.size + (numS k).size := ByteArray.size_append
  have e2 : (lockT k).size = (bL ++ numS k).size + bN.size := ByteArray.size_append
  have c1 : bL.size = 5 := rfl
  have c2 : bN.size = 1 := rfl
  omega
theorem reachT_sz {r : Reach_} (h : reachF r = true) : (reachT r).size ≤ 35 := by
  obtain ⟨h1, h2, h3⟩ := reachF_iff.1 h
  have n1 := num_sz (n := r.ln) (by omega)
  have n2 := num_sz (n := r.dp) (by omega)
  have n3 := num_sz (n := r.sp) (by omega)
  have c1 : bR.size = 6 := rfl
  have c2 : bK.size = 4 := rfl
  have c3 : bC.size = 4 := rfl
  have c4 : bH.size = 6 := rfl
  unfold reachT
  simp only [ByteArray.size_append]
  omega
theorem is_at {x : Way_} {i : Nat} (h : i < x.is.length) : x.is.getD i 0 = x.is[i] := by simp [h]
theorem rs_at {x : Way_} {i : Nat} (h : i < x.rs.length) : x.rs.getD i ⟨0, 0, 0⟩ = x.rs[i] := by simp [h]
theorem way_b {x : Way_} (h : wayF x = true) : (∀ i, i < x.rs.length → reachF (x.rs.getD i ⟨0, 0, 0⟩) = true) ∧ ∀ i, i < x.is.length → -1000 ≤ x.is.getD i 0 ∧ x.is.getD i 0 ≤ 1000 := by
  obtain ⟨_, _, h1, h2⟩ := wayF_iff.1 h
  refine ⟨fun i hi => ?_, fun i hi => ?_⟩
  · rw [rs_at hi]; exact h1 i hi
  · rw [is_at hi]; exact inB_iff.1 (h2 i hi)
theorem textTo_sz {x : Way_} (h : wayF x = true) : ∀ i, i ≤ x.rs.length → (textTo x i).size ≤ 46 * i
  | 0, _ => Nat.le_refl 0
  | i + 1, hi => by
    have ih := textTo_sz h i (by omega)
    have hr := reachT_sz ((way_b h).1 i (by omega))
    have hw := (wayF_iff.1 h).2.1
    unfold textTo
    rw [ByteArray.size_append]
    split
    · omega
    · have hl := lockT_sz ((way_b h).2 (i - 1) (by omega))
      rw [ByteArray.size_append]
      omega
theorem textW_sz {x : Way_} (h : wayF x = true) : (textW x).size ≤ 276 := by
  have := textTo_sz h x.rs.length (Nat.le_refl _)
  have := (wayF_iff.1 h).1
  unfold textW; omega
attribute [local irreducible] AR DR AWp QOp Qt ACalls ARes Exit.thenA Exit.inBlockA
attribute [local irreducible] AG0 AG AGs
theorem impl_waterwayText (x : Way_) (hw : wayF x = true) : ACallsT Tryd.prog TT 33 [.agg [.sl 65 .ro (reachs (x).rs), .sl 3 .ro (its (x).is)]] [] (.c (.p (.string (textW x)))) [] 0 := by
  obtain ⟨hl6, hli, _, _⟩ := wayF_iff.1 hw
  have hl1 : (reachs x.rs).length = x.rs.length := by simp [reachs]
  have hl2 : (its x.is).length = x.is.length := by simp [its]
  refine acallsT_of (ws := [.c (.p (.string (textW x)))]) Tryd.func33 rfl rfl rfl rfl fun w0 B m hT hm0 => ?_; (obtain rfl : m = [] := List.eq_nil_of_length_eq_zero hm0); (refine awp_norm (τ := ?_) ?_ ?_; rotate_left; (focus (simp only [AV.top, Tryd.ntmps33, List.length_cons, List.length_nil, Nat.reduceAdd, Nat.reduceSub, List.replicate_succ, List.replicate_zero, List.cons_append, List.nil_append]; exact rfl)))
  (repeat' (first | (first | refine awp_seq ?_ | refine awp_region ?_ | refine awp_block ?_ | refine awp_exit ?_ | refine awp_ret ?_ | refine awp_skip ?_ | refine ar_nil ?_ | refine dr_nil ?_ | (first | refine t_norm ?_ | refine t_exit ?_ | refine t_ret ?_ | refine b_norm ?_ | refine b_exit ?_ | refine b_exit_ne rfl ?_ | refine b_ret ?_)) | ((first | ((first | apply ar_q | apply dr_q); exact qOp1) | ((first | apply ar_gu | apply dr_gu); exact rfl) | ((first | apply ar_gn | apply dr_gn); exact rfl; exact bdOk) | (first | (apply ar_box; exact rfl) | (apply ar_store; exact rfl; exact rfl; exact rfl; (focus (first | decide | (simp; done) | exact Nat.le_refl _)); kernel_rfl; exact rfl))); (first | refine ar_nrm (k := ?_) | refine dr_nrm (k := ?_))) | ((first | apply ar_gy | apply dr_gy); exact rfl; exact bdOk) | (first | (apply awp_cond_t; exact rfl; exact bdOk) | (apply awp_cond_f; exact rfl; exact bdOk)) | fail))
  refine awp_loopK 1 (Nat.zero_le _) [1, 7, 8] (fun i : Nat => [(3, .c (.p (.string (textTo x i)))), (9, .c (.p (.int .i64 (i))))]) (fun _ => [[.sl 65 .ro (reachs (x).rs), .sl 3 .ro (its (x).is)]]) (fun _ => 0) (fun q i => i ≤ x.rs.length ∧ q = x.rs.length - i) _ 0 ⟨by omega, rfl⟩ ?_ ?_
  · refine le_nrm (k := ?_); refine le_mk hsLe ?_; (repeat (first | exact AVs.le.nil | (with_reducible refine AVs.le.top _ ?_) | (with_reducible refine AVs.le.eq _ ?_) | refine AVs.le.eqv ?_ ?_)) <;> first | exact rfl | exact pi (by omega)
  rintro q i ⟨h1, rfl⟩
  refine nh_nrm (k := ?_)
  by_cases hi : i < x.rs.length
  · have e1 : (reachs x.rs)[(i : Int).toNat]? = some ([.int .i64 (x.rs[i]).ln, .int .i64 (x.rs[i]).dp, .int .i64 (x.rs[i]).sp] : List Value) := reachs_at hi
    have hts := textTo_sz hw i (by omega)
    have hbr := (way_b hw).1 i hi
    have hun : textTo x (i + 1) = (if i = 0 then textTo x i else textTo x i ++ lockT (x.is.getD (i - 1) 0)) ++ reachT (x.rs.getD i ⟨0, 0, 0⟩) := rfl
    rw [rs_at hi] at hbr hun
    generalize x.rs[i] = r at *
    obtain ⟨b1, b2, b3⟩ := reachF_iff.1 hbr
    have n1 := num_sz (n := r.ln) (by omega)
    have n2 := num_sz (n := r.dp) (by omega)
    have n3 := num_sz (n := r.sp) (by omega)
    (have c0 : bN.size = 1 := rfl); (have c1 : bR.size = 6 := rfl); (have c2 : bK.size = 4 := rfl); (have c3 : bC.size = 4 := rfl); (have c4 : bH.size = 6 := rfl); (have c5 : bL.size = 5 := rfl)
    have z1 : (bR ++ numS r.ln).size = bR.size + (numS r.ln).size := ByteArray.size_append
    have z2 : (bR ++ numS r.ln ++ bK).size = (bR ++ numS r.ln).size + bK.size := ByteArray.size_append
    have z3 : (bR ++ numS r.ln ++ bK ++ numS r.dp).size = (bR ++ numS r.ln ++ bK).size + (numS r.dp).size := ByteArray.size_append
    have z4 : (bR ++ numS r.ln ++ bK ++ numS r.dp ++ bC).size = (bR ++ numS r.ln ++ bK ++ numS r.dp).size + bC.size := ByteArray.size_append
    have z5 : (bR ++ numS r.ln ++ bK ++ numS r.dp ++ bC ++ numS r.sp).size = (bR ++ numS r.ln ++ bK ++ numS r.dp ++ bC).size + (numS r.sp).size := ByteArray.size_append
    have z6 : (bR ++ numS r.ln ++ bK ++ numS r.dp ++ bC ++ numS r.sp ++ bH).size = (bR ++ numS r.ln ++ bK ++ numS r.dp ++ bC ++ numS r.sp).size + bH.size := ByteArray.size_append
    unfold bR bK bC bH bN bL at *
    have t1 := impl_Itoa r.ln (by omega)
    have t2 := impl_Itoa r.dp (by omega)
    have t3 := impl_Itoa r.sp (by omega)
    rcases Nat.eq_zero_or_pos i with h0 | h0
    · subst h0
      (repeat' (first | (first | refine awp_seq ?_ | refine awp_region ?_ | refine awp_block ?_ | refine awp_exit ?_ | refine awp_ret ?_ | refine awp_skip ?_ | refine ar_nil ?_ | refine dr_nil ?_ | (first | refine t_norm ?_ | refine t_exit ?_ | refine t_ret ?_ | refine b_norm ?_ | refine b_exit ?_ | refine b_exit_ne rfl ?_ | refine b_ret ?_)) | ((first | ((first | apply ar_q | apply dr_q); exact qOp1) | ((first | apply ar_gu | apply dr_gu); exact rfl) | ((first | apply ar_gn | apply dr_gn); exact rfl; exact bdOk) | (first | (apply ar_box; exact rfl) | (apply ar_store; exact rfl; exact rfl; exact rfl; (focus (first | decide | (simp; done) | exact Nat.le_refl _)); kernel_rfl; exact rfl)) | (apply ar_alloc (ys := ([.int .i64 0, .int .i64 0, .int .i64 0] : List Value)); kernel_rfl)); (first | refine ar_nrm (k := ?_) | refine dr_nrm (k := ?_))) | ((first | apply ar_gy | apply dr_gy); exact rfl; exact bdOk) | (first | (apply awp_cond_t; exact rfl; exact bdOk) | (apply awp_cond_f; exact rfl; exact bdOk)) | fail))
      (refine awp_region_draw ?_ ?_ ?_; kernel_rfl; kernel_rfl)
      (repeat' (first | (first | refine awp_seq ?_ | refine awp_region ?_ | refine awp_block ?_ | refine awp_exit ?_ | refine awp_ret ?_ | refine awp_skip ?_ | refine ar_nil ?_ | refine dr_nil ?_ | (first | refine t_norm ?_ | refine t_exit ?_ | refine t_ret ?_ | refine b_norm ?_ | refine b_exit ?_ | refine b_exit_ne rfl ?_ | refine b_ret ?_)) | ((first | ((first | apply ar_q | apply dr_q); exact qOp1) | ((first | apply ar_gu | apply dr_gu); exact rfl) | ((first | apply ar_gn | apply dr_gn); exact rfl; exact bdOk) | (first | (apply ar_box; exact rfl) | (apply ar_store; exact rfl; exact rfl; exact rfl; (focus (first | decide | (simp; done) | exact Nat.le_refl _)); kernel_rfl; exact rfl)) | ((first | (apply ar_ct hT keptTT rfl rfl) | (apply dr_ct hT keptTT rfl rfl)); kernel_rfl; exact (t1); exact rfl) | ((first | (apply ar_ct hT keptTT rfl rfl) | (apply dr_ct hT keptTT rfl rfl)); kernel_rfl; exact (t2); exact rfl) | ((first | (apply ar_ct hT keptTT rfl rfl) | (apply dr_ct hT keptTT rfl rfl)); kernel_rfl; exact (t3); exact rfl)); (first | refine ar_nrm (k := ?_) | refine dr_nrm (k := ?_))) | ((first | apply ar_gy | apply dr_gy); exact rfl; exact bdOk) | (first | (apply awp_cond_t; exact rfl; exact bdOk) | (apply awp_cond_f; exact rfl; exact bdOk)) | fail))
      refine ⟨_, 1, ?_, ⟨by omega, rfl⟩, ?_⟩
      · omega
      · refine lk_nrm (k := ?_); refine le_mk hsLe ?_; (repeat (first | exact AVs.le.nil | (with_reducible refine AVs.le.top _ ?_) | (with_reducible refine AVs.le.eq _ ?_) | refine AVs.le.eqv ?_ ?_)) <;> first | exact rfl | exact pi (by omega) | exact ps (by rw [hun, if_pos rfl]; rfl)
    · have hb := (way_b hw).2 (i - 1) (by omega)
      have hlk := lockT_sz hb
      rw [if_neg (by omega)] at hun
      have e2 : (its x.is)[((i : Int) - 1).toNat]? = some [Value.int .i64 (x.is.getD (i - 1) 0)] := by
        rw [is_at (by omega)]
        exact its_at' (by rw [show ((i : Int) - 1).toNat = i - 1 by omega]; exact List.getElem?_eq_getElem (by omega))
      generalize x.is.getD (i - 1) 0 = y at *
      unfold lockT bL bN at hlk
      have z7 : (textTo x i ++ lockT y).size = (textTo x i).size + (lockT y).size := ByteArray.size_append
      unfold lockT bL bN at z7
      have t4 := impl_Itoa y (by omega)
      (repeat' (first | (first | refine awp_seq ?_ | refine awp_region ?_ | refine awp_block ?_ | refine awp_exit ?_ | refine awp_ret ?_ | refine awp_skip ?_ | refine ar_nil ?_ | refine dr_nil ?_ | (first | refine t_norm ?_ | refine t_exit ?_ | refine t_ret ?_ | refine b_norm ?_ | refine b_exit ?_ | refine b_exit_ne rfl ?_ | refine b_ret ?_)) | ((first | ((first | apply ar_q | apply dr_q); exact qOp1) | ((first | apply ar_gu | apply dr_gu); exact rfl) | ((first | apply ar_gn | apply dr_gn); exact rfl; exact bdOk) | (first | (apply ar_box; exact rfl) | (apply ar_store; exact rfl; exact rfl; exact rfl; (focus (first | decide | (simp; done) | exact Nat.le_refl _)); kernel_rfl; exact rfl)) | (apply ar_alloc (ys := ([.int .i64 0, .int .i64 0, .int .i64 0] : List Value)); kernel_rfl) | ((first | (apply ar_ct hT keptTT rfl rfl) | (apply dr_ct hT keptTT rfl rfl)); kernel_rfl; exact (t4); exact rfl)); (first | refine ar_nrm (k := ?_) | refine dr_nrm (k := ?_))) | ((first | apply ar_gy | apply dr_gy); exact rfl; exact bdOk) | (first | (apply awp_cond_t; exact rfl; exact bdOk) | (apply awp_cond_f; exact rfl; exact bdOk)) | fail))
      (refine awp_region_draw ?_ ?_ ?_; kernel_rfl; kernel_rfl)
      (repeat' (first | (first | refine awp_seq ?_ | refine awp_region ?_ | refine awp_block ?_ | refine awp_exit ?_ | refine awp_ret ?_ | refine awp_skip ?_ | refine ar_nil ?_ | refine dr_nil ?_ | (first | refine t_norm ?_ | refine t_exit ?_ | refine t_ret ?_ | refine b_norm ?_ | refine b_exit ?_ | refine b_exit_ne rfl ?_ | refine b_ret ?_)) | ((first | ((first | apply ar_q | apply dr_q); exact qOp1) | ((first | apply ar_gu | apply dr_gu); exact rfl) | ((first | apply ar_gn | apply dr_gn); exact rfl; exact bdOk) | (first | (apply ar_box; exact rfl) | (apply ar_store; exact rfl; exact rfl; exact rfl; (focus (first | decide | (simp; done) | exact Nat.le_refl _)); kernel_rfl; exact rfl)) | ((first | (apply ar_ct hT keptTT rfl rfl) | (apply dr_ct hT keptTT rfl rfl)); kernel_rfl; exact (t1); exact rfl) | ((first | (apply ar_ct hT keptTT rfl rfl) | (apply dr_ct hT keptTT rfl rfl)); kernel_rfl; exact (t2); exact rfl) | ((first | (apply ar_ct hT keptTT rfl rfl) | (apply dr_ct hT keptTT rfl rfl)); kernel_rfl; exact (t3); exact rfl)); (first | refine ar_nrm (k := ?_) | refine dr_nrm (k := ?_))) | ((first | apply ar_gy | apply dr_gy); exact rfl; exact bdOk) | (first | (apply awp_cond_t; exact rfl; exact bdOk) | (apply awp_cond_f; exact rfl; exact bdOk)) | fail))
      refine ⟨_, i + 1, ?_, ⟨by omega, rfl⟩, ?_⟩
      · omega
      · refine lk_nrm (k := ?_); refine le_mk hsLe ?_; (repeat (first | exact AVs.le.nil | (with_reducible refine AVs.le.top _ ?_) | (with_reducible refine AVs.le.eq _ ?_) | refine AVs.le.eqv ?_ ?_)) <;> first | exact rfl | exact pi (by omega) | exact ps (by rw [hun]; rfl)
  · obtain rfl : i = x.rs.length := by omega
    (repeat' (first | (first | refine awp_seq ?_ | refine awp_region ?_ | refine awp_block ?_ | refine awp_exit ?_ | refine awp_ret ?_ | refine awp_skip ?_ | refine ar_nil ?_ | refine dr_nil ?_ | (first | refine t_norm ?_ | refine t_exit ?_ | refine t_ret ?_ | refine b_norm ?_ | refine b_exit ?_ | refine b_exit_ne rfl ?_ | refine b_ret ?_)) | ((first | ((first | apply ar_q | apply dr_q); exact qOp1) | ((first | apply ar_gu | apply dr_gu); exact rfl) | ((first | apply ar_gn | apply dr_gn); exact rfl; exact bdOk) | (first | (apply ar_box; exact rfl) | (apply ar_store; exact rfl; exact rfl; exact rfl; (focus (first | decide | (simp; done) | exact Nat.le_refl _)); kernel_rfl; exact rfl))); (first | refine ar_nrm (k := ?_) | refine dr_nrm (k := ?_))) | ((first | apply ar_gy | apply dr_gy); exact rfl; exact bdOk) | (first | (apply awp_cond_t; exact rfl; exact bdOk) | (apply awp_cond_f; exact rfl; exact bdOk)) | fail))
    refine ⟨.inr rfl, aend_mk [] rfl (by simp) (by first | (simp; done) | (simp; omega)) (ares_tmp2 _ rfl ?_ ares_nil) rfl rfl⟩
    exact rfl
theorem chain_sz (u a b c : ByteArray) : (u ++ bR).size = u.size + 6 ∧ (u ++ bR ++ a).size = u.size + 6 + a.size ∧ (u ++ bR ++ a ++ bK).size = u.size + 10 + a.size ∧ (u ++ bR ++ a ++ bK ++ b).size = u.size + 10 + a.size + b.size ∧ (u ++ bR ++ a ++ bK ++ b ++ bC).size = u.size + 14 + a.size + b.size ∧ (u ++ bR ++ a ++ bK ++ b ++ bC ++ c).size = u.size + 14 + a.size + b.size + c.size := by
  have c1 : bR.size = 6 := rfl
  have c2 : bK.size = 4 := rfl
  have c3 : bC.size = 4 := rfl
  refine ⟨?_, ?_, ?_, ?_, ?_, ?_⟩ <;> simp only [ByteArray.size_append, c1, c2, c3] <;> omega
theorem lock_sz (u a : ByteArray) : (u ++ bL).size = u.size + 5 ∧ (u ++ bL ++ a).size = u.size + 5 + a.size ∧ (u ++ bL ++ a ++ bN).size = u.size + 6 + a.size := by
  have c1 : bL.size = 5 := rfl
  have c2 : bN.size = 1 := rfl
  refine ⟨?_, ?_, ?_⟩ <;> simp only [ByteArray.size_append, c1, c2] <;> omega
theorem lit_sz : (⟨#[114, 101, 97, 99, 104, 32]⟩ : ByteArray).size = 6 ∧ (⟨#[32, 107, 109, 32]⟩ : ByteArray).size = 4 ∧ (⟨#[32, 99, 109, 32]⟩ : ByteArray).size = 4 ∧ (⟨#[32, 107, 109, 47, 104, 10]⟩ : ByteArray).size = 6 ∧ (⟨#[108, 111, 99, 107, 32]⟩ : ByteArray).size = 5 ∧ (⟨#[10]⟩ : ByteArray).size = 1 := ⟨rfl, rfl, rfl, rfl, rfl, rfl⟩
set_option maxHeartbeats 4000000 in
theorem spec_l2Text (x : Way_) (hw : wayF x = true) : ACalls Tryd.prog 30 [.agg [.sl 65 .ro (reachs (x).rs), .sl 3 .ro (its (x).is)]] [] (.c (.p (.string (textW x)))) [] 0 := by
  obtain ⟨hl6, hli, _, _⟩ := wayF_iff.1 hw
  have hl1 : (reachs x.rs).length = x.rs.length := by simp [reachs]
  have hl2 : (its x.is).length = x.is.length := by simp [its]
  refine acalls_of (ws := [.c (.p (.string (textW x)))]) Tryd.func30 rfl rfl rfl rfl fun w0 B m hm0 => ?_; (refine awp_norm (τ := ?_) ?_ ?_; rotate_left; (focus (simp only [AV.top, Tryd.ntmps30, List.length_cons, List.length_nil, Nat.reduceAdd, Nat.reduceSub, List.replicate_succ, List.replicate_zero, List.cons_append, List.nil_append]; exact rfl)))
  (repeat' (first | (first | refine awp_seq ?_ | refine awp_region ?_ | refine awp_block ?_ | refine awp_exit ?_ | refine awp_ret ?_ | refine awp_skip ?_ | refine ar_nil ?_ | refine dr_nil ?_ | (first | refine t_norm ?_ | refine t_exit ?_ | refine t_ret ?_ | refine b_norm ?_ | refine b_exit ?_ | refine b_exit_ne rfl ?_ | refine b_ret ?_)) | ((first | ((first | apply ar_q | apply dr_q); exact qOp1) | ((first | apply ar_gu | apply dr_gu); exact rfl) | ((first | apply ar_gn | apply dr_gn); exact rfl; exact bdOk) | (first | (apply ar_box; exact rfl) | (apply ar_store; exact rfl; exact rfl; exact rfl; (focus (first | decide | (simp; done) | exact Nat.le_refl _)); kernel_rfl; exact rfl))); (first | refine ar_nrm (k := ?_) | refine dr_nrm (k := ?_))) | ((first | apply ar_gy | apply dr_gy); exact rfl; exact bdOk) | (first | (apply awp_cond_t; exact rfl; exact bdOk) | (apply awp_cond_f; exact rfl; exact bdOk)) | fail))
  refine awp_loopK 1 (Nat.le_trans (Nat.le_of_eq hm0) (Nat.zero_le 1)) [1] (fun i : Nat => [(3, .c (.p (.string (textTo x i)))), (4, .c (.p (.int .i64 (i))))]) (fun _ => [[.sl 65 .ro (reachs (x).rs), .sl 3 .ro (its (x).is)]]) (fun _ => 0) (fun q i => i ≤ x.rs.length ∧ q = x.rs.length - i) _ 0 ⟨by omega, rfl⟩ ?_ ?_
  · refine le_nrm (k := ?_); refine le_mk hsLe ?_; (repeat (first | exact AVs.le.nil | (with_reducible refine AVs.le.top _ ?_) | (with_reducible refine AVs.le.eq _ ?_) | refine AVs.le.eqv ?_ ?_)) <;> first | exact rfl | exact pi (by omega)
  rintro q i ⟨h1, rfl⟩
  refine nh_nrm (k := ?_)
  by_cases hi : i < x.rs.length
  · have e1 : (reachs x.rs)[(i : Int).toNat]? = some ([.int .i64 (x.rs[i]).ln, .int .i64 (x.rs[i]).dp, .int .i64 (x.rs[i]).sp] : List Value) := reachs_at hi
    have hts := textTo_sz hw i (by omega)
    have hbr := (way_b hw).1 i hi
    have hun : textTo x (i + 1) = (if i = 0 then textTo x i else textTo x i ++ lockT (x.is.getD (i - 1) 0)) ++ reachT (x.rs.getD i ⟨0, 0, 0⟩) := rfl
    rw [rs_at hi] at hbr hun
    generalize x.rs[i] = r at *
    obtain ⟨b1, b2, b3⟩ := reachF_iff.1 hbr
    have n1 := num_sz (n := r.ln) (by omega)
    have n2 := num_sz (n := r.dp) (by omega)
    have n3 := num_sz (n := r.sp) (by omega)
    have t1 := spec_l1Num r.ln (by omega)
    have t2 := spec_l1Num r.dp (by omega)
    have t3 := spec_l1Num r.sp (by omega)
    obtain ⟨c1, c2, c3, c4, c5, c6⟩ := lit_sz
    rcases Nat.eq_zero_or_pos i with h0 | h0
    · subst h0
      rw [if_pos rfl] at hun
      obtain ⟨u, hu⟩ : ∃ u, u = textTo x 0 := ⟨_, rfl⟩
      obtain ⟨z1, z2, z3, z4, z5, z6⟩ := chain_sz u (numS r.ln) (numS r.dp) (numS r.sp)
      simp only [bR, bK, bC] at z1 z2 z3 z4 z5 z6
      rw [← hu] at hun hts
      (repeat' (first | (first | refine awp_seq ?_ | refine awp_region ?_ | refine awp_block ?_ | refine awp_exit ?_ | refine awp_ret ?_ | refine awp_skip ?_ | refine ar_nil ?_ | refine dr_nil ?_ | (first | refine t_norm ?_ | refine t_exit ?_ | refine t_ret ?_ | refine b_norm ?_ | refine b_exit ?_ | refine b_exit_ne rfl ?_ | refine b_ret ?_)) | ((first | ((first | apply ar_q | apply dr_q); exact qOp1) | ((first | apply ar_gu | apply dr_gu); exact rfl) | ((first | apply ar_gn | apply dr_gn); exact rfl; exact bdOk) | (first | (apply ar_box; exact rfl) | (apply ar_store; exact rfl; exact rfl; exact rfl; (focus (first | decide | (simp; done) | exact Nat.le_refl _)); kernel_rfl; exact rfl)) | (apply ar_alloc (ys := ([.int .i64 0, .int .i64 0, .int .i64 0] : List Value)); kernel_rfl)); (first | refine ar_nrm (k := ?_) | refine dr_nrm (k := ?_))) | ((first | apply ar_gy | apply dr_gy); exact rfl; exact bdOk) | (first | (apply awp_cond_t; exact rfl; exact bdOk) | (apply awp_cond_f; exact rfl; exact bdOk)) | fail))
      rw [← hu]
      (refine awp_region_draw ?_ ?_ ?_; kernel_rfl; kernel_rfl)
      (repeat' (first | (first | refine awp_seq ?_ | refine awp_region ?_ | refine awp_block ?_ | refine awp_exit ?_ | refine awp_ret ?_ | refine awp_skip ?_ | refine ar_nil ?_ | refine dr_nil ?_ | (first | refine t_norm ?_ | refine t_exit ?_ | refine t_ret ?_ | refine b_norm ?_ | refine b_exit ?_ | refine b_exit_ne rfl ?_ | refine b_ret ?_)) | ((first | ((first | apply ar_q | apply dr_q); exact qOp1) | ((first | apply ar_gu | apply dr_gu); exact rfl) | ((first | apply ar_gn | apply dr_gn); exact rfl; exact bdOk) | (first | (apply ar_box; exact rfl) | (apply ar_store; exact rfl; exact rfl; exact rfl; (focus (first | decide | (simp; done) | exact Nat.le_refl _)); kernel_rfl; exact rfl)) | ((first | apply ar_qt | apply dr_qt); (focus (apply qt_call; kernel_rfl; exact (t1); exact rfl))) | ((first | apply ar_qt | apply dr_qt); (focus (apply qt_call; kernel_rfl; exact (t2); exact rfl))) | ((first | apply ar_qt | apply dr_qt); (focus (apply qt_call; kernel_rfl; exact (t3); exact rfl)))); (first | refine ar_nrm (k := ?_) | refine dr_nrm (k := ?_))) | ((first | apply ar_gy | apply dr_gy); exact rfl; exact bdOk) | (first | (apply awp_cond_t; exact rfl; exact bdOk) | (apply awp_cond_f; exact rfl; exact bdOk)) | fail))
      refine ⟨_, 1, ?_, ⟨by omega, rfl⟩, ?_⟩
      · omega
      · refine lk_nrm (k := ?_); refine le_mk hsLe ?_; (repeat (first | exact AVs.le.nil | (with_reducible refine AVs.le.top _ ?_) | (with_reducible refine AVs.le.eq _ ?_) | refine AVs.le.eqv ?_ ?_)) <;> first | exact rfl | exact pi (by omega) | exact ps (by rw [hun]; simp only [reachT, ByteArray.append_assoc]; rfl)
    · have hb := (way_b hw).2 (i - 1) (by omega)
      rw [if_neg (by omega)] at hun
      have e2 : (its x.is)[((i : Int) - 1).toNat]? = some [Value.int .i64 (x.is.getD (i - 1) 0)] := by
        rw [is_at (by omega)]
        exact its_at' (by rw [show ((i : Int) - 1).toNat = i - 1 by omega]; exact List.getElem?_eq_getElem (by omega))
      generalize x.is.getD (i - 1) 0 = y at *
      have n4 := num_sz (n := y) (by omega)
      obtain ⟨y1, y2, y3⟩ := lock_sz (textTo x i) (numS y)
      obtain ⟨u, hu⟩ : ∃ u, u = textTo x i ++ bL ++ numS y ++ bN := ⟨_, rfl⟩
      have hu2 : u = textTo x i ++ lockT y := by rw [hu, lockT]; simp only [ByteArray.append_assoc]
      rw [← hu] at y3
      rw [← hu2] at hun
      obtain ⟨z1, z2, z3, z4, z5, z6⟩ := chain_sz u (numS r.ln) (numS r.dp) (numS r.sp)
      simp only [bR, bK, bC] at z1 z2 z3 z4 z5 z6
      unfold bL bN at hu
      unfold bL at y1 y2
      have t4 := spec_l1Num y (by omega)
      (repeat' (first | (first | refine awp_seq ?_ | refine awp_region ?_ | refine awp_block ?_ | refine awp_exit ?_ | refine awp_ret ?_ | refine awp_skip ?_ | refine ar_nil ?_ | refine dr_nil ?_ | (first | refine t_norm ?_ | refine t_exit ?_ | refine t_ret ?_ | refine b_norm ?_ | refine b_exit ?_ | refine b_exit_ne rfl ?_ | refine b_ret ?_)) | ((first | ((first | apply ar_q | apply dr_q); exact qOp1) | ((first | apply ar_gu | apply dr_gu); exact rfl) | ((first | apply ar_gn | apply dr_gn); exact rfl; exact bdOk) | (first | (apply ar_box; exact rfl) | (apply ar_store; exact rfl; exact rfl; exact rfl; (focus (first | decide | (simp; done) | exact Nat.le_refl _)); kernel_rfl; exact rfl)) | (apply ar_alloc (ys := ([.int .i64 0, .int .i64 0, .int .i64 0] : List Value)); kernel_rfl) | ((first | apply ar_qt | apply dr_qt); (focus (apply qt_call; kernel_rfl; exact (t4); exact rfl)))); (first | refine ar_nrm (k := ?_) | refine dr_nrm (k := ?_))) | ((first | apply ar_gy | apply dr_gy); exact rfl; exact bdOk) | (first | (apply awp_cond_t; exact rfl; exact bdOk) | (apply awp_cond_f; exact rfl; exact bdOk)) | fail))
      rw [← hu]
      (refine awp_region_draw ?_ ?_ ?_; kernel_rfl; kernel_rfl)
      (repeat' (first | (first | refine awp_seq ?_ | refine awp_region ?_ | refine awp_block ?_ | refine awp_exit ?_ | refine awp_ret ?_ | refine awp_skip ?_ | refine ar_nil ?_ | refine dr_nil ?_ | (first | refine t_norm ?_ | refine t_exit ?_ | refine t_ret ?_ | refine b_norm ?_ | refine b_exit ?_ | refine b_exit_ne rfl ?_ | refine b_ret ?_)) | ((first | ((first | apply ar_q | apply dr_q); exact qOp1) | ((first | apply ar_gu | apply dr_gu); exact rfl) | ((first | apply ar_gn | apply dr_gn); exact rfl; exact bdOk) | (first | (apply ar_box; exact rfl) | (apply ar_store; exact rfl; exact rfl; exact rfl; (focus (first | decide | (simp; done) | exact Nat.le_refl _)); kernel_rfl; exact rfl)) | ((first | apply ar_qt | apply dr_qt); (focus (apply qt_call; kernel_rfl; exact (t1); exact rfl))) | ((first | apply ar_qt | apply dr_qt); (focus (apply qt_call; kernel_rfl; exact (t2); exact rfl))) | ((first | apply ar_qt | apply dr_qt); (focus (apply qt_call; kernel_rfl; exact (t3); exact rfl)))); (first | refine ar_nrm (k := ?_) | refine dr_nrm (k := ?_))) | ((first | apply ar_gy | apply dr_gy); exact rfl; exact bdOk) | (first | (apply awp_cond_t; exact rfl; exact bdOk) | (apply awp_cond_f; exact rfl; exact bdOk)) | fail))
      refine ⟨_, i + 1, ?_, ⟨by omega, rfl⟩, ?_⟩
      · omega
      · refine lk_nrm (k := ?_); refine le_mk hsLe ?_; (repeat (first | exact AVs.le.nil | (with_reducible refine AVs.le.top _ ?_) | (with_reducible refine AVs.le.eq _ ?_) | refine AVs.le.eqv ?_ ?_)) <;> first | exact rfl | exact pi (by omega) | exact ps (by rw [hun]; simp only [reachT, ByteArray.append_assoc]; rfl)
  · obtain rfl : i = x.rs.length := by omega
    (repeat' (first | (first | refine awp_seq ?_ | refine awp_region ?_ | refine awp_block ?_ | refine awp_exit ?_ | refine awp_ret ?_ | refine awp_skip ?_ | refine ar_nil ?_ | refine dr_nil ?_ | (first | refine t_norm ?_ | refine t_exit ?_ | refine t_ret ?_ | refine b_norm ?_ | refine b_exit ?_ | refine b_exit_ne rfl ?_ | refine b_ret ?_)) | ((first | ((first | apply ar_q | apply dr_q); exact qOp1) | ((first | apply ar_gu | apply dr_gu); exact rfl) | ((first | apply ar_gn | apply dr_gn); exact rfl; exact bdOk) | (first | (apply ar_box; exact rfl) | (apply ar_store; exact rfl; exact rfl; exact rfl; (focus (first | decide | (simp; done) | exact Nat.le_refl _)); kernel_rfl; exact rfl))); (first | refine ar_nrm (k := ?_) | refine dr_nrm (k := ?_))) | ((first | apply ar_gy | apply dr_gy); exact rfl; exact bdOk) | (first | (apply awp_cond_t; exact rfl; exact bdOk) | (apply awp_cond_f; exact rfl; exact bdOk)) | fail))
    refine ⟨.inr rfl, aend_mk [] rfl (by simp) (by first | (simp; done) | (simp; omega)) (ares_tmp2 _ rfl ?_ ares_nil) rfl rfl⟩
    exact rfl
end Go.Proofs.YtkdbkddlbahceaaDoor
