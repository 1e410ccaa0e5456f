/- FewestLockages on both sides. -/
import Derived.Test.YthmaiahllhgdpaaCv




namespace Go.Proofs.Ythmaiahllhgdpaa
open Go.RowKit
set_option linter.unusedVariables false
set_option linter.unusedSimpArgs false
attribute [local irreducible] AR DR AWp QOp Qt ACalls ARes Exit.thenA Exit.inBlockA
attribute [local irreducible] AG0 AG AGs
theorem and44 : ∀ s p : Fin 16, IntKind.i64.wrap (BitVec.ofInt IntKind.i64.bits (p.1 : Int) &&& BitVec.ofInt IntKind.i64.bits (s.1 : Int)).toNat = ((p.1 &&& s.1 : Nat) : Int) := by decide +kernel
theorem and4 {s p : Nat} (hs : s < 16) (hp : p < 16) : IntKind.i64.wrap (BitVec.ofInt IntKind.i64.bits (p : Int) &&& BitVec.ofInt IntKind.i64.bits (s : Int)).toNat = ((p &&& s : Nat) : Int) := and44 ⟨s, hs⟩ ⟨p, hp⟩
theorem andp4 {s p : Nat} (hs : s < 16) (hp : p < 16) (h0 : 0 < p) : IntKind.i64.wrap (BitVec.ofInt IntKind.i64.bits ((p : Int) - 1) &&& BitVec.ofInt IntKind.i64.bits (s : Int)).toNat = (((p - 1) &&& s : Nat) : Int) := by
  rw [show (p : Int) - 1 = ((p - 1 : Nat) : Int) by omega]; exact and4 hs (by omega)
theorem xor44 : ∀ s p : Fin 16, IntKind.i64.wrap (BitVec.ofInt IntKind.i64.bits (s.1 : Int) ^^^ BitVec.ofInt IntKind.i64.bits (p.1 : Int)).toNat = ((s.1 ^^^ p.1 : Nat) : Int) := by decide +kernel
theorem xor4 {s p : Nat} (hs : s < 16) (hp : p < 16) : IntKind.i64.wrap (BitVec.ofInt IntKind.i64.bits (s : Int) ^^^ BitVec.ofInt IntKind.i64.bits (p : Int)).toNat = ((s ^^^ p : Nat) : Int) := xor44 ⟨s, hs⟩ ⟨p, hp⟩
theorem shl4 {n : Nat} (h : n ≤ 4) : IntKind.i64.wrap (1 * 2 ^ (min ((n : Int)).toNat IntKind.i64.bits)) = ((2 ^ n : Nat) : Int) := by
  have : n = 0 ∨ n = 1 ∨ n = 2 ∨ n = 3 ∨ n = 4 := by omega
  rcases this with rfl | rfl | rfl | rfl | rfl <;> decide +kernel
theorem two16 {n : Nat} (h : n ≤ 4) : 1 ≤ 2 ^ n ∧ 2 ^ n ≤ 16 := by
  have : n = 0 ∨ n = 1 ∨ n = 2 ∨ n = 3 ∨ n = 4 := by omega
  rcases this with rfl | rfl | rfl | rfl | rfl <;> decide
def fitM (c : Chamber_) (hs : List Hull_) (s : Nat) : Bool := fitsF c (chosen hs s)
theorem hulls_ok2 {hs : List Hull_} (hh : hullsF hs = true) : ∀ h ∈ hs, 1 ≤ h.ln ∧ 1 ≤ h.wd := fun h hm => by
  obtain ⟨j, hj, rfl⟩ := List.getElem_of_mem hm
  have := hullF_iff.1 ((hullsF_iff.1 hh).1 j hj)
  omega
theorem fitM_mono {c : Chamber_} {hs : List Hull_} (hh : hullsF hs = true) {s t : Nat} (h : ∀ k, s.testBit k = true → t.testBit k = true) (ht : fitM c hs t = true) : fitM c hs s = true :=
  fitsF_sub (fun x hx => hulls_ok2 hh x ((chosen_sub hs t).subset hx)) (chosen_mono h hs.length) ht
theorem fitM_one {c : Chamber_} {hs : List Hull_} (hh : hullsF hs = true) (p i : Nat) (hp : p < 16) (hi : i < 4) (h : p.testBit i = true) (hf : fitM c hs p = true) : fitM c hs (2 ^ i) = true :=
  fitM_mono hh (fun k hk => by rw [Nat.testBit_two_pow] at hk; simp at hk; rw [← hk]; exact h) hf
theorem grpV_bd {fit : Nat → Bool} : ∀ s, -1 ≤ grpV fit s ∧ grpV fit s ≤ s := by
  intro s
  induction s using Nat.strongRecOn with
  | ind s ih =>
    by_cases h0 : s = 0
    · subst h0; rw [grpV_zero]; omega
    rw [grpV_succ (by omega)]
    rcases bestTo_spec (fit := fit) (grpV fit) s s with ⟨h1, _⟩ | ⟨p, h1, h2, h3, _⟩
    · omega
    · have := ih (s - p) (by have := h2.1; omega)
      have := h2.1
      have := h2.2.2.2
      omega
theorem bestTo_bd {fit : Nat → Bool} (s n : Nat) (hn : n ≤ s) : -1 ≤ bestTo fit (grpV fit) s n ∧ bestTo fit (grpV fit) s n ≤ s := by
  rcases bestTo_spec (fit := fit) (grpV fit) s n with ⟨h1, _⟩ | ⟨p, h1, h2, h3, _⟩
  · omega
  · have := grpV_bd (fit := fit) (s - p)
    have := h2.1
    have := h2.2.2.2
    omega
theorem best_no {fit : Nat → Bool} {g : Nat → Int} {s p : Nat} (h : ¬ ((p + 1) &&& s = p + 1 ∧ fit (p + 1) = true ∧ 0 ≤ g (s - (p + 1)) ∧ (bestTo fit g s p < 0 ∨ g (s - (p + 1)) + 1 < bestTo fit g s p))) : bestTo fit g s (p + 1) = bestTo fit g s p := by rw [bestTo, if_neg h]
theorem best_yes {fit : Nat → Bool} {g : Nat → Int} {s p : Nat} (h : (p + 1) &&& s = p + 1 ∧ fit (p + 1) = true ∧ 0 ≤ g (s - (p + 1)) ∧ (bestTo fit g s p < 0 ∨ g (s - (p + 1)) + 1 < bestTo fit g s p)) : bestTo fit g s (p + 1) = g (s - (p + 1)) + 1 := by rw [bestTo, if_pos h]
set_option maxHeartbeats 4000000 in
theorem spec_l4Groups (c : Chamber_) (hs : List Hull_) (hc : chF c = true) (hh : hullsF hs = true) : ∀ s : Nat, s < 16 → ACalls Try.prog 72 [.agg [.p (.int .i64 (c).ln), .p (.int .i64 (c).wd)], .c (.sl 40 .ro (hulls hs)), .c (.p (.int .i64 s))] [] (.c (.p (.int .i64 (grpV (fitM c hs) s)))) [] 0 := by
  have h4 := (hullsF_iff.1 hh).2.2
  intro s
  induction s using Nat.strongRecOn with
  | ind s ih =>
  intro hs16
  refine acalls_of (ws := [.c (.p (.int .i64 (grpV (fitM c hs) s)))]) Try.func72 rfl rfl rfl rfl fun w0 B m hm0 => ?_; (refine awp_norm (τ := ?_) ?_ ?_; rotate_left; (focus (simp only [AV.top, Try.ntmps72, List.length_cons, List.length_nil, Nat.reduceAdd, Nat.reduceSub, List.replicate_succ, List.replicate_zero, List.cons_append, List.nil_append]; exact rfl)))
  by_cases h0 : s = 0
  · subst h0
    (repeat (first | (first | refine awp_seq ?_ | refine awp_region ?_ | refine awp_block ?_ | refine awp_exit ?_ | refine awp_ret ?_ | refine awp_skip ?_ | refine ar_nil ?_ | refine dr_nil ?_ | (refine awp_region_draw ?_ ?_ ?_; kernel_rfl; kernel_rfl) | (first | refine t_norm ?_ | refine t_exit ?_ | refine t_ret ?_ | refine b_norm ?_ | refine b_exit ?_ | refine b_exit_ne rfl ?_ | refine b_ret ?_)) | ((first | ((first | apply ar_q | apply dr_q); exact qOp1) | ((first | apply ar_gu | apply dr_gu); exact rfl) | ((first | apply ar_gn | apply dr_gn); exact rfl; exact bdOk) | (first | (apply ar_box; exact rfl) | (apply ar_store; exact rfl; exact rfl; exact rfl; (focus (first | decide | (simp; done) | exact Nat.le_refl _)); kernel_rfl; exact rfl))); (first | refine ar_nrm (k := ?_) | refine dr_nrm (k := ?_))) | ((first | apply ar_gy | apply dr_gy); exact rfl; exact bdOk) | (first | (apply awp_cond_t; exact rfl; exact bdOk) | (apply awp_cond_f; exact rfl; exact bdOk)) | fail))
    refine ⟨.inr rfl, aend_mk [] rfl (by simp) (by first | (simp; done) | (simp; omega)) (ares_tmp2 _ rfl ?_ ares_nil) rfl rfl⟩
    exact rfl
  have hne : ¬ ((s : Int) = 0) := by omega
  (repeat (first | (first | refine awp_seq ?_ | refine awp_region ?_ | refine awp_block ?_ | refine awp_exit ?_ | refine awp_ret ?_ | refine awp_skip ?_ | refine ar_nil ?_ | refine dr_nil ?_ | (refine awp_region_draw ?_ ?_ ?_; kernel_rfl; kernel_rfl) | (first | refine t_norm ?_ | refine t_exit ?_ | refine t_ret ?_ | refine b_norm ?_ | refine b_exit ?_ | refine b_exit_ne rfl ?_ | refine b_ret ?_)) | ((first | ((first | apply ar_q | apply dr_q); exact qOp1) | ((first | apply ar_gu | apply dr_gu); exact rfl) | ((first | apply ar_gn | apply dr_gn); exact rfl; exact bdOk) | (first | (apply ar_box; exact rfl) | (apply ar_store; exact rfl; exact rfl; exact rfl; (focus (first | decide | (simp; done) | exact Nat.le_refl _)); kernel_rfl; exact rfl))); (first | refine ar_nrm (k := ?_) | refine dr_nrm (k := ?_))) | ((first | apply ar_gy | apply dr_gy); exact rfl; exact bdOk) | (first | (apply awp_cond_t; exact rfl; exact bdOk) | (apply awp_cond_f; exact rfl; exact bdOk)) | fail))
  refine awp_loopR 1 (Nat.le_trans (Nat.le_of_eq hm0) (Nat.zero_le 1)) rfl [1, 2, 3] (fun p : Nat => [(7, .c (.p (.int .i64 (bestTo (fitM c hs) (grpV (fitM c hs)) s p)))), (8, .c (.p (.int .i64 (p + 1 : Nat))))]) (fun _ => [[.p (.int .i64 (c).ln), .p (.int .i64 (c).wd)]]) (fun _ => 0) (fun q p => p ≤ s ∧ q = s - p) _ 0 ⟨by omega, rfl⟩ ?_ ?_
  · refine le_nrm (k := ?_); refine le_mk hsLe ?_; (repeat (first | exact AVs.le.nil | (with_reducible refine AVs.le.top _ ?_) | (with_reducible refine AVs.le.eq _ ?_) | refine AVs.le.eqv ?_ ?_)) <;> first | exact rfl | exact pi (by omega)
  rintro q p ⟨g1, rfl⟩
  refine nh_nrm (k := ?_)
  by_cases hp : p < s
  · have hp16 : p + 1 < 16 := by omega
    have ha := and4 hs16 hp16
    have hbb := bestTo_bd (fit := fitM c hs) s p (by omega)
    by_cases hsub : (p + 1) &&& s = p + 1
    · rw [hsub] at ha
      have hch := spec_l4Chosen hs (p + 1) h4 hp16
      have hft := spec_l4Fits c (chosen hs (p + 1)) hc (hullsF_sub (chosen_sub hs (p + 1)) hh)
      have hrec := ih (s - (p + 1)) (by omega) (by omega)
      rw [show ((s - (p + 1) : Nat) : Int) = (s : Int) - ((p + 1 : Nat) : Int) by omega] at hrec
      have hgb := grpV_bd (fit := fitM c hs) (s - (p + 1))
      cases hf : fitsF c (chosen hs (p + 1)) with
      | false =>
        rw [hf] at hft
        have hb := best_no (fit := fitM c hs) (g := grpV (fitM c hs)) (s := s) (p := p) (by rintro ⟨_, h, _⟩; rw [fitM, hf] at h; cases h)
        (repeat' (first | (first | refine awp_seq ?_ | refine awp_region ?_ | refine awp_block ?_ | refine awp_exit ?_ | refine awp_ret ?_ | refine awp_skip ?_ | refine ar_nil ?_ | refine dr_nil ?_ | (refine awp_region_draw ?_ ?_ ?_; kernel_rfl; kernel_rfl) | (first | refine t_norm ?_ | refine t_exit ?_ | refine t_ret ?_ | refine b_norm ?_ | refine b_exit ?_ | refine b_exit_ne rfl ?_ | refine b_ret ?_)) | ((first | ((first | apply ar_q | apply dr_q); exact qOp1) | ((first | apply ar_gu | apply dr_gu); exact rfl) | ((first | apply ar_gn | apply dr_gn); exact rfl; exact bdOk) | (first | (apply ar_box; exact rfl) | (apply ar_store; exact rfl; exact rfl; exact rfl; (focus (first | decide | (simp; done) | exact Nat.le_refl _)); kernel_rfl; exact rfl)) | (apply ar_call; kernel_rfl; exact (hch); exact rfl) | ((first | apply ar_qt | apply dr_qt); (focus (apply qt_call; kernel_rfl; exact (hft); exact rfl)))); (first | refine ar_nrm (k := ?_) | refine dr_nrm (k := ?_))) | ((first | apply ar_gy | apply dr_gy); exact rfl; exact bdOk) | (first | (apply awp_cond_t; exact rfl; exact bdOk) | (apply awp_cond_f; exact rfl; exact bdOk)) | ((first | apply ar_gs | apply dr_gs | apply awp_cond); (focus (exact rfl)); (all_goals (intro hc; (try simp only [decide_eq_true_eq, decide_eq_false_iff_not, Bool.not_eq_true', Bool.not_eq_false', Bool.not_true, Bool.not_false, bne_iff_ne, bne_eq_false_iff_eq, beq_iff_eq, beq_eq_false_iff_ne, ne_eq, Bool.cond_true_left, Bool.cond_false_right, Bool.or_eq_true, Bool.and_eq_true] at hc)))) | fail))
        all_goals first
          | (exact absurd ha hc)
          | (refine ⟨_, p + 1, [], ?_, ⟨by omega, rfl⟩, List.nodup_nil, by simp, ?_⟩
             · omega
             · refine lkr_nrm (k := ?_); refine le_mk hsLe ?_; (repeat (first | exact AVs.le.nil | (with_reducible refine AVs.le.top _ ?_) | (with_reducible refine AVs.le.eq _ ?_) | refine AVs.le.eqv ?_ ?_)) <;> first | exact rfl | exact pi hb.symm | exact pi (by omega))
      | true =>
        rw [hf] at hft
        have hf' : fitM c hs (p + 1) = true := hf
        (repeat' (first | (first | refine awp_seq ?_ | refine awp_region ?_ | refine awp_block ?_ | refine awp_exit ?_ | refine awp_ret ?_ | refine awp_skip ?_ | refine ar_nil ?_ | refine dr_nil ?_ | (refine awp_region_draw ?_ ?_ ?_; kernel_rfl; kernel_rfl) | (first | refine t_norm ?_ | refine t_exit ?_ | refine t_ret ?_ | refine b_norm ?_ | refine b_exit ?_ | refine b_exit_ne rfl ?_ | refine b_ret ?_)) | ((first | ((first | apply ar_q | apply dr_q); exact qOp1) | ((first | apply ar_gu | apply dr_gu); exact rfl) | ((first | apply ar_gn | apply dr_gn); exact rfl; exact bdOk) | (first | (apply ar_box; exact rfl) | (apply ar_store; exact rfl; exact rfl; exact rfl; (focus (first | decide | (simp; done) | exact Nat.le_refl _)); kernel_rfl; exact rfl)) | (apply ar_call; kernel_rfl; exact (hch); exact rfl) | ((first | apply ar_qt | apply dr_qt); (focus (apply qt_call; kernel_rfl; exact (hft); exact rfl))) | ((first | apply ar_qt | apply dr_qt); (focus (apply qt_call; kernel_rfl; exact (hrec); exact rfl)))); (first | refine ar_nrm (k := ?_) | refine dr_nrm (k := ?_))) | ((first | apply ar_gy | apply dr_gy); exact rfl; exact bdOk) | (first | (apply awp_cond_t; exact rfl; exact bdOk) | (apply awp_cond_f; exact rfl; exact bdOk)) | ((first | apply ar_gs | apply dr_gs | apply awp_cond); (focus (exact rfl)); (all_goals (intro hc; (try simp only [decide_eq_true_eq, decide_eq_false_iff_not, Bool.not_eq_true', Bool.not_eq_false', Bool.not_true, Bool.not_false, bne_iff_ne, bne_eq_false_iff_eq, beq_iff_eq, beq_eq_false_iff_ne, ne_eq, Bool.cond_true_left, Bool.cond_false_right, Bool.or_eq_true, Bool.and_eq_true] at hc)))) | fail))
        all_goals first
          | (exact absurd ha (by assumption))
          | (have hb := best_yes (fit := fitM c hs) (g := grpV (fitM c hs)) (s := s) (p := p) ⟨hsub, hf', by omega, by omega⟩
             refine ⟨_, p + 1, [], ?_, ⟨by omega, rfl⟩, List.nodup_nil, by simp, ?_⟩
             · omega
             · refine lkr_nrm (k := ?_); refine le_mk hsLe ?_; (repeat (first | exact AVs.le.nil | (with_reducible refine AVs.le.top _ ?_) | (with_reducible refine AVs.le.eq _ ?_) | refine AVs.le.eqv ?_ ?_)) <;> first | exact rfl | exact pi hb.symm | exact pi (by omega))
          | (have hb := best_no (fit := fitM c hs) (g := grpV (fitM c hs)) (s := s) (p := p) (by rintro ⟨_, _, h1, h2⟩; omega)
             refine ⟨_, p + 1, [], ?_, ⟨by omega, rfl⟩, List.nodup_nil, by simp, ?_⟩
             · omega
             · refine lkr_nrm (k := ?_); refine le_mk hsLe ?_; (repeat (first | exact AVs.le.nil | (with_reducible refine AVs.le.top _ ?_) | (with_reducible refine AVs.le.eq _ ?_) | refine AVs.le.eqv ?_ ?_)) <;> first | exact rfl | exact pi hb.symm | exact pi (by omega))
    · have hb := best_no (fit := fitM c hs) (g := grpV (fitM c hs)) (s := s) (p := p) (by rintro ⟨h, _⟩; exact hsub h)
      have hx : ¬ (((p + 1) &&& s : Nat) : Int) = ((p + 1 : Nat) : Int) := by omega
      rw [← ha] at hx
      (repeat' (first | (first | refine awp_seq ?_ | refine awp_region ?_ | refine awp_block ?_ | refine awp_exit ?_ | refine awp_ret ?_ | refine awp_skip ?_ | refine ar_nil ?_ | refine dr_nil ?_ | (refine awp_region_draw ?_ ?_ ?_; kernel_rfl; kernel_rfl) | (first | refine t_norm ?_ | refine t_exit ?_ | refine t_ret ?_ | refine b_norm ?_ | refine b_exit ?_ | refine b_exit_ne rfl ?_ | refine b_ret ?_)) | ((first | ((first | apply ar_q | apply dr_q); exact qOp1) | ((first | apply ar_gu | apply dr_gu); exact rfl) | ((first | apply ar_gn | apply dr_gn); exact rfl; exact bdOk) | (first | (apply ar_box; exact rfl) | (apply ar_store; exact rfl; exact rfl; exact rfl; (focus (first | decide | (simp; done) | exact Nat.le_refl _)); kernel_rfl; exact rfl))); (first | refine ar_nrm (k := ?_) | refine dr_nrm (k := ?_))) | ((first | apply ar_gy | apply dr_gy); exact rfl; exact bdOk) | (first | (apply awp_cond_t; exact rfl; exact bdOk) | (apply awp_cond_f; exact rfl; exact bdOk)) | ((first | apply ar_gs | apply dr_gs | apply awp_cond); (focus (exact rfl)); (all_goals (intro hc; (try simp only [decide_eq_true_eq, decide_eq_false_iff_not, Bool.not_eq_true', Bool.not_eq_false', Bool.not_true, Bool.not_false, bne_iff_ne, bne_eq_false_iff_eq, beq_iff_eq, beq_eq_false_iff_ne, ne_eq, Bool.cond_true_left, Bool.cond_false_right, Bool.or_eq_true, Bool.and_eq_true] at hc)))) | fail))
      all_goals first
        | (exact absurd (by assumption) hx)
        | (refine ⟨_, p + 1, [], ?_, ⟨by omega, rfl⟩, List.nodup_nil, by simp, ?_⟩
           · omega
           · refine lkr_nrm (k := ?_); refine le_mk hsLe ?_; (repeat (first | exact AVs.le.nil | (with_reducible refine AVs.le.top _ ?_) | (with_reducible refine AVs.le.eq _ ?_) | refine AVs.le.eqv ?_ ?_)) <;> first | exact rfl | exact pi hb.symm | exact pi (by omega))
  · obtain rfl : p = s := by omega
    have hg := grpV_succ (fit := fitM c hs) (s := p) (by omega)
    (repeat (first | (first | refine awp_seq ?_ | refine awp_region ?_ | refine awp_block ?_ | refine awp_exit ?_ | refine awp_ret ?_ | refine awp_skip ?_ | refine ar_nil ?_ | refine dr_nil ?_ | (refine awp_region_draw ?_ ?_ ?_; kernel_rfl; kernel_rfl) | (first | refine t_norm ?_ | refine t_exit ?_ | refine t_ret ?_ | refine b_norm ?_ | refine b_exit ?_ | refine b_exit_ne rfl ?_ | refine b_ret ?_)) | ((first | ((first | apply ar_q | apply dr_q); exact qOp1) | ((first | apply ar_gu | apply dr_gu); exact rfl) | ((first | apply ar_gn | apply dr_gn); exact rfl; exact bdOk) | (first | (apply ar_box; exact rfl) | (apply ar_store; exact rfl; exact rfl; exact rfl; (focus (first | decide | (simp; done) | exact Nat.le_refl _)); kernel_rfl; exact rfl))); (first | refine ar_nrm (k := ?_) | refine dr_nrm (k := ?_))) | ((first | apply ar_gy | apply dr_gy); exact rfl; exact bdOk) | (first | (apply awp_cond_t; exact rfl; exact bdOk) | (apply awp_cond_f; exact rfl; exact bdOk)) | fail))
    refine ⟨.inr rfl, aend_mk [] rfl (by simp) (by first | (simp; done) | (simp; omega)) (ares_tmp2 _ rfl ?_ ares_nil) rfl rfl⟩
    exact pi hg.symm
/-- What FewestLockages hands back. -/
def fewR (c : Chamber_) (hs : List Hull_) : Int × Bool := if chF c = true ∧ hullsF hs = true ∧ oneB (fitM c hs) (2 ^ hs.length - 1) = true then (grpV (fitM c hs) (2 ^ hs.length - 1), true) else (0, false)
theorem fewR_no {c : Chamber_} {hs : List Hull_} (h : chF c = false ∨ hullsF hs = false ∨ oneB (fitM c hs) (2 ^ hs.length - 1) = false) : fewR c hs = (0, false) := by
  rw [fewR, if_neg]; rintro ⟨h1, h2, h3⟩; rw [h1, h2, h3] at h; simp at h
theorem fewR_yes {c : Chamber_} {hs : List Hull_} (h1 : chF c = true) (h2 : hullsF hs = true) (h3 : oneB (fitM c hs) (2 ^ hs.length - 1) = true) : fewR c hs = (grpV (fitM c hs) (2 ^ hs.length - 1), true) := if_pos ⟨h1, h2, h3⟩
theorem part_one {hs : List Hull_} {i : Nat} (hi : i < hs.length) : partH hs i (i + 1) = chosen hs (2 ^ i) := by
  rw [chosen_one hi, partH, List.take_add_one, List.getElem?_eq_getElem hi, List.drop_append_of_le_length (by simp; omega), hAt_eq hi]
  simp
theorem shl4u {n : Nat} (h : n ≤ 4) : IntKind.i64.wrap (1 * 2 ^ (min (IntKind.u64.wrap (n : Int)).toNat IntKind.i64.bits)) = ((2 ^ n : Nat) : Int) := by rw [u64_small h]; exact shl4 h
set_option maxHeartbeats 4000000 in
theorem spec_FewestLockages (c : Chamber_) (hs : List Hull_) (hl : hs.length ≤ 1048576) : ACalls Try.prog 40 [.agg [.p (.int .i64 (c).ln), .p (.int .i64 (c).wd)], .c (.sl 40 .ro (hulls hs))] [] (.tup [.c (.p (.int .i64 (fewR c hs).1)), .c (.p (.bool (fewR c hs).2))]) [] 0 := by
  have hl1 : (hulls hs).length = hs.length := by simp [hulls]
  have hg := spec_l4Good hs hl
  have hch := spec_l4Chamber c
  cases hc : chF c with
  | false =>
    rw [hc] at hch
    rw [fewR_no (.inl hc)]
    refine acalls_of (ws := [.c (.p (.int .i64 0)), .c (.p (.bool false))]) Try.func40 rfl rfl rfl rfl fun w0 B m hm0 => ?_; (refine awp_norm (τ := ?_) ?_ ?_; rotate_left; (focus (simp only [AV.top, Try.ntmps40, List.length_cons, List.length_nil, Nat.reduceAdd, Nat.reduceSub, List.replicate_succ, List.replicate_zero, List.cons_append, List.nil_append]; exact rfl)))
    (repeat (first | (first | refine awp_seq ?_ | refine awp_region ?_ | refine awp_block ?_ | refine awp_exit ?_ | refine awp_ret ?_ | refine awp_skip ?_ | refine ar_nil ?_ | refine dr_nil ?_ | (refine awp_region_draw ?_ ?_ ?_; kernel_rfl; kernel_rfl) | (first | refine t_norm ?_ | refine t_exit ?_ | refine t_ret ?_ | refine b_norm ?_ | refine b_exit ?_ | refine b_exit_ne rfl ?_ | refine b_ret ?_)) | ((first | ((first | apply ar_q | apply dr_q); exact qOp1) | ((first | apply ar_gu | apply dr_gu); exact rfl) | ((first | apply ar_gn | apply dr_gn); exact rfl; exact bdOk) | (first | (apply ar_box; exact rfl) | (apply ar_store; exact rfl; exact rfl; exact rfl; (focus (first | decide | (simp; done) | exact Nat.le_refl _)); kernel_rfl; exact rfl)) | ((first | apply ar_qt | apply dr_qt); (focus (apply qt_call; kernel_rfl; exact (hch); exact rfl)))); (first | refine ar_nrm (k := ?_) | refine dr_nrm (k := ?_))) | ((first | apply ar_gy | apply dr_gy); exact rfl; exact bdOk) | (first | (apply awp_cond_t; exact rfl; exact bdOk) | (apply awp_cond_f; exact rfl; exact bdOk)) | fail))
    refine ⟨.inr rfl, aend_mk [] rfl (by simp) (by first | (simp; done) | (simp; omega)) (ares_tmp2 _ rfl ?_ (ares_tmp2 _ rfl ?_ ares_nil)) rfl rfl⟩ <;> exact rfl
  | true =>
    rw [hc] at hch
    cases hh : hullsF hs with
    | false =>
      rw [hh] at hg
      rw [fewR_no (.inr (.inl hh))]
      refine acalls_of (ws := [.c (.p (.int .i64 0)), .c (.p (.bool false))]) Try.func40 rfl rfl rfl rfl fun w0 B m hm0 => ?_; (refine awp_norm (τ := ?_) ?_ ?_; rotate_left; (focus (simp only [AV.top, Try.ntmps40, List.length_cons, List.length_nil, Nat.reduceAdd, Nat.reduceSub, List.replicate_succ, List.replicate_zero, List.cons_append, List.nil_append]; exact rfl)))
      (repeat (first | (first | refine awp_seq ?_ | refine awp_region ?_ | refine awp_block ?_ | refine awp_exit ?_ | refine awp_ret ?_ | refine awp_skip ?_ | refine ar_nil ?_ | refine dr_nil ?_ | (refine awp_region_draw ?_ ?_ ?_; kernel_rfl; kernel_rfl) | (first | refine t_norm ?_ | refine t_exit ?_ | refine t_ret ?_ | refine b_norm ?_ | refine b_exit ?_ | refine b_exit_ne rfl ?_ | refine b_ret ?_)) | ((first | ((first | apply ar_q | apply dr_q); exact qOp1) | ((first | apply ar_gu | apply dr_gu); exact rfl) | ((first | apply ar_gn | apply dr_gn); exact rfl; exact bdOk) | (first | (apply ar_box; exact rfl) | (apply ar_store; exact rfl; exact rfl; exact rfl; (focus (first | decide | (simp; done) | exact Nat.le_refl _)); kernel_rfl; exact rfl)) | ((first | apply ar_qt | apply dr_qt); (focus (apply qt_call; kernel_rfl; exact (hch); exact rfl))) | ((first | apply ar_qt | apply dr_qt); (focus (apply qt_call; kernel_rfl; exact (hg); exact rfl)))); (first | refine ar_nrm (k := ?_) | refine dr_nrm (k := ?_))) | ((first | apply ar_gy | apply dr_gy); exact rfl; exact bdOk) | (first | (apply awp_cond_t; exact rfl; exact bdOk) | (apply awp_cond_f; exact rfl; exact bdOk)) | fail))
      refine ⟨.inr rfl, aend_mk [] rfl (by simp) (by first | (simp; done) | (simp; omega)) (ares_tmp2 _ rfl ?_ (ares_tmp2 _ rfl ?_ ares_nil)) rfl rfl⟩ <;> exact rfl
    | true =>
      rw [hh] at hg
      have h4 := (hullsF_iff.1 hh).2.2
      have h16 := two16 h4
      refine acalls_of (ws := [.c (.p (.int .i64 (fewR c hs).1)), .c (.p (.bool (fewR c hs).2))]) Try.func40 rfl rfl rfl rfl fun w0 B m hm0 => ?_; (refine awp_norm (τ := ?_) ?_ ?_; rotate_left; (focus (simp only [AV.top, Try.ntmps40, List.length_cons, List.length_nil, Nat.reduceAdd, Nat.reduceSub, List.replicate_succ, List.replicate_zero, List.cons_append, List.nil_append]; exact rfl)))
      (repeat (first | (first | refine awp_seq ?_ | refine awp_region ?_ | refine awp_block ?_ | refine awp_exit ?_ | refine awp_ret ?_ | refine awp_skip ?_ | refine ar_nil ?_ | refine dr_nil ?_ | (refine awp_region_draw ?_ ?_ ?_; kernel_rfl; kernel_rfl) | (first | refine t_norm ?_ | refine t_exit ?_ | refine t_ret ?_ | refine b_norm ?_ | refine b_exit ?_ | refine b_exit_ne rfl ?_ | refine b_ret ?_)) | ((first | ((first | apply ar_q | apply dr_q); exact qOp1) | ((first | apply ar_gu | apply dr_gu); exact rfl) | ((first | apply ar_gn | apply dr_gn); exact rfl; exact bdOk) | (first | (apply ar_box; exact rfl) | (apply ar_store; exact rfl; exact rfl; exact rfl; (focus (first | decide | (simp; done) | exact Nat.le_refl _)); kernel_rfl; exact rfl)) | ((first | apply ar_qt | apply dr_qt); (focus (apply qt_call; kernel_rfl; exact (hch); exact rfl))) | ((first | apply ar_qt | apply dr_qt); (focus (apply qt_call; kernel_rfl; exact (hg); exact rfl)))); (first | refine ar_nrm (k := ?_) | refine dr_nrm (k := ?_))) | ((first | apply ar_gy | apply dr_gy); exact rfl; exact bdOk) | (first | (apply awp_cond_t; exact rfl; exact bdOk) | (apply awp_cond_f; exact rfl; exact bdOk)) | fail))
      refine awp_loopH [1, 2] (fun i : Nat => [(6, .c (.p (.int .i64 i)))]) (fun _ => [[.p (.int .i64 (c).ln), .p (.int .i64 (c).wd)]]) (fun _ => 0) (fun q i => i ≤ hs.length ∧ (∀ j, j < i → fitM c hs (2 ^ j) = true) ∧ q = hs.length - i) _ 0 ⟨by omega, by omega, rfl⟩ ?_ ?_
      · refine le_nrm (k := ?_); refine le_mk hsLe ?_; (repeat (first | exact AVs.le.nil | (with_reducible refine AVs.le.top _ ?_) | (with_reducible refine AVs.le.eq _ ?_) | refine AVs.le.eqv ?_ ?_)) <;> first | exact rfl | exact pi (by omega)
      rintro q i ⟨g1, g2, rfl⟩
      refine nh_nrm (k := ?_)
      by_cases hi : i < hs.length
      · have hf1 := spec_l4Fits c (partH hs i (i + 1)) hc (hullsF_sub (partH_sub _ _ _) hh)
        rw [partH_hulls (x := (i : Int)) (y := (i : Int) + 1) rfl (by omega), part_one hi] at hf1
        cases ha : fitM c hs (2 ^ i) with
        | false =>
          have ha' := ha
          rw [fitM] at ha'
          rw [ha'] at hf1
          have e := fewR_no (c := c) (hs := hs) (.inr (.inr (by
            cases ho : oneB (fitM c hs) (2 ^ hs.length - 1) with
            | false => rfl
            | true =>
              have := oneB_iff.1 ho i (by omega) (by rw [Nat.testBit_two_pow_sub_one]; simpa using hi)
              rw [ha] at this; cases this)))
          (repeat' (first | (first | refine awp_seq ?_ | refine awp_region ?_ | refine awp_block ?_ | refine awp_exit ?_ | refine awp_ret ?_ | refine awp_skip ?_ | refine ar_nil ?_ | refine dr_nil ?_ | (refine awp_region_draw ?_ ?_ ?_; kernel_rfl; kernel_rfl) | (first | refine t_norm ?_ | refine t_exit ?_ | refine t_ret ?_ | refine b_norm ?_ | refine b_exit ?_ | refine b_exit_ne rfl ?_ | refine b_ret ?_)) | ((first | ((first | apply ar_q | apply dr_q); exact qOp1) | ((first | apply ar_gu | apply dr_gu); exact rfl) | ((first | apply ar_gn | apply dr_gn); exact rfl; exact bdOk) | (first | (apply ar_box; exact rfl) | (apply ar_store; exact rfl; exact rfl; exact rfl; (focus (first | decide | (simp; done) | exact Nat.le_refl _)); kernel_rfl; exact rfl)) | ((first | apply ar_qt | apply dr_qt); (focus (apply qt_call; kernel_rfl; exact (hf1); exact rfl)))); (first | refine ar_nrm (k := ?_) | refine dr_nrm (k := ?_))) | ((first | apply ar_gy | apply dr_gy); exact rfl; exact bdOk) | (first | (apply awp_cond_t; exact rfl; exact bdOk) | (apply awp_cond_f; exact rfl; exact bdOk)) | ((first | apply ar_gs | apply dr_gs | apply awp_cond); (focus (exact rfl)); (all_goals (intro hc; (try simp only [decide_eq_true_eq, decide_eq_false_iff_not, Bool.not_eq_true', Bool.not_eq_false', Bool.not_true, Bool.not_false, bne_iff_ne, bne_eq_false_iff_eq, beq_iff_eq, beq_eq_false_iff_ne, ne_eq, Bool.cond_true_left, Bool.cond_false_right, Bool.or_eq_true, Bool.and_eq_true] at hc)))) | fail))
          all_goals
            refine ⟨.inr rfl, aend_mk [] rfl (by simp) (by first | (simp; done) | (simp; omega)) (ares_tmp2 _ rfl ?_ (ares_tmp2 _ rfl ?_ ares_nil)) rfl rfl⟩
            · exact pi (by rw [e])
            · exact pb (by rw [e])
        | true =>
          have ha' := ha
          rw [fitM] at ha'
          rw [ha'] at hf1
          (repeat' (first | (first | refine awp_seq ?_ | refine awp_region ?_ | refine awp_block ?_ | refine awp_exit ?_ | refine awp_ret ?_ | refine awp_skip ?_ | refine ar_nil ?_ | refine dr_nil ?_ | (refine awp_region_draw ?_ ?_ ?_; kernel_rfl; kernel_rfl) | (first | refine t_norm ?_ | refine t_exit ?_ | refine t_ret ?_ | refine b_norm ?_ | refine b_exit ?_ | refine b_exit_ne rfl ?_ | refine b_ret ?_)) | ((first | ((first | apply ar_q | apply dr_q); exact qOp1) | ((first | apply ar_gu | apply dr_gu); exact rfl) | ((first | apply ar_gn | apply dr_gn); exact rfl; exact bdOk) | (first | (apply ar_box; exact rfl) | (apply ar_store; exact rfl; exact rfl; exact rfl; (focus (first | decide | (simp; done) | exact Nat.le_refl _)); kernel_rfl; exact rfl)) | ((first | apply ar_qt | apply dr_qt); (focus (apply qt_call; kernel_rfl; exact (hf1); exact rfl)))); (first | refine ar_nrm (k := ?_) | refine dr_nrm (k := ?_))) | ((first | apply ar_gy | apply dr_gy); exact rfl; exact bdOk) | (first | (apply awp_cond_t; exact rfl; exact bdOk) | (apply awp_cond_f; exact rfl; exact bdOk)) | ((first | apply ar_gs | apply dr_gs | apply awp_cond); (focus (exact rfl)); (all_goals (intro hc; (try simp only [decide_eq_true_eq, decide_eq_false_iff_not, Bool.not_eq_true', Bool.not_eq_false', Bool.not_true, Bool.not_false, bne_iff_ne, bne_eq_false_iff_eq, beq_iff_eq, beq_eq_false_iff_ne, ne_eq, Bool.cond_true_left, Bool.cond_false_right, Bool.or_eq_true, Bool.and_eq_true] at hc)))) | fail))
          all_goals
            refine ⟨_, i + 1, ?_, ⟨by omega, fun j hj => ?_, rfl⟩, ?_⟩
            · omega
            · by_cases hji : j < i
              · exact g2 j hji
              · obtain rfl : j = i := by omega
                exact ha
            · refine le_nrm (k := ?_); refine le_mk hsLe ?_; (repeat (first | exact AVs.le.nil | (with_reducible refine AVs.le.top _ ?_) | (with_reducible refine AVs.le.eq _ ?_) | refine AVs.le.eqv ?_ ?_)) <;> first | exact rfl | exact pi (by omega)
      · obtain rfl : i = hs.length := by omega
        have e := fewR_yes (c := c) (hs := hs) hc hh (oneB_iff.2 fun j hj ht => g2 j (by rw [Nat.testBit_two_pow_sub_one] at ht; simpa using ht))
        have hgr := spec_l4Groups c hs hc hh (2 ^ hs.length - 1) (by omega)
        have hsh := shl4u h4
        have hW : 1 ≤ IntKind.i64.wrap (1 * 2 ^ (min (IntKind.u64.wrap (hs.length : Int)).toNat IntKind.i64.bits)) ∧ IntKind.i64.wrap (1 * 2 ^ (min (IntKind.u64.wrap (hs.length : Int)).toNat IntKind.i64.bits)) ≤ 16 := by rw [hsh]; omega
        rw [← hl1] at hsh hW
        rw [show ((2 ^ hs.length - 1 : Nat) : Int) = ((2 ^ (hulls hs).length : Nat) : Int) - 1 by rw [hl1]; omega, ← hsh] at hgr
        have hb1 : IntKind.u64.wrap ((hulls hs).length : Int) = ((hulls hs).length : Int) := u64_small (by omega)
        (repeat (first | (first | refine awp_seq ?_ | refine awp_region ?_ | refine awp_block ?_ | refine awp_exit ?_ | refine awp_ret ?_ | refine awp_skip ?_ | refine ar_nil ?_ | refine dr_nil ?_ | (refine awp_region_draw ?_ ?_ ?_; kernel_rfl; kernel_rfl) | (first | refine t_norm ?_ | refine t_exit ?_ | refine t_ret ?_ | refine b_norm ?_ | refine b_exit ?_ | refine b_exit_ne rfl ?_ | refine b_ret ?_)) | ((first | ((first | apply ar_q | apply dr_q); exact qOp1) | ((first | apply ar_gu | apply dr_gu); exact rfl) | ((first | apply ar_gn | apply dr_gn); exact rfl; exact bdOk) | (first | (apply ar_box; exact rfl) | (apply ar_store; exact rfl; exact rfl; exact rfl; (focus (first | decide | (simp; done) | exact Nat.le_refl _)); kernel_rfl; exact rfl)) | ((first | apply ar_q | apply dr_q); (focus ((first | apply q_shr | apply q_shl); exact rfl; exact rfl; omega))) | ((first | apply ar_qt | apply dr_qt); (focus (apply qt_call; kernel_rfl; exact (hgr); exact rfl)))); (first | refine ar_nrm (k := ?_) | refine dr_nrm (k := ?_))) | ((first | apply ar_gy | apply dr_gy); exact rfl; exact bdOk) | (first | (apply awp_cond_t; exact rfl; exact bdOk) | (apply awp_cond_f; exact rfl; exact bdOk)) | fail))
        refine ⟨.inr rfl, aend_mk [] rfl (by simp) (by first | (simp; done) | (simp; omega)) (ares_tmp2 _ rfl ?_ (ares_tmp2 _ rfl ?_ ares_nil)) rfl rfl⟩
        · exact pi (by rw [e])
        · exact pb (by rw [e])
end Go.Proofs.Ythmaiahllhgdpaa
