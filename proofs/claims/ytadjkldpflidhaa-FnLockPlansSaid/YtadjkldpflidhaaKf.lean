/- The lock's laws, plain: steps back, runs, plans. -/
import Derived.Test.YtadjkldpflidhaaKd
namespace Go.Proofs.Ytadjkldpflidhaa
open Go.RowKit
set_option linter.unusedVariables false
set_option linter.unusedSimpArgs false
def opp (c : Int) : Int := if c % 2 = 0 then c - 1 else c + 1
theorem stepT_ok {s t : LS} {c : Int} (h : stepT s c = (t, true)) : safeS s = true ∧ stepF s c = some t := by
  unfold stepT at h
  split at h
  · rename_i hs
    refine ⟨hs, ?_⟩
    unfold stepR at h
    cases hf : stepF s c with
    | none => rw [hf] at h; cases h
    | some u => rw [hf] at h; simp at h; rw [h]
  · injection h with _ h; cases h
theorem stepT_of {s t : LS} {c : Int} (hs : safeS s = true) (h : stepF s c = some t) : stepT s c = (t, true) := by
  unfold stepT stepR; rw [if_pos hs, h]; rfl
theorem step_bd {s t : LS} {c : Int} (h : stepF s c = some t) : 1 ≤ c ∧ c ≤ 9 := by
  rcases Classical.em (c < 1 ∨ 9 < c) with h1 | h1
  · rw [stepF_other h1] at h; cases h
  · omega
theorem step_back {s t : LS} {c : Int} (h : stepT s c = (t, true)) (h9 : c ≠ 9) : stepT t (opp c) = (s, true) := by
  obtain ⟨hs, hf⟩ := stepT_ok h
  have ht := safe_step hs hf
  refine stepT_of ht ?_
  have hb := step_bd hf
  unfold stepF at hf
  rw [if_neg h9] at hf
  obtain ⟨hf, _⟩ := Option.filter_eq_some_iff.1 hf
  obtain ⟨lo, up, le, lg, hg, lp, hp⟩ := s
  have hc : c = 1 ∨ c = 2 ∨ c = 3 ∨ c = 4 ∨ c = 5 ∨ c = 6 ∨ c = 7 ∨ c = 8 := by omega
  rcases hc with rfl | rfl | rfl | rfl | rfl | rfl | rfl | rfl <;> simp [turnF] at hf <;> obtain ⟨rfl, rfl⟩ := hf <;> simp [opp, stepF, turnF, Option.filter, hs]
theorem run_stop : ∀ (cs : List Int) (s : LS), safeS s = true → 0 ≤ (runG s cs).2.1 ∧ (runG s cs).2.1 ≤ cs.length ∧ ∀ c, cs[(runG s cs).2.1.toNat]? = some c → (stepT (runG s cs).1 c).2 = false
  | [], s, h => ⟨by simp [runG], by simp [runG], fun c hc => by simp [runG] at hc⟩
  | c :: t, s, h => by
    unfold runG
    cases hf : stepF s c with
    | none =>
      refine ⟨by simp, by simp; omega, fun c' hc => ?_⟩
      simp at hc; subst hc
      simp [stepT, h, stepR, hf]
    | some s' =>
      obtain ⟨h1, h2, h3⟩ := run_stop t s' (safe_step h hf)
      refine ⟨by simp only; omega, by simp only [List.length_cons]; omega, fun c' hc => h3 c' ?_⟩
      simp only at hc
      rw [show ((runG s' t).2.1 + 1).toNat = (runG s' t).2.1.toNat + 1 by omega] at hc
      simpa using hc
def Made (s : LS) (a : List Int) (t : LS) (R : Int) : Prop := runG s a = (t, (a.length : Int), R)
theorem Made.nil (s : LS) : Made s [] s 0 := by simp [Made, runG]
theorem Made.cons {s t u : LS} {c : Int} {a : List Int} {R : Int} (h : stepF s c = some t) (k : Made t a u R) : Made s (c :: a) u (max 0 (t.le - s.le) + R) := by
  unfold Made at *; simp [runG, h, k]
theorem Made.inv {s u : LS} {c : Int} {a : List Int} {R : Int} (h : Made s (c :: a) u R) : ∃ t R', stepF s c = some t ∧ Made t a u R' ∧ R = max 0 (t.le - s.le) + R' := by
  unfold Made at h
  cases hf : stepF s c with
  | none =>
    simp only [runG, hf] at h
    have := congrArg (·.2.1) h
    simp at this; omega
  | some t =>
    simp only [runG, hf] at h
    have h1 := congrArg (·.1) h
    have h2 := congrArg (·.2.1) h
    have h3 := congrArg (·.2.2) h
    simp only [List.length_cons] at h1 h2 h3
    refine ⟨t, (runG t a).2.2, rfl, ?_, h3.symm⟩
    exact Prod.ext h1 (Prod.ext (by simp only; omega) rfl)
theorem Made.app : ∀ {a b : List Int} {s t u : LS} {R R' : Int}, Made s a t R → Made t b u R' → Made s (a ++ b) u (R + R')
  | [], b, s, t, u, R, R', h, k => by
    have h1 := congrArg (·.1) h
    have h3 := congrArg (·.2.2) h
    simp only [runG] at h1 h3
    subst h1; subst h3
    simpa using k
  | c :: a, b, s, t, u, R, R', h, k => by
    obtain ⟨s', R1, h1, h2, rfl⟩ := h.inv
    have := (h2.app k).cons h1
    rw [List.cons_append, show max 0 (s'.le - s.le) + R1 + R' = max 0 (s'.le - s.le) + (R1 + R') by omega]
    exact this
theorem Made.one {s t : LS} {c : Int} (h : stepF s c = some t) (hl : t.le ≤ s.le) : Made s [c] t 0 := by
  have := (Made.nil t).cons h
  rwa [show max 0 (t.le - s.le) + 0 = 0 by omega] at this
theorem wait_low (lo up : Int) : ∀ (k : Nat) (le : Int), lo ≤ le → Made ⟨lo, up, le, false, false, true, false⟩ (List.replicate k 9) ⟨lo, up, max (le - 50 * k) lo, false, false, true, false⟩ 0
  | 0, le, h => by
    rw [show max (le - 50 * ((0 : Nat) : Int)) lo = le by omega]
    exact Made.nil _
  | k + 1, le, h => by
    have ih := wait_low lo up k (max (le - 50) lo) (by omega)
    rw [show max (max (le - 50) lo - 50 * (k : Int)) lo = max (le - 50 * ((k + 1 : Nat) : Int)) lo by omega] at ih
    have := ih.cons (s := ⟨lo, up, le, false, false, true, false⟩) (c := 9) (by simp [stepF, waitF])
    simp only at this
    rw [show max 0 (max (le - 50) lo - le) + 0 = 0 by omega] at this
    exact this
theorem wait_high (lo up : Int) : ∀ (k : Nat) (le : Int), le ≤ up → Made ⟨lo, up, le, false, false, false, true⟩ (List.replicate k 9) ⟨lo, up, min (le + 50 * k) up, false, false, false, true⟩ (min (le + 50 * k) up - le)
  | 0, le, h => by
    rw [show min (le + 50 * ((0 : Nat) : Int)) up = le by omega, Int.sub_self]
    exact Made.nil _
  | k + 1, le, h => by
    have ih := wait_high lo up k (min (le + 50) up) (by omega)
    rw [show min (min (le + 50) up + 50 * (k : Int)) up = min (le + 50 * ((k + 1 : Nat) : Int)) up by omega] at ih
    have := ih.cons (s := ⟨lo, up, le, false, false, false, true⟩) (c := 9) (by simp [stepF, waitF])
    simp only at this
    rw [show max 0 (min (le + 50) up - le) + (min (le + 50 * ((k + 1 : Nat) : Int)) up - min (le + 50) up) = min (le + 50 * ((k + 1 : Nat) : Int)) up - le by omega] at this
    exact this
theorem core_low (lo up le : Int) (lp : Bool) (hs : 0 ≤ lo ∧ lo ≤ le ∧ le ≤ up ∧ up ≤ 2000) (m : Nat) (hm : m = (minF (le - lo)).toNat) :
    ∃ le' lp', Made ⟨lo, up, le, false, false, lp, false⟩ ((if decide (0 < m) && !lp then [5] else []) ++ List.replicate m 9 ++ [1]) ⟨lo, up, le', true, false, lp', false⟩ 0 ∧ safeS ⟨lo, up, le', true, false, lp', false⟩ = true := by
  unfold minF at hm
  by_cases h0 : m = 0
  · subst h0
    refine ⟨le, lp, ?_, by simp [safeS, safeB]; omega⟩
    simp only [Nat.lt_irrefl, decide_false, Bool.false_and, Bool.false_eq_true, if_false, List.nil_append, List.replicate_zero]
    exact Made.one (by simp [stepF, turnF, Option.filter, safeS, safeB] <;> omega) (Int.le_refl _)
  · have hw := wait_low lo up m le hs.2.1
    have hl : max (le - 50 * (m : Int)) lo - lo ≤ 5 ∧ max (le - 50 * (m : Int)) lo ≤ up ∧ lo ≤ max (le - 50 * (m : Int)) lo := by omega
    generalize max (le - 50 * (m : Int)) lo = le' at hw hl
    have hg : Made ⟨lo, up, le', false, false, true, false⟩ [1] ⟨lo, up, le', true, false, true, false⟩ 0 := Made.one (by simp [stepF, turnF, Option.filter, safeS, safeB] <;> omega) (Int.le_refl _)
    refine ⟨le', true, ?_, by simp [safeS, safeB]; omega⟩
    have h1 := hw.app hg
    cases lp with
    | true =>
      rw [if_neg (by simp), List.nil_append]
      exact h1
    | false =>
      rw [if_pos (by simp; omega), List.append_assoc]
      have h5 : Made ⟨lo, up, le, false, false, false, false⟩ [5] ⟨lo, up, le, false, false, true, false⟩ 0 := Made.one (by simp [stepF, turnF, Option.filter, safeS, safeB] <;> omega) (Int.le_refl _)
      exact h5.app h1
theorem core_high (lo up le : Int) (hp : Bool) (hs : 0 ≤ lo ∧ lo ≤ le ∧ le ≤ up ∧ up ≤ 2000) (m : Nat) (hm : m = (minF (up - le)).toNat) :
    ∃ le' hp', Made ⟨lo, up, le, false, false, false, hp⟩ ((if decide (0 < m) && !hp then [7] else []) ++ List.replicate m 9 ++ [3]) ⟨lo, up, le', false, true, false, hp'⟩ (le' - le) ∧ safeS ⟨lo, up, le', false, true, false, hp'⟩ = true := by
  unfold minF at hm
  by_cases h0 : m = 0
  · subst h0
    refine ⟨le, hp, ?_, by simp [safeS, safeB]; omega⟩
    simp only [Nat.lt_irrefl, decide_false, Bool.false_and, Bool.false_eq_true, if_false, List.nil_append, List.replicate_zero]
    rw [Int.sub_self]
    exact Made.one (by simp [stepF, turnF, Option.filter, safeS, safeB] <;> omega) (Int.le_refl _)
  · have hw := wait_high lo up m le hs.2.2.1
    have hl : up - min (le + 50 * (m : Int)) up ≤ 5 ∧ lo ≤ min (le + 50 * (m : Int)) up ∧ min (le + 50 * (m : Int)) up ≤ up := by omega
    generalize min (le + 50 * (m : Int)) up = le' at hw hl
    have hg : Made ⟨lo, up, le', false, false, false, true⟩ [3] ⟨lo, up, le', false, true, false, true⟩ 0 := Made.one (by simp [stepF, turnF, Option.filter, safeS, safeB] <;> omega) (Int.le_refl _)
    refine ⟨le', true, ?_, by simp [safeS, safeB]; omega⟩
    have h1 := hw.app hg
    cases hp with
    | true =>
      rw [if_neg (by simp), List.nil_append, show le' - le = le' - le + 0 by omega]
      exact h1
    | false =>
      rw [if_pos (by simp; omega), List.append_assoc, show le' - le = 0 + (le' - le + 0) by omega]
      have h5 : Made ⟨lo, up, le, false, false, false, false⟩ [7] ⟨lo, up, le, false, false, false, true⟩ 0 := Made.one (by simp [stepF, turnF, Option.filter, safeS, safeB] <;> omega) (Int.le_refl _)
      exact h5.app h1
/-- The plan is made whole and opens the gate. -/
theorem plan_made (s : LS) (high : Bool) (hs : safeS s = true) : ∃ t R, Made s (planF s high) t R ∧ safeS t = true ∧ (cond high t.hg t.lg) = true ∧ R = cond high (t.le - s.le) 0 := by
  obtain ⟨lo, up, le, lg, hg, lp, hp⟩ := s
  have hb := safe_bd hs
  cases high with
  | false =>
    simp only [planF, planG, cond]
    cases lg with
    | true => exact ⟨_, 0, Made.nil _, hs, rfl, rfl⟩
    | false =>
      simp only [Bool.false_eq_true, if_false]
      obtain ⟨le', lp', h1, h2⟩ := core_low lo up le lp hb _ rfl
      refine ⟨_, 0, ?_, h2, rfl, rfl⟩
      rw [show headF lo up le false = le - lo by simp [headF]]
      have h3 : Made ⟨lo, up, le, false, hg, lp, hp⟩ ((if hg = true then [4] else []) ++ (if hp = true then [8] else [])) ⟨lo, up, le, false, false, lp, false⟩ 0 := by
        cases hg <;> cases hp
        · exact Made.nil _
        · exact Made.one (by cases lp <;> simp [safeS, safeB] at hs <;> simp [stepF, turnF, Option.filter, safeS, safeB] <;> omega) (Int.le_refl _)
        · exact Made.one (by cases lp <;> simp [safeS, safeB] at hs <;> simp [stepF, turnF, Option.filter, safeS, safeB] <;> omega) (Int.le_refl _)
        · have a1 : Made ⟨lo, up, le, false, true, lp, true⟩ [4] ⟨lo, up, le, false, false, lp, true⟩ 0 := Made.one (by cases lp <;> simp [safeS, safeB] at hs <;> simp [stepF, turnF, Option.filter, safeS, safeB] <;> omega) (Int.le_refl _)
          have a2 : Made ⟨lo, up, le, false, false, lp, true⟩ [8] ⟨lo, up, le, false, false, lp, false⟩ 0 := Made.one (by cases lp <;> simp [safeS, safeB] at hs <;> simp [stepF, turnF, Option.filter, safeS, safeB] <;> omega) (Int.le_refl _)
          exact a1.app a2
      have := h3.app h1
      rw [Int.add_zero] at this
      simpa only [List.append_assoc] using this
  | true =>
    simp only [planF, planG, cond]
    cases hg with
    | true => exact ⟨_, 0, Made.nil _, hs, rfl, (Int.sub_self _).symm⟩
    | false =>
      simp only [Bool.false_eq_true, if_false]
      obtain ⟨le', hp', h1, h2⟩ := core_high lo up le hp hb _ rfl
      refine ⟨_, le' - le, ?_, h2, rfl, rfl⟩
      rw [show headF lo up le true = up - le by simp [headF]]
      have h3 : Made ⟨lo, up, le, lg, false, lp, hp⟩ ((if lg = true then [2] else []) ++ (if lp = true then [6] else [])) ⟨lo, up, le, false, false, false, hp⟩ 0 := by
        cases lg <;> cases lp
        · exact Made.nil _
        · exact Made.one (by cases hp <;> simp [safeS, safeB] at hs <;> simp [stepF, turnF, Option.filter, safeS, safeB] <;> omega) (Int.le_refl _)
        · exact Made.one (by cases hp <;> simp [safeS, safeB] at hs <;> simp [stepF, turnF, Option.filter, safeS, safeB] <;> omega) (Int.le_refl _)
        · have a1 : Made ⟨lo, up, le, true, false, true, hp⟩ [2] ⟨lo, up, le, false, false, true, hp⟩ 0 := Made.one (by cases hp <;> simp [safeS, safeB] at hs <;> simp [stepF, turnF, Option.filter, safeS, safeB] <;> omega) (Int.le_refl _)
          have a2 : Made ⟨lo, up, le, false, false, true, hp⟩ [6] ⟨lo, up, le, false, false, false, hp⟩ 0 := Made.one (by cases hp <;> simp [safeS, safeB] at hs <;> simp [stepF, turnF, Option.filter, safeS, safeB] <;> omega) (Int.le_refl _)
          exact a1.app a2
      have := h3.app h1
      rw [Int.zero_add] at this
      simpa only [List.append_assoc] using this
theorem count_one (b : Bool) (x : Int) (h : x ≠ 9) : (if b = true then [x] else []).count 9 = 0 := by cases b <;> simp [List.count_cons, h]
theorem planG_waits (g p og op : Bool) (m : Nat) (c : Int × Int × Int × Int) (h1 : c.1 ≠ 9) (h2 : c.2.1 ≠ 9) (h3 : c.2.2.1 ≠ 9) (h4 : c.2.2.2 ≠ 9) (hg : g = false) : (planG g p og op m c).count 9 = m := by
  subst hg
  unfold planG
  rw [if_neg (by simp)]
  rw [List.count_append, List.count_append, List.count_append, List.count_append, count_one og _ h1, count_one op _ h2, count_one _ _ h3, List.count_replicate_self]
  simp [List.count_cons, h4]
theorem plan_waits (s : LS) (high : Bool) (hs : safeS s = true) : planF s high = [] ∨ ((planF s high).count 9 : Int) = minS s high := by
  have hb := minS_bd hs high
  cases high with
  | false =>
    cases hg : s.lg with
    | true => left; simp [planF, planG, hg]
    | false =>
      right
      have : (planF s false).count 9 = (minS s false).toNat := planG_waits _ _ _ _ _ _ (by decide) (by decide) (by decide) (by decide) hg
      omega
  | true =>
    cases hg : s.hg with
    | true => left; simp [planF, planG, hg]
    | false =>
      right
      have : (planF s true).count 9 = (minS s true).toNat := planG_waits _ _ _ _ _ _ (by decide) (by decide) (by decide) (by decide) hg
      omega
theorem plan_open {t : LS} {high : Bool} (h : (cond high t.hg t.lg) = true) : planF t high = [] := by
  cases high <;> simp at h <;> simp [planF, planG, h]
theorem count_take (l : List Int) (i : Nat) (h : i < l.length) : (l.take (i + 1)).count 9 = (l.take i).count 9 + (if l[i] = 9 then 1 else 0) := by
  rw [List.take_succ_eq_append_getElem h, List.count_append]
  congr 1
  simp [List.count_cons]
end Go.Proofs.Ytadjkldpflidhaa
