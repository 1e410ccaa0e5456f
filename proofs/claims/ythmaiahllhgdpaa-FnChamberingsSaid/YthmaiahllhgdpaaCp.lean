/- Sets of hulls, groups of them: the plain words of FewestLockages, and that both ways to count agree. -/
import Derived.Test.YthmaiahllhgdpaaCk


namespace Go.Proofs.Ythmaiahllhgdpaa
open Go.RowKit
set_option linter.unusedVariables false
set_option linter.unusedSimpArgs false
/-- The hulls of a set among the first i. -/
def chosenTo (hs : List Hull_) (s : Nat) : Nat → List Hull_
  | 0 => []
  | i + 1 => if s.testBit i = true then chosenTo hs s i ++ [hAt hs i] else chosenTo hs s i
def chosen (hs : List Hull_) (s : Nat) : List Hull_ := chosenTo hs s hs.length
theorem chosen_yes {hs : List Hull_} {s i : Nat} (h : s.testBit i = true) : chosenTo hs s (i + 1) = chosenTo hs s i ++ [hAt hs i] := if_pos h
theorem chosen_no {hs : List Hull_} {s i : Nat} (h : s.testBit i = false) : chosenTo hs s (i + 1) = chosenTo hs s i := if_neg (by rw [h]; decide)
theorem chosen_take {hs : List Hull_} {s : Nat} : ∀ n, n ≤ hs.length → (chosenTo hs s n).Sublist (hs.take n)
  | 0, _ => by simp [chosenTo]
  | n + 1, h => by
    have ih := chosen_take (hs := hs) (s := s) n (by omega)
    have e : hs.take (n + 1) = hs.take n ++ [hAt hs n] := by rw [List.take_add_one, List.getElem?_eq_getElem (by omega), hAt_eq (by omega)]; rfl
    rw [e]
    cases hb : s.testBit n with
    | true => rw [chosen_yes hb]; exact ih.append (List.Sublist.refl _)
    | false => rw [chosen_no hb]; exact ih.trans (List.sublist_append_left _ _)
theorem chosen_sub (hs : List Hull_) (s : Nat) : (chosen hs s).Sublist hs := by
  have := chosen_take (hs := hs) (s := s) hs.length (Nat.le_refl _)
  rwa [List.take_length] at this
theorem chosen_mono {hs : List Hull_} {s t : Nat} (h : ∀ k, s.testBit k = true → t.testBit k = true) : ∀ n, (chosenTo hs s n).Sublist (chosenTo hs t n)
  | 0 => List.Sublist.refl _
  | n + 1 => by
    have ih := chosen_mono (hs := hs) h n
    cases hb : s.testBit n with
    | true => rw [chosen_yes hb, chosen_yes (h n hb)]; exact ih.append (List.Sublist.refl _)
    | false =>
      rw [chosen_no hb]
      cases ht : t.testBit n with
      | true => rw [chosen_yes ht]; exact ih.trans (List.sublist_append_left _ _)
      | false => rw [chosen_no ht]; exact ih
theorem chosen_none {hs : List Hull_} {s : Nat} : ∀ n, (∀ k, k < n → s.testBit k = false) → chosenTo hs s n = []
  | 0, _ => rfl
  | n + 1, h => by rw [chosen_no (h n (by omega))]; exact chosen_none n fun k hk => h k (by omega)
theorem chosen_one {hs : List Hull_} {i : Nat} (hi : i < hs.length) : chosen hs (2 ^ i) = [hAt hs i] := by
  have h1 : ∀ m, chosenTo hs (2 ^ i) (i + 1 + m) = [hAt hs i] := fun m => by
    induction m with
    | zero =>
      rw [Nat.add_zero, chosen_yes (by rw [Nat.testBit_two_pow]; simp), chosen_none i fun k hk => by rw [Nat.testBit_two_pow]; simp; omega]; rfl
    | succ m ih =>
      rw [← Nat.add_assoc, chosen_no (by rw [Nat.testBit_two_pow]; simp; omega)]; exact ih
  have := h1 (hs.length - i - 1)
  rwa [show i + 1 + (hs.length - i - 1) = hs.length by omega] at this
theorem chosen_all {hs : List Hull_} {s : Nat} : ∀ n, n ≤ hs.length → (∀ k, k < n → s.testBit k = true) → chosenTo hs s n = hs.take n
  | 0, _, _ => by simp [chosenTo]
  | n + 1, h, hk => by
    rw [chosen_yes (hk n (by omega)), chosen_all n (by omega) fun k h => hk k (by omega), List.take_add_one, List.getElem?_eq_getElem (by omega), hAt_eq (by omega)]; rfl
/-! ### Groups -/
section
variable (fit : Nat → Bool)
/-- The best of the parts up to a number: g tells the groups of the rest. -/
def bestTo (g : Nat → Int) (s : Nat) : Nat → Int
  | 0 => -1
  | p + 1 => if (p + 1) &&& s = p + 1 ∧ fit (p + 1) = true ∧ 0 ≤ g (s - (p + 1)) ∧ (bestTo g s p < 0 ∨ g (s - (p + 1)) + 1 < bestTo g s p) then g (s - (p + 1)) + 1 else bestTo g s p
def grpF : Nat → Nat → Int
  | 0, _ => 0
  | f + 1, s => if s = 0 then 0 else bestTo fit (grpF f) s s
def grpV (s : Nat) : Int := grpF fit s s
variable {fit}
theorem bestTo_congr {g g' : Nat → Int} {s : Nat} (h : ∀ t, t < s → g t = g' t) : ∀ p, p ≤ s → bestTo fit g s p = bestTo fit g' s p
  | 0, _ => rfl
  | p + 1, hp => by simp only [bestTo]; rw [bestTo_congr h p (by omega), h (s - (p + 1)) (by omega)]
theorem grpF_fuel : ∀ (s f : Nat), s ≤ f → grpF fit f s = grpV fit s := by
  intro s
  induction s using Nat.strongRecOn with
  | ind s ih =>
    intro f hf
    match s, f, hf with
    | 0, 0, _ => rfl
    | 0, f + 1, _ => rfl
    | s + 1, f + 1, hf =>
      simp only [grpV, grpF]
      rw [if_neg (by omega), if_neg (by omega)]
      refine bestTo_congr (fun t ht => ?_) _ (Nat.le_refl _)
      rw [ih t ht f (by omega), ih t ht s (by omega)]
theorem grpV_zero : grpV fit 0 = 0 := rfl
theorem grpV_succ {s : Nat} (h : 0 < s) : grpV fit s = bestTo fit (grpV fit) s s := by
  obtain ⟨t, rfl⟩ : ∃ t, s = t + 1 := ⟨s - 1, by omega⟩
  show grpF fit (t + 1) (t + 1) = _
  simp only [grpF]
  rw [if_neg (by omega)]
  exact bestTo_congr (fun u hu => grpF_fuel u t (by omega)) _ (Nat.le_refl _)
def okP (fit : Nat → Bool) (g : Nat → Int) (s p : Nat) : Prop := 0 < p ∧ p &&& s = p ∧ fit p = true ∧ 0 ≤ g (s - p)
theorem bestTo_spec (g : Nat → Int) (s : Nat) : ∀ n, (bestTo fit g s n = -1 ∧ ∀ p, p ≤ n → ¬ okP fit g s p) ∨ (∃ p, p ≤ n ∧ okP fit g s p ∧ bestTo fit g s n = g (s - p) + 1 ∧ ∀ q, q ≤ n → okP fit g s q → bestTo fit g s n ≤ g (s - q) + 1)
  | 0 => .inl ⟨rfl, fun p hp h => by have := h.1; omega⟩
  | n + 1 => by
    have ih := bestTo_spec g s n
    have hstep : ∀ q, q ≤ n + 1 → q = n + 1 ∨ q ≤ n := fun q hq => by omega
    simp only [bestTo]
    split
    · rename_i h
      have hok : okP fit g s (n + 1) := ⟨by omega, h.1, h.2.1, h.2.2.1⟩
      refine .inr ⟨n + 1, Nat.le_refl _, hok, rfl, fun q hq hqo => ?_⟩
      rcases hstep q hq with rfl | hq
      · omega
      · rcases ih with ⟨h1, h2⟩ | ⟨p, h1, h2, h3, h4⟩
        · exact absurd hqo (h2 q hq)
        · have := h4 q hq hqo
          have := h2.2.2.2
          rcases h.2.2.2 with h5 | h5 <;> omega
    · rename_i h
      rcases ih with ⟨h1, h2⟩ | ⟨p, h1, h2, h3, h4⟩
      · refine .inl ⟨h1, fun q hq hqo => ?_⟩
        rcases hstep q hq with rfl | hq
        · exact h ⟨hqo.2.1, hqo.2.2.1, hqo.2.2.2, .inl (by omega)⟩
        · exact h2 q hq hqo
      · refine .inr ⟨p, by omega, h2, h3, fun q hq hqo => ?_⟩
        rcases hstep q hq with rfl | hq
        · exact Int.not_lt.1 fun hlt => h ⟨hqo.2.1, hqo.2.2.1, hqo.2.2.2, .inr hlt⟩
        · exact h4 q hq hqo
/-- Every hull of the set fits alone. -/
def oneB (fit : Nat → Bool) (s : Nat) : Bool := (List.range 4).all fun i => !s.testBit i || fit (2 ^ i)
theorem oneB_iff {s : Nat} : oneB fit s = true ↔ ∀ i, i < 4 → s.testBit i = true → fit (2 ^ i) = true := by
  simp only [oneB, List.all_eq_true, List.mem_range, Bool.or_eq_true, Bool.not_eq_true']
  constructor
  · intro h i hi ht; rcases h i hi with h | h
    · rw [ht] at h; cases h
    · exact h
  · intro h i hi
    cases ht : s.testBit i with
    | false => exact .inl rfl
    | true => exact .inr (h i hi ht)
def pop4 (s : Nat) : Nat := (s.testBit 0).toNat + (s.testBit 1).toNat + (s.testBit 2).toNat + (s.testBit 3).toNat
theorem pop4_le (s : Nat) : pop4 s ≤ 4 := by
  unfold pop4
  have h : ∀ b : Bool, b.toNat ≤ 1 := fun b => by cases b <;> decide
  have := h (s.testBit 0); have := h (s.testBit 1); have := h (s.testBit 2); have := h (s.testBit 3)
  omega
theorem low4 : ∀ s : Fin 16, s.1 ≠ 0 → ∃ i : Fin 4, s.1.testBit i = true ∧ 2 ^ i.1 &&& s.1 = 2 ^ i.1 ∧ pop4 (s.1 - 2 ^ i.1) + 1 = pop4 s.1 ∧ ∀ j : Fin 4, (s.1 - 2 ^ i.1).testBit j = true → s.1.testBit j = true := by decide +kernel
theorem sub4 : ∀ s p : Fin 16, p.1 &&& s.1 = p.1 → s.1 ^^^ p.1 = s.1 - p.1 ∧ p.1 ≤ s.1 ∧ (∀ j : Fin 4, p.1.testBit j = true → s.1.testBit j = true) ∧ ∀ j : Fin 4, s.1.testBit j = true → p.1.testBit j = true ∨ (s.1 - p.1).testBit j = true := by decide +kernel
theorem sub4' : ∀ s p : Fin 16, p.1 &&& s.1 = p.1 → ∀ j : Fin 4, (s.1 - p.1).testBit j = true → s.1.testBit j = true := by decide +kernel
theorem grpV_ok : ∀ s, s < 16 → oneB fit s = true → 0 ≤ grpV fit s ∧ grpV fit s ≤ pop4 s := by
  intro s
  induction s using Nat.strongRecOn with
  | ind s ih =>
    intro hs ho
    by_cases h0 : s = 0
    · subst h0; rw [grpV_zero]; exact ⟨Int.le_refl _, by omega⟩
    obtain ⟨i, h1, h2, h3, h4⟩ := low4 ⟨s, hs⟩ h0
    simp only at h1 h2 h3 h4
    have hp : 0 < 2 ^ i.1 := Nat.two_pow_pos _
    have hle : 2 ^ i.1 ≤ s := by have := (sub4 ⟨s, hs⟩ ⟨2 ^ i.1, by have := Nat.pow_le_pow_right (n := 2) (by omega) (show i.1 ≤ 3 by omega); omega⟩ h2).2.1; exact this
    have hi := ih (s - 2 ^ i.1) (by omega) (by omega) (oneB_iff.2 fun j hj ht => oneB_iff.1 ho j hj (h4 ⟨j, hj⟩ ht))
    have hok : okP fit (grpV fit) s (2 ^ i.1) := ⟨hp, h2, oneB_iff.1 ho i.1 i.2 h1, hi.1⟩
    rw [grpV_succ (by omega)]
    rcases bestTo_spec (fit := fit) (grpV fit) s s with ⟨_, h6⟩ | ⟨p, h5, h6, h7, h8⟩
    · exact absurd hok (h6 _ hle)
    · have := h8 _ hle hok
      have := h6.2.2.2
      omega
/-- The program's numbers: 5 where there is none. -/
def lstV (fit : Nat → Bool) (s : Nat) : Nat := if oneB fit s = true then (grpV fit s).toNat else 5
theorem lstV_zero : lstV fit 0 = 0 := by
  rw [lstV, if_pos (oneB_iff.2 fun i _ h => by simp at h), grpV_zero]; rfl
/-- What the program's loop finds for a set, where the parts greater than q have been tried. -/
structure OwnP (fit : Nat → Bool) (s q own : Nat) : Prop where
  le : own ≤ 5
  all : ∀ p, q < p → p &&& s = p → lstV fit (s ^^^ p) < 5 → fit p = true → own ≤ lstV fit (s ^^^ p) + 1
  ex : own = 5 ∨ ∃ p, q < p ∧ p &&& s = p ∧ lstV fit (s ^^^ p) < 5 ∧ fit p = true ∧ own = lstV fit (s ^^^ p) + 1
theorem and_lt {p s : Nat} (h : p &&& s = p) (hs : s < 16) : p < 16 := by
  have := Nat.and_le_right (n := p) (m := s); omega
theorem own_eq {s own : Nat} (hs : s < 16) (h0 : 0 < s) (hm : ∀ p i, p < 16 → i < 4 → p.testBit i = true → fit p = true → fit (2 ^ i) = true) (h : OwnP fit s 0 own) : own = lstV fit s := by
  have hx : ∀ p, p &&& s = p → s ^^^ p = s - p ∧ p ≤ s := fun p hp => by
    have := sub4 ⟨s, hs⟩ ⟨p, and_lt hp hs⟩ hp; exact ⟨this.1, this.2.1⟩
  cases ho : oneB fit s with
  | true =>
    have hsub : ∀ p, p &&& s = p → oneB fit (s - p) = true := fun p hp => oneB_iff.2 fun j hj ht => oneB_iff.1 ho j hj (sub4' ⟨s, hs⟩ ⟨p, and_lt hp hs⟩ hp ⟨j, hj⟩ ht)
    have hl : ∀ p, p &&& s = p → (lstV fit (s ^^^ p) : Int) = grpV fit (s - p) ∧ grpV fit (s - p) ≤ 4 := fun p hp => by
      have h1 := grpV_ok (s - p) (by omega) (hsub p hp)
      have := pop4_le (s - p)
      rw [(hx p hp).1, lstV, if_pos (hsub p hp)]
      omega
    have hv := grpV_ok s hs ho
    have h4 := pop4_le s
    have e : lstV fit s = (grpV fit s).toNat := by rw [lstV, if_pos ho]
    rw [e]
    rw [grpV_succ h0] at hv ⊢
    rcases bestTo_spec (fit := fit) (grpV fit) s s with ⟨h6, _⟩ | ⟨p, h5, h6, h7, h8⟩
    · omega
    · have e1 := hl p h6.2.1
      have h9 := h.all p h6.1 h6.2.1 (by omega) h6.2.2.1
      rcases h.ex with hx5 | ⟨q, q1, q2, q3, q4, q5⟩
      · omega
      · have e2 := hl q q2
        have := h8 q (hx q q2).2 ⟨q1, q2, q4, by omega⟩
        omega
  | false =>
    have e : lstV fit s = 5 := by rw [lstV, if_neg (by rw [ho]; decide)]
    rw [e]
    rcases h.ex with hx5 | ⟨q, q1, q2, q3, q4, q5⟩
    · exact hx5
    · exfalso
      have : ¬ ∀ i, i < 4 → s.testBit i = true → fit (2 ^ i) = true := fun hh => by rw [oneB_iff.2 hh] at ho; cases ho
      apply this
      intro i hi ht
      have hq := and_lt q2 hs
      rcases (sub4 ⟨s, hs⟩ ⟨q, hq⟩ q2).2.2.2 ⟨i, hi⟩ ht with h1 | h1
      · exact hm q i hq hi h1 q4
      · rw [(hx q q2).1] at q3
        cases h2 : oneB fit (s - q) with
        | true => exact oneB_iff.1 h2 i hi h1
        | false => rw [lstV, if_neg (by rw [h2]; decide)] at q3; omega
theorem own_start (s : Nat) (hs : s < 16) : OwnP fit s s 5 := ⟨Nat.le_refl _, fun p hp hps => by
  have := (sub4 ⟨s, hs⟩ ⟨p, and_lt hps hs⟩ hps).2.1
  simp only at this; omega, .inl rfl⟩
theorem next4 : ∀ s q p : Fin 16, q.1 &&& s.1 = q.1 → 0 < q.1 → p.1 &&& s.1 = p.1 → (q.1 - 1) &&& s.1 < p.1 → q.1 ≤ p.1 := by decide +kernel
theorem own_next {s q own : Nat} (hs : s < 16) (hq : q &&& s = q) (h0 : 0 < q) (h : OwnP fit s q own) : (lstV fit (s ^^^ q) < 5 → fit q = true → OwnP fit s ((q - 1) &&& s) (min own (lstV fit (s ^^^ q) + 1))) ∧ (¬ (lstV fit (s ^^^ q) < 5 ∧ fit q = true) → OwnP fit s ((q - 1) &&& s) own) := by
  have hq16 := and_lt hq hs
  have hn : ∀ p, (q - 1) &&& s < p → p &&& s = p → p = q ∨ q < p := fun p h1 h2 => by
    have := next4 ⟨s, hs⟩ ⟨q, hq16⟩ ⟨p, and_lt h2 hs⟩ hq h0 h2 h1
    simp only at this; omega
  have hlt : (q - 1) &&& s < q := by have := Nat.and_le_left (n := q - 1) (m := s); omega
  constructor
  · intro h1 h2
    refine ⟨by have := h.le; omega, fun p h3 h4 h5 h6 => ?_, ?_⟩
    · rcases hn p h3 h4 with rfl | h7
      · omega
      · have := h.all p h7 h4 h5 h6; omega
    · by_cases hm : own ≤ lstV fit (s ^^^ q) + 1
      · rw [Nat.min_eq_left hm]
        rcases h.ex with h3 | ⟨p, h3, h4⟩
        · exact .inl h3
        · exact .inr ⟨p, by omega, h4⟩
      · rw [Nat.min_eq_right (by omega)]
        exact .inr ⟨q, hlt, hq, h1, h2, rfl⟩
  · intro h1
    refine ⟨h.le, fun p h3 h4 h5 h6 => ?_, ?_⟩
    · rcases hn p h3 h4 with rfl | h7
      · exact absurd ⟨h5, h6⟩ h1
      · exact h.all p h7 h4 h5 h6
    · rcases h.ex with h3 | ⟨p, h3, h4⟩
      · exact .inl h3
      · exact .inr ⟨p, by omega, h4⟩
end
/-! ### Lockages in order -/
def ordTo (fit : Nat → Nat → Bool) : Nat → Option (Nat × Nat × List Nat)
  | 0 => some (0, 0, [])
  | i + 1 => match ordTo fit i with
    | none => none
    | some (l, b, out) => if fit i (i + 1) = true then (if fit b (i + 1) = true then some (l, b, out ++ [l]) else some (l + 1, i, out ++ [l + 1])) else none
theorem ordTo_no {fit : Nat → Nat → Bool} {i : Nat} (h : fit i (i + 1) = false) : ordTo fit (i + 1) = none := by
  rw [ordTo]; split
  · rfl
  · rw [if_neg (by rw [h]; decide)]
theorem ordTo_on {fit : Nat → Nat → Bool} {i l b : Nat} {out : List Nat} (e : ordTo fit i = some (l, b, out)) (h : fit i (i + 1) = true) (h2 : fit b (i + 1) = true) : ordTo fit (i + 1) = some (l, b, out ++ [l]) := by
  rw [ordTo, e]; simp only; rw [if_pos h, if_pos h2]
theorem ordTo_new {fit : Nat → Nat → Bool} {i l b : Nat} {out : List Nat} (e : ordTo fit i = some (l, b, out)) (h : fit i (i + 1) = true) (h2 : fit b (i + 1) = false) : ordTo fit (i + 1) = some (l + 1, i, out ++ [l + 1]) := by
  rw [ordTo, e]; simp only; rw [if_pos h, if_neg (by rw [h2]; decide)]
theorem ordTo_none {fit : Nat → Nat → Bool} {i : Nat} (e : ordTo fit i = none) : ∀ k, ordTo fit (i + k) = none
  | 0 => e
  | k + 1 => by rw [← Nat.add_assoc, ordTo, ordTo_none e k]
theorem ordTo_len {fit : Nat → Nat → Bool} : ∀ {i l b : Nat} {out : List Nat}, ordTo fit i = some (l, b, out) → out.length = i ∧ b ≤ i ∧ l ≤ i
  | 0, l, b, out, h => by simp only [ordTo, Option.some.injEq, Prod.mk.injEq] at h; obtain ⟨rfl, rfl, rfl⟩ := h; simp
  | i + 1, l, b, out, h => by
    rw [ordTo] at h
    split at h
    · cases h
    · rename_i l' b' out' e
      have ih := ordTo_len e
      split at h
      · split at h
        · simp only [Option.some.injEq, Prod.mk.injEq] at h; obtain ⟨rfl, rfl, rfl⟩ := h; simp; omega
        · simp only [Option.some.injEq, Prod.mk.injEq] at h; obtain ⟨rfl, rfl, rfl⟩ := h; simp; omega
      · cases h
end Go.Proofs.Ythmaiahllhgdpaa
