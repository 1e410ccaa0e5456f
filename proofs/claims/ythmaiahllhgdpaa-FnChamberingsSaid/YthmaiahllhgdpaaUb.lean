/- The law of chamberings, plain: the most hulls, groups, lockages in order, shifts back. -/
import Derived.Test.YthmaiahllhgdpaaCzb
import Derived.Test.YthmaiahllhgdpaaCt
import Derived.Test.YthmaiahllhgdpaaCr
namespace Go.Proofs.Ythmaiahllhgdpaa
open Go.RowKit
set_option linter.unusedVariables false
set_option linter.unusedSimpArgs false
theorem asc_pair {l : List Hull_} (h : ∀ j (hj : j + 1 < l.length), l[j].id < l[j + 1].id) : l.Pairwise fun a b => a.id < b.id := by
  rw [List.pairwise_iff_getElem]
  intro i j hi hj hij
  obtain ⟨d, rfl⟩ : ∃ d, j = i + d + 1 := ⟨j - i - 1, by omega⟩
  induction d with
  | zero => exact h i hj
  | succ d ih =>
    have := ih (by omega) (by omega)
    have h2 := h (i + d + 1) hj
    exact Int.lt_trans this h2
theorem filter_sub : ∀ {l hs : List Hull_}, l.Sublist hs → (hs.Pairwise fun a b => a.id < b.id) → hs.filter (fun h => (idsF l).elem h.id) = l := by
  intro l hs h
  induction h with
  | slnil => intro _; rfl
  | @cons l hs a h ih =>
    intro hp
    have h1 := (List.pairwise_cons.1 hp)
    have hn : (idsF l).elem a.id = false := by
      rw [← Bool.not_eq_true, List.elem_iff]
      intro hm
      obtain ⟨x, hx, he⟩ := List.mem_map.1 hm
      have := h1.1 x (h.subset hx)
      omega
    rw [List.filter_cons_of_neg (by rw [hn]; decide)]
    exact ih h1.2
  | @cons_cons l hs a h ih =>
    intro hp
    have h1 := (List.pairwise_cons.1 hp)
    rw [List.filter_cons_of_pos (by simp [idsF])]
    congr 1
    refine Eq.trans (List.filter_congr fun x hx => ?_) (ih h1.2)
    have := h1.1 x hx
    rw [Bool.eq_iff_iff, List.elem_iff, List.elem_iff]
    simp only [idsF, List.map_cons, List.mem_cons]
    constructor
    · rintro (e | e)
      · omega
      · exact e
    · exact .inr
theorem chosen_zero (hs : List Hull_) : chosen hs 0 = [] := chosen_none _ fun k _ => by simp
theorem most_spec {c : Chamber_} {hs : List Hull_} : ∀ n, (∃ s, (s < n ∨ s = 0) ∧ mostTo c hs n = idsM hs s ∧ fitM c hs s = true) ∧ ∀ t, t < n → fitM c hs t = true → (idsM hs t).length ≤ (mostTo c hs n).length
  | 0 => ⟨⟨0, .inr rfl, by rw [idsM, chosen_zero]; rfl, by rw [fitM, chosen_zero]; rfl⟩, fun t h => by omega⟩
  | n + 1 => by
    obtain ⟨⟨s, h1, h2, h3⟩, h4⟩ := most_spec (c := c) (hs := hs) n
    by_cases hc : (idsM hs n).length < (mostTo c hs n).length ∨ ((idsM hs n).length = (mostTo c hs n).length ∧ lessL (idsM hs n) (mostTo c hs n) = false) ∨ fitM c hs n = false
    · rw [mostTo_no hc]
      refine ⟨⟨s, by omega, h2, h3⟩, fun t ht hf => ?_⟩
      rcases Nat.lt_or_ge t n with h | h
      · exact h4 t h hf
      · obtain rfl : t = n := by omega
        rcases hc with h | h | h
        · omega
        · omega
        · rw [hf] at h; cases h
    · have h5 : ¬ (idsM hs n).length < (mostTo c hs n).length := fun h => hc (.inl h)
      have h6 : fitM c hs n = true := by
        cases h : fitM c hs n with
        | true => rfl
        | false => exact absurd (.inr (.inr h)) hc
      have h7 : (idsM hs n).length = (mostTo c hs n).length → lessL (idsM hs n) (mostTo c hs n) = true := fun he => by
        cases h : lessL (idsM hs n) (mostTo c hs n) with
        | true => rfl
        | false => exact absurd (.inr (.inl ⟨he, h⟩)) hc
      rw [mostTo_yes h5 h7 h6]
      refine ⟨⟨n, by omega, rfl, h6⟩, fun t ht hf => ?_⟩
      rcases Nat.lt_or_ge t n with h | h
      · have := h4 t h hf; omega
      · obtain rfl : t = n := by omega
        exact Nat.le_refl _
theorem full4 : ∀ n : Fin 5, pop4 (2 ^ n.1 - 1) = n.1 ∧ ∀ s : Fin 16, s.1 < 2 ^ n.1 → pop4 s.1 = n.1 → s.1 = 2 ^ n.1 - 1 := by decide +kernel
theorem chosen_full (hs : List Hull_) : chosen hs (2 ^ hs.length - 1) = hs := by
  have := chosen_all (hs := hs) (s := 2 ^ hs.length - 1) hs.length (Nat.le_refl _) fun k hk => by rw [Nat.testBit_two_pow_sub_one]; simpa using hk
  rw [List.take_length] at this
  exact this
/-- What the most hulls are: their ids choose a part that fits; no part that fits is greater; all are chosen where all fit. -/
theorem most_law {c : Chamber_} {hs : List Hull_} (hh : hullsF hs = true) : fitsF c (hs.filter fun h => (mostTo c hs (2 ^ hs.length)).elem h.id) = true ∧ (fitsF c hs = true ↔ (mostTo c hs (2 ^ hs.length)).length = hs.length) ∧ (∀ t, t < 2 ^ hs.length → fitM c hs t = true → pop4 t ≤ (mostTo c hs (2 ^ hs.length)).length) ∧ (mostTo c hs (2 ^ hs.length)).length ≤ hs.length := by
  have h4 := (hullsF_iff.1 hh).2.2
  have hp := asc_pair (hullsF_iff.1 hh).2.1
  have h16 := two16 h4
  obtain ⟨⟨s, h1, h2, h3⟩, hmax⟩ := most_spec (c := c) (hs := hs) (2 ^ hs.length)
  have hs2 : s < 2 ^ hs.length := by omega
  have hlen := idsM_len h4 hs2
  have hsub := chosen_sub hs s
  have hle : (idsM hs s).length ≤ hs.length := by have := hsub.length_le; simpa [idsM, idsF] using this
  refine ⟨?_, ⟨fun hf => ?_, fun he => ?_⟩, fun t ht hf => ?_, by rw [h2]; exact hle⟩
  · rw [h2, show idsM hs s = idsF (chosen hs s) from rfl, filter_sub hsub hp]; exact h3
  · have hff : fitM c hs (2 ^ hs.length - 1) = true := by rw [fitM, chosen_full]; exact hf
    have h5 := hmax _ (by omega) hff
    have hfu := (full4 ⟨hs.length, by omega⟩).1
    simp only at hfu
    rw [idsM_len h4 (by omega), hfu] at h5
    rw [h2] at h5 ⊢; omega
  · rw [h2, hlen] at he
    have := (full4 ⟨hs.length, by omega⟩).2 ⟨s, by omega⟩ hs2 he
    simp only at this
    rw [this, fitM, chosen_full] at h3; exact h3
  · rw [← idsM_len h4 ht]; exact hmax t ht hf
/-! ### Groups -/
section
variable {fit : Nat → Bool}
theorem grp_ok {s p : Nat} (h : okP fit (grpV fit) s p) (hp : p ≤ s) : 1 ≤ grpV fit s ∧ grpV fit s ≤ grpV fit (s - p) + 1 := by
  have h0 := h.1
  rw [grpV_succ (by omega)]
  rcases bestTo_spec (fit := fit) (grpV fit) s s with ⟨_, h6⟩ | ⟨q, h5, h6, h7, h8⟩
  · exact absurd h (h6 p hp)
  · have := h8 p hp h
    have := h6.2.2.2
    omega
theorem grp_ex {s : Nat} (h0 : 0 < s) (h : 0 ≤ grpV fit s) : ∃ p, p ≤ s ∧ okP fit (grpV fit) s p ∧ grpV fit s = grpV fit (s - p) + 1 := by
  rw [grpV_succ h0] at h ⊢
  rcases bestTo_spec (fit := fit) (grpV fit) s s with ⟨h1, _⟩ | ⟨q, h5, h6, h7, _⟩
  · omega
  · exact ⟨q, h5, h6, h7⟩
theorem pop_sub : ∀ s p : Fin 16, p.1 &&& s.1 = p.1 → pop4 (s.1 - p.1) + pop4 p.1 = pop4 s.1 := by decide +kernel
theorem grp_pop {m N : Nat} (hN : N ≤ 16) (hm : ∀ p, p < N → fit p = true → pop4 p ≤ m) : ∀ s, s < N → 0 ≤ grpV fit s → (pop4 s : Int) ≤ grpV fit s * m := by
  intro s
  induction s using Nat.strongRecOn with
  | ind s ih =>
    intro hs h
    by_cases h0 : s = 0
    · subst h0
      rw [grpV_zero, Int.zero_mul]; decide
    obtain ⟨p, hp, hok, he⟩ := grp_ex (by omega) h
    have h1 := ih (s - p) (by have := hok.1; omega) (by omega) hok.2.2.2
    have h2 := hm p (by omega) hok.2.2.1
    have h3 := pop_sub ⟨s, by omega⟩ ⟨p, by omega⟩ hok.2.1
    simp only at h3
    rw [he, Int.add_mul, Int.one_mul]
    omega
theorem grp_zero {s : Nat} (h : grpV fit s = 0) : s = 0 := by
  rcases Nat.eq_zero_or_pos s with h0 | h0
  · exact h0
  · obtain ⟨p, _, hok, he⟩ := grp_ex (fit := fit) h0 (Int.le_of_eq h.symm)
    have := hok.2.2.2
    omega
end
theorem part4 : ∀ i b : Fin 5, b.1 < i.1 → 0 < 2 ^ i.1 - 2 ^ b.1 ∧ (2 ^ i.1 - 2 ^ b.1) &&& (2 ^ i.1 - 1) = 2 ^ i.1 - 2 ^ b.1 ∧ 2 ^ i.1 - 1 - (2 ^ i.1 - 2 ^ b.1) = 2 ^ b.1 - 1 ∧ 2 ^ i.1 - 2 ^ b.1 ≤ 2 ^ i.1 - 1 ∧ ∀ k : Fin 4, (2 ^ i.1 - 2 ^ b.1).testBit k.1 = (decide (b.1 ≤ k.1) && decide (k.1 < i.1)) := by decide +kernel
theorem chosen_part {hs : List Hull_} {s b i : Nat} (hb : b < i) (hi : i ≤ hs.length) : ∀ n, n ≤ hs.length → (∀ k, k < n → s.testBit k = (decide (b ≤ k) && decide (k < i))) → chosenTo hs s n = (hs.take (min n i)).drop b
  | 0, _, _ => by simp [chosenTo]
  | n + 1, hn, h => by
    have ih := chosen_part hb hi n (by omega) fun k hk => h k (by omega)
    have ht := h n (by omega)
    by_cases h1 : b ≤ n ∧ n < i
    · rw [chosen_yes (by rw [ht]; simp [h1]), ih, Nat.min_eq_left (by omega), Nat.min_eq_left (by omega), List.take_add_one, List.getElem?_eq_getElem (by omega), List.drop_append_of_le_length (by simp; omega), hAt_eq (by omega)]
      rfl
    · rw [chosen_no (by rw [ht]; simp; omega), ih]
      by_cases h2 : n < b
      · rw [List.drop_of_length_le (by simp; omega), List.drop_of_length_le (by simp; omega)]
      · rw [Nat.min_eq_right (by omega), Nat.min_eq_right (by omega)]
theorem fit_part {c : Chamber_} {hs : List Hull_} (h4 : hs.length ≤ 4) {b i : Nat} (hb : b < i) (hi : i ≤ hs.length) : fitM c hs (2 ^ i - 2 ^ b) = fitP c hs b i := by
  have h5 := (part4 ⟨i, by omega⟩ ⟨b, by omega⟩ hb).2.2.2.2
  unfold fitM fitP chosen partH
  rw [chosen_part hb hi hs.length (Nat.le_refl _) fun k hk => h5 ⟨k, by omega⟩, Nat.min_eq_right hi]
theorem fit_single {c : Chamber_} {hs : List Hull_} {i : Nat} (hi : i < hs.length) : fitM c hs (2 ^ i) = fitP c hs i (i + 1) := by
  unfold fitM fitP
  rw [chosen_one hi]
  congr 1
  rw [partH, List.take_add_one, List.getElem?_eq_getElem hi, List.drop_append_of_le_length (by simp; omega), List.drop_of_length_le (by simp; omega), hAt_eq hi]
  rfl
theorem ord_all {fit : Nat → Nat → Bool} : ∀ n, (∀ i, i < n → fit i (i + 1) = true) → ∃ l b out, ordTo fit n = some (l, b, out)
  | 0, _ => ⟨0, 0, [], rfl⟩
  | n + 1, h => by
    obtain ⟨l, b, out, e⟩ := ord_all n fun i hi => h i (by omega)
    cases h2 : fit b (n + 1) with
    | true => exact ⟨_, _, _, ordTo_on e (h n (by omega)) h2⟩
    | false => exact ⟨_, _, _, ordTo_new e (h n (by omega)) h2⟩
theorem ord_some {fit : Nat → Nat → Bool} {n : Nat} (h : ordTo fit n ≠ none) (i : Nat) (hi : i < n) : fit i (i + 1) = true := by
  cases hf : fit i (i + 1) with
  | true => rfl
  | false =>
    have := ordTo_none (ordTo_no hf) (n - i - 1)
    rw [show i + 1 + (n - i - 1) = n by omega] at this
    exact absurd this h
theorem ord_inv {c : Chamber_} {hs : List Hull_} (h4 : hs.length ≤ 4) : ∀ i, i < hs.length → ∀ l b out, ordTo (fitP c hs) (i + 1) = some (l, b, out) → b ≤ i ∧ fitP c hs b (i + 1) = true ∧ 0 ≤ grpV (fitM c hs) (2 ^ b - 1) ∧ grpV (fitM c hs) (2 ^ b - 1) ≤ l ∧ out[i]? = some l
  | 0, hi, l, b, out, h => by
    have hf := ord_some (by rw [h]; exact fun e => by cases e) 0 (by omega)
    have e : ordTo (fitP c hs) 1 = some (0, 0, [] ++ [0]) := ordTo_on (i := 0) rfl hf hf
    rw [e] at h
    simp only [Option.some.injEq, Prod.mk.injEq] at h
    obtain ⟨rfl, rfl, rfl⟩ := h
    have hz : grpV (fitM c hs) (2 ^ 0 - 1) = 0 := grpV_zero
    exact ⟨Nat.le_refl _, hf, by rw [hz]; decide, by rw [hz]; decide, rfl⟩
  | i + 1, hi, l, b, out, h => by
    have hne : ordTo (fitP c hs) (i + 1 + 1) ≠ none := by rw [h]; exact fun e => by cases e
    have hf := ord_some hne (i + 1) (by omega)
    obtain ⟨l', b', out', e⟩ := ord_all (fit := fitP c hs) (i + 1) fun j hj => ord_some hne j (by omega)
    obtain ⟨g1, g2, g3, g4, g5⟩ := ord_inv h4 i (by omega) l' b' out' e
    have hlen := (ordTo_len e).1
    cases h2 : fitP c hs b' (i + 1 + 1) with
    | true =>
      rw [ordTo_on e hf h2] at h
      simp only [Option.some.injEq, Prod.mk.injEq] at h
      obtain ⟨rfl, rfl, rfl⟩ := h
      exact ⟨by omega, h2, g3, g4, by rw [List.getElem?_append_right (by omega), hlen, Nat.sub_self]; rfl⟩
    | false =>
      rw [ordTo_new e hf h2] at h
      simp only [Option.some.injEq, Prod.mk.injEq] at h
      obtain ⟨rfl, rfl, rfl⟩ := h
      obtain ⟨p1, p2, p3, p4, _⟩ := part4 ⟨i + 1, by omega⟩ ⟨b', by omega⟩ (by simp only; omega)
      simp only at p1 p2 p3 p4
      have hok : okP (fitM c hs) (grpV (fitM c hs)) (2 ^ (i + 1) - 1) (2 ^ (i + 1) - 2 ^ b') := ⟨p1, p2, by rw [fit_part h4 (by omega) (by omega)]; exact g2, by rw [p3]; exact g3⟩
      have hg := grp_ok hok p4
      rw [p3] at hg
      exact ⟨Nat.le_refl _, hf, by omega, by omega, by rw [List.getElem?_append_right (by omega), hlen, Nat.sub_self]; rfl⟩
/-- Both are told for the same hulls. -/
theorem few_ord (c : Chamber_) (hs : List Hull_) : (fewR c hs).2 = (ordF c hs).isSome := by
  cases hc : chF c with
  | false => rw [fewR_no (.inl hc), ordF_no (.inl hc)]; rfl
  | true =>
    cases hh : hullsF hs with
    | false => rw [fewR_no (.inr (.inl hh)), ordF_no (.inr hh)]; rfl
    | true =>
      have h4 := (hullsF_iff.1 hh).2.2
      rw [ordF_yes hc hh]
      cases ho : oneB (fitM c hs) (2 ^ hs.length - 1) with
      | true =>
        rw [fewR_yes hc hh ho]
        obtain ⟨l, b, out, e⟩ := ord_all (fit := fitP c hs) hs.length fun i hi => by
          rw [← fit_single hi]
          exact oneB_iff.1 ho i (by omega) (by rw [Nat.testBit_two_pow_sub_one]; simpa using hi)
        rw [e]; rfl
      | false =>
        rw [fewR_no (.inr (.inr ho))]
        cases e : ordTo (fitP c hs) hs.length with
        | none => rfl
        | some x =>
          exfalso
          have : oneB (fitM c hs) (2 ^ hs.length - 1) = true := oneB_iff.2 fun i hi ht => by
            rw [Nat.testBit_two_pow_sub_one] at ht
            have hi' : i < hs.length := by simpa using ht
            rw [fit_single hi']
            exact ord_some (by rw [e]; exact fun h => by cases h) i hi'
          rw [ho] at this; cases this
/-- The fewest lockages against those in order and against the most hulls. -/
theorem few_law {c : Chamber_} {hs : List Hull_} {out : List Nat} (h : ordF c hs = some out) (h0 : 0 < out.length) : chF c = true ∧ hullsF hs = true ∧ out.length = hs.length ∧ (fewR c hs).2 = true ∧ (∃ x, out[out.length - 1]? = some x ∧ (fewR c hs).1 ≤ x + 1 ∧ x ≤ 4) ∧ 1 ≤ (fewR c hs).1 ∧ (fewR c hs).1 ≤ 4 ∧ (out.length : Int) ≤ (fewR c hs).1 * ((mostTo c hs (2 ^ hs.length)).length : Int) ∧ ((fewR c hs).1 = 1 ↔ (mostTo c hs (2 ^ hs.length)).length = out.length) := by
  have hcd := few_ord c hs
  rw [h] at hcd
  cases hc : chF c with
  | false => rw [ordF_no (.inl hc)] at h; cases h
  | true =>
    cases hh : hullsF hs with
    | false => rw [ordF_no (.inr hh)] at h; cases h
    | true =>
      have h4 := (hullsF_iff.1 hh).2.2
      have h16 := two16 h4
      have ho : oneB (fitM c hs) (2 ^ hs.length - 1) = true := by
        cases ho : oneB (fitM c hs) (2 ^ hs.length - 1) with
        | true => rfl
        | false => rw [fewR_no (.inr (.inr ho))] at hcd; cases hcd
      have hfew := fewR_yes hc hh ho
      have hgo := grpV_ok (fit := fitM c hs) (2 ^ hs.length - 1) (by omega) ho
      have hpl := pop4_le (2 ^ hs.length - 1)
      rw [ordF_yes hc hh] at h
      cases e : ordTo (fitP c hs) hs.length with
      | none => rw [e] at h; cases h
      | some x =>
        obtain ⟨l, b, out'⟩ := x
        rw [e] at h
        simp only [Option.map_some, Option.some.injEq] at h
        subst h
        have hlen := (ordTo_len e).1
        obtain ⟨m1, m2, m3, m4⟩ := most_law (c := c) hh
        obtain ⟨n, hn⟩ : ∃ n, hs.length = n + 1 := ⟨hs.length - 1, by omega⟩
        have e' := e
        rw [hn] at e'
        obtain ⟨g1, g2, g3, g4, g5⟩ := ord_inv h4 n (by omega) l b out' e'
        obtain ⟨p1, p2, p3, p4, _⟩ := part4 ⟨n + 1, by omega⟩ ⟨b, by omega⟩ (by simp only; omega)
        simp only at p1 p2 p3 p4
        have hok : okP (fitM c hs) (grpV (fitM c hs)) (2 ^ (n + 1) - 1) (2 ^ (n + 1) - 2 ^ b) := ⟨p1, p2, by rw [fit_part h4 (by omega) (by omega)]; exact g2, by rw [p3]; exact g3⟩
        have hg := grp_ok hok p4
        rw [p3, ← hn] at hg
        have hpop := grp_pop (fit := fitM c hs) (m := (mostTo c hs (2 ^ hs.length)).length) h16.2 m3 (2 ^ hs.length - 1) (by omega) hgo.1
        have hfu := (full4 ⟨hs.length, by omega⟩).1
        simp only at hfu
        rw [hfu] at hpop
        rw [hfew]
        refine ⟨rfl, rfl, hlen, rfl, ⟨l, by rw [hlen, hn]; exact g5, by dsimp only; omega, by have := (ordTo_len e).2.2; omega⟩, by dsimp only; omega, by dsimp only; omega, by rw [hlen]; exact hpop, ?_, ?_⟩
        · intro h1
          dsimp only at h1
          obtain ⟨p, hp, hokp, he⟩ := grp_ex (fit := fitM c hs) (s := 2 ^ hs.length - 1) (by rw [hn]; have := Nat.one_lt_two_pow (n := n + 1) (by omega); omega) hgo.1
          have hz := grp_zero (fit := fitM c hs) (s := 2 ^ hs.length - 1 - p) (by omega)
          obtain rfl : p = 2 ^ hs.length - 1 := by omega
          have hff := hokp.2.2.1
          rw [fitM, chosen_full] at hff
          rw [hlen]; exact m2.1 hff
        · intro h1
          rw [hlen] at h1
          have hff := m2.2 h1
          have hpos : 0 < 2 ^ hs.length - 1 := by rw [hn]; have := Nat.one_lt_two_pow (n := n + 1) (by omega); omega
          have hok2 : okP (fitM c hs) (grpV (fitM c hs)) (2 ^ hs.length - 1) (2 ^ hs.length - 1) := ⟨hpos, Nat.and_self _, by rw [fitM, chosen_full]; exact hff, by rw [Nat.sub_self, grpV_zero]; decide⟩
          have := grp_ok hok2 (Nat.le_refl _)
          rw [Nat.sub_self, grpV_zero] at this
          dsimp only; omega
/-! ### Shifts -/
theorem shift_back {c : Chamber_} {hs : List Hull_} {ss out : List Spot_} {b : Int} (h : shR c hs ss b = some out) : shR c hs out (-b) = some ss ∧ askB c hs out = true ∧ askB c hs ss = true ∧ -6 ≤ b ∧ b ≤ 6 := by
  unfold shR at h
  split at h
  · rename_i hq
    obtain ⟨h1, h2, h3⟩ := hq
    injection h with h
    subst h
    have ha : askB c hs (shiftL ss b) = true := by rw [ask_shift h1]; exact h3
    have hb := inB_iff.1 h2
    have e : shiftL (shiftL ss b) (-b) = ss := by
      unfold shiftL
      rw [List.map_map]
      conv => rhs; rw [← List.map_id ss]
      refine List.map_congr_left fun x _ => ?_
      simp only [Function.comp, id]
      cases x; simp only [Spot_.mk.injEq, and_true]; omega
    have hp : packB c hs ss = true := by
      simp only [askB, Bool.and_eq_true] at h1; exact h1.2
    refine ⟨?_, ha, h1, hb⟩
    rw [shR_yes ha (inB_iff.2 (by omega)) (by rw [e]; exact hp), e]
  · cases h
end Go.Proofs.Ythmaiahllhgdpaa
