/- The plain law of covered cells: the hulls of a packing cover as many cells as their areas are. -/
import Derived.Test.YthmaiahllhgdpaaCb


namespace Go.Proofs.Ythmaiahllhgdpaa
open Go.RowKit
set_option linter.unusedVariables false
set_option linter.unusedSimpArgs false
def sumN (f : Nat → Nat) : Nat → Nat
  | 0 => 0
  | n + 1 => sumN f n + f n
theorem sumN_add (f g : Nat → Nat) : ∀ n, sumN (fun a => f a + g a) n = sumN f n + sumN g n
  | 0 => rfl
  | n + 1 => by simp only [sumN, sumN_add f g n]; omega
theorem sumN_congr {f g : Nat → Nat} : ∀ {n}, (∀ a, a < n → f a = g a) → sumN f n = sumN g n
  | 0, _ => rfl
  | n + 1, h => by simp only [sumN]; rw [sumN_congr fun a ha => h a (by omega), h n (by omega)]
theorem sumN_mul (k : Nat) (f : Nat → Nat) : ∀ n, sumN (fun a => f a * k) n = sumN f n * k
  | 0 => by simp [sumN]
  | n + 1 => by simp only [sumN, sumN_mul k f n, Nat.add_mul]
theorem sumN_mul' (k : Nat) (f : Nat → Nat) : ∀ n, sumN (fun a => k * f a) n = k * sumN f n
  | 0 => by simp [sumN]
  | n + 1 => by simp only [sumN, sumN_mul' k f n, Nat.mul_add]
theorem sumN_zero : ∀ n, sumN (fun _ => 0) n = 0
  | 0 => rfl
  | n + 1 => by simp only [sumN, sumN_zero n]
theorem sumN_le {f : Nat → Nat} {k : Nat} : ∀ {n}, (∀ a, a < n → f a ≤ k) → sumN f n ≤ n * k
  | 0, _ => by simp [sumN]
  | n + 1, h => by
    have h1 := sumN_le (n := n) fun a ha => h a (by omega)
    have h2 := h n (by omega)
    simp only [sumN, Nat.add_mul]; omega
def itv (s h a : Nat) : Nat := if s ≤ a ∧ a < s + h then 1 else 0
theorem sum_itv (s h : Nat) : ∀ n, sumN (itv s h) n = min n (s + h) - min n s
  | 0 => by simp [sumN]
  | n + 1 => by
    simp only [sumN, sum_itv s h n, itv]
    split <;> omega
/-- The cell (a, d) is in a hull at a spot. -/
def inR (h : Hull_) (s : Spot_) (a d : Nat) : Bool := meetB h s ⟨0, 1, 1⟩ ⟨(a : Int), (d : Int)⟩
theorem inR_iff {h : Hull_} {s : Spot_} {a d : Nat} : inR h s a d = true ↔ (s.at_ ≤ a ∧ (a : Int) < s.at_ + h.ln) ∧ (s.sd ≤ d ∧ (d : Int) < s.sd + h.wd) := by
  rw [inR, meetB_iff]; constructor <;> (rintro ⟨_, _⟩; simp_all; omega)
theorem inR_apart {h h' : Hull_} {s s' : Spot_} (hm : meetB h s h' s' = false) {a d : Nat} (h1 : inR h s a d = true) (h2 : inR h' s' a d = true) : False := by
  rw [inR_iff] at h1 h2
  have : meetB h s h' s' = true := meetB_iff.2 (by omega)
  rw [hm] at this; cases this
def covM (hs : List Hull_) (ss : List Spot_) (m a d : Nat) : Bool := (List.range m).any fun i => inR (hAt hs i) (sAt ss i) a d
theorem covM_succ (hs : List Hull_) (ss : List Spot_) (m a d : Nat) : covM hs ss (m + 1) a d = (covM hs ss m a d || inR (hAt hs m) (sAt ss m) a d) := by
  simp [covM, List.range_succ]
def grid (L W : Nat) (f : Nat → Nat → Nat) : Nat := sumN (fun a => sumN (f a) W) L
theorem grid_rect {c : Chamber_} {h : Hull_} {s : Spot_} (hh : (1 ≤ h.ln ∧ h.ln ≤ 6) ∧ (1 ≤ h.wd ∧ h.wd ≤ 3)) (hi : insB c h s = true) : grid c.ln.toNat c.wd.toNat (fun a d => (inR h s a d).toNat) = h.ln.toNat * h.wd.toNat := by
  have hb := insB_iff.1 hi
  have e : ∀ a d, (inR h s a d).toNat = itv s.at_.toNat h.ln.toNat a * itv s.sd.toNat h.wd.toNat d := fun a d => by
    cases hr : inR h s a d with
    | true =>
      have := inR_iff.1 hr
      rw [itv, itv, if_pos (by omega), if_pos (by omega)]; rfl
    | false =>
      have hn : ¬ ((s.at_ ≤ a ∧ (a : Int) < s.at_ + h.ln) ∧ (s.sd ≤ d ∧ (d : Int) < s.sd + h.wd)) := fun hx => by rw [inR_iff.2 hx] at hr; cases hr
      by_cases h1 : s.at_.toNat ≤ a ∧ a < s.at_.toNat + h.ln.toNat
      · rw [itv, itv, if_pos h1, if_neg (by omega)]; rfl
      · rw [itv, if_neg h1, Nat.zero_mul]; rfl
  have e2 : grid c.ln.toNat c.wd.toNat (fun a d => (inR h s a d).toNat) = sumN (fun a => itv s.at_.toNat h.ln.toNat a * sumN (itv s.sd.toNat h.wd.toNat) c.wd.toNat) c.ln.toNat := by
    unfold grid
    refine sumN_congr fun a _ => ?_
    rw [← sumN_mul']
    exact sumN_congr fun d _ => e a d
  rw [e2, sumN_mul, sum_itv, sum_itv]
  rw [show min c.ln.toNat (s.at_.toNat + h.ln.toNat) - min c.ln.toNat s.at_.toNat = h.ln.toNat by omega, show min c.wd.toNat (s.sd.toNat + h.wd.toNat) - min c.wd.toNat s.sd.toNat = h.wd.toNat by omega]
def areaM (hs : List Hull_) : Nat → Nat
  | 0 => 0
  | m + 1 => areaM hs m + (hAt hs m).ln.toNat * (hAt hs m).wd.toNat
theorem covered {c : Chamber_} {hs : List Hull_} {ss : List Spot_} (hok : ∀ i, i < ss.length → (1 ≤ (hAt hs i).ln ∧ (hAt hs i).ln ≤ 6) ∧ (1 ≤ (hAt hs i).wd ∧ (hAt hs i).wd ≤ 3)) (hp : packB c hs ss = true) : ∀ m, m ≤ ss.length → grid c.ln.toNat c.wd.toNat (fun a d => (covM hs ss m a d).toNat) = areaM hs m
  | 0, _ => by
    unfold grid
    rw [show (fun a => sumN ((fun a d => (covM hs ss 0 a d).toNat) a) c.wd.toNat) = fun _ => 0 from funext fun a => by simp [covM, sumN_zero], sumN_zero]; rfl
  | m + 1, h => by
    have ih := covered hok hp m (by omega)
    have hf := fitB_iff.1 (packB_iff.1 hp m (by omega))
    have hr := grid_rect (c := c) (hok m (by omega)) hf.1
    have e : ∀ a d, (covM hs ss (m + 1) a d).toNat = (covM hs ss m a d).toNat + (inR (hAt hs m) (sAt ss m) a d).toNat := fun a d => by
      rw [covM_succ]
      cases h1 : covM hs ss m a d with
      | false => simp
      | true =>
        cases h2 : inR (hAt hs m) (sAt ss m) a d with
        | false => rfl
        | true =>
          obtain ⟨i, hi, hx⟩ := List.any_eq_true.1 h1
          exact (inR_apart (hf.2 i (by simpa using hi)) h2 hx).elim
    simp only [grid] at ih hr
    show sumN (fun a => sumN (fun d => (covM hs ss (m + 1) a d).toNat) c.wd.toNat) c.ln.toNat = areaM hs (m + 1)
    rw [show (fun a => sumN (fun d => (covM hs ss (m + 1) a d).toNat) c.wd.toNat) = fun a => sumN (fun d => (covM hs ss m a d).toNat) c.wd.toNat + sumN (fun d => (inR (hAt hs m) (sAt ss m) a d).toNat) c.wd.toNat from funext fun a => by
      rw [← sumN_add]; exact congrArg (fun f => sumN f c.wd.toNat) (funext fun d => e a d)]
    rw [sumN_add, ih, hr]; rfl
theorem grid_le (L W : Nat) (f : Nat → Nat → Bool) : grid L W (fun a d => (f a d).toNat) ≤ L * W := by
  unfold grid
  refine sumN_le fun a _ => ?_
  refine Nat.le_trans (sumN_le (k := 1) fun d _ => ?_) (by omega)
  show (f a d).toNat ≤ 1
  cases f a d <;> decide
end Go.Proofs.Ythmaiahllhgdpaa
