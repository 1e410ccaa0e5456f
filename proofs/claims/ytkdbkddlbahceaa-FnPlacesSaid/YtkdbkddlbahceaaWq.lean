/- Places on a waterway, plain: the way back passes the same locks in reverse order, minutes on the way add up. -/
import Derived.Test.YtkdbkddlbahceaaWf
import Derived.Test.YtkdbkddlbahceaaWn
namespace Go.Proofs.Ytkdbkddlbahceaa
open Go.RowKit
set_option linter.unusedVariables false
theorem upL_at (a : Nat) : ∀ n i, i < n → (upL a n)[i]? = some ((a : Int) + i)
  | n + 1, i, h => by
    rw [upL]
    by_cases hi : i < n
    · rw [List.getElem?_append_left (by rw [upL_len]; exact hi), upL_at a n i hi]
    · have : i = n := by omega
      subst this
      rw [List.getElem?_append_right (by rw [upL_len]; exact Nat.le_refl _), upL_len]
      simp
theorem dnL_at (a : Nat) : ∀ n i, i < n → (dnL a n)[i]? = some ((a : Int) - 1 - i)
  | n + 1, i, h => by
    rw [dnL]
    by_cases hi : i < n
    · rw [List.getElem?_append_left (by rw [dnL_len]; exact hi), dnL_at a n i hi]
    · have : i = n := by omega
      subst this
      rw [List.getElem?_append_right (by rw [dnL_len]; exact Nat.le_refl _), dnL_len]
      simp
theorem locks_len (x : Way_) (f t : Int) : (locksF x f t).length = (atL x.rs t - atL x.rs f) + (atL x.rs f - atL x.rs t) := by
  simp [locksF, upL_len, dnL_len]
theorem locks_back_len (x : Way_) (f t : Int) : (locksF x t f).length = (locksF x f t).length := by
  rw [locks_len, locks_len]; omega
theorem locks_at (x : Way_) (f t : Int) (i : Nat) (h : i < (locksF x f t).length) : (locksF x f t)[i]? = some (if atL x.rs f ≤ atL x.rs t then (atL x.rs f : Int) + i else (atL x.rs f : Int) - 1 - i) := by
  rw [locks_len] at h
  by_cases hc : atL x.rs f ≤ atL x.rs t
  · rw [if_pos hc, locksF, List.getElem?_append_left (by rw [upL_len]; omega), upL_at _ _ _ (by omega)]
  · have e : atL x.rs t - atL x.rs f = 0 := by omega
    rw [if_neg hc, locksF, e, upL, List.nil_append, dnL_at _ _ _ (by omega)]
/-- The i-th lock of the way is the i-th from behind on the way back. -/
theorem locks_back (x : Way_) (f t : Int) (i : Nat) (h : i < (locksF x f t).length) : (locksF x t f)[(locksF x t f).length - 1 - i]? = (locksF x f t)[i]? := by
  have h' : (locksF x t f).length - 1 - i < (locksF x t f).length := by rw [locks_back_len]; omega
  rw [locks_at x t f _ h', locks_at x f t i h, locks_back_len]
  rw [locks_len] at h ⊢
  congr 1
  split <;> split <;> omega
/-! ### Minutes -/
def prV (v : Nat → Nat) : Nat → Nat
  | 0 => 1
  | i + 1 => prV v i * v i
def smV (p v : Nat → Nat) : Nat → Nat
  | 0 => 0
  | i + 1 => smV p v i * v i + 60 * p i * prV v i
theorem prV_pos {v : Nat → Nat} : ∀ {i}, (∀ j, j < i → 0 < v j) → 0 < prV v i
  | 0, _ => by simp [prV]
  | i + 1, h => Nat.mul_pos (prV_pos fun j hj => h j (by omega)) (h i (by omega))
theorem smV_add (p q v : Nat → Nat) : ∀ i, smV (fun j => p j + q j) v i = smV p v i + smV q v i
  | 0 => rfl
  | i + 1 => by simp only [smV, smV_add p q v i, Nat.mul_add, Nat.add_mul]; omega
theorem smV_congr {p q v : Nat → Nat} : ∀ {i}, (∀ j, j < i → p j = q j) → smV p v i = smV q v i
  | 0, _ => rfl
  | i + 1, h => by simp only [smV, smV_congr fun j (hj : j < i) => h j (by omega), h i (by omega)]
/-- What the fraction behind i reaches is worth. -/
theorem frF_val {x : Way_} (hw : wayF x = true) (lo hi sp : Int) (h1 : 1 ≤ sp) (h2 : sp ≤ 20) : ∀ i, i ≤ x.rs.length → (frF x lo hi sp i).1 * prV (fun j => (vF x sp j).toNat) i = smV (fun j => (partF x lo hi j).toNat) (fun j => (vF x sp j).toNat) i * (frF x lo hi sp i).2
  | 0, _ => rfl
  | i + 1, h => by
    have ih := frF_val hw lo hi sp h1 h2 i (by omega)
    have hv := v_bd hw (i := i) (by omega) h1 h2
    have hf := frF_ok hw lo hi sp h1 h2 i (by omega)
    simp only [frF, prV, smV]
    generalize (frF x lo hi sp i).1 = a at *
    generalize (frF x lo hi sp i).2 = b at *
    generalize (partF x lo hi i).toNat = p at *
    generalize smV (fun j => (partF x lo hi j).toNat) (fun j => (vF x sp j).toNat) i = S at *
    generalize prV (fun j => (vF x sp j).toNat) i = V at *
    have hv0 : 0 < (vF x sp i).toNat := by omega
    generalize (vF x sp i).toNat = v at *
    have hb := hf.pos
    have hg : 0 < Nat.gcd (a * v + 60 * p * b) (b * v) := Nat.gcd_pos_of_pos_right _ (Nat.mul_pos hb hv0)
    have eA : Nat.gcd (a * v + 60 * p * b) (b * v) * stepA a b p v = a * v + 60 * p * b := Nat.mul_div_cancel' (Nat.gcd_dvd_left _ _)
    have eB : Nat.gcd (a * v + 60 * p * b) (b * v) * stepB a b p v = b * v := Nat.mul_div_cancel' (Nat.gcd_dvd_right _ _)
    generalize Nat.gcd (a * v + 60 * p * b) (b * v) = g at *
    generalize stepA a b p v = A at *
    generalize stepB a b p v = B at *
    refine Nat.eq_of_mul_eq_mul_left hg ?_
    rw [← Nat.mul_assoc, eA]
    have e2 : g * ((S * v + 60 * p * V) * B) = (S * v + 60 * p * V) * (g * B) := by ac_rfl
    rw [e2, eB, Nat.add_mul, Nat.add_mul]
    have e3 : a * v * (V * v) = (a * V) * (v * v) := by ac_rfl
    have e4 : S * v * (b * v) = (S * b) * (v * v) := by ac_rfl
    have e5 : 60 * p * b * (V * v) = 60 * p * V * (b * v) := by ac_rfl
    rw [e3, e4, e5, ih]
theorem begF_mono {x : Way_} (hw : wayF x = true) {i : Nat} (hi : i < x.rs.length) : begF x i ≤ begF x (i + 1) := by
  have := begF_succ hi
  have := way_rs hw hi
  omega
theorem part_add {x : Way_} (hw : wayF x = true) {i : Nat} (hi : i < x.rs.length) {lo md hi' : Int} (h1 : lo ≤ md) (h2 : md ≤ hi') : (partF x lo hi' i).toNat = (partF x lo md i).toNat + (partF x md hi' i).toNat := by
  have := begF_mono hw hi
  unfold partF
  omega
/-- Minutes add up. -/
theorem fr_add {x : Way_} (hw : wayF x = true) {lo md hi sp : Int} (h1 : 1 ≤ sp) (h2 : sp ≤ 20) (h3 : lo ≤ md) (h4 : md ≤ hi) : ((frF x lo md sp x.rs.length).1 * (frF x md hi sp x.rs.length).2 + (frF x md hi sp x.rs.length).1 * (frF x lo md sp x.rs.length).2) * (frF x lo hi sp x.rs.length).2 = (frF x lo hi sp x.rs.length).1 * (frF x lo md sp x.rs.length).2 * (frF x md hi sp x.rs.length).2 := by
  have e1 := frF_val hw lo md sp h1 h2 _ (Nat.le_refl _)
  have e2 := frF_val hw md hi sp h1 h2 _ (Nat.le_refl _)
  have e3 := frF_val hw lo hi sp h1 h2 _ (Nat.le_refl _)
  have hS : smV (fun j => (partF x lo hi j).toNat) (fun j => (vF x sp j).toNat) x.rs.length = smV (fun j => (partF x lo md j).toNat) (fun j => (vF x sp j).toNat) x.rs.length + smV (fun j => (partF x md hi j).toNat) (fun j => (vF x sp j).toNat) x.rs.length := by
    rw [← smV_add]
    exact smV_congr fun j hj => part_add hw hj h3 h4
  have hV : 0 < prV (fun j => (vF x sp j).toNat) x.rs.length := prV_pos fun j hj => by
    have := v_bd hw hj h1 h2
    omega
  rw [hS] at e3
  generalize smV (fun j => (partF x lo md j).toNat) (fun j => (vF x sp j).toNat) x.rs.length = S1 at *
  generalize smV (fun j => (partF x md hi j).toNat) (fun j => (vF x sp j).toNat) x.rs.length = S2 at *
  generalize prV (fun j => (vF x sp j).toNat) x.rs.length = V at *
  generalize (frF x lo md sp x.rs.length).1 = n at *
  generalize (frF x lo md sp x.rs.length).2 = d at *
  generalize (frF x md hi sp x.rs.length).1 = m at *
  generalize (frF x md hi sp x.rs.length).2 = e at *
  generalize (frF x lo hi sp x.rs.length).1 = a at *
  generalize (frF x lo hi sp x.rs.length).2 = b at *
  refine Nat.eq_of_mul_eq_mul_left hV ?_
  have t1 : V * ((n * e + m * d) * b) = ((n * V) * e + (m * V) * d) * b := by
    simp only [Nat.add_mul, Nat.mul_add]
    congr 1 <;> ac_rfl
  have t2 : V * (a * d * e) = (a * V) * d * e := by ac_rfl
  rw [t1, t2, e1, e2, e3]
  simp only [Nat.add_mul]
  congr 1 <;> ac_rfl
/-! ### The same in machine words -/
theorem wr_form (n : Int) : IntKind.i64.wrap n = (n + 9223372036854775808) % 18446744073709551616 - 9223372036854775808 := by
  unfold IntKind.wrap
  simp [IntKind.signed, IntKind.bits]
  omega
theorem wr_mod (n : Int) : ∃ q, IntKind.i64.wrap n = n + 18446744073709551616 * q := ⟨-((n + 9223372036854775808) / 18446744073709551616), by rw [wr_form]; omega⟩
theorem wr_same {x y q : Int} (h : x = y + 18446744073709551616 * q) : IntKind.i64.wrap x = IntKind.i64.wrap y := by rw [wr_form, wr_form, h]; omega
theorem wr_law {n e m d b a : Nat} (h : (n * e + m * d) * b = a * d * e) : IntKind.i64.wrap (IntKind.i64.wrap (IntKind.i64.wrap ((n : Int) * e) + IntKind.i64.wrap ((m : Int) * d)) * b) = IntKind.i64.wrap (IntKind.i64.wrap ((a : Int) * d) * e) := by
  have h' : ((n : Int) * e + m * d) * b = (a : Int) * d * e := by exact_mod_cast h
  obtain ⟨q1, h1⟩ := wr_mod ((n : Int) * e)
  obtain ⟨q2, h2⟩ := wr_mod ((m : Int) * d)
  rw [h1, h2]
  obtain ⟨q3, h3⟩ := wr_mod ((n : Int) * e + 18446744073709551616 * q1 + ((m : Int) * d + 18446744073709551616 * q2))
  obtain ⟨q4, h4⟩ := wr_mod ((a : Int) * d)
  rw [h3, h4]
  refine wr_same (q := (q1 + q2 + q3) * b - q4 * e) ?_
  rw [Int.add_mul (a * d : Int), ← h']
  simp only [Int.add_mul, Int.mul_sub, Int.mul_add, Int.mul_assoc]
  omega
end Go.Proofs.Ytkdbkddlbahceaa
