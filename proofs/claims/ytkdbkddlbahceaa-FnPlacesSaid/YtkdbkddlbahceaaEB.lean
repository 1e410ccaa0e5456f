/- The abstract machine: more of what does not look at the world, taken first in a drawn region. -/
import Derived.Test.YtkdbkddlbahceaaEW

namespace Go.Proofs.Ytkdbkddlbahceaa
open Go.RowKit
set_option linter.unusedVariables false
set_option linter.unusedSimpArgs false
section
variable {P : Program} {σ : AS}
theorem qAll3 {o : Op} {x : AV} (h : QAll P o σ x := by first | (first | exact qa_move | exact qa_assign | (apply qa_ext; exact rfl; exact rfl) | (apply qa_fieldAddr; kernel_rfl; exact rfl) | (apply qa_fieldAddr_e; kernel_rfl; exact rfl) | ((first | apply qa_add | apply qa_sub); exact rfl; exact rfl; omega) | (apply qa_indexAddr_o; kernel_rfl; exact rfl; exact rfl; omega; (focus (first | omega | (simp; done) | (simp; omega)))) | (apply qa_int; exact rfl; exact rfl; exact rfl)) | fail) : QAll P o σ x := h
variable {w0 : World} {m0 : Gv} {l : List Oper} {Q : Exit → AS → Prop} {listed : List Bool}
/-- The steps of those that may come up, named. -/
theorem at_ready {rs : List Nat} (hr : Region.ready .any l.toArray listed.toArray = rs) (hne : rs.isEmpty = false) (h : ∀ i ∈ rs, ∃ oi, l[i]? = some oi ∧ AR P w0 m0 l.toArray (fun e τ => e = .normal ∧ AT P w0 m0 l Q [] (listed.set i true) τ) [oi] σ) : AT P w0 m0 l Q [] listed σ := by
  have key : ∀ cand, ATs P w0 m0 l Q listed σ cand := fun cand => by
    induction cand with
    | nil => exact ats_nil
    | cons i cand ih =>
      cases hc : (Region.ready .any l.toArray listed.toArray).contains i with
      | false => exact ats_no hc ih
      | true =>
        have hi : i ∈ rs := by rw [hr] at hc; simpa using hc
        obtain ⟨oi, h1, h2⟩ := h i hi
        exact ats_yes h1 h2 ih
  exact at_all rfl (by rw [hr]; exact hne) (key _)
theorem at_r1 (i : Nat) (hr : Region.ready .any l.toArray listed.toArray = [i]) {oi : Oper} (hi : l[i]? = some oi) (h : AR P w0 m0 l.toArray (fun e τ => e = .normal ∧ AT P w0 m0 l Q [] (listed.set i true) τ) [oi] σ) : AT P w0 m0 l Q [] listed σ :=
  at_ready hr rfl fun k hk => by
    obtain rfl : k = i := by simpa using hk
    exact ⟨oi, hi, h⟩
theorem at_r2 (i j : Nat) (hr : Region.ready .any l.toArray listed.toArray = [i, j]) {oi oj : Oper} (hi : l[i]? = some oi) (hj : l[j]? = some oj) (h1 : AR P w0 m0 l.toArray (fun e τ => e = .normal ∧ AT P w0 m0 l Q [] (listed.set i true) τ) [oi] σ) (h2 : AR P w0 m0 l.toArray (fun e τ => e = .normal ∧ AT P w0 m0 l Q [] (listed.set j true) τ) [oj] σ) : AT P w0 m0 l Q [] listed σ :=
  at_ready hr rfl fun k hk => by
    rcases (by simpa using hk : k = i ∨ k = j) with rfl | rfl
    · exact ⟨oi, hi, h1⟩
    · exact ⟨oj, hj, h2⟩
theorem at_r3 (i j n : Nat) (hr : Region.ready .any l.toArray listed.toArray = [i, j, n]) {oi oj on : Oper} (hi : l[i]? = some oi) (hj : l[j]? = some oj) (hn : l[n]? = some on) (h1 : AR P w0 m0 l.toArray (fun e τ => e = .normal ∧ AT P w0 m0 l Q [] (listed.set i true) τ) [oi] σ) (h2 : AR P w0 m0 l.toArray (fun e τ => e = .normal ∧ AT P w0 m0 l Q [] (listed.set j true) τ) [oj] σ) (h3 : AR P w0 m0 l.toArray (fun e τ => e = .normal ∧ AT P w0 m0 l Q [] (listed.set n true) τ) [on] σ) : AT P w0 m0 l Q [] listed σ :=
  at_ready hr rfl fun k hk => by
    rcases (by simpa using hk : k = i ∨ k = j ∨ k = n) with rfl | rfl | rfl
    · exact ⟨oi, hi, h1⟩
    · exact ⟨oj, hj, h2⟩
    · exact ⟨on, hn, h3⟩
theorem at_r4 (i j n p : Nat) (hr : Region.ready .any l.toArray listed.toArray = [i, j, n, p]) {oi oj on op : Oper} (hi : l[i]? = some oi) (hj : l[j]? = some oj) (hn : l[n]? = some on) (hp : l[p]? = some op) (h1 : AR P w0 m0 l.toArray (fun e τ => e = .normal ∧ AT P w0 m0 l Q [] (listed.set i true) τ) [oi] σ) (h2 : AR P w0 m0 l.toArray (fun e τ => e = .normal ∧ AT P w0 m0 l Q [] (listed.set j true) τ) [oj] σ) (h3 : AR P w0 m0 l.toArray (fun e τ => e = .normal ∧ AT P w0 m0 l Q [] (listed.set n true) τ) [on] σ) (h4 : AR P w0 m0 l.toArray (fun e τ => e = .normal ∧ AT P w0 m0 l Q [] (listed.set p true) τ) [op] σ) : AT P w0 m0 l Q [] listed σ :=
  at_ready hr rfl fun k hk => by
    rcases (by simpa using hk : k = i ∨ k = j ∨ k = n ∨ k = p) with rfl | rfl | rfl | rfl
    · exact ⟨oi, hi, h1⟩
    · exact ⟨oj, hj, h2⟩
    · exact ⟨on, hn, h3⟩
    · exact ⟨op, hp, h4⟩
end
end Go.Proofs.Ytkdbkddlbahceaa
