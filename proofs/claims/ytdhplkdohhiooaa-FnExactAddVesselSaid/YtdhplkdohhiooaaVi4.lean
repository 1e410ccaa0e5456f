/- The abstract machine: slices.Insert of one vessel into an own row. -/
import Derived.Test.YtdhplkdohhiooaaVi3
import Derived.Test.YtdhplkdohhiooaaE9
namespace Go.Proofs.Ytdhplkdohhiooaa
open Go.Lib Go.RowKit
set_option linter.unusedVariables false
set_option linter.unusedSimpArgs false
theorem take_flat {s : Nat} : ∀ (xs : List (List Value)) (h : Nat), (∀ v ∈ xs, v.length = s) → h ≤ xs.length → (xs.take h).flatten = xs.flatten.take (h * s)
  | xs, 0, _, _ => by simp
  | [], h + 1, _, hh => by simp at hh
  | x :: xs, h + 1, hl, hh => by
    have hx := hl x (by simp)
    have ih := take_flat xs h (fun v hv => hl v (List.mem_cons_of_mem _ hv)) (by simpa using hh)
    have e1 : List.take (s + h * s) x = x := List.take_of_length_le (by omega)
    rw [List.take_succ_cons, List.flatten_cons, List.flatten_cons, ih, Nat.add_mul, Nat.one_mul, Nat.add_comm (h * s) s, List.take_append, e1, hx, show s + h * s - s = h * s by omega]
theorem drop_flat {s : Nat} : ∀ (xs : List (List Value)) (h : Nat), (∀ v ∈ xs, v.length = s) → h ≤ xs.length → (xs.drop h).flatten = xs.flatten.drop (h * s)
  | xs, 0, _, _ => by simp
  | [], h + 1, _, hh => by simp at hh
  | x :: xs, h + 1, hl, hh => by
    have hx := hl x (by simp)
    have ih := drop_flat xs h (fun v hv => hl v (List.mem_cons_of_mem _ hv)) (by simpa using hh)
    have e1 : List.drop (s + h * s) x = [] := List.drop_of_length_le (by omega)
    rw [List.drop_succ_cons, List.flatten_cons, ih, Nat.add_mul, Nat.one_mul, Nat.add_comm (h * s) s, List.drop_append, e1, hx, List.nil_append, show s + h * s - s = h * s by omega]
section
variable {σ : AS} {w0 : World} {m0 : Gv} {ops : Array Oper} {Q : Exit → AS → Prop} {rest : List Oper} {d : Option Tmp} {ty : TypeId} {pos : String} {af : Array Edge}
theorem ar_insert {s y x : Operand} {k j : Nat} {xs : List (List Value)} {v : List Value} {i : Int} {ts : Array TypeId} (hs : σ.ev s = .c (.sl 31 (.own k) xs)) (hy : σ.ev y = .c (.p (.int .i64 i))) (hx : σ.ev x = .c (.sl 31 (.own j) [v])) (hjk : j ≠ k)
    (h0 : 0 ≤ i) (h1 : i ≤ xs.length) (hbig : xs.length + 1 ≤ 1000000) (hok : okE xs) (hokv : okE [v]) (hl0 : m0.l = [])
    (h : AR Try.prog w0 m0 ops Q rest ((σ.drp k).put d (.c (.sl 31 (.own k) (xs.take i.toNat ++ [v] ++ xs.drop i.toNat))))) : AR Try.prog w0 m0 ops Q (⟨d, .call { callee := .value (.func 15), args := #[s, y, x], argTypes := ts }, ty, pos, af, none⟩ :: rest) σ := by
  refine ar_enter _ (σ.drp k) (f := 15) (fun ρ a w q => ?_) h
  refine ⟨_, run_call (by kernel_rfl) _ _ _ _ _ _ _ _ _, ?_⟩
  obtain ⟨m, rfl⟩ := Int.eq_ofNat_of_zero_le h0
  have q1 := q.ev s
  rw [hs] at q1
  have q1 : RepC Try.prog ρ w (.sl 31 (.own k) xs) (a.eval s) := q1
  obtain ⟨_, hlx, g, hg, hvv, hu, ho⟩ := q1
  have q2 := q.ev x
  rw [hx] at q2
  have q2 : RepC Try.prog ρ w (.sl 31 (.own j) [v]) (a.eval x) := q2
  obtain ⟨_, hlv, gv, hgv, hvv2, hu2, ho2⟩ := q2
  have hce : Try.prog.cellsOf 31 = 6 := by kernel_rfl
  rw [hce] at ho ho2 hlx hlv
  obtain ⟨hf, ho⟩ := ho
  obtain ⟨hf2, ho2⟩ := ho2
  rcases ho with ⟨e, _⟩ | ⟨b, c, cur, e, hb1, hb2, hb3, hb4, hb5, hb6⟩
  · rw [e] at hu; simp [Value.ownBlock] at hu
  rcases ho2 with ⟨e2, _⟩ | ⟨vb, vc, vcur, e2, hc1, hc2, hc3, hc4, hc5, hc6⟩
  · rw [e2] at hu2; simp [Value.ownBlock] at hu2
  obtain rfl : b = g := by rw [e] at hu; simpa [Value.ownBlock] using hu
  obtain rfl : vb = gv := by rw [e2] at hu2; simpa [Value.ownBlock] using hu2
  have hne : vb ≠ b := fun e3 => by
    subst e3
    have l1 := (List.getElem?_eq_some_iff.1 hg)
    have l2 := (List.getElem?_eq_some_iff.1 hgv)
    have hpp := List.pairwise_iff_getElem.1 q.no
    rcases Nat.lt_or_gt_of_ne hjk with hlt | hlt
    · exact hpp _ _ l2.1 l1.1 hlt (l2.2.trans l1.2.symm)
    · exact hpp _ _ l1.1 l2.1 hlt (l1.2.trans l2.2.symm)
  have hv6 : v.length = 6 := hlv v (by simp)
  have hvf : vcur.toList.take 6 = v := by simpa using hc6
  have hin := insert_own w ρ.B b xs.length c m vb vc cur vcur 31 hb2 hb1 hb3 hb4 hb5 hc2 (by have := hc3; simp at this; omega) hne
    (by rw [hb6]; exact okE_flat hok) (by rw [hvf]; exact hokv v (by simp)) (by omega) hbig (by have := (Array.getElem?_eq_some_iff.1 hb2).1; omega)
  have ea : (#[s, y, x].map a.eval) = #[.slice (some ⟨b, 0, none⟩) xs.length c, .int .i64 m, .slice (some ⟨vb, 0, none⟩) 1 vc] := by
    have e3 : a.eval y = .int .i64 m := q.evp hy
    simp [e, e2, e3]
  rw [ea]
  refine hin.mono ?_
  rintro en w' ⟨v', g', rfl, how, hgr, hv', hgg⟩
  obtain ⟨mv, r'⟩ := q.moved v' hg hgr hgg (ownsRow_lt how hv').2 (fun j' q' hq => by rw [hl0] at hq; simp at hq)
  refine ⟨v', _, rfl, r', ?_⟩
  have hlen : (xs.take m ++ [v] ++ xs.drop m).length = xs.length + 1 := by simp; omega
  show RepC Try.prog (ρ.mov k g' v') w' (.sl 31 (.own k) (xs.take ((m : Nat) : Int).toNat ++ [v] ++ xs.drop ((m : Nat) : Int).toNat)) v'
  refine ⟨by rw [Int.toNat_natCast, hlen]; omega, fun z hz => ?_, g', ?_, ?_, hv', ?_⟩
  · rw [hce]
    simp only [Int.toNat_natCast, List.mem_append, List.mem_singleton] at hz
    rcases hz with (hz | rfl) | hz
    · exact hlx z (List.mem_of_mem_take hz)
    · exact hv6
    · exact hlx z (List.mem_of_mem_drop hz)
  · show (ρ.om.set k g')[k]? = some g'
    rw [List.getElem?_set_self (List.getElem?_eq_some_iff.1 hg).1]
  · show v' = if g' = g' then v' else ρ.ov g'
    rw [if_pos rfl]
  · rw [hce, Int.toNat_natCast, hlen, List.flatten_append, List.flatten_append, take_flat xs m hlx (by omega), drop_flat xs m hlx (by omega)]
    rw [hb6, hvf] at how
    refine (?_ : w'.ownsRow ρ.B _ _ _ _ _)
    simpa using how
end
end Go.Proofs.Ytdhplkdohhiooaa
