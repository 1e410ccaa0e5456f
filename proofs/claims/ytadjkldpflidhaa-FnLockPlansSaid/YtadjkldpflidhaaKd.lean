/- Contracts of the lock, in the machine's words. -/
import Derived.Test.YtadjkldpflidhaaLkH
import Derived.Test.YtadjkldpflidhaaKb
import Derived.Test.YtadjkldpflidhaaMi




namespace Go.Proofs.Ytadjkldpflidhaa
open Go.RowKit
set_option linter.unusedVariables false
set_option linter.unusedSimpArgs false
theorem rdI_of {ρ : Env} {w : World} {cs : List Int} {v : Value} (h : RepC Try.prog ρ w (.sl 3 .ro (its cs)) v) : ∃ A cp, v = .slice A cs.length cp ∧ RdI w A cs.length cs := by
  have hl : (its cs).length = cs.length := by simp [its]
  have hm := h.1
  rw [hl] at hm
  rcases h.rdS with ⟨he, A, c, rfl⟩ | ⟨g, off, c, rfl, hc, hg, ha, hels⟩
  · have : cs = [] := by simpa [its] using he
    subst this
    exact ⟨A, c, rfl, by simp, by simp, fun h => by simp at h⟩
  · refine ⟨_, c, by rw [hl], by simp, hm, fun _ => ⟨g, off, rfl, hg, fun i v hv => ?_⟩⟩
    rw [List.getElem?_map] at hv
    cases hx : cs[i]? with
    | none => rw [hx] at hv; cases hv
    | some x =>
      rw [hx] at hv; injection hv with hv; subst hv
      have := (hels i [.int .i64 x] (by simp [its, hx])).2 0 _ rfl
      have c1 : Try.prog.cellsOf 3 = 1 := by kernel_rfl
      rw [c1] at this; simpa using this
theorem k_of {f : FuncId} (s : LS) (cs : List Int) {r : AV} {v : Value} (hr : plainV r = some v) (h : ∀ A cp w, RdI w A cs.length cs → Calls Try.prog f #[.agg ([.int .i64 (s).lo, .int .i64 (s).up, .int .i64 (s).le, .bool (s).lg, .bool (s).hg, .bool (s).lp, .bool (s).hp] : List Value).toArray, .slice A cs.length cp] w fun e w' => e = .returned v ∧ Below w.heap.size w w') : ACalls Try.prog f [.agg [.p (.int .i64 (s).lo), .p (.int .i64 (s).up), .p (.int .i64 (s).le), .p (.bool (s).lg), .p (.bool (s).hg), .p (.bool (s).lp), .p (.bool (s).hp)], .c (.sl 3 .ro (its cs))] [] r [] 0 := by
  intro m w vs hnd hlt hlen hhp hargs
  have hm : m = [] := List.eq_nil_of_length_eq_zero (by simpa using hlen)
  subst hm
  match hv : vs.toList, hargs with
  | [a, b], ⟨h1, h2, _⟩ =>
    obtain ⟨A, cp, rfl, hrd⟩ := rdI_of h2
    have ea : a = .agg ([.int .i64 (s).lo, .int .i64 (s).up, .int .i64 (s).le, .bool (s).lg, .bool (s).hg, .bool (s).lp, .bool (s).hp] : List Value).toArray := (plainV_rep (x := .agg [.p (.int .i64 (s).lo), .p (.int .i64 (s).up), .p (.int .i64 (s).le), .p (.bool (s).lg), .p (.bool (s).hg), .p (.bool (s).lp), .p (.bool (s).hp)]) rfl).1 h1
    subst ea
    have e2 : vs = #[.agg ([.int .i64 (s).lo, .int .i64 (s).up, .int .i64 (s).le, .bool (s).lg, .bool (s).hg, .bool (s).lp, .bool (s).hp] : List Value).toArray, .slice A cs.length cp] := by rw [← Array.toArray_toList (xs := vs), hv]
    rw [e2]
    exact (h A cp w hrd).mono fun en w' ⟨h1, h2⟩ => ⟨v, [], fun _ => .tuple #[], h1, List.nodup_nil, rfl, by simp, (plainV_rep hr).2 rfl, rfl, by simp, .of_below h2⟩
theorem k_step_i (s : LS) (c : Int) : ACalls Try.prog 25 [.agg [.p (.int .i64 (s).lo), .p (.int .i64 (s).up), .p (.int .i64 (s).le), .p (.bool (s).lg), .p (.bool (s).hg), .p (.bool (s).lp), .p (.bool (s).hp)], .c (.p (.int .i64 c))] [] (.tup [.agg [.p (.int .i64 ((stepT s c).1).lo), .p (.int .i64 ((stepT s c).1).up), .p (.int .i64 ((stepT s c).1).le), .p (.bool ((stepT s c).1).lg), .p (.bool ((stepT s c).1).hg), .p (.bool ((stepT s c).1).lp), .p (.bool ((stepT s c).1).hp)], .c (.p (.bool (stepT s c).2))]) [] 0 := .ofPlain (us := [.agg ([.int .i64 (s).lo, .int .i64 (s).up, .int .i64 (s).le, .bool (s).lg, .bool (s).hg, .bool (s).lp, .bool (s).hp] : List Value).toArray, .int .i64 c]) rfl rfl fun w => impl_StepLock _ _ _ _ _ _ _ c w
theorem k_step_s (s : LS) (c : Int) : ACalls Try.prog 26 [.agg [.p (.int .i64 (s).lo), .p (.int .i64 (s).up), .p (.int .i64 (s).le), .p (.bool (s).lg), .p (.bool (s).hg), .p (.bool (s).lp), .p (.bool (s).hp)], .c (.p (.int .i64 c))] [] (.tup [.agg [.p (.int .i64 ((stepT s c).1).lo), .p (.int .i64 ((stepT s c).1).up), .p (.int .i64 ((stepT s c).1).le), .p (.bool ((stepT s c).1).lg), .p (.bool ((stepT s c).1).hg), .p (.bool ((stepT s c).1).lp), .p (.bool ((stepT s c).1).hp)], .c (.p (.bool (stepT s c).2))]) [] 0 := .ofPlain (us := [.agg ([.int .i64 (s).lo, .int .i64 (s).up, .int .i64 (s).le, .bool (s).lg, .bool (s).hg, .bool (s).lp, .bool (s).hp] : List Value).toArray, .int .i64 c]) rfl rfl fun w => spec_StepLock _ _ _ _ _ _ _ c w
theorem k_good_s (s : LS) : ACalls Try.prog 13 [.agg [.p (.int .i64 (s).lo), .p (.int .i64 (s).up), .p (.int .i64 (s).le), .p (.bool (s).lg), .p (.bool (s).hg), .p (.bool (s).lp), .p (.bool (s).hp)]] [] (.c (.p (.bool (safeS s)))) [] 0 := .ofPlain (us := [.agg ([.int .i64 (s).lo, .int .i64 (s).up, .int .i64 (s).le, .bool (s).lg, .bool (s).hg, .bool (s).lp, .bool (s).hp] : List Value).toArray]) rfl rfl fun w => spec_IsSafeLock _ _ _ _ _ _ _ w
def headS (s : LS) (high : Bool) : Int × Bool := headR s.lo s.up s.le s.lg s.hg s.lp s.hp high
def mintS (s : LS) (high : Bool) : Int × Bool := minR s.lo s.up s.le s.lg s.hg s.lp s.hp high
theorem k_head_i (s : LS) (b : Bool) : ACalls Try.prog 17 [.agg [.p (.int .i64 (s).lo), .p (.int .i64 (s).up), .p (.int .i64 (s).le), .p (.bool (s).lg), .p (.bool (s).hg), .p (.bool (s).lp), .p (.bool (s).hp)], .c (.p (.bool b))] [] (.tup [.c (.p (.int .i64 (headS s b).1)), .c (.p (.bool (headS s b).2))]) [] 0 := .ofPlain (us := [.agg ([.int .i64 (s).lo, .int .i64 (s).up, .int .i64 (s).le, .bool (s).lg, .bool (s).hg, .bool (s).lp, .bool (s).hp] : List Value).toArray, .bool b]) rfl rfl fun w => impl_HeadAt _ _ _ _ _ _ _ b w
theorem k_head_s (s : LS) (b : Bool) : ACalls Try.prog 16 [.agg [.p (.int .i64 (s).lo), .p (.int .i64 (s).up), .p (.int .i64 (s).le), .p (.bool (s).lg), .p (.bool (s).hg), .p (.bool (s).lp), .p (.bool (s).hp)], .c (.p (.bool b))] [] (.tup [.c (.p (.int .i64 (headS s b).1)), .c (.p (.bool (headS s b).2))]) [] 0 := .ofPlain (us := [.agg ([.int .i64 (s).lo, .int .i64 (s).up, .int .i64 (s).le, .bool (s).lg, .bool (s).hg, .bool (s).lp, .bool (s).hp] : List Value).toArray, .bool b]) rfl rfl fun w => spec_HeadAt _ _ _ _ _ _ _ b w
theorem k_mint_i (s : LS) (b : Bool) : ACalls Try.prog 22 [.agg [.p (.int .i64 (s).lo), .p (.int .i64 (s).up), .p (.int .i64 (s).le), .p (.bool (s).lg), .p (.bool (s).hg), .p (.bool (s).lp), .p (.bool (s).hp)], .c (.p (.bool b))] [] (.tup [.c (.p (.int .i64 (mintS s b).1)), .c (.p (.bool (mintS s b).2))]) [] 0 := .ofPlain (us := [.agg ([.int .i64 (s).lo, .int .i64 (s).up, .int .i64 (s).le, .bool (s).lg, .bool (s).hg, .bool (s).lp, .bool (s).hp] : List Value).toArray, .bool b]) rfl rfl fun w => impl_MinutesTo _ _ _ _ _ _ _ b w
theorem k_mint_s (s : LS) (b : Bool) : ACalls Try.prog 21 [.agg [.p (.int .i64 (s).lo), .p (.int .i64 (s).up), .p (.int .i64 (s).le), .p (.bool (s).lg), .p (.bool (s).hg), .p (.bool (s).lp), .p (.bool (s).hp)], .c (.p (.bool b))] [] (.tup [.c (.p (.int .i64 (mintS s b).1)), .c (.p (.bool (mintS s b).2))]) [] 0 := .ofPlain (us := [.agg ([.int .i64 (s).lo, .int .i64 (s).up, .int .i64 (s).le, .bool (s).lg, .bool (s).hg, .bool (s).lp, .bool (s).hp] : List Value).toArray, .bool b]) rfl rfl fun w => spec_MinutesTo _ _ _ _ _ _ _ b w
theorem k_new_i (a b : Int) (ha : -5000 ≤ a ∧ a ≤ 5000) (hb : -5000 ≤ b ∧ b ≤ 5000) : ACalls Try.prog 19 [.c (.p (.int .i64 a)), .c (.p (.int .i64 b))] [] (.tup [.agg [.p (.int .i64 ((newF a b).1).lo), .p (.int .i64 ((newF a b).1).up), .p (.int .i64 ((newF a b).1).le), .p (.bool ((newF a b).1).lg), .p (.bool ((newF a b).1).hg), .p (.bool ((newF a b).1).lp), .p (.bool ((newF a b).1).hp)], .c (.p (.bool (newF a b).2))]) [] 0 := .ofPlain (us := [.int .i64 a, .int .i64 b]) rfl rfl fun w => impl_NewLock a b w
theorem k_new_s (a b : Int) (ha : -5000 ≤ a ∧ a ≤ 5000) (hb : -5000 ≤ b ∧ b ≤ 5000) : ACalls Try.prog 18 [.c (.p (.int .i64 a)), .c (.p (.int .i64 b))] [] (.tup [.agg [.p (.int .i64 ((newF a b).1).lo), .p (.int .i64 ((newF a b).1).up), .p (.int .i64 ((newF a b).1).le), .p (.bool ((newF a b).1).lg), .p (.bool ((newF a b).1).hg), .p (.bool ((newF a b).1).lp), .p (.bool ((newF a b).1).hp)], .c (.p (.bool (newF a b).2))]) [] 0 := .ofPlain (us := [.int .i64 a, .int .i64 b]) rfl rfl fun w => spec_NewLock a b w
theorem k_l5run (s : LS) (cs : List Int) (hs : safeS s = true) (hn : cs.length ≤ 100) : ACalls Try.prog 57 [.agg [.p (.int .i64 (s).lo), .p (.int .i64 (s).up), .p (.int .i64 (s).le), .p (.bool (s).lg), .p (.bool (s).hg), .p (.bool (s).lp), .p (.bool (s).hp)], .c (.sl 3 .ro (its cs))] [] (.tup [.agg [.p (.int .i64 ((runG s cs).1).lo), .p (.int .i64 ((runG s cs).1).up), .p (.int .i64 ((runG s cs).1).le), .p (.bool ((runG s cs).1).lg), .p (.bool ((runG s cs).1).hg), .p (.bool ((runG s cs).1).lp), .p (.bool ((runG s cs).1).hp)], .c (.p (.int .i64 (runG s cs).2.1)), .c (.p (.int .i64 (runG s cs).2.2))]) [] 0 := k_of s cs rfl fun A cp w h => spec_l5Run _ _ _ _ _ _ _ A _ cp cs w h hs hn
theorem k_run_i (s : LS) (cs : List Int) : ACalls Try.prog 28 [.agg [.p (.int .i64 (s).lo), .p (.int .i64 (s).up), .p (.int .i64 (s).le), .p (.bool (s).lg), .p (.bool (s).hg), .p (.bool (s).lp), .p (.bool (s).hp)], .c (.sl 3 .ro (its cs))] [] (.tup [.agg [.p (.int .i64 ((runR s cs).1).lo), .p (.int .i64 ((runR s cs).1).up), .p (.int .i64 ((runR s cs).1).le), .p (.bool ((runR s cs).1).lg), .p (.bool ((runR s cs).1).hg), .p (.bool ((runR s cs).1).lp), .p (.bool ((runR s cs).1).hp)], .c (.p (.int .i64 (runR s cs).2.1)), .c (.p (.bool (runR s cs).2.2))]) [] 0 := k_of s cs rfl fun A cp w h => impl_RunLock _ _ _ _ _ _ _ A _ cp cs w h
theorem k_run_s (s : LS) (cs : List Int) : ACalls Try.prog 29 [.agg [.p (.int .i64 (s).lo), .p (.int .i64 (s).up), .p (.int .i64 (s).le), .p (.bool (s).lg), .p (.bool (s).hg), .p (.bool (s).lp), .p (.bool (s).hp)], .c (.sl 3 .ro (its cs))] [] (.tup [.agg [.p (.int .i64 ((runR s cs).1).lo), .p (.int .i64 ((runR s cs).1).up), .p (.int .i64 ((runR s cs).1).le), .p (.bool ((runR s cs).1).lg), .p (.bool ((runR s cs).1).hg), .p (.bool ((runR s cs).1).lp), .p (.bool ((runR s cs).1).hp)], .c (.p (.int .i64 (runR s cs).2.1)), .c (.p (.bool (runR s cs).2.2))]) [] 0 := k_of s cs rfl fun A cp w h => spec_RunLock _ _ _ _ _ _ _ A _ cp cs w h
theorem k_drawn_i (s : LS) (cs : List Int) : ACalls Try.prog 38 [.agg [.p (.int .i64 (s).lo), .p (.int .i64 (s).up), .p (.int .i64 (s).le), .p (.bool (s).lg), .p (.bool (s).hg), .p (.bool (s).lp), .p (.bool (s).hp)], .c (.sl 3 .ro (its cs))] [] (.tup [.c (.p (.int .i64 (drawnR s cs).1)), .c (.p (.bool (drawnR s cs).2))]) [] 0 := k_of s cs rfl fun A cp w h => impl_WaterDrawn _ _ _ _ _ _ _ A _ cp cs w h
theorem k_drawn_s (s : LS) (cs : List Int) : ACalls Try.prog 36 [.agg [.p (.int .i64 (s).lo), .p (.int .i64 (s).up), .p (.int .i64 (s).le), .p (.bool (s).lg), .p (.bool (s).hg), .p (.bool (s).lp), .p (.bool (s).hp)], .c (.sl 3 .ro (its cs))] [] (.tup [.c (.p (.int .i64 (drawnR s cs).1)), .c (.p (.bool (drawnR s cs).2))]) [] 0 := k_of s cs rfl fun A cp w h => spec_WaterDrawn _ _ _ _ _ _ _ A _ cp cs w h
/-! ### Plain -/
theorem safe_zero : safeS zeroS = true := by decide
theorem run_safe : ∀ (cs : List Int) (s : LS), safeS s = true → safeS (runG s cs).1 = true
  | [], s, h => h
  | c :: t, s, h => by
    unfold runG
    cases hf : stepF s c with
    | none => exact h
    | some s' => exact run_safe t s' (safe_step h hf)
theorem stepT_safe (s : LS) (c : Int) : safeS (stepT s c).1 = true := by
  unfold stepT
  split
  · rename_i h
    unfold stepR
    cases hf : stepF s c with
    | none => exact safe_zero
    | some t => exact safe_step h hf
  · exact safe_zero
theorem newF_safe (a b : Int) : safeS (newF a b).1 = true := by
  unfold newF
  split
  · rename_i h; exact h
  · decide
/-- A state that may be drawn: small. -/
def okS (s : LS) : Prop := (-5000 ≤ s.lo ∧ s.lo ≤ 5000) ∧ (-5000 ≤ s.up ∧ s.up ≤ 5000) ∧ (-5000 ≤ s.le ∧ s.le ≤ 5000)
theorem safe_okS {s : LS} (h : safeS s = true) : okS s := by
  have := safe_bd h
  unfold okS; omega
end Go.Proofs.Ytadjkldpflidhaa
