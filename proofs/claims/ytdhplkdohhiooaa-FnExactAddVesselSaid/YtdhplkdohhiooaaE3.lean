/- The abstract machine: operations that only read. -/
import Derived.Test.YtdhplkdohhiooaaE2
namespace Go.Proofs.Ytdhplkdohhiooaa
open Go.RowKit
set_option linter.unusedVariables false

/-- The operation o yields what x stands for, in every world in which nothing that there was has changed. -/
def QOp (P : Program) (o : Op) (σ : AS) (x : AV) : Prop :=
  ∀ (w0 : World) (m0 : Gv) (ρ : Env) (a : Act) (w : World) (d : Option Tmp) (ty : TypeId) (pos : String) (af : Array Edge) (gd : Option (Nat × Bool)), Rel P w0 m0 ρ σ a w →
    ∃ u, RepV P ρ w x u ∧ ∀ W, Below w.heap.size w W → (execOp a.eval ⟨d, o, ty, pos, af, gd⟩).run P W = .ok (.value u) W

/-! ### Integers, strings, Booleans -/
def intP (op : BinOp) (k : IntKind) (a b : Int) : Option Value := match op with
  | .add => some (.int k (k.wrap (a + b)))
  | .sub => some (.int k (k.wrap (a - b)))
  | .mul => some (.int k (k.wrap (a * b)))
  | .eql => some (.bool (a == b))
  | .neq => some (.bool (a != b))
  | .lss => some (.bool (decide (a < b)))
  | .leq => some (.bool (decide (a ≤ b)))
  | .gtr => some (.bool (decide (a > b)))
  | .geq => some (.bool (decide (a ≥ b)))
  | .and => some (.int k (k.wrap (BitVec.ofInt k.bits a &&& BitVec.ofInt k.bits b).toNat))
  | .or => some (.int k (k.wrap (BitVec.ofInt k.bits a ||| BitVec.ofInt k.bits b).toNat))
  | .xor => some (.int k (k.wrap (BitVec.ofInt k.bits a ^^^ BitVec.ofInt k.bits b).toNat))
  | _ => none
def strP (op : BinOp) (a b : ByteArray) : Option Value := match op with
  | .eql => some (.bool (a.toList == b.toList))
  | .neq => some (.bool (!(a.toList == b.toList)))
  | .lss => some (.bool (Op.bytesLess a.toList b.toList))
  | .leq => some (.bool (Op.bytesLess a.toList b.toList || a.toList == b.toList))
  | .gtr => some (.bool (!(Op.bytesLess a.toList b.toList || a.toList == b.toList)))
  | .geq => some (.bool (!Op.bytesLess a.toList b.toList))
  | _ => none
section
variable {P : Program} {σ : AS}

theorem q_move {x : Operand} : QOp P (.move x) σ (σ.ev x) := fun _ _ ρ a w _ _ _ _ _ h => ⟨a.eval x, h.ev x, fun _ _ => rfl⟩
theorem q_assign {x : Operand} : QOp P (.assign x) σ (σ.ev x) := fun _ _ ρ a w _ _ _ _ _ h => ⟨a.eval x, h.ev x, fun _ _ => rfl⟩
theorem Rel.evp {w0 : World} {m0 : Gv} {ρ : Env} {a : Act} {w : World} (h : Rel P w0 m0 ρ σ a w) {x : Operand} {v : Value} (hx : σ.ev x = .c (.p v)) : a.eval x = v := by
  have := h.ev x
  rw [hx] at this
  exact this
theorem q_int {op : BinOp} {t yt : TypeId} {x y : Operand} {k : IntKind} {a b : Int} {v : Value} (hx : σ.ev x = .c (.p (.int k a))) (hy : σ.ev y = .c (.p (.int k b))) (hv : intP op k a b = some v) : QOp P (.binOp op t x y yt) σ (.c (.p v)) :=
  fun _ _ ρ f w _ _ _ _ _ h => ⟨v, rfl, fun W _ => by
    cases op <;> simp only [intP, Option.some.injEq, reduceCtorEq] at hv <;> subst hv <;> simp [execOp, h.evp hx, h.evp hy, eqGuard, binOp, Op.intArith, Op.intCmp, Op.intBits]⟩
theorem q_add {t yt : TypeId} {x y : Operand} {a b : Int} (hx : σ.ev x = .c (.p (.int .i64 a))) (hy : σ.ev y = .c (.p (.int .i64 b))) (hb : -9223372036854775808 ≤ a + b ∧ a + b ≤ 9223372036854775807) : QOp P (.binOp .add t x y yt) σ (.c (.p (.int .i64 (a + b)))) :=
  q_int hx hy (by simp only [intP]; rw [IntWalk.i64_in _ hb])
theorem q_sub {t yt : TypeId} {x y : Operand} {a b : Int} (hx : σ.ev x = .c (.p (.int .i64 a))) (hy : σ.ev y = .c (.p (.int .i64 b))) (hb : -9223372036854775808 ≤ a - b ∧ a - b ≤ 9223372036854775807) : QOp P (.binOp .sub t x y yt) σ (.c (.p (.int .i64 (a - b)))) :=
  q_int hx hy (by simp only [intP]; rw [IntWalk.i64_in _ hb])
theorem q_mul {t yt : TypeId} {x y : Operand} {a b : Int} (hx : σ.ev x = .c (.p (.int .i64 a))) (hy : σ.ev y = .c (.p (.int .i64 b))) (hb : -9223372036854775808 ≤ a * b ∧ a * b ≤ 9223372036854775807) : QOp P (.binOp .mul t x y yt) σ (.c (.p (.int .i64 (a * b)))) :=
  q_int hx hy (by simp only [intP]; rw [IntWalk.i64_in _ hb])
theorem q_rem {t yt : TypeId} {x y : Operand} {k : IntKind} {a b : Int} (hx : σ.ev x = .c (.p (.int k a))) (hy : σ.ev y = .c (.p (.int k b))) (hb : b ≠ 0) : QOp P (.binOp .rem t x y yt) σ (.c (.p (.int k (a.tmod b)))) :=
  fun _ _ ρ f w _ _ _ _ _ h => ⟨_, rfl, fun W _ => by simp [execOp, h.evp hx, h.evp hy, eqGuard, binOp, Op.intDiv, hb]⟩
theorem q_remp {t yt : TypeId} {x y : Operand} {k : IntKind} {a b : Int} (hx : σ.ev x = .c (.p (.int k a))) (hy : σ.ev y = .c (.p (.int k b))) (hb : 0 < b) (ha : 0 ≤ a) : QOp P (.binOp .rem t x y yt) σ (.c (.p (.int k (a % b)))) := by
  have := q_rem (P := P) (t := t) (yt := yt) hx hy (by omega)
  rwa [Int.tmod_eq_emod_of_nonneg ha] at this
theorem q_quo {t yt : TypeId} {x y : Operand} {k : IntKind} {a b : Int} (hx : σ.ev x = .c (.p (.int k a))) (hy : σ.ev y = .c (.p (.int k b))) (hb : b ≠ 0) : QOp P (.binOp .quo t x y yt) σ (.c (.p (.int k (k.wrap (a.tdiv b))))) :=
  fun _ _ ρ f w _ _ _ _ _ h => ⟨_, rfl, fun W _ => by simp [execOp, h.evp hx, h.evp hy, eqGuard, binOp, Op.intDiv, hb]⟩
theorem q_quop {t yt : TypeId} {x y : Operand} {a b : Int} (hx : σ.ev x = .c (.p (.int .i64 a))) (hy : σ.ev y = .c (.p (.int .i64 b))) (hb : 0 < b) (ha : 0 ≤ a) (hm : a ≤ 9223372036854775807) : QOp P (.binOp .quo t x y yt) σ (.c (.p (.int .i64 (a / b)))) := by
  have := q_quo (P := P) (t := t) (yt := yt) hx hy (by omega)
  rw [Int.tdiv_eq_ediv_of_nonneg ha, IntWalk.i64_in _ ⟨by have := Int.ediv_nonneg ha (show (0 : Int) ≤ b by omega); omega, by have := Int.ediv_le_self b ha; omega⟩] at this
  exact this
theorem q_shr {t yt : TypeId} {x y : Operand} {k k' : IntKind} {a : Int} {b : Int} (hx : σ.ev x = .c (.p (.int k a))) (hy : σ.ev y = .c (.p (.int k' b))) (hb : 0 ≤ b) : QOp P (.binOp .shr t x y yt) σ (.c (.p (.int k (a.fdiv (2 ^ (min b.toNat k.bits)))))) :=
  fun _ _ ρ f w _ _ _ _ _ h => ⟨_, rfl, fun W _ => by simp [execOp, h.evp hx, h.evp hy, eqGuard, binOp, Op.shift, Int.not_lt.2 hb]⟩
theorem q_shl {t yt : TypeId} {x y : Operand} {k k' : IntKind} {a : Int} {b : Int} (hx : σ.ev x = .c (.p (.int k a))) (hy : σ.ev y = .c (.p (.int k' b))) (hb : 0 ≤ b) : QOp P (.binOp .shl t x y yt) σ (.c (.p (.int k (k.wrap (a * 2 ^ (min b.toNat k.bits)))))) :=
  fun _ _ ρ f w _ _ _ _ _ h => ⟨_, rfl, fun W _ => by simp [execOp, h.evp hx, h.evp hy, eqGuard, binOp, Op.shift, Int.not_lt.2 hb]⟩
theorem q_str {op : BinOp} {t yt : TypeId} {x y : Operand} {a b : ByteArray} {v : Value} (hx : σ.ev x = .c (.p (.string a))) (hy : σ.ev y = .c (.p (.string b))) (hv : strP op a b = some v) : QOp P (.binOp op t x y yt) σ (.c (.p v)) :=
  fun _ _ ρ f w _ _ _ _ _ h => ⟨v, rfl, fun W _ => by
    cases op <;> simp only [strP, Option.some.injEq, reduceCtorEq] at hv <;> subst hv <;> simp [execOp, h.evp hx, h.evp hy, eqGuard, binOp, Op.stringOp]⟩
theorem q_cat {t yt : TypeId} {x y : Operand} {a b : ByteArray} (hx : σ.ev x = .c (.p (.string a))) (hy : σ.ev y = .c (.p (.string b))) (hs : a.size + b.size ≤ 9223372036854775807) : QOp P (.binOp .add t x y yt) σ (.c (.p (.string (a ++ b)))) :=
  fun _ _ ρ f w _ _ _ _ _ h => ⟨_, rfl, fun W _ => by simp [execOp, h.evp hx, h.evp hy, eqGuard, binOp, run_string_add_sum _ a b hs]⟩
def boolP (op : BinOp) (a b : Bool) : Option Bool := match op with
  | .eql => some (a == b)
  | .neq => some (!(a == b))
  | _ => none
theorem q_bool {op : BinOp} {t yt : TypeId} {x y : Operand} {a b v : Bool} (hu : P.underlying t = some .bool) (hx : σ.ev x = .c (.p (.bool a))) (hy : σ.ev y = .c (.p (.bool b))) (hv : boolP op a b = some v) : QOp P (.binOp op t x y yt) σ (.c (.p (.bool v))) :=
  fun _ _ ρ f w _ _ _ _ _ h => ⟨_, rfl, fun W _ => by
    cases op <;> simp only [boolP, Option.some.injEq, reduceCtorEq] at hv <;> subst hv <;> simp [execOp, h.evp hx, h.evp hy, eqGuard, run_eql_bool W t a b hu, run_neq_bool W t a b hu]⟩
theorem q_not {t : TypeId} {x : Operand} {a : Bool} (hx : σ.ev x = .c (.p (.bool a))) : QOp P (.unOp .not t x) σ (.c (.p (.bool (!a)))) :=
  fun _ _ ρ f w _ _ _ _ _ h => ⟨_, rfl, fun W _ => by simp [execOp, h.evp hx, Op.unary]⟩
theorem q_neg {t : TypeId} {x : Operand} {k : IntKind} {a : Int} (hx : σ.ev x = .c (.p (.int k a))) : QOp P (.unOp .neg t x) σ (.c (.p (.int k (k.wrap (0 - a))))) :=
  fun _ _ ρ f w _ _ _ _ _ h => ⟨_, rfl, fun W _ => by simp [execOp, h.evp hx, Op.unary, Op.intArith]⟩
theorem q_negi {t : TypeId} {x : Operand} {a : Int} (hx : σ.ev x = .c (.p (.int .i64 a))) (hb : -9223372036854775808 ≤ -a ∧ -a ≤ 9223372036854775807) : QOp P (.unOp .neg t x) σ (.c (.p (.int .i64 (-a)))) := by
  have := q_neg (P := P) (t := t) hx
  rwa [Int.zero_sub, IntWalk.i64_in _ hb] at this
def intB (P : Program) (t : TypeId) (k : IntKind) : Bool := match P.underlying t with
  | some (.int k') => k' == k
  | _ => false
theorem intB_spec {t : TypeId} {k : IntKind} (h : intB P t k = true) : P.underlying t = some (.int k) := by
  unfold intB at h
  split at h
  · rename_i k' hk
    have : k' = k := eq_of_beq h
    subst this; exact hk
  · cases h
theorem q_conv {s t : TypeId} {x : Operand} {k : IntKind} {a : Int} (k' : IntKind) (hs : (P.underlying s).isSome = true) (ht : intB P t k' = true) (hx : σ.ev x = .c (.p (.int k a))) : QOp P (.convert s t x) σ (.c (.p (.int k' (k'.wrap a)))) :=
  fun _ _ ρ f w _ _ _ _ _ h => ⟨_, rfl, fun W _ => by
    obtain ⟨d, hd⟩ := Option.isSome_iff_exists.1 hs
    simp [execOp, h.evp hx, convert, run_underlying hd, run_underlying (intB_spec ht), Conv.intToInt]⟩

theorem q_conv_u8 {s t : TypeId} {x : Operand} {c : UInt8} (hs : (P.underlying s).isSome = true) (ht : intB P t .i64 = true) (hx : σ.ev x = .c (.p (.int .u8 c.toNat))) : QOp P (.convert s t x) σ (.c (.p (.int .i64 c.toNat))) := by
  have := q_conv (P := P) .i64 hs ht hx
  rwa [IntWalk.i64_in _ ⟨by omega, by have := c.toNat_lt; omega⟩] at this
theorem q_conv_in {s t : TypeId} {x : Operand} {k : IntKind} {a : Int} (hs : (P.underlying s).isSome = true) (ht : intB P t .i64 = true) (hx : σ.ev x = .c (.p (.int k a))) (hb : -9223372036854775808 ≤ a ∧ a ≤ 9223372036854775807) : QOp P (.convert s t x) σ (.c (.p (.int .i64 a))) := by
  have := q_conv (P := P) .i64 hs ht hx
  rwa [IntWalk.i64_in _ hb] at this

theorem q_pick_t {c x y : Operand} {b : Bool} (hc : σ.ev c = .c (.p (.bool b))) (hb : b = true) : QOp P (.pick c x y) σ (σ.ev x) :=
  fun _ _ ρ f w _ _ _ _ _ h => ⟨f.eval x, h.ev x, fun W _ => by simp [execOp, h.evp hc, hb, asBool]⟩
theorem q_pick_f {c x y : Operand} {b : Bool} (hc : σ.ev c = .c (.p (.bool b))) (hb : b = false) : QOp P (.pick c x y) σ (σ.ev y) :=
  fun _ _ ρ f w _ _ _ _ _ h => ⟨f.eval y, h.ev y, fun W _ => by simp [execOp, h.evp hc, hb, asBool]⟩
theorem q_pick {c x y : Operand} {b p q : Bool} (hc : σ.ev c = .c (.p (.bool b))) (hx : σ.ev x = .c (.p (.bool p))) (hy : σ.ev y = .c (.p (.bool q))) : QOp P (.pick c x y) σ (.c (.p (.bool (bif b then p else q)))) :=
  fun _ _ ρ f w _ _ _ _ _ h => ⟨_, rfl, fun W _ => by cases b <;> simp [execOp, h.evp hc, h.evp hx, h.evp hy, asBool]⟩

/-! ### Builtins -/
theorem q_len_s {t : TypeId} {x : Operand} {s : ByteArray} (ht : P.underlying t = some .string) (hx : σ.ev x = .c (.p (.string s))) : QOp P (.call { callee := .builtin .len, args := #[x], argTypes := #[t] }) σ (.c (.p (.int .i64 s.size))) :=
  fun _ _ ρ f w _ _ _ _ _ h => ⟨_, rfl, fun W _ => by simp [execOp, resolve, invoke, builtin, h.evp hx, Builtin.len_, run_underlying ht, goInt]⟩
def sliceB (P : Program) (t : TypeId) : Bool := match P.underlying t with
  | some (.slice _) => true
  | _ => false
theorem sliceB_spec {t : TypeId} (h : sliceB P t = true) : ∃ e, P.underlying t = some (.slice e) := by
  unfold sliceB at h
  split at h
  · exact ⟨_, by assumption⟩
  · cases h
theorem q_len {t : TypeId} {x : Operand} {e : TypeId} {o : Ow} {xs : List (List Value)} (ht : sliceB P t = true) (hx : σ.ev x = .c (.sl e o xs)) : QOp P (.call { callee := .builtin .len, args := #[x], argTypes := #[t] }) σ (.c (.p (.int .i64 xs.length))) :=
  fun _ _ ρ f w _ _ _ _ _ h => by
    have h1 := h.ev x
    rw [hx] at h1
    obtain ⟨A, c, hv⟩ := (RepC.rdS h1).val
    obtain ⟨e', he⟩ := sliceB_spec ht
    exact ⟨_, rfl, fun W _ => by simp [execOp, resolve, invoke, builtin, hv, Builtin.len_, run_underlying he, goInt]⟩
theorem q_len_n {t : TypeId} {x : Operand} (ht : sliceB P t = true) (hx : σ.ev x = .c .nl) : QOp P (.call { callee := .builtin .len, args := #[x], argTypes := #[t] }) σ (.c (.p (.int .i64 0))) :=
  fun _ _ ρ f w _ _ _ _ _ h => by
    have h1 : f.eval x = .slice none 0 0 := by have := h.ev x; rw [hx] at this; exact this
    obtain ⟨e', he⟩ := sliceB_spec ht
    exact ⟨_, rfl, fun W _ => by simp [execOp, resolve, invoke, builtin, h1, Builtin.len_, run_underlying he, goInt]⟩
theorem q_min {ts : Array TypeId} {x y : Operand} {k : IntKind} {a b : Int} (hx : σ.ev x = .c (.p (.int k a))) (hy : σ.ev y = .c (.p (.int k b))) : QOp P (.call { callee := .builtin .min, args := #[x, y], argTypes := ts }) σ (.c (.p (.int k (min a b)))) :=
  fun _ _ ρ f w _ _ _ _ _ h => ⟨_, rfl, fun W _ => by
    have e : (if b < a then b else a) = min a b := by split <;> omega
    simp [execOp, resolve, invoke, builtin, h.evp hx, h.evp hy, Builtin.min_, Builtin.min2, e]⟩
theorem q_max {ts : Array TypeId} {x y : Operand} {k : IntKind} {a b : Int} (hx : σ.ev x = .c (.p (.int k a))) (hy : σ.ev y = .c (.p (.int k b))) : QOp P (.call { callee := .builtin .max, args := #[x, y], argTypes := ts }) σ (.c (.p (.int k (max a b)))) :=
  fun _ _ ρ f w _ _ _ _ _ h => ⟨_, rfl, fun W _ => by
    have e : (if b > a then b else a) = max a b := by split <;> omega
    simp [execOp, resolve, invoke, builtin, h.evp hx, h.evp hy, Builtin.max_, Builtin.max2, e]⟩

/-! ### Tuples, structs by value -/
def AW.av : AW → AV
  | .c x => .c x
  | .agg cs => .agg cs
theorem q_ext {x : Operand} {i : Nat} {ws : List AW} {y : AW} (hx : σ.ev x = .tup ws) (hy : ws[i]? = some y) : QOp P (.extract x i) σ y.av :=
  fun _ _ ρ f w _ _ _ _ _ h => by
    have h1 := h.ev x
    rw [hx] at h1
    obtain ⟨vs, he, hl⟩ := h1
    obtain ⟨v, hv, hr⟩ := hl.get hy
    refine ⟨v, by cases y <;> exact hr, fun W _ => ?_⟩
    have hv' : vs[i]? = some v := by rw [← Array.getElem?_toList]; exact hv
    simp [execOp, he, Instr.extract, hv']
def wordB (P : Program) (t : TypeId) : Bool := match P.underlying t with
  | some (.struct _) | some (.array _ _) | none => false
  | _ => true
theorem run_isAgg_word {t : TypeId} (h : wordB P t = true) (W : World) : (isAgg t).run P W = .ok false W := by
  unfold wordB at h
  cases hd : P.underlying t with
  | none => rw [hd] at h; cases h
  | some d => rw [hd] at h; cases d <;> first | exact absurd h Bool.false_ne_true | simp [isAgg, run_underlying hd]
def aggB (P : Program) (t : TypeId) (n : Nat) : Bool := match P.underlying t, P.info? t with
  | some (.struct _), some i | some (.array _ _), some i => i.size == n
  | _, _ => false
theorem run_isAgg_agg {t : TypeId} {n : Nat} (h : aggB P t n = true) (W : World) : (isAgg t).run P W = .ok true W ∧ (sizeOf t).run P W = .ok n W := by
  unfold aggB at h
  split at h <;> first
    | exact absurd h Bool.false_ne_true
    | (rename_i hd hi
       have hn := eq_of_beq h
       constructor
       · simp [isAgg, run_underlying hd]
       · simp [sizeOf, typeInfo, hi, hn])
/-- Every field of the struct type t is one cell; there are n. -/
def flatB (P : Program) (t : TypeId) (n : Nat) : Bool := match P.underlying t with
  | some (.struct fs) => fs.size == n && (List.range n).all fun i => match fs[i]? with
    | some f => f.offset == i && wordB P f.type && ((P.info? f.type).map (·.size)) == some 1
    | none => false
  | _ => false
theorem flatB_spec {t : TypeId} {n : Nat} (h : flatB P t n = true) : ∃ fs : Array Field, P.underlying t = some (.struct fs) ∧ ∀ i, i < n → ∃ f, fs[i]? = some f ∧ f.offset = i ∧ wordB P f.type = true ∧ (P.info? f.type).map (·.size) = some 1 := by
  unfold flatB at h
  split at h
  · rename_i fs hfs
    simp only [Bool.and_eq_true, List.all_eq_true, List.mem_range] at h
    refine ⟨fs, hfs, fun i hi => ?_⟩
    have := h.2 i hi
    split at this
    · rename_i f hf
      simp only [Bool.and_eq_true] at this
      exact ⟨f, hf, eq_of_beq this.1.1, this.1.2, eq_of_beq this.2⟩
    · cases this
  · cases h
/-- Field i of the struct t is one cell, at cell i. -/
def flatF (P : Program) (t : TypeId) (i : Nat) : Bool := match P.underlying t with
  | some (.struct fs) => match fs[i]? with
    | some f => f.offset == i && wordB P f.type && ((P.info? f.type).map (·.size)) == some 1
    | none => false
  | _ => false
theorem flatF_spec {t : TypeId} {i : Nat} (h : flatF P t i = true) : ∃ (fs : Array Field) (f : Field), P.underlying t = some (.struct fs) ∧ fs[i]? = some f ∧ f.offset = i ∧ wordB P f.type = true ∧ (P.info? f.type).map (·.size) = some 1 := by
  unfold flatF at h
  split at h
  · rename_i fs hfs
    split at h
    · rename_i f hf
      simp only [Bool.and_eq_true] at h
      exact ⟨fs, f, hfs, hf, eq_of_beq h.1.1, h.1.2, eq_of_beq h.2⟩
    · cases h
  · cases h
theorem q_field {t : TypeId} {x : Operand} {i : Nat} {cs : List AC} {y : AC} (ht : flatF P t i = true) (hx : σ.ev x = .agg cs) (hy : cs[i]? = some y) : QOp P (.field t x i) σ (.c y) :=
  fun _ _ ρ f w _ _ _ _ _ h => by
    have h1 := h.ev x
    rw [hx] at h1
    obtain ⟨vs, he, hl⟩ := h1
    obtain ⟨v, hv, hr⟩ := hl.get hy
    obtain ⟨fs, fd, hfs, hfd, ho, hw, _⟩ := flatF_spec ht
    refine ⟨v, hr, fun W _ => ?_⟩
    have hv' : vs[i]? = some v := by rw [← Array.getElem?_toList]; exact hv
    simp [execOp, he, Instr.field, run_underlying hfs, hfd, part, run_isAgg_word hw, asAgg, ho, hv']

/-! ### Pointers -/
theorem addr_add (g o i : Nat) : (⟨g, o, none⟩ : Addr).add i = ⟨g, o + i, none⟩ := by unfold Addr.add; split <;> simp_all
theorem q_nilCheck {x : Operand} {b o : Nat} (hx : σ.ev x = .c (.ptr b o)) : QOp P (.nilCheck x) σ (.c (.ptr b o)) :=
  fun _ _ ρ f w _ _ _ _ _ h => by
    have h1 := h.ev x
    rw [hx] at h1
    obtain ⟨g, hg, he⟩ := h1
    exact ⟨_, ⟨g, hg, rfl⟩, fun W _ => by simp [execOp, he]⟩
theorem q_nilCheck_r {x : Operand} {o : Ow} {cs : List Value} (hx : σ.ev x = .c (.rp o cs)) : QOp P (.nilCheck x) σ (.c (.rp o cs)) :=
  fun _ _ ρ f w _ _ _ _ _ h => by
    have h1 := h.ev x
    rw [hx] at h1
    obtain ⟨g, off, he, r⟩ := h1
    exact ⟨_, ⟨g, off, rfl, r⟩, fun W _ => by simp [execOp, he]⟩
theorem q_fieldAddr {t : TypeId} {x : Operand} {i b o : Nat} (ht : flatF P t i = true) (hx : σ.ev x = .c (.ptr b o)) : QOp P (.fieldAddr t x i) σ (.c (.ptr b (o + i))) :=
  fun _ _ ρ f w _ _ _ _ _ h => by
    have h1 := h.ev x
    rw [hx] at h1
    obtain ⟨g, hg, he⟩ := h1
    obtain ⟨fs, fd, hfs, hfd, ho, hw, hs⟩ := flatF_spec ht
    refine ⟨_, ⟨g, hg, rfl⟩, fun W _ => ?_⟩
    obtain ⟨ii, h1, h2⟩ := Option.map_eq_some_iff.1 hs
    simp [execOp, he, Instr.fieldAt, run_underlying hfs, hfd, Instr.sureAddr, fieldPlace, sizeOf, typeInfo, h1, h2, ho, addr_add]
theorem q_fieldAddr_r {t : TypeId} {x : Operand} {i : Nat} {o : Ow} {cs : List Value} (ht : flatF P t i = true) (hx : σ.ev x = .c (.rp o cs)) : QOp P (.fieldAddr t x i) σ (.c (.rp o (cs.drop i))) :=
  fun _ _ ρ f w _ _ _ _ _ h => by
    have h1 := h.ev x
    rw [hx] at h1
    obtain ⟨g, off, he, hg, ha, hc⟩ := h1
    obtain ⟨fs, fd, hfs, hfd, ho, hw, hs⟩ := flatF_spec ht
    refine ⟨.pointer (some ⟨g, off + i, none⟩), ⟨g, off + i, rfl, hg, ha, fun j v hv => ?_⟩, fun W _ => ?_⟩
    · rw [List.getElem?_drop] at hv
      rw [Nat.add_assoc]; exact hc _ _ hv
    · obtain ⟨ii, h1, h2⟩ := Option.map_eq_some_iff.1 hs
      simp [execOp, he, Instr.fieldAt, run_underlying hfs, hfd, Instr.sureAddr, fieldPlace, sizeOf, typeInfo, h1, h2, ho, addr_add]

/-! ### Loads -/
theorem run_load_word {t : TypeId} {ad : Addr} {v : Value} (ht : wordB P t = true) {W : World} (hc : W.cell? ad = some v) : (loadVar t ad).run P W = .ok v W := by
  simp [loadVar, run_isAgg_word ht, hc]
theorem run_load_agg {t : TypeId} {g o : Nat} {vs : List Value} (ht : aggB P t vs.length = true) {W : World} (hc : ∀ j v, vs[j]? = some v → W.cell? ⟨g, o + j, none⟩ = some v) : (loadVar t ⟨g, o, none⟩).run P W = .ok (.agg vs.toArray) W := by
  have h := run_isAgg_agg ht W
  have hl := run_loadCells_list (P := P) (w := W) ⟨g, o, none⟩ vs (fun j v hv => by rw [addr_add]; exact hc j v hv)
  simp [loadVar, h.1, h.2, hl]
theorem q_load {t : TypeId} {x : Operand} {b o : Nat} {cs : List AC} {y : AC} (ht : wordB P t = true) (hx : σ.ev x = .c (.ptr b o)) (hh : σ.hp[b]? = some cs) (hy : cs[o]? = some y) : QOp P (.load t x) σ (.c y) :=
  fun _ _ ρ f w _ _ _ _ _ h => by
    have h1 := h.ev x
    rw [hx] at h1
    obtain ⟨g, hg, he⟩ := h1
    obtain ⟨g', hg', vs, t', hb, hl⟩ := h.hp b cs hh
    obtain rfl : g = g' := by rw [hg] at hg'; injection hg'
    obtain ⟨v, hv, hr⟩ := hl.get hy
    refine ⟨v, hr, fun W hW => ?_⟩
    have hc : W.cell? ⟨g, o, none⟩ = some v := by
      rw [cell_blk (hW.block g (h.ml g (List.mem_of_getElem? hg))), cell_of_row w g o vs t'.t t'.z hb, ← Array.getElem?_toList]; exact hv
    simp [execOp, he, Instr.loadAt, Instr.sureAddr, run_load_word ht hc]
theorem q_load_a {t : TypeId} {x : Operand} {b : Nat} {cs : List AC} (hx : σ.ev x = .c (.ptr b 0)) (hh : σ.hp[b]? = some cs) {n : Nat} (hn : cs.length = n) (ht : aggB P t n = true) : QOp P (.load t x) σ (.agg cs) :=
  fun _ _ ρ f w _ _ _ _ _ h => by
    have h1 := h.ev x
    rw [hx] at h1
    obtain ⟨g, hg, he⟩ := h1
    obtain ⟨g', hg', vs, t', hb, hl⟩ := h.hp b cs hh
    obtain rfl : g = g' := by rw [hg] at hg'; injection hg'
    refine ⟨.agg vs, ⟨vs, rfl, hl⟩, fun W hW => ?_⟩
    rw [← hn, hl.len] at ht
    have hc := run_load_agg (g := g) (o := 0) ht (W := W) (fun j v hv => by
      rw [cell_blk (hW.block g (h.ml g (List.mem_of_getElem? hg))), Nat.zero_add, cell_of_row w g j vs t'.t t'.z hb, ← Array.getElem?_toList]; exact hv)
    simp [execOp, he, Instr.loadAt, Instr.sureAddr, hc]
theorem Rel.place {w0 : World} {m0 : Gv} {ρ : Env} {a : Act} {w : World} (h : Rel P w0 m0 ρ σ a w) {o : Ow} {g : Nat} (hg : g < w.heap.size) {W : World} (hW : Below w.heap.size w W) (j : Nat) : W.cell? ⟨g, j, none⟩ = w.cell? ⟨g, j, none⟩ := cell_blk (hW.block g hg) j
theorem q_load_r {t : TypeId} {x : Operand} {o : Ow} {cs : List Value} {v : Value} (ht : wordB P t = true) (hx : σ.ev x = .c (.rp o cs)) (hy : cs[0]? = some v) : QOp P (.load t x) σ (.c (.p v)) :=
  fun _ _ ρ f w _ _ _ _ _ h => by
    have h1 := h.ev x
    rw [hx] at h1
    obtain ⟨g, off, he, hg, ha, hc⟩ := h1
    refine ⟨v, rfl, fun W hW => ?_⟩
    have hc : W.cell? ⟨g, off, none⟩ = some v := by rw [cell_blk (hW.block g hg)]; exact hc 0 v hy
    simp [execOp, he, Instr.loadAt, Instr.sureAddr, run_load_word ht hc]
theorem repL_p {ρ : Env} {w : World} : ∀ vs : List Value, RepL P ρ w (vs.map .p) vs
  | [] => trivial
  | v :: vs => ⟨rfl, repL_p vs⟩
theorem q_load_ra {t : TypeId} {x : Operand} {o : Ow} {cs : List Value} (hx : σ.ev x = .c (.rp o cs)) {n : Nat} (hn : cs.length = n) (ht : aggB P t n = true) : QOp P (.load t x) σ (.agg (cs.map .p)) :=
  fun _ _ ρ f w _ _ _ _ _ h => by
    have h1 := h.ev x
    rw [hx] at h1
    obtain ⟨g, off, he, hg, ha, hc⟩ := h1
    refine ⟨.agg cs.toArray, ⟨cs.toArray, rfl, repL_p cs⟩, fun W hW => ?_⟩
    rw [← hn] at ht
    have hc := run_load_agg (g := g) (o := off) ht (W := W) (fun j v hv => by rw [cell_blk (hW.block g hg)]; exact hc j v hv)
    simp [execOp, he, Instr.loadAt, Instr.sureAddr, hc]

/-! ### Indices, parts -/
theorem size_cellsOf {t e : TypeId} (hu : (P.info? e).isSome = true) (W : World) : (sizeOf e).run P W = .ok (P.cellsOf e) W := by
  obtain ⟨i, hi⟩ := Option.isSome_iff_exists.1 hu
  simp [sizeOf, typeInfo, hi, Program.cellsOf]
/-- t is a slice type over e. -/
def sliceE (P : Program) (t e : TypeId) : Bool := match P.underlying t with
  | some (.slice e') => e' == e && (P.info? e).isSome
  | _ => false
theorem sliceE_spec {t e : TypeId} (h : sliceE P t e = true) : P.underlying t = some (.slice e) ∧ (P.info? e).isSome = true := by
  unfold sliceE at h
  split at h
  · rename_i e' he
    simp only [Bool.and_eq_true] at h
    have := eq_of_beq h.1
    subst this
    exact ⟨he, h.2⟩
  · cases h
theorem q_indexAddr {t e : TypeId} {x y : Operand} {o : Ow} {xs : List (List Value)} {k : IntKind} {i : Int} {v : List Value} (ht : sliceE P t e = true) (hx : σ.ev x = .c (.sl e o xs)) (hy : σ.ev y = .c (.p (.int k i))) (hi : 0 ≤ i) (hv : xs[i.toNat]? = some v) : QOp P (.indexAddr t x y) σ (.c (.rp o.part v)) :=
  fun _ _ ρ f w _ _ _ _ _ h => by
    have h1 := h.ev x
    rw [hx] at h1
    obtain ⟨g, off, c, he, hg, ha, hl, hc⟩ := (RepC.rdS h1).at_ hv
    obtain ⟨hu, hz⟩ := sliceE_spec ht
    have hlt := (List.getElem?_eq_some_iff.1 hv).1
    refine ⟨.pointer (some ⟨g, off + i.toNat * P.cellsOf e, none⟩), ⟨g, _, rfl, hg, ha, fun j v hv => by rw [Nat.add_assoc]; exact hc j v hv⟩, fun W _ => ?_⟩
    have hb : 0 ≤ i ∧ i < (xs.length : Int) := ⟨hi, by omega⟩
    simp [execOp, he, h.evp hy, Instr.indexAt, asIntOf, run_underlying hu, size_cellsOf (t := t) hz, hb, addr_add]
theorem q_index_s {t : TypeId} {x y : Operand} {s : ByteArray} {k : IntKind} {i : Int} {c : UInt8} (ht : P.underlying t = some .string) (hx : σ.ev x = .c (.p (.string s))) (hy : σ.ev y = .c (.p (.int k i))) (hi : 0 ≤ i) (hc : s[i.toNat]? = some c) : QOp P (.index t x y) σ (.c (.p (.int .u8 c.toNat))) :=
  fun _ _ ρ f w _ _ _ _ _ h => ⟨_, rfl, fun W _ => by simp [execOp, h.evp hx, h.evp hy, Instr.index, asIntOf, run_underlying ht, hi, hc]⟩
end
end Go.Proofs.Ytdhplkdohhiooaa
