/- The abstract machine: states against frames and worlds; control; calls. -/
import Derived.Test.YtdhplkdohhiooaaE1
namespace Go.Proofs.Ytdhplkdohhiooaa
open Go.RowKit
set_option linter.unusedVariables false

structure Framed (m0 : List Nat) (w w' : World) : Prop where
  os : w'.os = w.os
  tape : w'.tape = w.tape
  output : w'.output = w.output
  size : w.heap.size ≤ w'.heap.size
  blk : ∀ g, g < w.heap.size → g ∉ m0 → w'.heap[g]? = w.heap[g]?
theorem Framed.below {w w' : World} (h : Framed [] w w') : Below w.heap.size w w' := ⟨h.os, h.tape, h.output, h.size, fun g hg => h.blk g hg (by simp)⟩
theorem Framed.of_below {m0 : List Nat} {w w' : World} (h : Below w.heap.size w w') : Framed m0 w w' := ⟨h.os, h.tape, h.output, h.size, fun g hg _ => h.block g hg⟩
theorem Framed.refl (m0 : List Nat) (w : World) : Framed m0 w w := ⟨rfl, rfl, rfl, Nat.le_refl _, fun _ _ _ => rfl⟩
theorem Framed.trans {m0 : List Nat} {a b c : World} (h : Framed m0 a b) (k : Framed m0 b c) : Framed m0 a c :=
  ⟨k.os.trans h.os, k.tape.trans h.tape, k.output.trans h.output, Nat.le_trans h.size k.size, fun g hg hn => (k.blk g (Nat.lt_of_lt_of_le hg h.size) hn).trans (h.blk g hg hn)⟩

/-- A block's type and its mark, which is of no cell. -/
structure TM (vs : Array Value) where
  t : TypeId
  z : Nat × Nat
  ok : z = (0, 0) ∨ vs.size ≤ z.1
def HpAt (P : Program) (ρ : Env) (w : World) (cs : List AC) (g : Nat) : Prop := ∃ (vs : Array Value) (t : TM vs), w.heap[g]? = some (.cells vs t.t t.z) ∧ RepL P ρ w cs vs.toList

/-- What is handed in: blocks that may be written (m), rows that may be written (l); new rows lie from B on. -/
structure Gv where
  B : Nat
  m : List Nat
  l : List Nat
  v : Nat → Value

structure Rel (P : Program) (w0 : World) (m0 : Gv) (ρ : Env) (σ : AS) (a : Act) (w : World) : Prop where
  B : ρ.B = m0.B
  Bw : m0.B ≤ w0.heap.size
  fr : Framed (m0.m ++ m0.l) w0 w
  pre : ∃ l, ρ.m = m0.m ++ l ∧ ∀ g ∈ l, w0.heap.size ≤ g
  ml : ∀ g ∈ ρ.m, g < w.heap.size
  nd : ρ.m.Nodup
  ob : ∀ g ∈ ρ.om, (g ∈ m0.l ∨ w0.heap.size ≤ g) ∧ g < w.heap.size ∧ g ∉ ρ.m
  no : ρ.om.Nodup
  lp : ∀ (j g : Nat), m0.l[j]? = some g → ρ.om[j]? = some g ∧ ρ.ov g = m0.v g
  nx : ρ.om.length = σ.nx
  hl : σ.hp.length = ρ.m.length
  hp : ∀ (b : Nat) cs, σ.hp[b]? = some cs → ∃ g : Nat, ρ.m[b]? = some g ∧ HpAt P ρ w cs g
  tl : σ.tm.length = a.tmps.size
  tm : ∀ (i : Nat) x, σ.tm[i]? = some x → RepV P ρ w x (a.tmps.getD i undef)
  df : a.defers = []

def AS.put (σ : AS) (d : Option Tmp) (x : AV) : AS := match d with
  | some d => { σ with tm := σ.tm.set d x }
  | none => σ
def cstC : Value → AC
  | .slice none 0 0 => .nl
  | v => .p v
def cst : Value → AV
  | .agg cs => .agg (cs.toList.map cstC)
  | .tuple _ => .top
  | v => .c (cstC v)
def gt : List AV → Nat → AV
  | [], _ => .top
  | x :: _, 0 => x
  | _ :: xs, n + 1 => gt xs n
theorem cst_nil : cst (.slice none 0 0) = .c .nl := rfl
theorem cst_int (k : IntKind) (n : Int) : cst (.int k n) = .c (.p (.int k n)) := rfl
theorem cst_bool (b : Bool) : cst (.bool b) = .c (.p (.bool b)) := rfl
theorem cst_str (s : ByteArray) : cst (.string s) = .c (.p (.string s)) := rfl
theorem cst_agg (l : List Value) : cst (.agg l.toArray) = .agg (l.map cstC) := rfl
theorem cst_ptr : cst (.pointer none) = .c (.p (.pointer none)) := rfl
theorem cst_tup (l : Array Value) : cst (.tuple l) = .top := rfl
theorem cstC_nil : cstC (.slice none 0 0) = .nl := rfl
theorem cstC_int (k : IntKind) (n : Int) : cstC (.int k n) = .p (.int k n) := rfl
theorem cstC_bool (b : Bool) : cstC (.bool b) = .p (.bool b) := rfl
theorem cstC_str (s : ByteArray) : cstC (.string s) = .p (.string s) := rfl
theorem gt_z (x : AV) (xs : List AV) : gt (x :: xs) 0 = x := rfl
theorem gt_s (x : AV) (xs : List AV) (n : Nat) : gt (x :: xs) (n + 1) = gt xs n := rfl
theorem gt_eq : ∀ (xs : List AV) (n : Nat), gt xs n = (xs[n]?).getD .top
  | [], _ => rfl
  | _ :: _, 0 => rfl
  | _ :: xs, n + 1 => by rw [gt_s, gt_eq xs n]; simp
def AS.ev (σ : AS) : Operand → AV
  | .tmp t => gt σ.tm t
  | .const v => cst v
  | .func f => .c (.p (.func (.func f) #[] #[]))
  | .global _ => .top

section
variable {P : Program} {w0 : World} {m0 : Gv} {ρ : Env} {σ : AS} {a : Act} {w : World}

theorem repC_cst {ρ : Env} {w : World} (v : Value) : RepC P ρ w (cstC v) v := by
  unfold cstC
  split
  · exact rfl
  · exact rfl
theorem repL_cst {ρ : Env} {w : World} : ∀ vs : List Value, RepL P ρ w (vs.map cstC) vs
  | [] => trivial
  | v :: vs => ⟨repC_cst v, repL_cst vs⟩
theorem rep_cst {ρ : Env} {w : World} (v : Value) : RepV P ρ w (cst v) v := by
  unfold cst
  split
  · exact ⟨_, rfl, repL_cst _⟩
  · trivial
  · exact repC_cst _
theorem Rel.ev (h : Rel P w0 m0 ρ σ a w) (x : Operand) : RepV P ρ w (σ.ev x) (a.eval x) := by
  cases x with
  | tmp t =>
    show RepV P ρ w (gt σ.tm t) (a.tmps.getD t undef)
    rw [gt_eq]
    cases ht : σ.tm[t]? with
    | none => trivial
    | some x => exact h.tm t x ht
  | const v => exact rep_cst v
  | func f => rfl
  | global g => trivial

theorem getD_set (t : Array Value) (d i : Nat) (u z : Value) : (t.setIfInBounds d u).getD i z = if i = d ∧ d < t.size then u else t.getD i z := by
  by_cases hi : i < t.size
  · rw [Array.getD_eq_getD_getElem?, Array.getD_eq_getD_getElem?, Array.getElem?_setIfInBounds]
    by_cases hd : d = i
    · subst hd; simp [hi]
    · rw [if_neg hd, if_neg (fun e => hd e.1.symm)]
  · rw [Array.getD_eq_getD_getElem?, Array.getD_eq_getD_getElem?, Array.getElem?_setIfInBounds]
    by_cases hd : d = i
    · subst hd; simp [hi]
    · rw [if_neg hd, if_neg (fun e => hd e.1.symm)]
theorem put_size (a : Act) (d : Option Tmp) (u : Value) : (a.put d u).tmps.size = a.tmps.size := by cases d <;> simp [Act.put]
theorem put_defers (a : Act) (d : Option Tmp) (u : Value) : (a.put d u).defers = a.defers := by cases d <;> rfl
theorem Rel.put (h : Rel P w0 m0 ρ σ a w) (d : Option Tmp) {x : AV} {u : Value} (hx : RepV P ρ w x u) : Rel P w0 m0 ρ (σ.put d x) (a.put d u) w := by
  cases d with
  | none => exact h
  | some d =>
    refine { h with tl := by simp [AS.put, Act.put, h.tl], tm := fun i y hy => ?_, df := h.df }
    show RepV P ρ w y ((a.tmps.setIfInBounds d u).getD i undef)
    rw [getD_set]
    simp only [AS.put] at hy
    rw [List.getElem?_set] at hy
    by_cases hd : d = i
    · rw [if_pos hd] at hy
      split at hy
      · rename_i hl
        rw [if_pos ⟨hd.symm, by rw [← h.tl]; omega⟩]
        injection hy with hy
        subst hy; exact hx
      · cases hy
    · rw [if_neg hd] at hy
      rw [if_neg (fun e => hd e.1.symm)]
      exact h.tm i y hy

/-- Nothing that was there has changed. -/
theorem Rel.stab (h : Rel P w0 m0 ρ σ a w) {W : World} (hb : Below w.heap.size w W) : Stab ρ w ρ W :=
  ⟨rfl, hb.size, fun g hg _ => hb.block g hg, fun _ _ h => h, fun _ _ h => h, fun _ _ h1 h2 => ⟨h1, h2⟩, fun g hg => (h.ob g hg).2.2, fun _ _ => rfl⟩
theorem Rel.world (h : Rel P w0 m0 ρ σ a w) {W : World} (hb : Below w.heap.size w W) : Rel P w0 m0 ρ σ a W := by
  have st := h.stab hb
  refine { h with fr := h.fr.trans (.of_below hb), ml := fun g hg => Nat.lt_of_lt_of_le (h.ml g hg) hb.size, ob := fun g hg => ⟨(h.ob g hg).1, Nat.lt_of_lt_of_le (h.ob g hg).2.1 hb.size, (h.ob g hg).2.2⟩, hp := fun b cs hc => ?_, tm := fun i x hx => (h.tm i x hx).keep st }
  obtain ⟨g, hg, vs, t, h1, h2⟩ := h.hp b cs hc
  exact ⟨g, hg, vs, t, (hb.block g (h.ml g (List.mem_of_getElem? hg))).trans h1, h2.keep st⟩
end

/-! ### Coarser states -/
inductive AV.le : AV → AV → Prop
  | rfl (x : AV) : AV.le x x
  | top (x : AV) : AV.le x .top
inductive ACs.le : List AC → List AC → Prop
  | nil : ACs.le [] []
  | eq (x : AC) {xs ys : List AC} (h : ACs.le xs ys) : ACs.le (x :: xs) (x :: ys)
  | top (x : AC) {xs ys : List AC} (h : ACs.le xs ys) : ACs.le (x :: xs) (.top :: ys)
inductive AVs.le : List AV → List AV → Prop
  | nil : AVs.le [] []
  | eq (x : AV) {xs ys : List AV} (h : AVs.le xs ys) : AVs.le (x :: xs) (x :: ys)
  | top (x : AV) {xs ys : List AV} (h : AVs.le xs ys) : AVs.le (x :: xs) (.c .top :: ys)
theorem AVs.le.eqv {x y : AV} {xs ys : List AV} (h : AVs.le xs ys) (e : x = y) : AVs.le (x :: xs) (y :: ys) := by subst e; exact .eq _ h
inductive Hs.le : List (List AC) → List (List AC) → Prop
  | nil : Hs.le [] []
  | cons {c d : List AC} {xs ys : List (List AC)} (hc : ACs.le c d) (h : Hs.le xs ys) : Hs.le (c :: xs) (d :: ys)
theorem ACs.le.refl : ∀ xs : List AC, ACs.le xs xs
  | [] => .nil
  | x :: xs => .eq x (.refl xs)
theorem AVs.le.refl : ∀ xs : List AV, AVs.le xs xs
  | [] => .nil
  | x :: xs => .eq x (.refl xs)
theorem Hs.le.refl : ∀ xs : List (List AC), Hs.le xs xs
  | [] => .nil
  | x :: xs => .cons (.refl x) (.refl xs)
structure AS.le (σ τ : AS) : Prop where
  tm : AVs.le σ.tm τ.tm
  hp : Hs.le σ.hp τ.hp
  nx : σ.nx = τ.nx
theorem AVs.le.len {xs ys : List AV} (h : AVs.le xs ys) : xs.length = ys.length := by
  induction h with
  | nil => rfl
  | eq _ _ ih => simp [ih]
  | top _ _ ih => simp [ih]
theorem Hs.le.len {xs ys : List (List AC)} (h : Hs.le xs ys) : xs.length = ys.length := by
  induction h with
  | nil => rfl
  | cons _ _ ih => simp [ih]
theorem AVs.le.get {P : Program} {ρ : Env} {w : World} {xs ys : List AV} (h : AVs.le xs ys) : ∀ {i : Nat} {y : AV}, ys[i]? = some y → ∃ x, xs[i]? = some x ∧ ∀ u, RepV P ρ w x u → RepV P ρ w y u := by
  induction h with
  | nil => intro i y h; simp at h
  | eq x h ih =>
    intro i y hy
    cases i with
    | zero => simp at hy; subst hy; exact ⟨x, rfl, fun _ h => h⟩
    | succ i => simp at hy; simpa using ih hy
  | top x h ih =>
    intro i y hy
    cases i with
    | zero => simp at hy; subst hy; exact ⟨x, rfl, fun _ _ => trivial⟩
    | succ i => simp at hy; simpa using ih hy
theorem ACs.le.rep {P : Program} {ρ : Env} {w : World} {xs ys : List AC} (h : ACs.le xs ys) : ∀ {vs : List Value}, RepL P ρ w xs vs → RepL P ρ w ys vs := by
  induction h with
  | nil => intro vs h; exact h
  | eq x h ih => intro vs k; cases vs with
    | nil => exact k
    | cons v vs => exact ⟨k.1, ih k.2⟩
  | top x h ih => intro vs k; cases vs with
    | nil => exact k
    | cons v vs => exact ⟨trivial, ih k.2⟩
theorem Hs.le.get {xs ys : List (List AC)} (h : Hs.le xs ys) : ∀ {i : Nat} {y : List AC}, ys[i]? = some y → ∃ x, xs[i]? = some x ∧ ACs.le x y := by
  induction h with
  | nil => intro i y h; simp at h
  | cons hc h ih =>
    intro i y hy
    cases i with
    | zero => simp at hy; subst hy; exact ⟨_, rfl, hc⟩
    | succ i => simp at hy; simpa using ih hy
theorem Rel.le {P : Program} {w0 : World} {m0 : Gv} {ρ : Env} {σ τ : AS} {a : Act} {w : World} (h : Rel P w0 m0 ρ σ a w) (k : σ.le τ) : Rel P w0 m0 ρ τ a w := by
  refine ⟨h.B, h.Bw, h.fr, h.pre, h.ml, h.nd, h.ob, h.no, h.lp, by rw [h.nx, k.nx], by rw [← k.hp.len, h.hl], fun b cs hc => ?_, by rw [← k.tm.len, h.tl], fun i y hy => ?_, h.df⟩
  · obtain ⟨ds, h1, h2⟩ := k.hp.get hc
    obtain ⟨g, hg, vs, t, h3, h4⟩ := h.hp b ds h1
    exact ⟨g, hg, vs, t, h3, h2.rep h4⟩
  · obtain ⟨x, h1, h2⟩ := k.tm.get (P := P) (ρ := ρ) (w := w) hy
    exact h2 _ (h.tm i x h1)

/-! ### Control -/
section
variable (P : Program) (w0 : World) (m0 : Gv)
def lift (Q : Exit → AS → Prop) : Exit → Act → World → Prop := fun e a w => ∃ ρ σ, Q e σ ∧ Rel P w0 m0 ρ σ a w
def AWp (c : Code) (Q : Exit → AS → Prop) (σ : AS) : Prop := ∀ ρ a w, Rel P w0 m0 ρ σ a w → c.wp P (lift P w0 m0 Q) a w
end
def Exit.thenA (K : AS → Prop) (Q : Exit → AS → Prop) : Exit → AS → Prop
  | .normal, σ => K σ
  | e, σ => Q e σ
def Exit.inBlockA (id : Nat) (Q : Exit → AS → Prop) : Exit → AS → Prop
  | .exit id', σ => if id' = id then Q .normal σ else Q (.exit id') σ
  | e, σ => Q e σ
section
variable {P : Program} {w0 : World} {m0 : Gv} {Q : Exit → AS → Prop} {σ : AS}
theorem AWp.mono {c : Code} {Q' : Exit → AS → Prop} (h : AWp P w0 m0 c Q σ) (hq : ∀ e σ, Q e σ → Q' e σ) : AWp P w0 m0 c Q' σ :=
  fun ρ a w r => wp_mono (h ρ a w r) fun e a w ⟨ρ, σ, q, r⟩ => ⟨ρ, σ, hq _ _ q, r⟩
theorem AWp.le {c : Code} {τ : AS} (h : AWp P w0 m0 c Q τ) (k : σ.le τ) : AWp P w0 m0 c Q σ := fun ρ a w r => h ρ a w (r.le k)
theorem awp_skip (h : Q .normal σ) : AWp P w0 m0 .skip Q σ := fun ρ a w r => wp_skip ⟨ρ, σ, h, r⟩
theorem awp_label {l : Nat} (h : Q .normal σ) : AWp P w0 m0 (.label l) Q σ := fun ρ a w r => wp_label ⟨ρ, σ, h, r⟩
theorem awp_exit {id : Nat} (h : Q (.exit id) σ) : AWp P w0 m0 (.exit id) Q σ := fun ρ a w r => wp_exit ⟨ρ, σ, h, r⟩
theorem awp_ret (h : Q .ret σ) : AWp P w0 m0 .ret Q σ := fun ρ a w r => wp_ret ⟨ρ, σ, h, r⟩
theorem awp_seq {x y : Code} (h : AWp P w0 m0 x (Exit.thenA (AWp P w0 m0 y Q) Q) σ) : AWp P w0 m0 (.seq x y) Q σ := fun ρ a w r =>
  wp_seq (wp_mono (h ρ a w r) fun e a w ⟨ρ, σ, q, r⟩ => by
    cases e <;> first | exact q ρ a w r | exact ⟨ρ, σ, q, r⟩)
/-- The ways through x meet again in the states of K. -/
theorem awp_seq_cut {x y : Code} (K : AS → Prop) (h : AWp P w0 m0 x (Exit.thenA (fun σ => ∃ τ, σ.le τ ∧ K τ) Q) σ) (k : ∀ σ, K σ → AWp P w0 m0 y Q σ) : AWp P w0 m0 (.seq x y) Q σ :=
  awp_seq (h.mono fun e σ q => by
    cases e <;> first | exact (by obtain ⟨τ, h1, h2⟩ := q; exact (k τ h2).le h1) | exact q)
theorem awp_block {id : Nat} {c : Code} (h : AWp P w0 m0 c (Exit.inBlockA id Q) σ) : AWp P w0 m0 (.block id c) Q σ := fun ρ a w r =>
  wp_block (wp_mono (h ρ a w r) fun e a w ⟨ρ, σ, q, r⟩ => by
    cases e <;> first
      | exact ⟨ρ, σ, q, r⟩
      | (rename_i i
         simp only [Exit.inBlock, Exit.inBlockA] at *
         split
         · rename_i h; rw [if_pos h] at q; exact ⟨ρ, σ, q, r⟩
         · rename_i h; rw [if_neg h] at q; exact ⟨ρ, σ, q, r⟩))
theorem awp_cond_t {c : Operand} {x y : Code} {t : Bool} (hc : σ.ev c = .c (.p (.bool t))) (ht : t = true) (h : AWp P w0 m0 x Q σ) : AWp P w0 m0 (.cond c x y) Q σ := fun ρ a w r => by
  have := r.ev c
  rw [hc] at this
  subst ht
  exact wp_cond_true this (h ρ a w r)
theorem awp_cond_f {c : Operand} {x y : Code} {t : Bool} (hc : σ.ev c = .c (.p (.bool t))) (ht : t = false) (h : AWp P w0 m0 y Q σ) : AWp P w0 m0 (.cond c x y) Q σ := fun ρ a w r => by
  have := r.ev c
  rw [hc] at this
  subst ht
  exact wp_cond_false this (h ρ a w r)
theorem awp_cond {c : Operand} {x y : Code} {t : Bool} (hc : σ.ev c = .c (.p (.bool t))) (ht : t = true → AWp P w0 m0 x Q σ) (hf : t = false → AWp P w0 m0 y Q σ) : AWp P w0 m0 (.cond c x y) Q σ := by
  cases h : t with
  | true => exact awp_cond_t hc h (ht h)
  | false => exact awp_cond_f hc h (hf h)
theorem least_of {p : Nat → Prop} (h : ∃ n, p n) : ∃ n, p n ∧ ∀ m, p m → n ≤ m := by
  classical
  obtain ⟨n, hn⟩ := h
  induction n using Nat.strongRecOn with
  | _ n ih =>
    by_cases hm : ∃ m, m < n ∧ p m
    · obtain ⟨m, h1, h2⟩ := hm
      exact ih m h1 h2
    · exact ⟨n, hn, fun m h => Nat.le_of_not_lt fun hl => hm ⟨m, hl, h⟩⟩
/-- A loop: I n, n goes down. -/
theorem awp_loop {c : Code} (I : Nat → AS → Prop) (n : Nat) (h0 : ∃ τ, σ.le τ ∧ I n τ)
    (round : ∀ n σ, I n σ → AWp P w0 m0 c (Exit.thenA (fun σ' => ∃ n' τ, n' < n ∧ σ'.le τ ∧ I n' τ) Q) σ) : AWp P w0 m0 (.loop c) Q σ := fun ρ a w r => by
  classical
  let J : Act → World → Nat → Prop := fun a w n => ∃ ρ σ, I n σ ∧ Rel P w0 m0 ρ σ a w
  refine wp_loop (fun a w => ∃ n, J a w n) (fun a w => if h : ∃ n, J a w n then (least_of h).choose else 0) ?_ ?_
  · obtain ⟨τ, h1, h2⟩ := h0
    exact ⟨n, ρ, τ, h2, r.le h1⟩
  · intro a w hI
    obtain ⟨ρ, σ, h1, h2⟩ := (least_of hI).choose_spec.1
    refine wp_mono (round _ σ h1 ρ a w h2) fun e a' w' ⟨ρ', σ', q, r'⟩ => ?_
    cases e with
    | normal =>
      obtain ⟨n', τ, hlt, hle, hi⟩ := q
      have hJ : ∃ n, J a' w' n := ⟨n', ρ', τ, hi, r'.le hle⟩
      refine ⟨hJ, ?_⟩
      rw [dif_pos hJ, dif_pos hI]
      exact Nat.lt_of_le_of_lt ((least_of hJ).choose_spec.2 _ ⟨ρ', τ, hi, r'.le hle⟩) hlt
    | _ => exact ⟨ρ', σ', q, r'⟩
end
end Go.Proofs.Ytdhplkdohhiooaa
