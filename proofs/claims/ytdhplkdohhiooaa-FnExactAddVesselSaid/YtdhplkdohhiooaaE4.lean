/- The abstract machine: parts of strings and slices; regions, drawn or not; calls of named functions. -/
import Derived.Test.YtdhplkdohhiooaaE3
namespace Go.Proofs.Ytdhplkdohhiooaa
open Go.RowKit
set_option linter.unusedVariables false

section
variable {P : Program} {σ : AS}
/-! ### Parts -/
theorem q_slice_s {t : TypeId} {x y z : Operand} {s : ByteArray} {k k' : IntKind} {l h : Int} (ht : P.underlying t = some .string) (hx : σ.ev x = .c (.p (.string s))) (hy : σ.ev y = .c (.p (.int k l))) (hz : σ.ev z = .c (.p (.int k' h)))
    (h0 : 0 ≤ l) (h1 : l ≤ h) (h2 : h ≤ s.size) : QOp P (.slice t x (some y) (some z) none) σ (.c (.p (.string (s.extract l.toNat h.toNat)))) :=
  fun _ _ ρ f w _ _ _ _ _ r => ⟨_, rfl, fun W _ => by
    obtain ⟨h, rfl⟩ := Int.eq_ofNat_of_zero_le (show 0 ≤ h by omega)
    have e1 : h ≤ s.size := by omega
    have e2 : 0 ≤ l ∧ l ≤ (h : Int) := ⟨h0, by omega⟩
    simp [execOp, r.evp hx, r.evp hy, r.evp hz, Instr.sliceAt, Instr.slice, run_underlying ht, Instr.sliceBounds, Instr.sliceBound, asIntOf, e1, e2]⟩
theorem q_slice_sl {t : TypeId} {x y : Operand} {s : ByteArray} {k : IntKind} {l : Int} (ht : P.underlying t = some .string) (hx : σ.ev x = .c (.p (.string s))) (hy : σ.ev y = .c (.p (.int k l)))
    (h0 : 0 ≤ l) (h1 : l ≤ s.size) : QOp P (.slice t x (some y) none none) σ (.c (.p (.string (s.extract l.toNat s.size)))) :=
  fun _ _ ρ f w _ _ _ _ _ r => ⟨_, rfl, fun W _ => by
    have e2 : 0 ≤ l ∧ l ≤ (s.size : Int) := ⟨h0, h1⟩
    simp [execOp, r.evp hx, r.evp hy, Instr.sliceAt, Instr.slice, run_underlying ht, Instr.sliceBounds, Instr.sliceBound, asIntOf, e2]⟩
theorem q_slice_sh {t : TypeId} {x z : Operand} {s : ByteArray} {k' : IntKind} {h : Int} (ht : P.underlying t = some .string) (hx : σ.ev x = .c (.p (.string s))) (hz : σ.ev z = .c (.p (.int k' h)))
    (h0 : 0 ≤ h) (h2 : h ≤ s.size) : QOp P (.slice t x none (some z) none) σ (.c (.p (.string (s.extract 0 h.toNat)))) :=
  fun _ _ ρ f w _ _ _ _ _ r => ⟨_, rfl, fun W _ => by
    have e1 : 0 ≤ h ∧ h ≤ (s.size : Int) := ⟨by omega, h2⟩
    simp [execOp, r.evp hx, r.evp hz, Instr.sliceAt, Instr.slice, run_underlying ht, Instr.sliceBounds, Instr.sliceBound, asIntOf, e1]⟩
theorem RdS.part {ρ : Env} {w : World} {e : TypeId} {o : Ow} {xs : List (List Value)} {l h : Nat} {A : Option Addr} {c : Nat} (hr : RdS P ρ w e o xs (.slice A xs.length c)) (h1 : l ≤ h) (h2 : h ≤ xs.length) :
    RdS P ρ w e o ((xs.take h).drop l) (.slice (if c = l then A else A.map (·.add (l * P.cellsOf e))) (h - l) (c - l)) := by
  have hlen : ((xs.take h).drop l).length = h - l := by rw [List.length_drop, List.length_take]; omega
  by_cases hlh : l = h
  · subst hlh
    refine .inl ⟨List.eq_nil_of_length_eq_zero (by omega), ?_⟩
    rw [Nat.sub_self]
    exact ⟨_, _, rfl⟩
  · rcases hr with ⟨rfl, _⟩ | ⟨g, off, c', he, hc, hg, ha, hels⟩
    · simp at h2; omega
    · injection he with e1 e2 e3
      subst e1; subst e3
      refine .inr ⟨g, off + l * P.cellsOf e, c - l, ?_, by rw [hlen]; omega, hg, ha, fun i x hx => ?_⟩
      · rw [if_neg (by omega), hlen]
        simp [addr_add]
      · rw [List.getElem?_drop, List.getElem?_take] at hx
        split at hx
        · refine ⟨(hels _ x hx).1, fun j v hv => ?_⟩
          have := (hels _ x hx).2 j v hv
          rw [← this]; congr 2; rw [Nat.add_mul]; omega
        · cases hx
theorem RepC.partC {ρ : Env} {w : World} {e : TypeId} {o : Ow} {xs : List (List Value)} {l h : Nat} {A : Option Addr} {c : Nat} (hr : RepC P ρ w (.sl e o xs) (.slice A xs.length c)) (h1 : l ≤ h) (h2 : h ≤ xs.length) :
    RepC P ρ w (.sl e o.part ((xs.take h).drop l)) (.slice (if c = l then A else A.map (·.add (l * P.cellsOf e))) (h - l) (c - l)) := by
  have := RdS.part hr.rdS h1 h2
  have hm := hr.1
  have hlen : ((xs.take h).drop l).length ≤ 9223372036854775807 := by rw [List.length_drop, List.length_take]; omega
  cases o with
  | ro => exact ⟨hlen, this⟩
  | own k => exact ⟨hlen, this⟩
  | sub k => exact ⟨hlen, this⟩
theorem RdS.cap {ρ : Env} {w : World} {e : TypeId} {o : Ow} {xs : List (List Value)} {A : Option Addr} {n c : Nat} (hr : RdS P ρ w e o xs (.slice A n c)) : n = xs.length ∧ (xs.length ≤ c) := by
  rcases hr with ⟨rfl, A', c', he⟩ | ⟨g, off, c', he, hc, _⟩
  · injection he with e1 e2 e3; subst e2; simp
  · injection he with e1 e2 e3; subst e2; subst e3; exact ⟨rfl, hc⟩
theorem q_slice {t e : TypeId} {x y z : Operand} {o : Ow} {xs : List (List Value)} {k k' : IntKind} {l h : Int} (ht : sliceE P t e = true) (hx : σ.ev x = .c (.sl e o xs)) (hy : σ.ev y = .c (.p (.int k l))) (hz : σ.ev z = .c (.p (.int k' h)))
    (h0 : 0 ≤ l) (h1 : l ≤ h) (h2 : h ≤ xs.length) : QOp P (.slice t x (some y) (some z) none) σ (.c (.sl e o.part ((xs.take h.toNat).drop l.toNat))) :=
  fun _ _ ρ f w _ _ _ _ _ r => by
    have hv := r.ev x
    rw [hx] at hv
    have hv : RepC P ρ w (.sl e o xs) (f.eval x) := hv
    obtain ⟨hu, hz'⟩ := sliceE_spec ht
    obtain ⟨A, c, he⟩ := hv.rdS.val
    rw [he] at hv
    have hc := hv.rdS.cap.2
    refine ⟨_, hv.partC (l := l.toNat) (h := h.toNat) (by omega) (by omega), fun W _ => ?_⟩
    obtain ⟨h, rfl⟩ := Int.eq_ofNat_of_zero_le (show 0 ≤ h by omega)
    have e1 : h ≤ c := by omega
    have e2 : 0 ≤ l ∧ l ≤ (h : Int) := ⟨h0, by omega⟩
    simp [execOp, he, r.evp hy, r.evp hz, Instr.sliceAt, Instr.slice, run_underlying hu, Instr.sliceBounds, Instr.sliceBound, asIntOf, e1, e2, size_cellsOf (t := t) hz']
theorem q_slice_l {t e : TypeId} {x y : Operand} {o : Ow} {xs : List (List Value)} {k : IntKind} {l : Int} (ht : sliceE P t e = true) (hx : σ.ev x = .c (.sl e o xs)) (hy : σ.ev y = .c (.p (.int k l)))
    (h0 : 0 ≤ l) (h1 : l ≤ xs.length) : QOp P (.slice t x (some y) none none) σ (.c (.sl e o.part (xs.drop l.toNat))) :=
  fun _ _ ρ f w _ _ _ _ _ r => by
    have hv := r.ev x
    rw [hx] at hv
    have hv : RepC P ρ w (.sl e o xs) (f.eval x) := hv
    obtain ⟨hu, hz'⟩ := sliceE_spec ht
    obtain ⟨A, c, he⟩ := hv.rdS.val
    rw [he] at hv
    have h3 := hv.partC (l := l.toNat) (h := xs.length) (by omega) (by omega)
    rw [List.take_length] at h3
    refine ⟨_, h3, fun W _ => ?_⟩
    have e2 : 0 ≤ l ∧ l ≤ (xs.length : Int) := ⟨h0, by omega⟩
    simp [execOp, he, r.evp hy, Instr.sliceAt, Instr.slice, run_underlying hu, Instr.sliceBounds, Instr.sliceBound, asIntOf, e2, size_cellsOf (t := t) hz']
theorem q_slice_h {t e : TypeId} {x z : Operand} {o : Ow} {xs : List (List Value)} {k' : IntKind} {h : Int} (ht : sliceE P t e = true) (hx : σ.ev x = .c (.sl e o xs)) (hz : σ.ev z = .c (.p (.int k' h)))
    (h0 : 0 ≤ h) (h2 : h ≤ xs.length) : QOp P (.slice t x none (some z) none) σ (.c (.sl e o.part (xs.take h.toNat))) :=
  fun _ _ ρ f w _ _ _ _ _ r => by
    have hv := r.ev x
    rw [hx] at hv
    have hv : RepC P ρ w (.sl e o xs) (f.eval x) := hv
    obtain ⟨hu, hz'⟩ := sliceE_spec ht
    obtain ⟨A, c, he⟩ := hv.rdS.val
    rw [he] at hv
    have hc := hv.rdS.cap.2
    have h3 := hv.partC (l := 0) (h := h.toNat) (by omega) (by omega)
    rw [List.drop_zero] at h3
    refine ⟨_, h3, fun W _ => ?_⟩
    have e1 : 0 ≤ h ∧ h ≤ (c : Int) := ⟨by omega, by omega⟩
    simp [execOp, he, r.evp hz, Instr.sliceAt, Instr.slice, run_underlying hu, Instr.sliceBounds, Instr.sliceBound, asIntOf, e1, size_cellsOf (t := t) hz']

/-! ### Calls -/
def AC.ro : AC → AC
  | .sl e _ xs => .sl e .ro xs
  | .rp _ cs => .rp .ro cs
  | .ptr _ _ => .top
  | .bsl _ _ _ => .top
  | .top => .top
  | .p v => .p v
  | .nl => .nl
  | .sv v e xs => .sv v e xs
  | .ep _ _ _ _ _ => .top
  | .fo _ _ => .top
  | .fr f css => .fr f css
def AW.ro : AW → AW
  | .c x => .c x.ro
  | .agg cs => .agg (cs.map AC.ro)
def AV.ro : AV → AV
  | .c x => .c x.ro
  | .agg cs => .agg (cs.map AC.ro)
  | .tup ws => .tup (ws.map AW.ro)
section
variable {w0 : World} {m0 : Gv} {ρ : Env} {a : Act} {w : World}
theorem RdS.ro (h : Rel P w0 m0 ρ σ a w) (B : Nat) {m : List Nat} (hm : ∀ g ∈ m, g ∈ ρ.m) {e : TypeId} {o : Ow} {xs : List (List Value)} {u : Value} (k : RdS P ρ w e o xs u) : RdS P (E0 B m) w e .ro xs u := by
  rcases k with k | ⟨g, off, c, rfl, hc, hg, ha, he⟩
  · exact .inl k
  · refine .inr ⟨g, off, c, rfl, hc, hg, ⟨fun hgm => ?_, by simp [E0]⟩, he⟩
    cases o with
    | ro => exact ha.1 (hm g hgm)
    | own k => exact (h.ob g (List.mem_of_getElem? ha)).2.2 (hm g hgm)
    | sub k => exact (h.ob g (List.mem_of_getElem? ha)).2.2 (hm g hgm)
theorem PtrR.ro (h : Rel P w0 m0 ρ σ a w) (B : Nat) {m : List Nat} (hm : ∀ g ∈ m, g ∈ ρ.m) : ∀ {css : List (List Value)} {vs : List Value}, PtrR ρ w css vs → PtrR (E0 B m) w css vs
  | [], [], _ => trivial
  | _ :: _, _ :: _, ⟨⟨g, off, e, hg, ha, hc⟩, q⟩ => ⟨⟨g, off, e, hg, ⟨fun hgm => ha.1 (hm g hgm), by simp [E0]⟩, hc⟩, PtrR.ro h B hm q⟩
theorem RepC.ro (h : Rel P w0 m0 ρ σ a w) (B : Nat) {m : List Nat} (hm : ∀ g ∈ m, g ∈ ρ.m) {x : AC} {u : Value} (k : RepC P ρ w x u) : RepC P (E0 B m) w x.ro u := by
  cases x with
  | top => trivial
  | p v => exact k
  | nl => exact k
  | ptr b o => trivial
  | bsl b sn sc => trivial
  | rp o cs =>
    obtain ⟨g, off, rfl, hg, ha, hc⟩ := k
    refine ⟨g, off, rfl, hg, ⟨fun hgm => ?_, by simp [E0]⟩, hc⟩
    cases o with
    | ro => exact ha.1 (hm g hgm)
    | own k => exact (h.ob g (List.mem_of_getElem? ha)).2.2 (hm g hgm)
    | sub k => exact (h.ob g (List.mem_of_getElem? ha)).2.2 (hm g hgm)
  | sl e o xs => exact ⟨k.1, RdS.ro h B hm k.rdS⟩
  | sv v e xs => exact ⟨k.1, k.2.1, RdS.ro h B hm k.2.2⟩
  | ep e n xs i j => trivial
  | fo f bs => trivial
  | fr f css => obtain ⟨vs, h1, h2⟩ := k; exact ⟨vs, h1, PtrR.ro h B hm h2⟩
theorem RepL.ro (h : Rel P w0 m0 ρ σ a w) (B : Nat) {m : List Nat} (hm : ∀ g ∈ m, g ∈ ρ.m) : ∀ {xs : List AC} {vs : List Value}, RepL P ρ w xs vs → RepL P (E0 B m) w (xs.map AC.ro) vs
  | [], [], _ => trivial
  | _ :: _, _ :: _, k => ⟨k.1.ro h B hm, RepL.ro h B hm k.2⟩
theorem RepW.ro (h : Rel P w0 m0 ρ σ a w) (B : Nat) {m : List Nat} (hm : ∀ g ∈ m, g ∈ ρ.m) {x : AW} {u : Value} (k : RepW P ρ w x u) : RepW P (E0 B m) w x.ro u := by
  cases x with
  | c x => exact RepC.ro h B hm k
  | agg cs => obtain ⟨vs, rfl, hl⟩ := k; exact ⟨vs, rfl, hl.ro h B hm⟩
theorem RepWs.ro (h : Rel P w0 m0 ρ σ a w) (B : Nat) {m : List Nat} (hm : ∀ g ∈ m, g ∈ ρ.m) : ∀ {xs : List AW} {vs : List Value}, RepWs P ρ w xs vs → RepWs P (E0 B m) w (xs.map AW.ro) vs
  | [], [], _ => trivial
  | _ :: _, _ :: _, k => ⟨k.1.ro h B hm, RepWs.ro h B hm k.2⟩
theorem RepV.ro (h : Rel P w0 m0 ρ σ a w) (B : Nat) {m : List Nat} (hm : ∀ g ∈ m, g ∈ ρ.m) {x : AV} {u : Value} (k : RepV P ρ w x u) : RepV P (E0 B m) w x.ro u := by
  cases x with
  | c x => exact RepC.ro h B hm k
  | agg cs => obtain ⟨vs, rfl, hl⟩ := k; exact ⟨vs, rfl, hl.ro h B hm⟩
  | tup ws => obtain ⟨vs, rfl, hl⟩ := k; exact ⟨vs, rfl, hl.ro h B hm⟩
end
def RepVs (P : Program) (ρ : Env) (w : World) : List AV → List Value → Prop
  | [], [] => True
  | x :: xs, v :: vs => RepV P ρ w x v ∧ RepVs P ρ w xs vs
  | _, _ => False
/-- What a call of function f gives: r, and hp' in the blocks hp that it is handed pointers into. k: how many new rows r holds. -/
def ACalls (P : Program) (f : FuncId) (args : List AV) (hp : List (List AC)) (r : AV) (hp' : List (List AC)) (k : Nat) : Prop :=
  ∀ (m : List Nat) (w : World) (vs : Array Value), m.Nodup → (∀ g ∈ m, g < w.heap.size) → m.length = hp.length → (∀ (b : Nat) cs, hp[b]? = some cs → ∃ g : Nat, m[b]? = some g ∧ HpAt P (E0 w.heap.size m) w cs g) →
    RepVs P (E0 w.heap.size m) w args vs.toList →
    Calls P f vs w (fun e w' => ∃ (u : Value) (om : List Nat) (ov : Nat → Value), e = .returned u ∧ om.Nodup ∧ om.length = k ∧ (∀ g ∈ om, w.heap.size ≤ g ∧ g < w'.heap.size) ∧ RepV P ⟨w.heap.size, m, om, ov⟩ w' r u ∧
      hp'.length = hp.length ∧ (∀ (b : Nat) cs, hp'[b]? = some cs → ∃ g : Nat, m[b]? = some g ∧ HpAt P (E0 w.heap.size m) w' cs g) ∧ Framed m w w')
def callB (P : Program) (f : FuncId) : Bool := match P.funcs[f]? with
  | some fn => fn.body.isSome && !(fn.name == "runtime.NumGoroutine")
  | none => false
theorem run_enter {f : FuncId} (hf : callB P f = true) (vs : Array Value) (W : World) : (callFunc f vs).run P W = .ok (.enter f vs) W := by
  unfold callB at hf
  split at hf
  · rename_i fn hfn
    simp only [Bool.and_eq_true, Bool.not_eq_true'] at hf
    obtain ⟨c, hb⟩ := Option.isSome_iff_exists.1 hf.1
    have hn : fn.name ≠ "runtime.NumGoroutine" := by intro h; rw [h] at hf; simp at hf
    simp [callFunc, hfn, hn, hb]
  · cases hf
theorem run_call {f : FuncId} (hf : callB P f = true) (xs : Array Operand) (ts : Array TypeId) (fr : Act) (d : Option Tmp) (ty : TypeId) (pos : String) (af : Array Edge) (gd : Option (Nat × Bool)) (W : World) :
    (execOp fr.eval ⟨d, .call { callee := .value (.func f), args := xs, argTypes := ts }, ty, pos, af, gd⟩).run P W = .ok (.enter f (xs.map fr.eval)) W := by
  simp [execOp, resolve, Deferred.ofValue, invoke, Act.eval, run_enter hf]
theorem RepVs.of {w0 : World} {m0 : Gv} {ρ : Env} {a : Act} {w : World} (h : Rel P w0 m0 ρ σ a w) : ∀ xs : List Operand, RepVs P (E0 w.heap.size []) w (xs.map fun x => (σ.ev x).ro) (xs.map a.eval)
  | [] => trivial
  | x :: xs => ⟨(h.ev x).ro h _ (by simp), RepVs.of h xs⟩

/-! ### Regions -/
def AR (P : Program) (w0 : World) (m0 : Gv) (ops : Array Oper) (Q : Exit → AS → Prop) (l : List Oper) (σ : AS) : Prop :=
  ∀ ρ a w, Rel P w0 m0 ρ σ a w → wpList P ops (lift P w0 m0 Q) l a w
def DR (P : Program) (w0 : World) (m0 : Gv) (ops : Array Oper) (Q : Exit → AS → Prop) (l : List Oper) (σ : AS) : Prop :=
  ∀ ρ a w, Rel P w0 m0 ρ σ a w → wpQuiet P ops (fun W => Below w.heap.size w W) (fun a' => ∀ W, Below w.heap.size w W → lift P w0 m0 Q .normal a' W) l a
/-- The operation is quiet: one value, in whatever world. -/
def Qt (P : Program) (o : Op) (σ : AS) (x : AV) : Prop :=
  ∀ (w0 : World) (m0 : Gv) (ρ : Env) (a : Act) (w : World) (d : Option Tmp) (ty : TypeId) (pos : String) (af : Array Edge) (gd : Option (Nat × Bool)), Rel P w0 m0 ρ σ a w →
    ∃ u, RepV P ρ w x u ∧ ∀ W, Below w.heap.size w W → Oper.quietAt P ⟨d, o, ty, pos, af, gd⟩ a (fun W => Below w.heap.size w W) W u
theorem QOp.qt {o : Op} {x : AV} (h : QOp P o σ x) : Qt P o σ x := fun w0 m0 ρ a w d ty pos af gd r => by
  obtain ⟨u, h1, h2⟩ := h w0 m0 ρ a w d ty pos af gd r
  refine ⟨u, h1, fun W hW => ?_⟩
  unfold Oper.quietAt
  rw [h2 W hW]
  exact ⟨rfl, rfl⟩
def plainC : List AC → Option (List Value)
  | [] => some []
  | .p v :: cs => (plainC cs).map (v :: ·)
  | _ => none
def plainW : AW → Option Value
  | .c (.p v) => some v
  | .agg cs => (plainC cs).map fun vs => .agg vs.toArray
  | _ => none
def plainWs : List AW → Option (List Value)
  | [] => some []
  | x :: xs => match plainW x, plainWs xs with
    | some v, some vs => some (v :: vs)
    | _, _ => none
def plainV : AV → Option Value
  | .c (.p v) => some v
  | .agg cs => (plainC cs).map fun vs => .agg vs.toArray
  | .tup ws => (plainWs ws).map fun vs => .tuple vs.toArray
  | _ => none
theorem plainC_rep : ∀ {cs : List AC} {vs : List Value}, plainC cs = some vs → cs = vs.map .p
  | [], vs, h => by simp [plainC] at h; subst h; rfl
  | x :: cs, vs, h => by
    cases x with
    | p v =>
      simp only [plainC, Option.map_eq_some_iff] at h
      obtain ⟨us, h1, rfl⟩ := h
      simp [plainC_rep h1]
    | _ => simp [plainC] at h
theorem repL_plain {ρ : Env} {w : World} : ∀ {us vs : List Value}, RepL P ρ w (us.map .p) vs → vs = us
  | [], [], _ => rfl
  | u :: us, v :: vs, h => by rw [show v = u from h.1, repL_plain h.2]
theorem plainW_rep {ρ : Env} {w : World} {x : AW} {v u : Value} (h : plainW x = some v) : RepW P ρ w x u ↔ u = v := by
  unfold plainW at h
  split at h
  · injection h with h; subst h; exact Iff.rfl
  · rw [Option.map_eq_some_iff] at h
    obtain ⟨us, h1, rfl⟩ := h
    have := plainC_rep h1
    subst this
    constructor
    · rintro ⟨vs, rfl, hl⟩
      have := repL_plain hl
      rw [← this]
    · rintro rfl
      exact ⟨_, rfl, repL_p us⟩
  · cases h
theorem plainWs_rep {ρ : Env} {w : World} : ∀ {xs : List AW} {vs us : List Value}, plainWs xs = some vs → (RepWs P ρ w xs us ↔ us = vs)
  | [], vs, us, h => by
    simp [plainWs] at h; subst h
    cases us with
    | nil => exact iff_of_true trivial rfl
    | cons u us => exact iff_of_false (fun h => h) (by simp)
  | x :: xs, vs, us, h => by
    simp only [plainWs] at h
    split at h
    · rename_i v vs' h1 h2
      injection h with h; subst h
      cases us with
      | nil => exact iff_of_false (fun h => h) (by simp)
      | cons u us =>
        show (RepW P ρ w x u ∧ RepWs P ρ w xs us) ↔ _
        rw [plainW_rep h1, plainWs_rep h2, List.cons.injEq]
    · cases h
theorem plainV_rep {ρ : Env} {w : World} {x : AV} {v u : Value} (h : plainV x = some v) : RepV P ρ w x u ↔ u = v := by
  unfold plainV at h
  split at h
  · injection h with h; subst h; exact Iff.rfl
  · rw [Option.map_eq_some_iff] at h
    obtain ⟨us, h1, rfl⟩ := h
    have := plainC_rep h1
    subst this
    constructor
    · rintro ⟨vs, rfl, hl⟩
      have := repL_plain hl
      rw [← this]
    · rintro rfl
      exact ⟨_, rfl, repL_p us⟩
  · rw [Option.map_eq_some_iff] at h
    obtain ⟨us, h1, rfl⟩ := h
    constructor
    · rintro ⟨vs, rfl, hl⟩
      have := (plainWs_rep h1).1 hl
      rw [← this]
    · rintro rfl
      exact ⟨_, rfl, (plainWs_rep h1).2 rfl⟩
  · cases h
/-- A call whose result is plain. -/
theorem qt_call {f : FuncId} {xs : List Operand} {ts : Array TypeId} {r : AV} {v : Value} (hf : callB P f = true) (hc : ACalls P f (xs.map fun x => (σ.ev x).ro) [] r [] 0) (hv : plainV r = some v) :
    Qt P (.call { callee := .value (.func f), args := xs.toArray, argTypes := ts }) σ r := fun w0 m0 ρ a w d ty pos af gd h => by
  refine ⟨v, (plainV_rep hv).2 rfl, fun W hW => ?_⟩
  unfold Oper.quietAt
  rw [run_call hf]
  have hW' := h.world hW
  have := hc [] W (xs.toArray.map a.eval) List.nodup_nil (by simp) rfl (by simp) (by simpa using RepVs.of hW' xs)
  refine ⟨rfl, this.mono ?_⟩
  rintro e w' ⟨u, om, ov, rfl, _, _, _, h1, _, _, hfr⟩
  rw [plainV_rep hv] at h1
  subst h1
  exact ⟨rfl, hW.trans (hfr.below.mono hW.size)⟩

variable {w0 : World} {m0 : Gv} {ops : Array Oper} {Q : Exit → AS → Prop} {rest : List Oper}
theorem ar_nil (h : Q .normal σ) : AR P w0 m0 ops Q [] σ := fun ρ a w r => wpList_nil ⟨ρ, σ, h, r⟩
theorem dr_nil (h : Q .normal σ) : DR P w0 m0 ops Q [] σ := fun ρ a w r => wpQuiet_nil fun W hW => ⟨ρ, σ, h, r.world hW⟩
theorem ar_qt {o : Op} {x : AV} {d : Option Tmp} {ty : TypeId} {pos : String} {af : Array Edge} (hq : Qt P o σ x) (h : AR P w0 m0 ops Q rest (σ.put d x)) : AR P w0 m0 ops Q (⟨d, o, ty, pos, af, none⟩ :: rest) σ := fun ρ a w r => by
  obtain ⟨u, h1, h2⟩ := hq w0 m0 ρ a w d ty pos af none r
  exact wpList_plain rfl fun K hK => Oper.wp_of_quiet (C := fun W => Below w.heap.size w W) (K := fun a' => a' = a.put d u) (Below.refl _ _)
    (fun a' w' hw' ha' => by subst ha'; exact hK _ _ (h ρ _ w' ((r.put d h1).world hw'))) ⟨u, h2, rfl⟩
theorem dr_qt {o : Op} {x : AV} {d : Option Tmp} {ty : TypeId} {pos : String} {af : Array Edge} (hq : Qt P o σ x) (h : DR P w0 m0 ops Q rest (σ.put d x)) : DR P w0 m0 ops Q (⟨d, o, ty, pos, af, none⟩ :: rest) σ := fun ρ a w r => by
  obtain ⟨u, h1, h2⟩ := hq w0 m0 ρ a w d ty pos af none r
  exact wpQuiet_step fun K hK => by
    rw [if_pos (show Region.wanted ⟨d, o, ty, pos, af, none⟩ (yielded ops a.tmps) = true from rfl)]
    exact ⟨u, h2, hK _ (h ρ _ w (r.put d h1))⟩
theorem ar_q {o : Op} {x : AV} {d : Option Tmp} {ty : TypeId} {pos : String} {af : Array Edge} (hq : QOp P o σ x) (h : AR P w0 m0 ops Q rest (σ.put d x)) : AR P w0 m0 ops Q (⟨d, o, ty, pos, af, none⟩ :: rest) σ := ar_qt hq.qt h
theorem dr_q {o : Op} {x : AV} {d : Option Tmp} {ty : TypeId} {pos : String} {af : Array Edge} (hq : QOp P o σ x) (h : DR P w0 m0 ops Q rest (σ.put d x)) : DR P w0 m0 ops Q (⟨d, o, ty, pos, af, none⟩ :: rest) σ := dr_qt hq.qt h
/-- The Bool that operation j has yielded. -/
def AS.yv (ops : Array Oper) (σ : AS) (j : Nat) : Option Bool := match (ops[j]?).bind (·.dst) with
  | some t => match σ.tm[t]? with
    | some (.c (.p (.bool b))) => some b
    | _ => none
  | none => none
theorem Rel.yv {ρ : Env} {a : Act} {w : World} (r : Rel P w0 m0 ρ σ a w) {j : Nat} {b : Bool} (h : σ.yv ops j = some b) : yielded ops a.tmps j = some b := by
  unfold AS.yv at h
  split at h
  · rename_i t ht
    split at h
    · rename_i b' hb
      injection h with h; subst h
      have h1 := r.tm t _ hb
      have hl : t < a.tmps.size := by rw [← r.tl]; exact (List.getElem?_eq_some_iff.1 hb).1
      unfold yielded
      rw [ht]
      have h2 : a.tmps[t]? = some (.bool b') := by
        rw [Array.getElem?_eq_getElem hl]
        rw [Array.getD_eq_getD_getElem?, Array.getElem?_eq_getElem hl] at h1
        exact congrArg some h1
      simp [h2]
    · cases h
  · cases h
theorem ar_gn {o : Op} {d : Option Tmp} {ty : TypeId} {pos : String} {af : Array Edge} {j : Nat} {b want : Bool} (hj : σ.yv ops j = some b) (hb : b = !want) (h : AR P w0 m0 ops Q rest (σ.put d (.c (.p undef)))) : AR P w0 m0 ops Q (⟨d, o, ty, pos, af, some (j, want)⟩ :: rest) σ := fun ρ a w r => by
  have hw : Region.wanted ⟨d, o, ty, pos, af, some (j, want)⟩ (yielded ops a.tmps) = false := by
    simp only [Region.wanted, r.yv hj, hb]; cases want <;> rfl
  exact wpList_skip hw (h ρ _ w (r.put d rfl))
theorem ar_gy {o : Op} {d : Option Tmp} {ty : TypeId} {pos : String} {af : Array Edge} {j : Nat} {b want : Bool} (hj : σ.yv ops j = some b) (hb : b = want) (h : AR P w0 m0 ops Q (⟨d, o, ty, pos, af, none⟩ :: rest) σ) : AR P w0 m0 ops Q (⟨d, o, ty, pos, af, some (j, want)⟩ :: rest) σ := fun ρ a w r => by
  have h1 := h ρ a w r
  have hw : Region.wanted ⟨d, o, ty, pos, af, some (j, want)⟩ (yielded ops a.tmps) = true := by
    simp only [Region.wanted, r.yv hj, hb]; cases want <;> rfl
  unfold wpList at h1 ⊢
  rw [if_pos hw]
  rw [if_pos (show Region.wanted ⟨d, o, ty, pos, af, none⟩ (yielded ops a.tmps) = true from rfl)] at h1
  exact h1
theorem dr_gn {o : Op} {d : Option Tmp} {ty : TypeId} {pos : String} {af : Array Edge} {j : Nat} {b want : Bool} (hj : σ.yv ops j = some b) (hb : b = !want) (h : DR P w0 m0 ops Q rest (σ.put d (.c (.p undef)))) : DR P w0 m0 ops Q (⟨d, o, ty, pos, af, some (j, want)⟩ :: rest) σ := fun ρ a w r => by
  have hw : Region.wanted ⟨d, o, ty, pos, af, some (j, want)⟩ (yielded ops a.tmps) = false := by
    simp only [Region.wanted, r.yv hj, hb]; cases want <;> rfl
  unfold wpQuiet
  rw [if_neg (by rw [hw]; exact Bool.false_ne_true)]
  exact h ρ _ w (r.put d rfl)
theorem dr_gy {o : Op} {d : Option Tmp} {ty : TypeId} {pos : String} {af : Array Edge} {j : Nat} {b want : Bool} (hj : σ.yv ops j = some b) (hb : b = want) (h : DR P w0 m0 ops Q (⟨d, o, ty, pos, af, none⟩ :: rest) σ) : DR P w0 m0 ops Q (⟨d, o, ty, pos, af, some (j, want)⟩ :: rest) σ := fun ρ a w r => by
  have h1 := h ρ a w r
  have hw : Region.wanted ⟨d, o, ty, pos, af, some (j, want)⟩ (yielded ops a.tmps) = true := by
    simp only [Region.wanted, r.yv hj, hb]; cases want <;> rfl
  unfold wpQuiet at h1 ⊢
  rw [if_pos hw]
  rw [if_pos (show Region.wanted ⟨d, o, ty, pos, af, none⟩ (yielded ops a.tmps) = true from rfl)] at h1
  exact h1
theorem ar_gs {o : Op} {d : Option Tmp} {ty : TypeId} {pos : String} {af : Array Edge} {j : Nat} {b want : Bool} (hj : σ.yv ops j = some b) (h1 : b = want → AR P w0 m0 ops Q (⟨d, o, ty, pos, af, none⟩ :: rest) σ) (h2 : b = (!want) → AR P w0 m0 ops Q rest (σ.put d (.c (.p undef)))) : AR P w0 m0 ops Q (⟨d, o, ty, pos, af, some (j, want)⟩ :: rest) σ := by
  by_cases h : b = want
  · exact ar_gy hj h (h1 h)
  · have h : b = !want := by cases b <;> cases want <;> simp_all
    exact ar_gn hj h (h2 h)
theorem dr_gs {o : Op} {d : Option Tmp} {ty : TypeId} {pos : String} {af : Array Edge} {j : Nat} {b want : Bool} (hj : σ.yv ops j = some b) (h1 : b = want → DR P w0 m0 ops Q (⟨d, o, ty, pos, af, none⟩ :: rest) σ) (h2 : b = (!want) → DR P w0 m0 ops Q rest (σ.put d (.c (.p undef)))) : DR P w0 m0 ops Q (⟨d, o, ty, pos, af, some (j, want)⟩ :: rest) σ := by
  by_cases h : b = want
  · exact dr_gy hj h (h1 h)
  · have h : b = !want := by cases b <;> cases want <;> simp_all
    exact dr_gn hj h (h2 h)
/-- The guard's own operation was left out. -/
def AS.yu (ops : Array Oper) (σ : AS) (j : Nat) : Bool := match (ops[j]?).bind (·.dst) with
  | some t => match σ.tm[t]? with
    | some (.c (.p (.tuple _))) => true
    | _ => false
  | none => false
theorem Rel.yu {ρ : Env} {a : Act} {w : World} (r : Rel P w0 m0 ρ σ a w) {j : Nat} (h : σ.yu ops j = true) : yielded ops a.tmps j = none := by
  unfold AS.yu at h
  split at h
  · rename_i t ht
    split at h
    · rename_i b' hb
      have h1 := r.tm t _ hb
      have hl : t < a.tmps.size := by rw [← r.tl]; exact (List.getElem?_eq_some_iff.1 hb).1
      unfold yielded
      rw [ht]
      have h2 : a.tmps[t]? = some (.tuple b') := by
        rw [Array.getElem?_eq_getElem hl]
        have h3 : a.tmps.getD t undef = .tuple b' := h1
        rw [Array.getD_eq_getD_getElem?, Array.getElem?_eq_getElem hl] at h3
        rw [← h3]; rfl
      show (match a.tmps[t]? with | some (.bool b) => some b | _ => none) = none
      rw [h2]
    · cases h
  · cases h
theorem ar_gu {o : Op} {d : Option Tmp} {ty : TypeId} {pos : String} {af : Array Edge} {j : Nat} {want : Bool} (hj : σ.yu ops j = true) (h : AR P w0 m0 ops Q rest (σ.put d (.c (.p undef)))) : AR P w0 m0 ops Q (⟨d, o, ty, pos, af, some (j, want)⟩ :: rest) σ := fun ρ a w r => by
  have hw : Region.wanted ⟨d, o, ty, pos, af, some (j, want)⟩ (yielded ops a.tmps) = false := by
    simp only [Region.wanted, r.yu hj]; rfl
  exact wpList_skip hw (h ρ _ w (r.put d rfl))
theorem dr_gu {o : Op} {d : Option Tmp} {ty : TypeId} {pos : String} {af : Array Edge} {j : Nat} {want : Bool} (hj : σ.yu ops j = true) (h : DR P w0 m0 ops Q rest (σ.put d (.c (.p undef)))) : DR P w0 m0 ops Q (⟨d, o, ty, pos, af, some (j, want)⟩ :: rest) σ := fun ρ a w r => by
  have hw : Region.wanted ⟨d, o, ty, pos, af, some (j, want)⟩ (yielded ops a.tmps) = false := by
    simp only [Region.wanted, r.yu hj]; rfl
  unfold wpQuiet
  rw [if_neg (by rw [hw]; exact Bool.false_ne_true)]
  exact h ρ _ w (r.put d rfl)
theorem awp_region {id : Nat} {l : List Oper} (h : AR P w0 m0 l.toArray Q l σ) : AWp P w0 m0 (.region id l.toArray false) Q σ := fun ρ a w r => wp_region_lit (h ρ a w r)
theorem awp_region_draw {id : Nat} {l : List Oper} (hm : P.follows .mixedOrders = true) (hB : Region.lexB .any l.toArray = true) (h : DR P w0 m0 l.toArray Q l σ) : AWp P w0 m0 (.region id l.toArray true) Q σ := fun ρ a w r =>
  wp_region_quiet hm hB (Below.drew (Below.refl _ _)) (by simpa using h ρ a w r)
end
end Go.Proofs.Ytdhplkdohhiooaa
