/- The abstract machine: regions that draw their order and make memory. What only reads is taken first, in the caller's state; the rest is walked in every order, as of a call's own memory. -/
import Derived.Test.YtkdbkddlbahceaaEG
import Derived.OrdersHeld
namespace Go.Proofs.Ytkdbkddlbahceaa
open Go.RowKit
set_option linter.unusedVariables false
set_option linter.unusedSimpArgs false

/-- The state as a callee would see it: all that was there is only read. -/
def AS.inn (σ : AS) : AS := ⟨σ.tm.map AV.ro, [], 0⟩
def Gv.inn (B : Nat) : Gv := ⟨B, [], [], fun _ => .tuple #[]⟩
/-- The slots that the operations not yet listed write. -/
def dsOf (l : List Oper) (listed : List Bool) : List Nat := ((l.zip listed).filter fun p => !p.2).filterMap fun p => p.1.dst
def backT (ds : List Nat) (n : Nat) : Nat → List AV → List AV → List AV
  | i, x :: xs, y :: ys => (if ds.elem i then (if y.fresh then y.sh n else .c .top) else x) :: backT ds n (i + 1) xs ys
  | _, _, _ => []
/-- Back in the caller's state. -/
def AS.back (ds : List Nat) (σ τ : AS) : AS := ⟨backT ds σ.nx 0 σ.tm τ.tm, σ.hp, σ.nx + τ.nx⟩
/-- The frames differ in the slots ds at most. -/
def Off (ds : List Nat) (a0 a : Act) : Prop := a.defers = [] ∧ a.tmps.size = a0.tmps.size ∧ ∀ i, ds.elem i = false → a.tmps.getD i undef = a0.tmps.getD i undef
section
variable {P : Program} {σ : AS} {w0 : World} {m0 : Gv} {ρ : Env} {a : Act} {w : World} {ops : Array Oper} {Q : Exit → AS → Prop}

theorem Rel.inn (h : Rel P w0 m0 ρ σ a w) : Rel P w (Gv.inn ρ.B) (E0 ρ.B []) σ.inn a w := by
  have hB : ρ.B ≤ w.heap.size := by rw [h.B]; exact Nat.le_trans h.Bw h.fr.size
  refine ⟨rfl, hB, .refl _ _, ⟨[], rfl, by simp⟩, by simp [E0], by simp [E0], by simp [E0], by simp [E0], by simp [Gv.inn], rfl, rfl, by simp [AS.inn], by simp [AS.inn, h.tl], fun i x hx => ?_, h.df⟩
  simp only [AS.inn, List.getElem?_map] at hx
  obtain ⟨y, hy, rfl⟩ := Option.map_eq_some_iff.1 hx
  exact (h.tm i y hy).ro h ρ.B (by simp)
theorem backT_get (ds : List Nat) (n : Nat) : ∀ (xs ys : List AV) (k i : Nat) (z : AV), (backT ds n k xs ys)[i]? = some z → ∃ x y, xs[i]? = some x ∧ ys[i]? = some y ∧ z = (if ds.elem (k + i) then (if y.fresh then y.sh n else .c .top) else x)
  | [], _, k, i, z, h => by simp [backT] at h
  | _ :: _, [], k, i, z, h => by simp [backT] at h
  | x :: xs, y :: ys, k, 0, z, h => by
    simp only [backT, List.getElem?_cons_zero, Option.some.injEq] at h
    exact ⟨x, y, rfl, rfl, by rw [Nat.add_zero]; exact h.symm⟩
  | x :: xs, y :: ys, k, i + 1, z, h => by
    simp only [backT, List.getElem?_cons_succ] at h
    obtain ⟨x', y', h1, h2, h3⟩ := backT_get ds n xs ys (k + 1) i z h
    exact ⟨x', y', by simpa using h1, by simpa using h2, by rw [h3, show k + 1 + i = k + (i + 1) by omega]⟩
theorem backT_len (ds : List Nat) (n : Nat) : ∀ (xs ys : List AV) (k : Nat), xs.length = ys.length → (backT ds n k xs ys).length = xs.length
  | [], [], _, _ => rfl
  | x :: xs, y :: ys, k, h => by simp only [backT, List.length_cons]; rw [backT_len ds n xs ys (k + 1) (by simpa using h)]
theorem Rel.back (h : Rel P w0 m0 ρ σ a w) {ds : List Nat} {ρ' : Env} {τ : AS} {a' : Act} {w' : World} (k : Rel P w (Gv.inn ρ.B) ρ' τ a' w') (hp : τ.hp = []) (ho : Off ds a a') : ∃ ρ'', Rel P w0 m0 ρ'' (σ.back ds τ) a' w' := by
  have hb : Below w.heap.size w w' := Framed.below k.fr
  have hm : ρ'.m = [] := by have := k.hl; rw [hp] at this; exact List.eq_nil_of_length_eq_zero this.symm
  have hom : ∀ g ∈ ρ'.om, w.heap.size ≤ g ∧ g < w'.heap.size := fun g hg => by
    obtain ⟨h1, h2, _⟩ := k.ob g hg
    exact ⟨h1.resolve_left (by simp [Gv.inn]), h2⟩
  have r := h.rows (om := ρ'.om) ρ'.ov hb k.no hom
  have hlen : σ.tm.length = τ.tm.length := by rw [h.tl, k.tl, ho.2.1]
  have sh : Shift σ.nx ρ' (ρ.rows ρ'.om ρ'.ov) := by
    refine ⟨?_, fun j g hj => ?_, fun j g hj => ?_⟩
    · show ρ.B ≤ ρ'.B
      rw [k.B]; exact Nat.le_refl _
    · show (ρ.om ++ ρ'.om)[σ.nx + j]? = some g
      rw [List.getElem?_append_right (by rw [h.nx]; omega), h.nx, Nat.add_sub_cancel_left]; exact hj
    · show (if ρ'.om.elem g then ρ'.ov g else ρ.ov g) = ρ'.ov g
      rw [if_pos (List.elem_iff.2 (List.mem_of_getElem? hj))]
  refine ⟨ρ.rows ρ'.om ρ'.ov, ⟨r.B, r.Bw, r.fr, r.pre, r.ml, r.nd, r.ob, r.no, r.lp, ?_, r.hl, r.hp, ?_, fun i z hz => ?_, ho.1⟩⟩
  · show (ρ.om ++ ρ'.om).length = σ.nx + τ.nx
    rw [List.length_append, h.nx, k.nx]
  · show (backT ds σ.nx 0 σ.tm τ.tm).length = a'.tmps.size
    rw [backT_len _ _ _ _ _ hlen, h.tl, ho.2.1]
  · obtain ⟨x, y, h1, h2, h3⟩ := backT_get ds σ.nx σ.tm τ.tm 0 i z hz
    rw [Nat.zero_add] at h3
    cases hd : ds.elem i with
    | false =>
      rw [hd] at h3
      simp only [Bool.false_eq_true, if_false] at h3
      subst h3
      rw [ho.2.2 i hd]
      exact r.tm i z h1
    | true =>
      rw [hd] at h3
      simp only [if_true] at h3
      cases hf : y.fresh with
      | false => rw [hf] at h3; simp only [Bool.false_eq_true, if_false] at h3; subst h3; trivial
      | true =>
        rw [hf] at h3; simp only [if_true] at h3; subst h3
        exact (k.tm i y h2).sh sh hf

/-! ### The first part: what only reads -/
def idxs {α : Type} : Nat → List α → List Nat
  | _, [] => []
  | k, _ :: t => k :: idxs (k + 1) t
theorem idxs_mem {α : Type} : ∀ (l : List α) (k i : Nat), k ≤ i → i < k + l.length → i ∈ idxs k l
  | [], k, i, h1, h2 => by simp at h2; omega
  | _ :: t, k, i, h1, h2 => by
    simp only [idxs, List.mem_cons]
    by_cases h : i = k
    · exact .inl h
    · exact .inr (idxs_mem t (k + 1) i (by omega) (by simp only [List.length_cons] at h2; omega))
/-- How many have not come up. -/
def todo (listed : List Bool) : Nat := listed.count false
theorem todo_set : ∀ {listed : List Bool} {i : Nat}, listed[i]? = some false → todo (listed.set i true) + 1 = todo listed
  | b :: l, 0, h => by
    simp at h; subst h
    simp [todo]
  | b :: l, i + 1, h => by
    have := todo_set (listed := l) (i := i) (by simpa using h)
    simp only [todo, List.set_cons_succ, List.count_cons] at this ⊢
    omega
theorem listed_of {listed : List Bool} {i : Nat} (h : listed.toArray.getD i true = false) : listed[i]? = some false := by
  rw [Array.getD_eq_getD_getElem?] at h
  simp only [List.getElem?_toArray] at h
  cases hh : listed[i]? with
  | none => rw [hh] at h; cases h
  | some b => rw [hh] at h; simp at h; subst h; rfl
def AG0 (P : Program) (w0 : World) (m0 : Gv) (ops : List Oper) (Q : Exit → AS → Prop) (cand : List Nat) (listed : List Bool) (σ : AS) : Prop :=
  (∀ c σ, ¬ Q (.panic c) σ) → ∀ ρ a w, Rel P w0 m0 ρ σ a w → ∀ fuel, todo listed ≤ fuel → wpAnyH P .any ops.toArray (lift P w0 m0 Q) (fun W => Below w.heap.size w W) fuel listed.toArray a w
theorem awp_region_any {id : Nat} {l : List Oper} {cand : List Nat} {listed : List Bool} (hm : P.follows .mixedOrders = true) (hq : ∀ c σ, ¬ Q (.panic c) σ) (hc : idxs 0 l = cand) (hl : l.map (fun _ => false) = listed) (h : AG0 P w0 m0 l Q cand listed σ) : AWp P w0 m0 (.region id l.toArray true) Q σ := fun ρ a w r => by
  subst hl
  have r' := r.world (Below.drew (Below.refl _ _) : Below w.heap.size w { w with drawn := w.drawn + 1 })
  have := h hq ρ a _ r' l.toArray.size (by
    unfold todo
    refine Nat.le_trans List.count_le_length ?_
    simp)
  refine wp_region_held (S := fun W => Below w.heap.size { w with drawn := w.drawn + 1 } W) hm ?_
  have e : (l.map fun _ => false).toArray = Array.replicate l.toArray.size false := by
    rw [List.map_const', List.size_toArray, List.toArray_replicate]
  rw [← e]
  exact this
theorem noPanic {d : Option Tmp} {v : Value} {c : List PanicEntry} {a : Act} {w : World} (hq : ∀ c σ, ¬ Q (.panic c) σ) : lift P w0 m0 Q (.panic c) (a.put d v) w → lift P w0 m0 Q (.panic c) a w := fun ⟨_, _, h, _⟩ => absurd h (hq _ _)
variable {l : List Oper} {cand : List Nat} {listed : List Bool}
/-- Number i is taken. -/
theorem ag0_take {i : Nat} {d : Option Tmp} {o : Op} {ty : TypeId} {pos : String} {af : Array Edge} {gd : Option (Nat × Bool)} {x : AV} (hi : l[i]? = some ⟨d, o, ty, pos, af, gd⟩) (hs : Region.noSelect l.toArray = true)
    (hf : Region.free .any l.toArray listed.toArray i = true) (hr : (Region.ready .any l.toArray listed.toArray).contains i = true) (hg : gd = none ∨ ∃ j b b', gd = some (j, b) ∧ σ.yv l.toArray j = some b' ∧ b' = b) (hx : QOp P o σ x)
    (h : AG0 P w0 m0 l Q cand (listed.set i true) (σ.put d x)) : AG0 P w0 m0 l Q (i :: cand) listed σ := fun hq ρ a w r fuel hfu => by
  obtain ⟨u, h1, h2⟩ := hx w0 m0 ρ a w d ty pos af gd r
  have hrr : i ∈ Region.ready .any l.toArray listed.toArray := by simpa using hr
  have ht := todo_set (listed_of (mem_ready.1 hrr).1)
  obtain ⟨f, rfl⟩ : ∃ f, fuel = f + 1 := ⟨fuel - 1, by omega⟩
  refine wpAnyH_take (v := u) (oi := ⟨d, o, ty, pos, af, gd⟩) (by simpa using hi) hs hf hr (fun c a w => noPanic hq) (.inl ⟨?_, fun W hW => h2 W hW⟩) (Below.refl _ _) ?_
  · rcases hg with rfl | ⟨j, b, b', rfl, hy, rfl⟩
    · rfl
    · simp only [Region.wanted, r.yv hy]; cases b' <;> rfl
  · have := h hq ρ _ w (r.put d h1) f (by omega)
    rw [List.setIfInBounds_toArray]
    exact this
/-- Number i is left out. -/
theorem ag0_miss {i : Nat} {d : Option Tmp} {o : Op} {ty : TypeId} {pos : String} {af : Array Edge} {j : Nat} {b : Bool} (hi : l[i]? = some ⟨d, o, ty, pos, af, some (j, b)⟩) (hs : Region.noSelect l.toArray = true)
    (hf : Region.free .any l.toArray listed.toArray i = true) (hr : (Region.ready .any l.toArray listed.toArray).contains i = true) (hg : (∃ b', σ.yv l.toArray j = some b' ∧ b' = !b) ∨ σ.yu l.toArray j = true)
    (h : AG0 P w0 m0 l Q cand (listed.set i true) (σ.put d (.c (.p undef)))) : AG0 P w0 m0 l Q (i :: cand) listed σ := fun hq ρ a w r fuel hfu => by
  have hrr : i ∈ Region.ready .any l.toArray listed.toArray := by simpa using hr
  have ht := todo_set (listed_of (mem_ready.1 hrr).1)
  obtain ⟨f, rfl⟩ : ∃ f, fuel = f + 1 := ⟨fuel - 1, by omega⟩
  refine wpAnyH_take (v := undef) (oi := ⟨d, o, ty, pos, af, some (j, b)⟩) (by simpa using hi) hs hf hr (fun c a w => noPanic hq) (.inr ⟨?_, rfl⟩) (Below.refl _ _) ?_
  · rcases hg with ⟨b', hy, rfl⟩ | hy
    · simp only [Region.wanted, r.yv hy]; cases b <;> rfl
    · simp only [Region.wanted, r.yu hy]; rfl
  · have := h hq ρ _ w (r.put d rfl) f (by omega)
    rw [List.setIfInBounds_toArray]
    exact this
theorem ag0_skip {i : Nat} (h : AG0 P w0 m0 l Q cand listed σ) : AG0 P w0 m0 l Q (i :: cand) listed σ := h
theorem ag0_norm {listed' : List Bool} {τ : AS} (hl : listed = listed') (h : σ = τ) (k : AG0 P w0 m0 l Q cand listed' τ) : AG0 P w0 m0 l Q cand listed σ := by subst h hl; exact k
theorem ag0_done (hr : (Region.ready .any l.toArray listed.toArray).isEmpty = true) (h : Q .normal σ) : AG0 P w0 m0 l Q cand listed σ := fun hq ρ a w r fuel _ => wpAnyH_done (by simpa using hr) ⟨ρ, σ, h, r⟩ _

/-! ### The second part: every order -/
def AG (P : Program) (w0 : World) (m0 : Gv) (l : List Oper) (Q : Exit → AS → Prop) (ds : List Nat) (σ0 : AS) (listed : List Bool) (σ : AS) : Prop :=
  ∀ ρ0 a0 w1, Rel P w0 m0 ρ0 σ0 a0 w1 → ∀ ρ a w, Rel P w1 (Gv.inn ρ0.B) ρ σ a w → Off ds a0 a → ∀ fuel, todo listed ≤ fuel → wpAnyH P .any l.toArray (lift P w0 m0 Q) (fun W => Below w1.heap.size w1 W) fuel listed.toArray a w
theorem ag_start {ds : List Nat} (hd : dsOf l listed = ds) {τ : AS} (hτ : σ.inn = τ) (h : AG P w0 m0 l Q ds σ listed τ) : AG0 P w0 m0 l Q [] listed σ := fun hq ρ a w r => by
  subst hτ
  exact h ρ a w r _ a w r.inn ⟨r.df, rfl, fun _ _ => rfl⟩
theorem ag_norm {ds : List Nat} {σ0 : AS} {listed' : List Bool} (hl : listed = listed') (k : AG P w0 m0 l Q ds σ0 listed' σ) : AG P w0 m0 l Q ds σ0 listed σ := by subst hl; exact k
/-- What one operation leaves behind in the frame. -/
theorem wpOp_put {Q : Exit → Act → World → Prop} {i : Nat} {oi : Oper} (hi : ops[i]? = some oi) {K : Act → World → Prop} (h : wpOp P ops Q i K a w) : wpOp P ops Q i (fun a' w' => K a' w' ∧ ((∃ u, a' = a.put oi.dst u) ∨ ∃ d u, a' = { a with defers := d :: a.defers }.put oi.dst u)) a w := by
  unfold wpOp at *
  simp only [hi] at *
  split
  · rename_i hw
    simp only [hw, if_true] at h
    rcases h with h | h
    case inr => exact .inr h
    refine .inl ?_
    unfold Oper.wp at *
    generalize (execOp a.eval oi).run P w = r at *
    cases r with
    | ok n w' =>
      cases n <;> simp only [Oper.upon] at h ⊢
      case value u => exact ⟨h, .inl ⟨u, rfl⟩⟩
      case skip => exact ⟨h, .inl ⟨_, rfl⟩⟩
      case defer d => exact ⟨h, .inr ⟨d, _, rfl⟩⟩
      case enter f args =>
        refine Calls.mono h fun e w'' he => ?_
        cases e with
        | returned u => exact ⟨he, .inl ⟨u, rfl⟩⟩
        | panicked c => exact he
        | outgrown => exact he
      case row row args => exact Rows.mono h fun u w'' he => ⟨he, .inl ⟨u, rfl⟩⟩
    | halt x w' =>
      cases x <;> simp only [Oper.upon] at h ⊢
      case panic u => exact h
  · rename_i hw
    simp only [hw] at h
    exact ⟨h, .inl ⟨_, rfl⟩⟩
/-- What holds of no exit but the plain one, holds beside every Q. -/
theorem wpOp_any {Q Q' : Exit → Act → World → Prop} {i : Nat} {K K' : Act → World → Prop} (hQ : ∀ e a w, Q' e a w → e = .normal) (hK : ∀ a w, K a w → K' a w) (h : wpOp P ops Q' i K a w) : wpOp P ops Q i K' a w := by
  have hlo : ¬ LetsOut Q' := fun ⟨a, w, h⟩ => by have := hQ _ _ _ h; cases this
  unfold wpOp at *
  split
  · rename_i ho
    simp only [ho] at h
    exact hK _ _ h
  · rename_i o ho
    simp only [ho] at h
    split
    · rename_i hw
      simp only [hw, if_true] at h
      rcases h with h | ⟨_, h⟩
      · refine .inl ?_
        unfold Oper.wp at *
        generalize (execOp a.eval o).run P w = r at *
        cases r with
        | ok n w' =>
          cases n <;> simp only [Oper.upon] at h ⊢
          case value u => exact hK _ _ h
          case skip => exact hK _ _ h
          case defer d => exact hK _ _ h
          case enter f args =>
            refine Calls.mono h fun e w'' he => ?_
            cases e with
            | returned u => exact hK _ _ he
            | panicked c => exact absurd (hQ _ _ _ he) (by simp)
            | outgrown => exact absurd he hlo
          case row row args => exact Rows.mono h fun u w'' he => hK _ _ he
        | halt x w' =>
          cases x <;> simp only [Oper.upon] at h ⊢
          case panic u => exact absurd (hQ _ _ _ h) (by simp)
      · exact absurd h hlo
    · rename_i hw
      simp only [hw] at h
      exact hK _ _ h
theorem Off.put {ds : List Nat} {a0 a : Act} (h : Off ds a0 a) {d : Option Tmp} (hd : ∀ t, d = some t → ds.elem t = true) (u : Value) : Off ds a0 (a.put d u) := by
  cases d with
  | none => exact h
  | some d =>
    refine ⟨h.1, by simp [Act.put, h.2.1], fun i hi => ?_⟩
    show (a.tmps.setIfInBounds d u).getD i undef = _
    rw [getD_set]
    split
    · rename_i hh
      rw [hh.1, hd d rfl] at hi; cases hi
    · exact h.2.2 i hi
/-- The steps of those that may come up. -/
def AGs (P : Program) (w0 : World) (m0 : Gv) (l : List Oper) (Q : Exit → AS → Prop) (ds : List Nat) (σ0 : AS) (listed : List Bool) (σ : AS) : List Nat → Prop
  | [] => True
  | i :: rs => ((Region.ready .any l.toArray listed.toArray).contains i = false ∨ ∃ oi, l[i]? = some oi ∧ (match oi.dst with | some t => ds.elem t | none => true) = true ∧ ∀ w1 B, AR P w1 (Gv.inn B) l.toArray (fun e τ => e = .normal ∧ AG P w0 m0 l Q ds σ0 (listed.set i true) τ) [oi] σ) ∧ AGs P w0 m0 l Q ds σ0 listed σ rs
theorem AGs.get {ds : List Nat} {σ0 : AS} : ∀ {rs : List Nat}, AGs P w0 m0 l Q ds σ0 listed σ rs → ∀ i ∈ rs, (Region.ready .any l.toArray listed.toArray).contains i = true → ∃ oi, l[i]? = some oi ∧ (match oi.dst with | some t => ds.elem t | none => true) = true ∧ ∀ w1 B, AR P w1 (Gv.inn B) l.toArray (fun e τ => e = .normal ∧ AG P w0 m0 l Q ds σ0 (listed.set i true) τ) [oi] σ
  | _ :: _, h, i, hi, hc => by
    rcases List.mem_cons.1 hi with rfl | hi
    · exact h.1.resolve_left (by rw [hc]; simp)
    · exact AGs.get h.2 i hi hc
theorem ags_nil {ds : List Nat} {σ0 : AS} : AGs P w0 m0 l Q ds σ0 listed σ [] := trivial
theorem ags_no {ds : List Nat} {σ0 : AS} {i : Nat} {rs : List Nat} (hr : (Region.ready .any l.toArray listed.toArray).contains i = false) (h : AGs P w0 m0 l Q ds σ0 listed σ rs) : AGs P w0 m0 l Q ds σ0 listed σ (i :: rs) := ⟨.inl hr, h⟩
theorem ags_yes {ds : List Nat} {σ0 : AS} {i : Nat} {rs : List Nat} {oi : Oper} (hi : l[i]? = some oi) (hd : (match oi.dst with | some t => ds.elem t | none => true) = true) (h1 : ∀ w1 B, AR P w1 (Gv.inn B) l.toArray (fun e τ => e = .normal ∧ AG P w0 m0 l Q ds σ0 (listed.set i true) τ) [oi] σ)
    (h : AGs P w0 m0 l Q ds σ0 listed σ rs) : AGs P w0 m0 l Q ds σ0 listed σ (i :: rs) := ⟨.inr ⟨oi, hi, hd, h1⟩, h⟩
theorem ag_all {ds : List Nat} {σ0 : AS} {cand : List Nat} (hc : idxs 0 l = cand) (hne : (Region.ready .any l.toArray listed.toArray).isEmpty = false) (h : AGs P w0 m0 l Q ds σ0 listed σ cand) : AG P w0 m0 l Q ds σ0 listed σ := fun ρ0 a0 w1 q0 ρ a w q ho fuel hfu => by
  subst hc
  have hne' : Region.ready .any l.toArray listed.toArray ≠ [] := by intro e; rw [e] at hne; cases hne
  have hf : ∃ f, fuel = f + 1 := by
    obtain ⟨i, hi⟩ := List.exists_mem_of_ne_nil _ hne'
    have ht := todo_set (listed_of (mem_ready.1 hi).1)
    exact ⟨fuel - 1, by omega⟩
  obtain ⟨f, rfl⟩ := hf
  refine wpAnyH_all rfl hne' fun i hi => ?_
  have ht := todo_set (listed_of (mem_ready.1 hi).1)
  have hlt : i < l.length := by
    obtain ⟨_, o, ho, _⟩ := mem_ready.1 hi
    have := (Array.getElem?_eq_some_iff.1 ho).1
    simpa using this
  obtain ⟨oi, h1, h2, h3⟩ := h.get i (idxs_mem l 0 i (by omega) (by omega)) (by simpa using hi)
  have h1' : l.toArray[i]? = some oi := by simpa using h1
  have h4 := h3 w1 ρ0.B ρ a w q
  have h5 : wpOp P l.toArray (lift P w1 (Gv.inn ρ0.B) (fun e τ => e = .normal ∧ AG P w0 m0 l Q ds σ0 (listed.set i true) τ)) i (fun a' w' => lift P w1 (Gv.inn ρ0.B) (fun e τ => e = .normal ∧ AG P w0 m0 l Q ds σ0 (listed.set i true) τ) .normal a' w') a w := by
    unfold wpOp; simp only [h1']; exact h4
  refine wpOp_any (fun e a w ⟨_, _, h, _⟩ => h.1) ?_ (wpOp_put h1' h5)
  rintro a' w' ⟨⟨ρ', τ, ⟨_, hτ⟩, q'⟩, hp⟩
  have hoff : Off ds a0 a' := by
    rcases hp with ⟨u, rfl⟩ | ⟨d, u, rfl⟩
    · exact ho.put (fun t ht => by rw [ht] at h2; exact h2) u
    · have := q'.df
      rw [put_defers] at this
      simp at this
  refine ⟨Framed.below q'.fr, ?_⟩
  rw [List.setIfInBounds_toArray]
  exact hτ ρ0 a0 w1 q0 ρ' a' w' q' hoff f (by omega)
theorem ag_done {ds : List Nat} {σ0 : AS} (hr : (Region.ready .any l.toArray listed.toArray).isEmpty = true) (hp : σ.hp = []) {τ : AS} (hb : σ0.back ds σ = τ) (h : Q .normal τ) : AG P w0 m0 l Q ds σ0 listed σ := fun ρ0 a0 w1 q0 ρ a w q ho fuel _ => by
  subst hb
  obtain ⟨ρ'', r⟩ := q0.back q hp ho
  exact wpAnyH_done (by simpa using hr) ⟨ρ'', _, h, r⟩ _
end
end Go.Proofs.Ytkdbkddlbahceaa
