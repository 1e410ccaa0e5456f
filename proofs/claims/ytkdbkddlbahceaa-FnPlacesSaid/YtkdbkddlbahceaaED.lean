/- The abstract machine: drawn regions walked once for each set of operations that may be done, rows numbered anew; states whose rows are only read from here on. -/
import Derived.Test.YtkdbkddlbahceaaEC
import Derived.Test.YtkdbkddlbahceaaEK
namespace Go.Proofs.Ytkdbkddlbahceaa
open Go.RowKit
set_option linter.unusedVariables false
section
variable {P : Program} {σ σ0 : AS} {w0 : World} {m0 : Gv} {n : Nat} {l : List Oper} {Q : Exit → AS → Prop} {ds : List Nat} {listed : List Bool}
/-- What is shown for one set of operations done, kept for later use. -/
theorem ag_have (listed' : List Bool) (σ' : AS) (h : AG P w0 m0 n l Q ds σ0 listed' σ') (k : AG P w0 m0 n l Q ds σ0 listed' σ' → AG P w0 m0 n l Q ds σ0 listed σ) : AG P w0 m0 n l Q ds σ0 listed σ := k h
/-- The rows numbered anew. -/
theorem ag_to (p : List Nat) (hn : p.Nodup) (hp : (p.all fun j => Nat.blt j σ.nx) = true) {τ : AS} (he : σ.rsel p = τ) {listed' : List Bool} (hl : listed = listed') (h : AG P w0 m0 n l Q ds σ0 listed' τ) : AG P w0 m0 n l Q ds σ0 listed σ := by
  subst he hl
  exact fun ρ0 a0 w1 q0 ρ a w q ho fuel hfu => h ρ0 a0 w1 q0 (ρ.rsel p) a w (q.rsel rfl hn fun j hj => by have := List.all_eq_true.1 hp j hj; simpa [Nat.blt_eq] using this) ho fuel hfu
theorem ag_r4 (i j k m : Nat) (hr : Region.ready .any l.toArray listed.toArray = [i, j, k, m]) {oi oj ok om : Oper} (hi : l[i]? = some oi) (di : dsOk ds oi = true) (hj : l[j]? = some oj) (dj : dsOk ds oj = true) (hk : l[k]? = some ok) (dk : dsOk ds ok = true) (hm : l[m]? = some om) (dm : dsOk ds om = true)
    (h1 : ∀ w1 B, AR P w1 (Gv.inn B) l.toArray (fun e τ => e = .normal ∧ AG P w0 m0 n l Q ds σ0 (listed.set i true) τ) [oi] σ)
    (h2 : ∀ w1 B, AR P w1 (Gv.inn B) l.toArray (fun e τ => e = .normal ∧ AG P w0 m0 n l Q ds σ0 (listed.set j true) τ) [oj] σ)
    (h3 : ∀ w1 B, AR P w1 (Gv.inn B) l.toArray (fun e τ => e = .normal ∧ AG P w0 m0 n l Q ds σ0 (listed.set k true) τ) [ok] σ)
    (h4 : ∀ w1 B, AR P w1 (Gv.inn B) l.toArray (fun e τ => e = .normal ∧ AG P w0 m0 n l Q ds σ0 (listed.set m true) τ) [om] σ) : AG P w0 m0 n l Q ds σ0 listed σ :=
  ag_ready hr rfl fun q hq => by
    rcases (by simpa using hq : q = i ∨ q = j ∨ q = k ∨ q = m) with rfl | rfl | rfl | rfl
    · exact ⟨oi, hi, di, h1⟩
    · exact ⟨oj, hj, dj, h2⟩
    · exact ⟨ok, hk, dk, h3⟩
    · exact ⟨om, hm, dm, h4⟩
end
/-! ### Rows that are only read from here on -/
def AC.soft : AC → AC
  | .sl e .ro xs => .sl e .ro xs
  | .sl e (.own j) xs => .sl e .ro xs
  | .sl e (.sub j) xs => .sl e .ro xs
  | .rp .ro cs => .rp .ro cs
  | .rp (.own j) cs => .rp .ro cs
  | .rp (.sub j) cs => .rp .ro cs
  | .top => .top
  | .p v => .p v
  | .nl => .nl
  | .ptr b o => .ptr b o
  | .bsl b sn sc => .bsl b sn sc
  | .sv v e xs => .sv v e xs
  | .ep e k xs i j => .top
  | .fo f bs => .fo f bs
  | .fr f css => .fr f css
def AW.soft : AW → AW
  | .c x => .c x.soft
  | .agg cs => .agg (cs.map AC.soft)
def AV.soft : AV → AV
  | .c x => .c x.soft
  | .agg cs => .agg (cs.map AC.soft)
  | .tup ws => .tup (ws.map AW.soft)
def AS.soft (σ : AS) : AS := ⟨σ.tm.map AV.soft, σ.hp.map (List.map AC.soft), 0⟩
def Env.soft (ρ : Env) : Env := ⟨ρ.B, ρ.m, [], ρ.ov⟩
section
variable {P : Program} {σ : AS} {w0 : World} {m0 : Gv} {ρ : Env} {a : Act} {w : World}
theorem RdS.soft_own (h : Rel P w0 m0 ρ σ a w) {e : TypeId} {j : Nat} {xs : List (List Value)} {u : Value} (k : RdS P ρ w e (.sub j) xs u) : RdS P ρ.soft w e .ro xs u := by
  rcases k with k | ⟨g, off, c, rfl, hc, hg, ha, he⟩
  · exact .inl k
  · exact .inr ⟨g, off, c, rfl, hc, hg, ⟨(h.ob g (List.mem_of_getElem? ha)).2.2, by simp [Env.soft]⟩, he⟩
theorem RdS.soft_ro {e : TypeId} {xs : List (List Value)} {u : Value} (k : RdS P ρ w e .ro xs u) : RdS P ρ.soft w e .ro xs u := by
  rcases k with k | ⟨g, off, c, rfl, hc, hg, ha, he⟩
  · exact .inl k
  · exact .inr ⟨g, off, c, rfl, hc, hg, ⟨ha.1, by simp [Env.soft]⟩, he⟩
theorem PtrO.soft : ∀ {bs : List Nat} {vs : List Value}, PtrO ρ bs vs → PtrO ρ.soft bs vs
  | [], [], _ => trivial
  | b :: bs, v :: vs, ⟨⟨g, h1, h2⟩, k⟩ => ⟨⟨g, h1, h2⟩, PtrO.soft k⟩
theorem PtrR.soft : ∀ {css : List (List Value)} {vs : List Value}, PtrR ρ w css vs → PtrR ρ.soft w css vs
  | [], [], _ => trivial
  | _ :: _, _ :: _, ⟨⟨g, off, e, hg, ha, hc⟩, q⟩ => ⟨⟨g, off, e, hg, ⟨ha.1, by simp [Env.soft]⟩, hc⟩, PtrR.soft q⟩
theorem RepC.soft (h : Rel P w0 m0 ρ σ a w) {x : AC} {u : Value} (k : RepC P ρ w x u) : RepC P ρ.soft w x.soft u := by
  cases x with
  | top => trivial
  | p v => exact k
  | nl => exact k
  | ptr b o => exact k
  | bsl b sn sc => exact k
  | sl e o xs =>
    cases o with
    | ro => exact ⟨k.1, RdS.soft_ro k.2⟩
    | own j => exact ⟨k.1, RdS.soft_own h (OwS.rd k.2)⟩
    | sub j => exact ⟨k.1, RdS.soft_own h k.2⟩
  | rp o cs =>
    obtain ⟨g, off, rfl, hg, ha, hc⟩ := k
    cases o with
    | ro => exact ⟨g, off, rfl, hg, ⟨ha.1, by simp [Env.soft]⟩, hc⟩
    | own j => exact ⟨g, off, rfl, hg, ⟨(h.ob g (List.mem_of_getElem? ha)).2.2, by simp [Env.soft]⟩, hc⟩
    | sub j => exact ⟨g, off, rfl, hg, ⟨(h.ob g (List.mem_of_getElem? ha)).2.2, by simp [Env.soft]⟩, hc⟩
  | sv v e xs => exact ⟨k.1, k.2.1, RdS.soft_ro k.2.2⟩
  | ep e j xs a b => trivial
  | fo f bs => obtain ⟨vs, h1, h2⟩ := k; exact ⟨vs, h1, h2.soft⟩
  | fr f css => obtain ⟨vs, h1, h2⟩ := k; exact ⟨vs, h1, h2.soft⟩
theorem RepL.soft (h : Rel P w0 m0 ρ σ a w) : ∀ {xs : List AC} {vs : List Value}, RepL P ρ w xs vs → RepL P ρ.soft w (xs.map AC.soft) vs
  | [], [], _ => trivial
  | _ :: _, _ :: _, k => ⟨k.1.soft h, RepL.soft h k.2⟩
theorem RepW.soft (h : Rel P w0 m0 ρ σ a w) {x : AW} {u : Value} (k : RepW P ρ w x u) : RepW P ρ.soft w x.soft u := by
  cases x with
  | c x => exact RepC.soft h k
  | agg cs => obtain ⟨vs, rfl, hl⟩ := k; exact ⟨vs, rfl, hl.soft h⟩
theorem RepWs.soft (h : Rel P w0 m0 ρ σ a w) : ∀ {xs : List AW} {vs : List Value}, RepWs P ρ w xs vs → RepWs P ρ.soft w (xs.map AW.soft) vs
  | [], [], _ => trivial
  | _ :: _, _ :: _, k => ⟨k.1.soft h, RepWs.soft h k.2⟩
theorem RepV.soft (h : Rel P w0 m0 ρ σ a w) {x : AV} {u : Value} (k : RepV P ρ w x u) : RepV P ρ.soft w x.soft u := by
  cases x with
  | c x => exact RepC.soft h k
  | agg cs => obtain ⟨vs, rfl, hl⟩ := k; exact ⟨vs, rfl, hl.soft h⟩
  | tup ws => obtain ⟨vs, rfl, hl⟩ := k; exact ⟨vs, rfl, hl.soft h⟩
theorem Rel.soft (h : Rel P w0 m0 ρ σ a w) (h0 : m0.l = []) : Rel P w0 m0 ρ.soft σ.soft a w := by
  refine ⟨h.B, h.Bw, h.fr, h.pre, h.ml, h.nd, fun g hg => by simp [Env.soft] at hg, by simp [Env.soft], fun j g hj => ?_, rfl, by simp [AS.soft, Env.soft, h.hl], fun b cs hc => ?_, by simp [AS.soft, h.tl], fun i x hx => ?_, h.df⟩
  · rw [h0] at hj; simp at hj
  · simp only [AS.soft, List.getElem?_map] at hc
    obtain ⟨ds, h1, rfl⟩ := Option.map_eq_some_iff.1 hc
    obtain ⟨g, hg, us, t, h3, h4⟩ := h.hp b ds h1
    exact ⟨g, hg, us, t, h3, h4.soft h⟩
  · simp only [AS.soft, List.getElem?_map] at hx
    obtain ⟨y, h1, rfl⟩ := Option.map_eq_some_iff.1 hx
    exact (h.tm i y h1).soft h
/-- From here on the rows are only read. -/
theorem awp_soft {c : Code} {Q : Exit → AS → Prop} {τ : AS} (h0 : m0.l = []) (hτ : σ.soft = τ) (h : AWp P w0 m0 c Q τ) : AWp P w0 m0 c Q σ := by
  subst hτ
  exact fun ρ a w r => h _ a w (r.soft h0)
theorem RepL.setC {cs : List AC} {vs : List Value} {i : Nat} {x y : AC} (k : RepL P ρ w cs vs) (hi : cs[i]? = some x) (hxy : ∀ u, RepC P ρ w x u → RepC P ρ w y u) : RepL P ρ w (cs.set i y) vs := by
  induction cs generalizing vs i with
  | nil => simp at hi
  | cons c cs ih =>
    cases vs with
    | nil => exact k.elim
    | cons v vs =>
      cases i with
      | zero =>
        simp only [List.getElem?_cons_zero, Option.some.injEq] at hi
        subst hi
        exact ⟨hxy v k.1, k.2⟩
      | succ i => exact ⟨k.1, ih k.2 (by simpa using hi)⟩
/-- nil in a cell of an own block is the empty slice. -/
theorem awp_nlz {c : Code} {Q : Exit → AS → Prop} (b i : Nat) (e : TypeId) {cs : List AC} (hb : σ.hp[b]? = some cs) (hi : cs[i]? = some .nl) {τ : AS} (hτ : (⟨σ.tm, σ.hp.set b (cs.set i (.sl e .ro [])), σ.nx⟩ : AS) = τ) (h : AWp P w0 m0 c Q τ) : AWp P w0 m0 c Q σ := by
  subst hτ
  refine fun ρ a w r => h ρ a w ⟨r.B, r.Bw, r.fr, r.pre, r.ml, r.nd, r.ob, r.no, r.lp, r.nx, by simpa using r.hl, fun b' cs' hc => ?_, r.tl, r.tm, r.df⟩
  by_cases hbb : b = b'
  · subst hbb
    obtain ⟨g, hg, us, t, h3, h4⟩ := r.hp b cs hb
    have hlt := (List.getElem?_eq_some_iff.1 hb).1
    rw [List.getElem?_set_self hlt] at hc
    injection hc with hc
    subst hc
    exact ⟨g, hg, us, t, h3, h4.setC hi fun u hu => repV_nl hu⟩
  · rw [List.getElem?_set_ne hbb] at hc
    exact r.hp b' cs' hc
/-- .. as the list xs, which is empty. -/
theorem awp_nlx {c : Code} {Q : Exit → AS → Prop} (b i : Nat) (e : TypeId) (xs : List (List Value)) (hx : xs = []) {cs : List AC} (hb : σ.hp[b]? = some cs) (hi : cs[i]? = some .nl) {τ : AS} (hτ : (⟨σ.tm, σ.hp.set b (cs.set i (.sl e .ro xs)), σ.nx⟩ : AS) = τ) (h : AWp P w0 m0 c Q τ) : AWp P w0 m0 c Q σ := by
  subst hx
  exact awp_nlz b i e hb hi hτ h
/-- The slots from n on are forgotten. -/
def topT : Nat → List AV → List AV
  | _, [] => []
  | 0, _ :: l => .c .top :: topT 0 l
  | n + 1, x :: l => x :: topT n l
theorem topT_n {n : Nat} : topT n [] = [] := by cases n <;> rfl
theorem topT_z {x : AV} {l : List AV} : topT 0 (x :: l) = .c .top :: topT 0 l := rfl
theorem topT_s {n : Nat} {x : AV} {l : List AV} : topT (n + 1) (x :: l) = x :: topT n l := rfl
theorem topT_len : ∀ (n : Nat) (l : List AV), (topT n l).length = l.length
  | n, [] => by rw [topT_n]
  | 0, _ :: l => by rw [topT_z, List.length_cons, topT_len 0 l, List.length_cons]
  | n + 1, _ :: l => by rw [topT_s, List.length_cons, topT_len n l, List.length_cons]
theorem topT_get {P : Program} {ρ : Env} {w : World} : ∀ (n : Nat) (l : List AV) (i : Nat) (y : AV), (topT n l)[i]? = some y → y = .c .top ∨ l[i]? = some y
  | n, [], i, y, h => by rw [topT_n] at h; simp at h
  | 0, x :: l, 0, y, h => by rw [topT_z] at h; simp at h; exact .inl h.symm
  | 0, x :: l, i + 1, y, h => by rw [topT_z] at h; exact topT_get (P := P) (ρ := ρ) (w := w) 0 l i y (by simpa using h)
  | n + 1, x :: l, 0, y, h => by rw [topT_s] at h; exact .inr (by simpa using h)
  | n + 1, x :: l, i + 1, y, h => by rw [topT_s] at h; exact topT_get (P := P) (ρ := ρ) (w := w) n l i y (by simpa using h)
theorem awp_tops {c : Code} {Q : Exit → AS → Prop} (n : Nat) {τ : AS} (hτ : (⟨topT n σ.tm, σ.hp, σ.nx⟩ : AS) = τ) (h : AWp P w0 m0 c Q τ) : AWp P w0 m0 c Q σ := by
  subst hτ
  refine fun ρ a w r => h ρ a w ⟨r.B, r.Bw, r.fr, r.pre, r.ml, r.nd, r.ob, r.no, r.lp, r.nx, r.hl, r.hp, by rw [topT_len]; exact r.tl, fun i y hy => ?_, r.df⟩
  rcases topT_get (P := P) (ρ := ρ) (w := w) n σ.tm i y hy with rfl | hy
  · trivial
  · exact r.tm i y hy
end
end Go.Proofs.Ytkdbkddlbahceaa
