/- Runs of the lock. -/
import Derived.Test.YtadjkldpflidhaaLkF3
import Derived.Test.YtadjkldpflidhaaBase
import Derived.Deep.RegionHeld3


namespace Go.Proofs.Ytadjkldpflidhaa
open Go.RowKit


/-- A run: the state behind the commands that are made, their number, the rise. -/
def runG : LS → List Int → LS × Int × Int
  | s, [] => (s, 0, 0)
  | s, c :: t => match stepF s c with
    | none => (s, 0, 0)
    | some s' => ((runG s' t).1, (runG s' t).2.1 + 1, max 0 (s'.le - s.le) + (runG s' t).2.2)
def addR (k R : Int) (r : LS × Int × Int) : LS × Int × Int := (r.1, k + r.2.1, R + r.2.2)
theorem runG_end (s : LS) {cs : List Int} {k : Nat} (h : cs.length ≤ k) (K R : Int) : addR K R (runG s (cs.drop k)) = (s, K, R) := by
  rw [List.drop_of_length_le h]; simp [addR, runG]
theorem runG_no {s : LS} {cs : List Int} {k : Nat} {c : Int} (h : cs[k]? = some c) (hs : (stepR s c).2 = false) (K R : Int) : addR K R (runG s (cs.drop k)) = (s, K, R) := by
  have hk := (List.getElem?_eq_some_iff.1 h).1
  have : stepF s c = none := by simpa [stepR] using hs
  rw [List.drop_eq_getElem_cons hk]
  have hc : cs[k] = c := by rw [List.getElem?_eq_getElem hk] at h; injection h
  simp [addR, runG, hc, this]
theorem runG_yes {s t : LS} {cs : List Int} {k : Nat} {c : Int} (h : cs[k]? = some c) (hs : stepR s c = (t, true)) (K R : Int) : addR K R (runG s (cs.drop k)) = addR (K + 1) (R + max 0 (t.le - s.le)) (runG t (cs.drop (k + 1))) := by
  have hk := (List.getElem?_eq_some_iff.1 h).1
  have : stepF s c = some t := by
    unfold stepR at hs
    cases hf : stepF s c with
    | none => rw [hf] at hs; cases hs
    | some u => rw [hf] at hs; simp at hs; rw [hs]
  rw [List.drop_eq_getElem_cons hk]
  have hc : cs[k] = c := by rw [List.getElem?_eq_getElem hk] at h; injection h
  simp only [addR, runG, hc, this]
  refine Prod.ext rfl (Prod.ext ?_ ?_) <;> simp <;> omega
theorem safe_stepR {s t : LS} {c : Int} (h : safeS s = true) (ht : stepR s c = (t, true)) : safeS t = true := by
  unfold stepR at ht
  cases hf : stepF s c with
  | none => rw [hf] at ht; cases ht
  | some u => rw [hf] at ht; simp at ht; subst ht; exact safe_step h hf

/-- Block g holds the state s. -/
def LSat (w : World) (g : Nat) (s : LS) : Prop := Blk w g 25 #[.int .i64 s.lo, .int .i64 s.up, .int .i64 s.le, .bool s.lg, .bool s.hg, .bool s.lp, .bool s.hp]
theorem LSat.cells {w : World} {g : Nat} {s : LS} (h : LSat w g s) : w.cell? ⟨g, 0, none⟩ = some (.int .i64 s.lo) ∧ w.cell? ⟨g, 1, none⟩ = some (.int .i64 s.up) ∧ w.cell? ⟨g, 2, none⟩ = some (.int .i64 s.le) ∧
    w.cell? ⟨g, 3, none⟩ = some (.bool s.lg) ∧ w.cell? ⟨g, 4, none⟩ = some (.bool s.hg) ∧ w.cell? ⟨g, 5, none⟩ = some (.bool s.lp) ∧ w.cell? ⟨g, 6, none⟩ = some (.bool s.hp) ∧ ∀ o, w.frozen? ⟨g, o, none⟩ = false :=
  ⟨Blk.cell h 0, Blk.cell h 1, Blk.cell h 2, Blk.cell h 3, Blk.cell h 4, Blk.cell h 5, Blk.cell h 6, fun o => Blk.frozen h o⟩

theorem rise_bd {R x : Int} {k : Nat} (h0 : 0 ≤ R) (h1 : R ≤ 2000 * k) (hx : x ≤ 2000) : 0 ≤ R + max 0 x ∧ R + max 0 x ≤ 2000 * ((k + 1 : Nat) : Int) := by omega
theorem keep8 {wr W : World} (q : Below wr.heap.size wr W) {g b i : Nat} {v0 v1 v2 v3 v4 v5 v6 v7 : Value} (hg : g < wr.heap.size) (hb : b < wr.heap.size)
    (h : wr.cell? ⟨g, 0, none⟩ = some v0 ∧ wr.cell? ⟨g, 1, none⟩ = some v1 ∧ wr.cell? ⟨g, 2, none⟩ = some v2 ∧ wr.cell? ⟨g, 3, none⟩ = some v3 ∧ wr.cell? ⟨g, 4, none⟩ = some v4 ∧ wr.cell? ⟨g, 5, none⟩ = some v5 ∧ wr.cell? ⟨g, 6, none⟩ = some v6 ∧ wr.cell? ⟨b, i, none⟩ = some v7) :
    W.cell? ⟨g, 0, none⟩ = some v0 ∧ W.cell? ⟨g, 1, none⟩ = some v1 ∧ W.cell? ⟨g, 2, none⟩ = some v2 ∧ W.cell? ⟨g, 3, none⟩ = some v3 ∧ W.cell? ⟨g, 4, none⟩ = some v4 ∧ W.cell? ⟨g, 5, none⟩ = some v5 ∧ W.cell? ⟨g, 6, none⟩ = some v6 ∧ W.cell? ⟨b, i, none⟩ = some v7 := by
  obtain ⟨h0, h1, h2, h3, h4, h5, h6, h7⟩ := h
  exact ⟨(q.cell (p := ⟨g, 0, none⟩) hg).trans h0, (q.cell (p := ⟨g, 1, none⟩) hg).trans h1, (q.cell (p := ⟨g, 2, none⟩) hg).trans h2, (q.cell (p := ⟨g, 3, none⟩) hg).trans h3, (q.cell (p := ⟨g, 4, none⟩) hg).trans h4, (q.cell (p := ⟨g, 5, none⟩) hg).trans h5, (q.cell (p := ⟨g, 6, none⟩) hg).trans h6, (q.cell (p := ⟨b, i, none⟩) hb).trans h7⟩

theorem spec_step_eq (s : LS) (c : Int) (hs : safeS s = true) {t : LS} {b : Bool} (h : stepR s c = (t, b)) (w : World) :
    Calls Try.prog 26 #[.agg #[.int .i64 s.lo, .int .i64 s.up, .int .i64 s.le, .bool s.lg, .bool s.hg, .bool s.lp, .bool s.hp], .int .i64 c] w fun e w' => e = .returned (.tuple #[.agg #[.int .i64 t.lo, .int .i64 t.up, .int .i64 t.le, .bool t.lg, .bool t.hg, .bool t.lp, .bool t.hp], .bool b]) ∧ Below w.heap.size w w' := by
  obtain ⟨lo, up, le, lg, hg, lp, hp⟩ := s
  have := spec_Step_ok lo up le lg hg lp hp c w hs
  rw [h] at this
  exact this

theorem LSat.alloc {w : World} {g : Nat} {s : LS} (h : LSat w g s) (o : Obj) : LSat (w.alloc o) g s := Blk.alloc h o
theorem LSat.store {w : World} {g : Nat} {s : LS} (h : LSat w g s) (t : LS) : LSat (((((((w.setCell ⟨g, 0, none⟩ (.int .i64 t.lo)).setCell ⟨g, 1, none⟩ (.int .i64 t.up)).setCell ⟨g, 2, none⟩ (.int .i64 t.le)).setCell ⟨g, 3, none⟩ (.bool t.lg)).setCell ⟨g, 4, none⟩ (.bool t.hg)).setCell ⟨g, 5, none⟩ (.bool t.lp)).setCell ⟨g, 6, none⟩ (.bool t.hp)) g t := by
  have h0 : Blk w g 25 #[.int .i64 s.lo, .int .i64 s.up, .int .i64 s.le, .bool s.lg, .bool s.hg, .bool s.lp, .bool s.hp] := h
  have h1 := ((((((h0.set_ 0 (.int .i64 t.lo)).set_ 1 (.int .i64 t.up)).set_ 2 (.int .i64 t.le)).set_ 3 (.bool t.lg)).set_ 4 (.bool t.hg)).set_ 5 (.bool t.lp)).set_ 6 (.bool t.hp)
  unfold LSat
  refine Blk.conv h1 ?_
  simp

set_option maxHeartbeats 1000000 in
theorem spec_l5Run (lo up le : Int) (lg hg lp hp : Bool) (A : Option Addr) (n cp : Nat) (cs : List Int) (w : World) (hA : RdI w A n cs) (hs : safeB lo up le lg hg lp hp = true) (hn : n ≤ 100) :
    Calls Try.prog 57 #[.agg #[.int .i64 lo, .int .i64 up, .int .i64 le, .bool lg, .bool hg, .bool lp, .bool hp], .slice A n cp] w fun e w' => e = .returned (.tuple #[.agg #[.int .i64 (runG ⟨lo, up, le, lg, hg, lp, hp⟩ cs).1.lo, .int .i64 (runG ⟨lo, up, le, lg, hg, lp, hp⟩ cs).1.up, .int .i64 (runG ⟨lo, up, le, lg, hg, lp, hp⟩ cs).1.le, .bool (runG ⟨lo, up, le, lg, hg, lp, hp⟩ cs).1.lg, .bool (runG ⟨lo, up, le, lg, hg, lp, hp⟩ cs).1.hg, .bool (runG ⟨lo, up, le, lg, hg, lp, hp⟩ cs).1.lp, .bool (runG ⟨lo, up, le, lg, hg, lp, hp⟩ cs).1.hp], .int .i64 (runG ⟨lo, up, le, lg, hg, lp, hp⟩ cs).2.1, .int .i64 (runG ⟨lo, up, le, lg, hg, lp, hp⟩ cs).2.2]) ∧ Below w.heap.size w w' := by
  have hl := Lib.hid hA.len
  go_enter Try.func57, Try.ntmps57
  go_wp2_with fail
  go_loopw [7, 8] (fun r i wr => ∃ (k : Nat) (st z : LS) (R : Int), k ≤ n ∧ r = .int .i64 R ∧ i = .int .i64 k ∧ LSat wr w.heap.size st ∧ LSat wr (w.heap.size + 1) z ∧ safeS st = true ∧ 0 ≤ R ∧ R ≤ 2000 * k ∧ runG ⟨lo, up, le, lg, hg, lp, hp⟩ cs = addR k R (runG st (cs.drop k)) ∧ Below w.heap.size w wr) (fun _ i _ => n - (intOf i).toNat)
  case atStart =>
    refine ⟨0, ⟨lo, up, le, lg, hg, lp, hp⟩, ⟨0, 0, 0, false, false, false, false⟩, 0, Nat.zero_le _, rfl, rfl, (Blk.new _ _ _).alloc _, ?_, hs, by omega, by omega, by simp [addR], by (repeat' (first | (with_reducible exact Below.refl _ _) | (with_reducible assumption) | (with_reducible refine Below.alloc ?_ ?_ _) | (with_reducible refine Below.drew ?_) | (with_reducible refine below_drewN ?_ _) | (with_reducible refine Below.setCell ?_ ?_ _) | (first | (with_reducible exact Nat.le_refl _) | (with_reducible assumption) | omega | (simp; omega) | (simp; done))))⟩
    exact Blk.new_at (w.alloc _) _ _ (by simp)
  case round =>
    obtain ⟨k, st, z, R, hk, rfl, rfl, hS, hZ, hsf, h0, h1, hr, hb⟩ := hrel
    have hr := Lib.hid hr
    have hsf := Lib.hid hsf
    by_cases hlt : k < n
    · obtain ⟨b, off, c, rfl, e1, c1⟩ := (hA.below hb).at_ hlt
      have e1 := Lib.hid e1
      obtain ⟨a0, a1, a2, a3, a4, a5, a6, a7⟩ := hS.cells
      have hsz : w.heap.size < wr.heap.size := hS.lt
      have hsz2 : w.heap.size + 1 < wr.heap.size := hZ.lt
      go_wp2_with fail
      have hbl : b < wr.heap.size := World.block_lt_of_cell? wr _ c1
      have hst : safeB st.lo st.up st.le st.lg st.hg st.lp st.hp = true := hsf.out
      have hst := Lib.hid hst
      obtain ⟨⟨t, ok⟩, hT⟩ : ∃ r, stepR st c = r := ⟨_, rfl⟩
      obtain ⟨b0, b1, b2, b3, b4, b5, b6, b7⟩ := hZ.cells
      cases ok
      · have hr2 := Lib.hid (hr.out.trans (runG_no e1.out (by rw [hT]) k R))
        have hT := Lib.hid hT
        have HS := Lib.hid (And.intro a0 (And.intro a1 (And.intro a2 (And.intro a3 (And.intro a4 (And.intro a5 (And.intro a6 c1)))))))
        go_region_held3 (fun w' => w'.cell? ⟨w.heap.size, 0, none⟩ = some (.int .i64 st.lo) ∧ w'.cell? ⟨w.heap.size, 1, none⟩ = some (.int .i64 st.up) ∧ w'.cell? ⟨w.heap.size, 2, none⟩ = some (.int .i64 st.le) ∧
            w'.cell? ⟨w.heap.size, 3, none⟩ = some (.bool st.lg) ∧ w'.cell? ⟨w.heap.size, 4, none⟩ = some (.bool st.hg) ∧ w'.cell? ⟨w.heap.size, 5, none⟩ = some (.bool st.lp) ∧ w'.cell? ⟨w.heap.size, 6, none⟩ = some (.bool st.hp) ∧ w'.cell? ⟨b, off + k, none⟩ = some (.int .i64 c))
          (first | (with_reducible assumption) | ((with_reducible refine keep8 ?_ hsz hbl HS.out); (repeat' (first | (with_reducible exact Below.refl _ _) | (with_reducible assumption) | (with_reducible refine Below.alloc ?_ ?_ _) | (with_reducible refine Below.drew ?_) | (with_reducible refine below_drewN ?_ _) | (with_reducible refine Below.setCell ?_ ?_ _) | (first | (with_reducible exact Nat.le_refl _) | (with_reducible assumption) | omega | (simp; omega) | (simp; done))))))
          (first | (go_at_call 26; refine (spec_step_eq st c hst.out hT.out _).mono ?_; rintro e w1 ⟨rfl, hb1⟩; (try dsimp only); (try (have hk := bc0 (w := wr) hb1 ?_; rotate_left; (focus (simp; done)); obtain ⟨c1ra, f1ra, s1ra⟩ := hk)); have qr := nextC (w := wr) hb1 (by (repeat' (first | (with_reducible exact Below.refl _ _) | (with_reducible assumption) | (with_reducible refine Below.alloc ?_ ?_ _) | (with_reducible refine Below.drew ?_) | (with_reducible refine below_drewN ?_ _) | (with_reducible refine Below.setCell ?_ ?_ _) | (first | (with_reducible exact Nat.le_refl _) | (with_reducible assumption) | omega | (simp; omega) | (simp; done))))); have yr := qr.size; have q1 : Below w.heap.size w w1 := hb.trans (qr.mono hb.size); have d0 : ∀ o, w1.cell? ⟨w.heap.size, o, none⟩ = wr.cell? ⟨w.heap.size, o, none⟩ := fun o => qr.cell (p := ⟨w.heap.size, o, none⟩) hsz; have d0f : ∀ o, w1.frozen? ⟨w.heap.size, o, none⟩ = wr.frozen? ⟨w.heap.size, o, none⟩ := fun o => qr.frozen (p := ⟨w.heap.size, o, none⟩) hsz; have d1 : ∀ o, w1.cell? ⟨w.heap.size + 1, o, none⟩ = wr.cell? ⟨w.heap.size + 1, o, none⟩ := fun o => qr.cell (p := ⟨w.heap.size + 1, o, none⟩) hsz2; have d1f : ∀ o, w1.frozen? ⟨w.heap.size + 1, o, none⟩ = wr.frozen? ⟨w.heap.size + 1, o, none⟩ := fun o => qr.frozen (p := ⟨w.heap.size + 1, o, none⟩) hsz2; have z0 : w.heap.size < w1.heap.size := Nat.lt_of_lt_of_le hsz yr; have z1 : w.heap.size + 1 < w1.heap.size := Nat.lt_of_lt_of_le hsz2 yr))
        all_goals
          go_wp2_with fail
          refine bodyPost_ret (v := .tuple #[.agg #[.int .i64 st.lo, .int .i64 st.up, .int .i64 st.le, .bool st.lg, .bool st.hg, .bool st.lp, .bool st.hp], .int .i64 k, .int .i64 R]) (by simp [results, Try.results57, go_sem, d1, z1, b0, b1, b2, b3, b4, b5, b6]) rfl ⟨?_, by (repeat' (first | (with_reducible exact Below.refl _ _) | (with_reducible assumption) | (with_reducible refine Below.alloc ?_ ?_ _) | (with_reducible refine Below.drew ?_) | (with_reducible refine below_drewN ?_ _) | (with_reducible refine Below.setCell ?_ ?_ _) | (first | (with_reducible exact Nat.le_refl _) | (with_reducible assumption) | omega | (simp; omega) | (simp; done))))⟩
          rw [hr2.out]
      · have hst2 := safe_stepR hsf.out hT
        have hr2 := Lib.hid (hr.out.trans (runG_yes e1.out hT k R))
        have hT := Lib.hid hT
        have bt := safe_bd (lo := t.lo) (up := t.up) (le := t.le) hst2
        have bs := safe_bd hst.out
        obtain ⟨m0, m1, m2, m3⟩ := bt
        obtain ⟨m4, m5, m6, m7⟩ := bs
        have hst2 := Lib.hid hst2
        have HS := Lib.hid (And.intro a0 (And.intro a1 (And.intro a2 (And.intro a3 (And.intro a4 (And.intro a5 (And.intro a6 c1)))))))
        go_region_held3 (fun w' => w'.cell? ⟨w.heap.size, 0, none⟩ = some (.int .i64 st.lo) ∧ w'.cell? ⟨w.heap.size, 1, none⟩ = some (.int .i64 st.up) ∧ w'.cell? ⟨w.heap.size, 2, none⟩ = some (.int .i64 st.le) ∧
            w'.cell? ⟨w.heap.size, 3, none⟩ = some (.bool st.lg) ∧ w'.cell? ⟨w.heap.size, 4, none⟩ = some (.bool st.hg) ∧ w'.cell? ⟨w.heap.size, 5, none⟩ = some (.bool st.lp) ∧ w'.cell? ⟨w.heap.size, 6, none⟩ = some (.bool st.hp) ∧ w'.cell? ⟨b, off + k, none⟩ = some (.int .i64 c))
          (first | (with_reducible assumption) | ((with_reducible refine keep8 ?_ hsz hbl HS.out); (repeat' (first | (with_reducible exact Below.refl _ _) | (with_reducible assumption) | (with_reducible refine Below.alloc ?_ ?_ _) | (with_reducible refine Below.drew ?_) | (with_reducible refine below_drewN ?_ _) | (with_reducible refine Below.setCell ?_ ?_ _) | (first | (with_reducible exact Nat.le_refl _) | (with_reducible assumption) | omega | (simp; omega) | (simp; done))))))
          (first | (go_at_call 26; refine (spec_step_eq st c hst.out hT.out _).mono ?_; rintro e w1 ⟨rfl, hb1⟩; (try dsimp only); (try (have hk := bc0 (w := wr) hb1 ?_; rotate_left; (focus (simp; done)); obtain ⟨c1ra, f1ra, s1ra⟩ := hk)); have qr := nextC (w := wr) hb1 (by (repeat' (first | (with_reducible exact Below.refl _ _) | (with_reducible assumption) | (with_reducible refine Below.alloc ?_ ?_ _) | (with_reducible refine Below.drew ?_) | (with_reducible refine below_drewN ?_ _) | (with_reducible refine Below.setCell ?_ ?_ _) | (first | (with_reducible exact Nat.le_refl _) | (with_reducible assumption) | omega | (simp; omega) | (simp; done))))); have yr := qr.size; have q1 : Below w.heap.size w w1 := hb.trans (qr.mono hb.size); have d0 : ∀ o, w1.cell? ⟨w.heap.size, o, none⟩ = wr.cell? ⟨w.heap.size, o, none⟩ := fun o => qr.cell (p := ⟨w.heap.size, o, none⟩) hsz; have d0f : ∀ o, w1.frozen? ⟨w.heap.size, o, none⟩ = wr.frozen? ⟨w.heap.size, o, none⟩ := fun o => qr.frozen (p := ⟨w.heap.size, o, none⟩) hsz; have d1 : ∀ o, w1.cell? ⟨w.heap.size + 1, o, none⟩ = wr.cell? ⟨w.heap.size + 1, o, none⟩ := fun o => qr.cell (p := ⟨w.heap.size + 1, o, none⟩) hsz2; have d1f : ∀ o, w1.frozen? ⟨w.heap.size + 1, o, none⟩ = wr.frozen? ⟨w.heap.size + 1, o, none⟩ := fun o => qr.frozen (p := ⟨w.heap.size + 1, o, none⟩) hsz2; have z0 : w.heap.size < w1.heap.size := Nat.lt_of_lt_of_le hsz yr; have z1 : w.heap.size + 1 < w1.heap.size := Nat.lt_of_lt_of_le hsz2 yr))
        all_goals
          go_wp2_with fail
          refine (spec_most _ _ _).mono ?_; rintro e wq ⟨rfl, rfl⟩; (try dsimp only)
          go_wp2_with fail
          go_roundw
          case rel =>
            have hS1 : Blk w1 w.heap.size 25 #[.int .i64 st.lo, .int .i64 st.up, .int .i64 st.le, .bool st.lg, .bool st.hg, .bool st.lp, .bool st.hp] := Blk.below hS qr hsz
            have hZ1 : Blk w1 (w.heap.size + 1) 25 #[.int .i64 z.lo, .int .i64 z.up, .int .i64 z.le, .bool z.lg, .bool z.hg, .bool z.lp, .bool z.hp] := Blk.below hZ qr hsz2
            have u1 : k + 1 ≤ n := hlt
            have u2 := rise_bd (k := k) (x := t.le - st.le) h0 h1 (by omega)
            have u3 := hr2.out
            rw [show (k : Int) + 1 = ((k + 1 : Nat) : Int) from rfl] at u3
            refine ⟨k + 1, t, z, R + max 0 (t.le - st.le), u1, rfl, rfl, ?_, ?_, hst2.out, u2.1, u2.2, u3, ?_⟩
            · (try with_reducible refine LSat.alloc ?_ _)
              with_reducible refine LSat.store (s := st) ?_ t
              unfold LSat
              (repeat (first | (with_reducible exact hS1) | (with_reducible refine Blk.set_ ?_ _ _) | (with_reducible refine Blk.alloc ?_ _) | (with_reducible refine Blk.drewN ?_ _) | (with_reducible refine Blk.far ?_ ?_ _; rotate_left; (focus (first | (simp; done) | (simp; omega))))))
            · unfold LSat
              (repeat (first | (with_reducible exact hZ1) | (with_reducible refine Blk.set_ ?_ _ _) | (with_reducible refine Blk.alloc ?_ _) | (with_reducible refine Blk.drewN ?_ _) | (with_reducible refine Blk.far ?_ ?_ _; rotate_left; (focus (first | (simp; done) | (simp; omega))))))
            · (repeat' (first | (with_reducible exact Below.refl _ _) | (with_reducible assumption) | (with_reducible refine Below.alloc ?_ ?_ _) | (with_reducible refine Below.drew ?_) | (with_reducible refine below_drewN ?_ _) | (with_reducible refine Below.setCell ?_ ?_ _) | (first | (with_reducible exact Nat.le_refl _) | (with_reducible assumption) | omega | (simp; omega) | (simp; done))))
          case measure => simp [intOf]; omega
    · obtain rfl : k = n := by omega
      obtain ⟨a0, a1, a2, a3, a4, a5, a6, a7⟩ := hS.cells
      obtain ⟨b0, b1, b2, b3, b4, b5, b6, b7⟩ := hZ.cells
      have hr2 := Lib.hid (hr.out.trans (runG_end st (by rw [hl.out]; exact Nat.le_refl _) k R))
      go_wp2_with fail
      refine bodyPost_ret (v := .tuple #[.agg #[.int .i64 st.lo, .int .i64 st.up, .int .i64 st.le, .bool st.lg, .bool st.hg, .bool st.lp, .bool st.hp], .int .i64 k, .int .i64 R]) (by simp [results, Try.results57, go_sem, b0, b1, b2, b3, b4, b5, b6]) rfl ⟨?_, by (repeat' (first | (with_reducible exact Below.refl _ _) | (with_reducible assumption) | (with_reducible refine Below.alloc ?_ ?_ _) | (with_reducible refine Below.drew ?_) | (with_reducible refine below_drewN ?_ _) | (with_reducible refine Below.setCell ?_ ?_ _) | (first | (with_reducible exact Nat.le_refl _) | (with_reducible assumption) | omega | (simp; omega) | (simp; done))))⟩
      rw [hr2.out]
end Go.Proofs.Ytadjkldpflidhaa
