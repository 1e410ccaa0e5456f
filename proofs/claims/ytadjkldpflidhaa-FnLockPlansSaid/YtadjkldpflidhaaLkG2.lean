/- Runs of the lock: the program. -/
import Derived.Test.YtadjkldpflidhaaLkG
import Derived.Deep.RegionHeld3


namespace Go.Proofs.Ytadjkldpflidhaa
open Go.RowKit


theorem impl_step_eq (s : LS) (c : Int) (hs : safeS s = true) {t : LS} {b : Bool} (h : stepR s c = (t, b)) (w : World) :
    Calls Try.prog 51 #[.agg #[.int .i64 s.lo, .int .i64 s.up, .int .i64 s.le, .bool s.lg, .bool s.hg, .bool s.lp, .bool s.hp], .int .i64 c] w fun e w' => e = .returned (.tuple #[.agg #[.int .i64 t.lo, .int .i64 t.up, .int .i64 t.le, .bool t.lg, .bool t.hg, .bool t.lp, .bool t.hp], .bool b]) ∧ Below w.heap.size w w' := by
  obtain ⟨lo, up, le, lg, hg, lp, hp⟩ := s
  have := impl_stepLock lo up le lg hg lp hp hs c w
  rw [h] at this
  exact this

set_option maxHeartbeats 1000000 in
theorem impl_runLock (lo up le : Int) (lg hg lp hp : Bool) (A : Option Addr) (n cp : Nat) (cs : List Int) (w : World) (hA : RdI w A n cs) (hs : safeB lo up le lg hg lp hp = true) (hn : n ≤ 100) :
    Calls Try.prog 56 #[.agg #[.int .i64 lo, .int .i64 up, .int .i64 le, .bool lg, .bool hg, .bool lp, .bool hp], .slice A n cp] w fun e w' => e = .returned (.tuple #[.agg #[.int .i64 (runG ⟨lo, up, le, lg, hg, lp, hp⟩ cs).1.lo, .int .i64 (runG ⟨lo, up, le, lg, hg, lp, hp⟩ cs).1.up, .int .i64 (runG ⟨lo, up, le, lg, hg, lp, hp⟩ cs).1.le, .bool (runG ⟨lo, up, le, lg, hg, lp, hp⟩ cs).1.lg, .bool (runG ⟨lo, up, le, lg, hg, lp, hp⟩ cs).1.hg, .bool (runG ⟨lo, up, le, lg, hg, lp, hp⟩ cs).1.lp, .bool (runG ⟨lo, up, le, lg, hg, lp, hp⟩ cs).1.hp], .int .i64 (runG ⟨lo, up, le, lg, hg, lp, hp⟩ cs).2.1, .int .i64 (runG ⟨lo, up, le, lg, hg, lp, hp⟩ cs).2.2]) ∧ Below w.heap.size w w' := by
  have hl := Lib.hid hA.len
  go_enter Try.func56, Try.ntmps56
  go_wp2_with fail
  go_loopw [7, 14] (fun r i wr => ∃ (k : Nat) (st z : LS) (R : Int), k ≤ n ∧ r = .int .i64 R ∧ i = .int .i64 k ∧ LSat wr w.heap.size st ∧ LSat wr (w.heap.size + 1) z ∧ safeS st = true ∧ 0 ≤ R ∧ R ≤ 2000 * k ∧ runG ⟨lo, up, le, lg, hg, lp, hp⟩ cs = addR k R (runG st (cs.drop k)) ∧ Below w.heap.size w wr) (fun _ i _ => n - (intOf i).toNat)
  case atStart =>
    refine ⟨0, ⟨lo, up, le, lg, hg, lp, hp⟩, ⟨0, 0, 0, false, false, false, false⟩, 0, Nat.zero_le _, rfl, rfl, (Blk.new _ _ _).alloc _, ?_, hs, by omega, by omega, by simp [addR], by (repeat' (first | (with_reducible exact Below.refl _ _) | (with_reducible assumption) | (with_reducible refine Below.alloc ?_ ?_ _) | (with_reducible refine Below.drew ?_) | (with_reducible refine below_drewN ?_ _) | (with_reducible refine Below.setCell ?_ ?_ _) | (first | (with_reducible exact Nat.le_refl _) | (with_reducible assumption) | omega | (simp; omega) | (simp; done))))⟩
    exact Blk.new_at (w.alloc _) _ _ (by simp)
  case round =>
    obtain ⟨k, st, z, R, hk, rfl, rfl, hS, hZ, hsf, h0, h1, hr, hb⟩ := hrel
    have hr := Lib.hid hr
    have hsf := Lib.hid hsf
    obtain ⟨a0, a1, a2, a3, a4, a5, a6, a7⟩ := hS.cells
    obtain ⟨b0, b1, b2, b3, b4, b5, b6, b7⟩ := hZ.cells
    by_cases hlt : k < n
    · obtain ⟨b, off, c, rfl, e1, c1⟩ := (hA.below hb).at_ hlt
      have e1 := Lib.hid e1
      have hsz : w.heap.size < wr.heap.size := hS.lt
      have hsz2 : w.heap.size + 1 < wr.heap.size := hZ.lt
      have hst : safeB st.lo st.up st.le st.lg st.hg st.lp st.hp = true := hsf.out
      have hst := Lib.hid hst
      obtain ⟨⟨t, ok⟩, hT⟩ : ∃ r, stepR st c = r := ⟨_, rfl⟩
      cases ok
      · have hr2 := Lib.hid (hr.out.trans (runG_no e1.out (by rw [hT]) k R))
        have hT := Lib.hid hT
        go_wp2_with fail
        refine (impl_step_eq st c hst.out hT.out _).mono ?_
        rintro e w1 ⟨rfl, hb1⟩
        (try dsimp only); have qr := nextC (w := wr) hb1 (by (repeat' (first | (with_reducible exact Below.refl _ _) | (with_reducible assumption) | (with_reducible refine Below.alloc ?_ ?_ _) | (with_reducible refine Below.drew ?_) | (with_reducible refine below_drewN ?_ _) | (with_reducible refine Below.setCell ?_ ?_ _) | (first | (with_reducible exact Nat.le_refl _) | (with_reducible assumption) | omega | (simp; omega) | (simp; done))))); have yr := qr.size; have q1 : Below w.heap.size w w1 := hb.trans (qr.mono hb.size); have d0 : ∀ o, w1.cell? ⟨w.heap.size, o, none⟩ = wr.cell? ⟨w.heap.size, o, none⟩ := fun o => qr.cell (p := ⟨w.heap.size, o, none⟩) hsz; have d0f : ∀ o, w1.frozen? ⟨w.heap.size, o, none⟩ = wr.frozen? ⟨w.heap.size, o, none⟩ := fun o => qr.frozen (p := ⟨w.heap.size, o, none⟩) hsz; have d1 : ∀ o, w1.cell? ⟨w.heap.size + 1, o, none⟩ = wr.cell? ⟨w.heap.size + 1, o, none⟩ := fun o => qr.cell (p := ⟨w.heap.size + 1, o, none⟩) hsz2; have d1f : ∀ o, w1.frozen? ⟨w.heap.size + 1, o, none⟩ = wr.frozen? ⟨w.heap.size + 1, o, none⟩ := fun o => qr.frozen (p := ⟨w.heap.size + 1, o, none⟩) hsz2; have z0 : w.heap.size < w1.heap.size := Nat.lt_of_lt_of_le hsz yr; have z1 : w.heap.size + 1 < w1.heap.size := Nat.lt_of_lt_of_le hsz2 yr
        go_wp2_with fail
        refine bodyPost_ret (v := .tuple #[.agg #[.int .i64 st.lo, .int .i64 st.up, .int .i64 st.le, .bool st.lg, .bool st.hg, .bool st.lp, .bool st.hp], .int .i64 k, .int .i64 R]) (by simp [results, Try.results56, go_sem, d1, z1, b0, b1, b2, b3, b4, b5, b6]) rfl ⟨?_, by (repeat' (first | (with_reducible exact Below.refl _ _) | (with_reducible assumption) | (with_reducible refine Below.alloc ?_ ?_ _) | (with_reducible refine Below.drew ?_) | (with_reducible refine below_drewN ?_ _) | (with_reducible refine Below.setCell ?_ ?_ _) | (first | (with_reducible exact Nat.le_refl _) | (with_reducible assumption) | omega | (simp; omega) | (simp; done))))⟩
        rw [hr2.out]
      · have hst2 := safe_stepR hsf.out hT
        have hr2 := Lib.hid (hr.out.trans (runG_yes e1.out hT k R))
        have hT := Lib.hid hT
        have bt := safe_bd (lo := t.lo) (up := t.up) (le := t.le) hst2
        have bs := safe_bd hst.out
        obtain ⟨m0, m1, m2, m3⟩ := bt
        obtain ⟨m4, m5, m6, m7⟩ := bs
        have hst2 := Lib.hid hst2
        go_wp2_with fail
        refine (impl_step_eq st c hst.out hT.out _).mono ?_
        rintro e w1 ⟨rfl, hb1⟩
        (try dsimp only); have qr := nextC (w := wr) hb1 (by (repeat' (first | (with_reducible exact Below.refl _ _) | (with_reducible assumption) | (with_reducible refine Below.alloc ?_ ?_ _) | (with_reducible refine Below.drew ?_) | (with_reducible refine below_drewN ?_ _) | (with_reducible refine Below.setCell ?_ ?_ _) | (first | (with_reducible exact Nat.le_refl _) | (with_reducible assumption) | omega | (simp; omega) | (simp; done))))); have yr := qr.size; have q1 : Below w.heap.size w w1 := hb.trans (qr.mono hb.size); have d0 : ∀ o, w1.cell? ⟨w.heap.size, o, none⟩ = wr.cell? ⟨w.heap.size, o, none⟩ := fun o => qr.cell (p := ⟨w.heap.size, o, none⟩) hsz; have d0f : ∀ o, w1.frozen? ⟨w.heap.size, o, none⟩ = wr.frozen? ⟨w.heap.size, o, none⟩ := fun o => qr.frozen (p := ⟨w.heap.size, o, none⟩) hsz; have d1 : ∀ o, w1.cell? ⟨w.heap.size + 1, o, none⟩ = wr.cell? ⟨w.heap.size + 1, o, none⟩ := fun o => qr.cell (p := ⟨w.heap.size + 1, o, none⟩) hsz2; have d1f : ∀ o, w1.frozen? ⟨w.heap.size + 1, o, none⟩ = wr.frozen? ⟨w.heap.size + 1, o, none⟩ := fun o => qr.frozen (p := ⟨w.heap.size + 1, o, none⟩) hsz2; have z0 : w.heap.size < w1.heap.size := Nat.lt_of_lt_of_le hsz yr; have z1 : w.heap.size + 1 < w1.heap.size := Nat.lt_of_lt_of_le hsz2 yr
        go_wp2_with fail
        go_roundw
        case rel =>
          have hS1 : Blk w1 w.heap.size 25 #[.int .i64 st.lo, .int .i64 st.up, .int .i64 st.le, .bool st.lg, .bool st.hg, .bool st.lp, .bool st.hp] := Blk.below hS qr hsz
          have hZ1 : Blk w1 (w.heap.size + 1) 25 #[.int .i64 z.lo, .int .i64 z.up, .int .i64 z.le, .bool z.lg, .bool z.hg, .bool z.lp, .bool z.hp] := Blk.below hZ qr hsz2
          have u1 : k + 1 ≤ n := hlt
          have u2 := rise_bd (k := k) (x := t.le - st.le) h0 h1 (by omega)
          have u3 := hr2.out
          rw [show (k : Int) + 1 = ((k + 1 : Nat) : Int) from rfl] at u3
          refine ⟨k + 1, t, z, R + max 0 (t.le - st.le), u1, ?_, rfl, ?_, ?_, hst2.out, u2.1, u2.2, u3, ?_⟩
          · congr 1; omega
          · (try with_reducible refine LSat.alloc ?_ _)
            with_reducible refine LSat.store (s := st) ?_ t
            unfold LSat
            (repeat (first | (with_reducible exact hS1) | (with_reducible refine Blk.set_ ?_ _ _) | (with_reducible refine Blk.alloc ?_ _) | (with_reducible refine Blk.drewN ?_ _) | (with_reducible refine Blk.far ?_ ?_ _; rotate_left; (focus (first | (simp; done) | (simp; omega))))))
          · unfold LSat
            (repeat (first | (with_reducible exact hZ1) | (with_reducible refine Blk.set_ ?_ _ _) | (with_reducible refine Blk.alloc ?_ _) | (with_reducible refine Blk.drewN ?_ _) | (with_reducible refine Blk.far ?_ ?_ _; rotate_left; (focus (first | (simp; done) | (simp; omega))))))
          · (repeat' (first | (with_reducible exact Below.refl _ _) | (with_reducible assumption) | (with_reducible refine Below.alloc ?_ ?_ _) | (with_reducible refine Below.drew ?_) | (with_reducible refine below_drewN ?_ _) | (with_reducible refine Below.setCell ?_ ?_ _) | (first | (with_reducible exact Nat.le_refl _) | (with_reducible assumption) | omega | (simp; omega) | (simp; done))))
        case measure => simp [intOf]; omega
    · obtain rfl : k = n := by omega
      have hr2 := Lib.hid (hr.out.trans (runG_end st (by rw [hl.out]; exact Nat.le_refl _) k R))
      go_wp2_with fail
      refine bodyPost_ret (v := .tuple #[.agg #[.int .i64 st.lo, .int .i64 st.up, .int .i64 st.le, .bool st.lg, .bool st.hg, .bool st.lp, .bool st.hp], .int .i64 k, .int .i64 R]) (by simp [results, Try.results56, go_sem, b0, b1, b2, b3, b4, b5, b6]) rfl ⟨?_, by (repeat' (first | (with_reducible exact Below.refl _ _) | (with_reducible assumption) | (with_reducible refine Below.alloc ?_ ?_ _) | (with_reducible refine Below.drew ?_) | (with_reducible refine below_drewN ?_ _) | (with_reducible refine Below.setCell ?_ ?_ _) | (first | (with_reducible exact Nat.le_refl _) | (with_reducible assumption) | omega | (simp; omega) | (simp; done))))⟩
      rw [hr2.out]
end Go.Proofs.Ytadjkldpflidhaa
