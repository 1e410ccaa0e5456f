/- The lock in plain words: safe states, commands, runs, plans. -/
namespace Go.Proofs.Ytadjkldpflidhaa

structure LS where
  lo : Int
  up : Int
  le : Int
  lg : Bool
  hg : Bool
  lp : Bool
  hp : Bool

theorem LS.ext_ {a b : LS} (h1 : a.lo = b.lo) (h2 : a.up = b.up) (h3 : a.le = b.le) (h4 : a.lg = b.lg) (h5 : a.hg = b.hg) (h6 : a.lp = b.lp) (h7 : a.hp = b.hp) : a = b := by
  cases a; cases b; simp_all

def inB (n lo hi : Int) : Bool := decide (lo ≤ n) && decide (n ≤ hi)
theorem inB_true {n lo hi : Int} (h : inB n lo hi = true) : lo ≤ n ∧ n ≤ hi := by simpa [inB] using h
theorem inB_false {n lo hi : Int} (h : inB n lo hi = false) : n < lo ∨ hi < n := by simp [inB] at h; omega
theorem inB_t {n lo hi : Int} (h : lo ≤ n ∧ n ≤ hi) : inB n lo hi = true := by simp [inB, h]
theorem inB_f {n lo hi : Int} (h : n < lo ∨ hi < n) : inB n lo hi = false := by simp [inB]; omega

def safeB (lo up le : Int) (lg hg lp hp : Bool) : Bool :=
  decide (0 ≤ lo ∧ lo ≤ le ∧ le ≤ up ∧ up ≤ 2000) && !(lg && hg) && !(lp && hp) && !(lg && hp) && !(hg && lp) && (!lg || decide (le - lo ≤ 5)) && (!hg || decide (up - le ≤ 5))

theorem safe_bd {lo up le : Int} {lg hg lp hp : Bool} (h : safeB lo up le lg hg lp hp = true) : 0 ≤ lo ∧ lo ≤ le ∧ le ≤ up ∧ up ≤ 2000 := by
  simp [safeB] at h; omega
theorem safe_p {lo up le : Int} {lg hg lp hp : Bool} (h : safeB lo up le lg hg lp hp = true) : ¬ (lp = true ∧ hp = true) := by
  simp [safeB] at h; cases lp <;> cases hp <;> simp_all

def headF (lo up le : Int) (high : Bool) : Int := if high then up - le else le - lo
def minF (h : Int) : Int := (max 0 (h - 5) + 49) / 50

/-- What a command that opens or closes something makes of a state, if it changes it. -/
def turnF (s : LS) (c : Int) : Option LS :=
  if c = 1 then (if s.lg then none else some { s with lg := true })
  else if c = 2 then (if s.lg then some { s with lg := false } else none)
  else if c = 3 then (if s.hg then none else some { s with hg := true })
  else if c = 4 then (if s.hg then some { s with hg := false } else none)
  else if c = 5 then (if s.lp then none else some { s with lp := true })
  else if c = 6 then (if s.lp then some { s with lp := false } else none)
  else if c = 7 then (if s.hp then none else some { s with hp := true })
  else if c = 8 then (if s.hp then some { s with hp := false } else none)
  else none
def waitF (s : LS) : LS := if s.lp then { s with le := max (s.le - 50) s.lo } else if s.hp then { s with le := min (s.le + 50) s.up } else s
def safeS (s : LS) : Bool := safeB s.lo s.up s.le s.lg s.hg s.lp s.hp
/-- A command of a safe state. -/
def stepF (s : LS) (c : Int) : Option LS :=
  if c = 9 then some (waitF s) else (turnF s c).filter safeS

theorem safe_wait {s : LS} (h : safeS s = true) : safeS (waitF s) = true := by
  obtain ⟨lo, up, le, lg, hg, lp, hp⟩ := s
  simp only [safeS, safeB, waitF] at *
  cases lg <;> cases hg <;> cases lp <;> cases hp <;> simp_all <;> omega
theorem safe_step {s t : LS} {c : Int} (h : safeS s = true) (ht : stepF s c = some t) : safeS t = true := by
  unfold stepF at ht
  split at ht
  · injection ht with ht; subst ht; exact safe_wait h
  · exact (Option.filter_eq_some_iff.1 ht).2
end Go.Proofs.Ytadjkldpflidhaa
