/- The law of packings, plain: the first packing is the least; letters are counted. -/
import Derived.Test.YthmaiahllhgdpaaCk
import Derived.Test.YthmaiahllhgdpaaCi
import Derived.Test.YthmaiahllhgdpaaCn
namespace Go.Proofs.Ythmaiahllhgdpaa
open Go.RowKit
set_option linter.unusedVariables false
set_option linter.unusedSimpArgs false
theorem fs_first {α : Type} {f : Nat → Option α} {x : α} : ∀ {n : Nat}, (List.range n).findSome? f = some x → ∃ i, i < n ∧ f i = some x ∧ ∀ j, j < i → f j = none
  | 0, h => by simp at h
  | n + 1, h => by
    rw [List.range_succ, List.findSome?_append] at h
    cases hn : (List.range n).findSome? f with
    | some y =>
      rw [hn] at h
      simp only [Option.some_or, Option.some.injEq] at h
      subst h
      obtain ⟨i, h1, h2, h3⟩ := fs_first hn
      exact ⟨i, by omega, h2, h3⟩
    | none =>
      rw [hn] at h
      simp at h
      have := List.findSome?_eq_none_iff.1 hn
      exact ⟨n, by omega, h, fun j hj => this j (by simpa using hj)⟩
theorem findG_first {α : Type} {L W : Nat} {g : Nat → Nat → Option α} {x : α} (h : findG L W g = some x) : ∃ a d, a < L ∧ d < W ∧ g a d = some x ∧ (∀ a' d', a' < a → d' < W → g a' d' = none) ∧ ∀ d', d' < d → g a d' = none := by
  obtain ⟨a, ha, h1, h2⟩ := fs_first h
  obtain ⟨d, hd, h3, h4⟩ := fs_first h1
  exact ⟨a, d, ha, hd, h3, fun a' d' ha' hd' => List.findSome?_eq_none_iff.1 (h2 a' ha') d' (by simpa using hd'), h4⟩
/-- The smaller one at the first place where two lists of spots differ. -/
def leastAt (out at_ : List Spot_) (i : Nat) : Prop := (∀ j, j < i → sAt out j = sAt at_ j) ∧ ((sAt out i).at_ < (sAt at_ i).at_ ∨ (sAt out i).at_ = (sAt at_ i).at_ ∧ (sAt out i).sd < (sAt at_ i).sd)
theorem sAt_take {l : List Spot_} {k j : Nat} (h : j < k) : sAt (l.take k) j = sAt l j := by simp [sAt, List.getElem?_take, h]
theorem firstF_least {c : Chamber_} {hs : List Hull_} {at_ : List Spot_} (hh : ∀ i, i < at_.length → 1 ≤ (hAt hs i).ln ∧ 1 ≤ (hAt hs i).wd) (hp : packB c hs at_ = true) : ∀ (f k : Nat), k + f = at_.length → ∀ out, firstF c hs f (at_.take k) = some out → out = at_ ∨ ∃ i, i < at_.length ∧ leastAt out at_ i
  | 0, k, h, out, ho => by
    rw [firstF_zero] at ho; injection ho with ho
    left; rw [← ho, List.take_of_length_le (by omega)]
  | f + 1, k, h, out, ho => by
    have hk : k < at_.length := by omega
    have hf := packB_iff.1 hp k hk
    have hi := insB_iff.1 (fitB_iff.1 hf).1
    have h1 := hh k hk
    have hl : (at_.take k).length = k := by simp; omega
    have e : putS (at_.take k) (sAt at_ k).at_.toNat (sAt at_ k).sd.toNat = at_.take (k + 1) := by
      rw [List.take_add_one, List.getElem?_eq_getElem hk, putS, ← sAt_eq hk]
      have : (⟨((sAt at_ k).at_.toNat : Int), ((sAt at_ k).sd.toNat : Int)⟩ : Spot_) = sAt at_ k := by
        rw [Int.toNat_of_nonneg hi.1, Int.toNat_of_nonneg hi.2.1]
      rw [this]; rfl
    have hg : cellG c hs f (at_.take k) (sAt at_ k).at_.toNat (sAt at_ k).sd.toNat = firstF c hs f (at_.take (k + 1)) := by
      rw [cellG_fit (by rw [e, hl, fitB_take (by omega) (by omega)]; exact hf), e]
    have hne := firstF_complete hh hp f (k + 1) (by omega)
    rw [firstF_succ] at ho
    obtain ⟨a, d, ha, hd, hx, hx1, hx2⟩ := findG_first ho
    have n1 : ¬ (sAt at_ k).at_.toNat < a := fun hlt => by
      have := hx1 _ (sAt at_ k).sd.toNat hlt (by omega)
      rw [hg] at this; exact hne this
    have n2 : ¬ ((sAt at_ k).at_.toNat = a ∧ (sAt at_ k).sd.toNat < d) := fun ⟨h1, h2⟩ => by
      have := hx2 _ h2
      rw [← h1, hg] at this; exact hne this
    by_cases hs' : (sAt at_ k).at_.toNat = a ∧ (sAt at_ k).sd.toNat = d
    · rw [← hs'.1, ← hs'.2, hg] at hx
      exact firstF_least hh hp f (k + 1) (by omega) out hx
    · right
      refine ⟨k, hk, ?_⟩
      cases hfit : fitB c hs (putS (at_.take k) a d) (at_.take k).length with
      | false => rw [cellG_no hfit] at hx; cases hx
      | true =>
        rw [cellG_fit hfit] at hx
        have hpk : packB c hs (at_.take k) = true := packB_iff.2 fun i hi => by
          rw [hl] at hi
          rw [fitB_take hi (by omega)]; exact packB_iff.1 hp i (by omega)
        obtain ⟨_, h2, h3⟩ := firstF_sound f _ out hx (packB_put.2 ⟨hpk, hfit⟩)
        rw [putS_len, hl] at h2 h3
        have hs1 : ∀ j, j < k + 1 → sAt out j = sAt (putS (at_.take k) a d) j := fun j hj => by rw [← h3, sAt_take hj]
        refine ⟨fun j hj => ?_, ?_⟩
        · rw [hs1 j (by omega), sAt_app (by omega), sAt_take hj]
        · have := hs1 k (by omega)
          have e2 : sAt (putS (at_.take k) a d) k = ⟨(a : Int), (d : Int)⟩ := by
            have := sAt_putS (ss := at_.take k) (a := a) (d := d)
            rwa [hl] at this
          rw [this, e2]
          dsimp only
          omega
/-- Where a packing is asked for, the first one is found, and no smaller one is there. -/
theorem first_least {c : Chamber_} {hs : List Hull_} {at_ : List Spot_} (ha : askB c hs at_ = true) : ∃ out, firstF c hs hs.length [] = some out ∧ out.length = hs.length ∧ (out = at_ ∨ ∃ i, i < at_.length ∧ leastAt out at_ i) := by
  simp only [askB, Bool.and_eq_true, decide_eq_true_eq] at ha
  obtain ⟨⟨⟨hc, hh⟩, hl⟩, hp⟩ := ha
  have hok : ∀ i, i < at_.length → 1 ≤ (hAt hs i).ln ∧ 1 ≤ (hAt hs i).wd := fun i hi => by
    have := hAt_ok hh (i := i) (by omega)
    omega
  have hne := firstF_complete hok hp at_.length 0 (by omega)
  rw [List.take_zero, hl] at hne
  obtain ⟨out, ho⟩ := Option.ne_none_iff_exists'.1 hne
  refine ⟨out, ho, ?_, ?_⟩
  · have := (firstF_sound _ _ _ ho (packB_nil c hs)).2.1
    simpa using this
  · rw [← hl] at ho
    exact firstF_least hok hp at_.length 0 (by omega) out (by rw [List.take_zero]; exact ho)
/-! ### Letters -/
def letP (b : UInt8) : Bool := decide (97 ≤ b.toNat ∧ b.toNat ≤ 100)
def cnt (s : ByteArray) : Nat := s.data.toList.countP letP
theorem cnt_app (a b : ByteArray) : cnt (a ++ b) = cnt a + cnt b := by
  simp [cnt, ByteArray.data_append, List.countP_append]
theorem cnt_row (acc : ByteArray) (f : Nat → ByteArray) : ∀ n, cnt (rowT acc f n) = cnt acc + sumN (fun a => cnt (f a)) n
  | 0 => rfl
  | n + 1 => by rw [rowT, cnt_app, cnt_row acc f n]; simp only [sumN]; omega
theorem cnt_pic (f : Nat → Nat → ByteArray) (L : Nat) : ∀ d, cnt (picT f L d) = sumN (fun d => sumN (fun a => cnt (f a d)) L) d
  | 0 => rfl
  | d + 1 => by
    rw [picT, cnt_app, cnt_row, cnt_pic f L d]
    have : cnt ⟨#[10]⟩ = 0 := by decide
    simp only [sumN]; omega
theorem sum_swap (g : Nat → Nat → Nat) (L : Nat) : ∀ W, sumN (fun d => sumN (fun a => g a d) L) W = sumN (fun a => sumN (g a) W) L
  | 0 => (sumN_zero L).symm
  | W + 1 => by
    show sumN (fun d => sumN (fun a => g a d) L) W + sumN (fun a => g a W) L = _
    rw [sum_swap g L W, ← sumN_add]; rfl
theorem cnt_cell : ∀ k : Fin 5, cnt (cellT (k.1 : Int)) = if k.1 = 0 then 0 else 1 := by decide +kernel
theorem cnt_celF {hs : List Hull_} {ss : List Spot_} (h4 : hs.length ≤ 4) (a d : Nat) : cnt (celF hs ss a d) = (covM hs ss hs.length a d).toNat := by
  have hg := covI_ge hs ss a d hs.length
  have hi := covI_iff hs ss a d hs.length
  unfold celF
  obtain ⟨k, hk⟩ : ∃ k : Nat, covI hs ss a d hs.length + 1 = k := ⟨_, (Int.toNat_of_nonneg (by omega)).symm⟩
  rw [hk]
  have := cnt_cell ⟨k, by omega⟩
  simp only at this
  rw [this]
  cases hc : covM hs ss hs.length a d with
  | true => rw [hc] at hi; have := hi.2 rfl; rw [if_neg (by omega)]; rfl
  | false =>
    rw [hc] at hi
    rw [if_pos]; rfl
    rcases Nat.eq_zero_or_pos k with h | h
    · exact h
    · have := hi.1 (by omega); cases this
theorem pic_letters {c : Chamber_} {hs : List Hull_} {at_ : List Spot_} (ha : askB c hs at_ = true) : cnt (picT (celF hs at_) c.ln.toNat c.wd.toNat) = areaM hs hs.length := by
  simp only [askB, Bool.and_eq_true, decide_eq_true_eq] at ha
  obtain ⟨⟨⟨hc, hh⟩, hl⟩, hp⟩ := ha
  have hok : ∀ i, i < at_.length → (1 ≤ (hAt hs i).ln ∧ (hAt hs i).ln ≤ 6) ∧ (1 ≤ (hAt hs i).wd ∧ (hAt hs i).wd ≤ 3) := fun i hi => (hAt_ok hh (i := i) (by omega)).2
  have := covered hok hp hs.length (by omega)
  rw [cnt_pic, sum_swap (fun a d => cnt (celF hs at_ a d)), ← this]
  unfold grid
  refine sumN_congr fun a _ => sumN_congr fun d _ => ?_
  exact cnt_celF (hullsF_iff.1 hh).2.2 a d
theorem cnt_le (s : ByteArray) : cnt s ≤ s.size := by
  have := List.countP_le_length (p := letP) (l := s.data.toList)
  rw [Array.length_toList] at this
  exact this
def cntTo (s : ByteArray) (i : Nat) : Nat := (s.data.toList.take i).countP letP
theorem cntTo_zero (s : ByteArray) : cntTo s 0 = 0 := by simp [cntTo]
theorem cntTo_end (s : ByteArray) : cntTo s s.size = cnt s := by
  unfold cntTo cnt
  rw [List.take_of_length_le (Nat.le_of_eq (show s.data.toList.length = s.size from Array.length_toList))]
theorem cntTo_succ {s : ByteArray} {i : Nat} (h : i < s.data.toList.length) : cntTo s (i + 1) = cntTo s i + if letP s.data.toList[i] = true then 1 else 0 := by
  unfold cntTo
  rw [List.take_succ_eq_append_getElem h, List.countP_append]
  congr 1
  simp [List.countP_cons]
theorem cntTo_le (s : ByteArray) (i : Nat) : cntTo s i ≤ i := by
  have := List.countP_le_length (p := letP) (l := s.data.toList.take i)
  rw [List.length_take] at this
  unfold cntTo; omega
theorem prod_bd {a b : Int} (ha : 1 ≤ a ∧ a ≤ 6) (hb : 1 ≤ b ∧ b ≤ 3) : 0 ≤ a * b ∧ a * b ≤ 18 := by
  have h1 := Int.mul_nonneg (a := a) (b := b) (by omega) (by omega)
  have h2 := Int.mul_le_mul (a := a) (b := b) (c := 6) (d := 3) ha.2 hb.2 (by omega) (by omega)
  omega
theorem area_step (hs : List Hull_) (i : Nat) (h1 : 1 ≤ (hAt hs i).ln) (h2 : 1 ≤ (hAt hs i).wd) : ((areaM hs (i + 1) : Nat) : Int) = (areaM hs i : Int) + (hAt hs i).ln * (hAt hs i).wd := by
  simp only [areaM]
  rw [Int.natCast_add, Int.natCast_mul, Int.toNat_of_nonneg (by omega), Int.toNat_of_nonneg (by omega)]
theorem fpF_ask {c : Chamber_} {hs : List Hull_} {out : List Spot_} (h : fpF c hs = some out) : askB c hs out = true := by
  unfold fpF at h
  split at h
  · rename_i hq
    obtain ⟨h1, h2, _⟩ := firstF_sound _ _ _ h (packB_nil c hs)
    simp only [askB, Bool.and_eq_true, decide_eq_true_eq]
    exact ⟨⟨hq, by simpa using h2⟩, h1⟩
  · cases h
end Go.Proofs.Ythmaiahllhgdpaa
