/- The search for a packing: the plain words, and that it finds one where there is one. -/
import Derived.Test.YthmaiahllhgdpaaCe


namespace Go.Proofs.Ythmaiahllhgdpaa
open Go.RowKit
set_option linter.unusedVariables false
set_option linter.unusedSimpArgs false
theorem fs_none {α : Type} {n : Nat} {f : Nat → Option α} (h : ∀ i, i < n → f i = none) : (List.range n).findSome? f = none := by
  rw [List.findSome?_eq_none_iff]; intro x hx; exact h x (by simpa using hx)
theorem fs_some {α : Type} {n i : Nat} {f : Nat → Option α} {x : α} (hi : i < n) (h : f i = some x) (h0 : ∀ j, j < i → f j = none) : (List.range n).findSome? f = some x := by
  obtain ⟨m, rfl⟩ : ∃ m, n = i + (m + 1) := ⟨n - i - 1, by omega⟩
  rw [List.range_add, List.findSome?_append, fs_none h0, Option.none_or, List.range_succ_eq_map, List.map_cons, List.findSome?_cons]
  simp [h]
/-- The first answer of g in a grid, column by column. -/
def findG {α : Type} (L W : Nat) (g : Nat → Nat → Option α) : Option α := (List.range L).findSome? fun a => (List.range W).findSome? (g a)
theorem findG_none {α : Type} {L W : Nat} {g : Nat → Nat → Option α} (h : ∀ a d, a < L → d < W → g a d = none) : findG L W g = none := fs_none fun a ha => fs_none fun d hd => h a d ha hd
theorem findG_some {α : Type} {L W a d : Nat} {g : Nat → Nat → Option α} {x : α} (ha : a < L) (hd : d < W) (h : g a d = some x) (h1 : ∀ a' d', a' < a → d' < W → g a' d' = none) (h2 : ∀ d', d' < d → g a d' = none) : findG L W g = some x :=
  fs_some ha (fs_some hd h h2) fun a' ha' => fs_none fun d' hd' => h1 a' d' ha' hd'
theorem findG_ex {α : Type} {L W : Nat} {g : Nat → Nat → Option α} {x : α} (h : findG L W g = some x) : ∃ a d, a < L ∧ d < W ∧ g a d = some x := by
  obtain ⟨a, ha, h⟩ := List.exists_of_findSome?_eq_some h
  obtain ⟨d, hd, h⟩ := List.exists_of_findSome?_eq_some h
  exact ⟨a, d, by simpa using ha, by simpa using hd, h⟩
theorem findG_ne {α : Type} {L W a d : Nat} {g : Nat → Nat → Option α} (ha : a < L) (hd : d < W) (h : g a d ≠ none) : findG L W g ≠ none := fun hn => by
  have h1 := List.findSome?_eq_none_iff.1 hn a (by simpa using ha)
  exact h (List.findSome?_eq_none_iff.1 h1 d (by simpa using hd))
def putS (ss : List Spot_) (a d : Nat) : List Spot_ := ss ++ [⟨(a : Int), (d : Int)⟩]
theorem putS_len (ss : List Spot_) (a d : Nat) : (putS ss a d).length = ss.length + 1 := by simp [putS]
/-- The first packing that begins with some spots, f more. -/
def firstF (c : Chamber_) (hs : List Hull_) : Nat → List Spot_ → Option (List Spot_)
  | 0, ss => some ss
  | f + 1, ss => findG c.ln.toNat c.wd.toNat fun a d => if fitB c hs (putS ss a d) ss.length = true then firstF c hs f (putS ss a d) else none
def cellG (c : Chamber_) (hs : List Hull_) (f : Nat) (ss : List Spot_) (a d : Nat) : Option (List Spot_) := if fitB c hs (putS ss a d) ss.length = true then firstF c hs f (putS ss a d) else none
theorem firstF_zero (c : Chamber_) (hs : List Hull_) (ss : List Spot_) : firstF c hs 0 ss = some ss := rfl
theorem firstF_succ (c : Chamber_) (hs : List Hull_) (f : Nat) (ss : List Spot_) : firstF c hs (f + 1) ss = findG c.ln.toNat c.wd.toNat (cellG c hs f ss) := rfl
theorem cellG_fit {c : Chamber_} {hs : List Hull_} {f : Nat} {ss : List Spot_} {a d : Nat} (h : fitB c hs (putS ss a d) ss.length = true) : cellG c hs f ss a d = firstF c hs f (putS ss a d) := if_pos h
theorem cellG_no {c : Chamber_} {hs : List Hull_} {f : Nat} {ss : List Spot_} {a d : Nat} (h : fitB c hs (putS ss a d) ss.length = false) : cellG c hs f ss a d = none := if_neg (by rw [h]; decide)
theorem sAt_putS {ss : List Spot_} {a d : Nat} : sAt (putS ss a d) ss.length = ⟨(a : Int), (d : Int)⟩ := by
  simp [sAt, putS]
theorem sAt_app {ss : List Spot_} {a d k : Nat} (h : k < ss.length) : sAt (putS ss a d) k = sAt ss k := by
  simp [sAt, putS, List.getElem?_append_left h]
theorem fitB_app {c : Chamber_} {hs : List Hull_} {ss : List Spot_} {a d k : Nat} (h : k < ss.length) : fitB c hs (putS ss a d) k = fitB c hs ss k := by
  rw [Bool.eq_iff_iff, fitB_iff, fitB_iff, sAt_app h]
  constructor
  · rintro ⟨h1, h2⟩; exact ⟨h1, fun j hj => by have := h2 j hj; rwa [sAt_app (by omega)] at this⟩
  · rintro ⟨h1, h2⟩; exact ⟨h1, fun j hj => by rw [sAt_app (by omega)]; exact h2 j hj⟩
theorem packB_put {c : Chamber_} {hs : List Hull_} {ss : List Spot_} {a d : Nat} : packB c hs (putS ss a d) = true ↔ packB c hs ss = true ∧ fitB c hs (putS ss a d) ss.length = true := by
  rw [packB_iff, packB_iff, putS_len]
  constructor
  · intro h; exact ⟨fun i hi => by have := h i (by omega); rwa [fitB_app hi] at this, h _ (by omega)⟩
  · rintro ⟨h1, h2⟩ i hi
    by_cases hs' : i < ss.length
    · rw [fitB_app hs']; exact h1 i hs'
    · obtain rfl : i = ss.length := by omega
      exact h2
theorem packB_putB {c : Chamber_} {hs : List Hull_} {ss : List Spot_} {a d : Nat} (h : packB c hs ss = true) : packB c hs (putS ss a d) = fitB c hs (putS ss a d) ss.length := by
  rw [Bool.eq_iff_iff, packB_put]; exact ⟨fun x => x.2, fun x => ⟨h, x⟩⟩
/-- What the search finds is a packing, and goes on from what it was handed. -/
theorem firstF_sound {c : Chamber_} {hs : List Hull_} : ∀ (f : Nat) (ss out : List Spot_), firstF c hs f ss = some out → packB c hs ss = true → packB c hs out = true ∧ out.length = ss.length + f ∧ out.take ss.length = ss
  | 0, ss, out, h, hp => by
    rw [firstF_zero] at h; injection h with h; subst h; exact ⟨hp, rfl, by simp⟩
  | f + 1, ss, out, h, hp => by
    rw [firstF_succ] at h
    obtain ⟨a, d, _, _, h⟩ := findG_ex h
    cases hf : fitB c hs (putS ss a d) ss.length with
    | false => rw [cellG_no hf] at h; cases h
    | true =>
      rw [cellG_fit hf] at h
      obtain ⟨h1, h2, h3⟩ := firstF_sound f _ out h (packB_put.2 ⟨hp, hf⟩)
      rw [putS_len] at h2 h3
      refine ⟨h1, by omega, ?_⟩
      have := congrArg (List.take ss.length) h3
      rw [List.take_take, Nat.min_eq_left (by omega)] at this
      rw [this, putS]; simp
/-- Where a packing goes on from some spots, the search finds one. -/
theorem firstF_complete {c : Chamber_} {hs : List Hull_} {out : List Spot_} (hh : ∀ i, i < out.length → 1 ≤ (hAt hs i).ln ∧ 1 ≤ (hAt hs i).wd) (hp : packB c hs out = true) : ∀ (f k : Nat), k + f = out.length → firstF c hs f (out.take k) ≠ none
  | 0, k, h => by rw [firstF_zero]; exact fun h => by cases h
  | f + 1, k, h => by
    have hk : k < out.length := by omega
    have hf := packB_iff.1 hp k hk
    have hi := insB_iff.1 (fitB_iff.1 hf).1
    have h1 := hh k hk
    have hl : (out.take k).length = k := by simp; omega
    have e : putS (out.take k) (sAt out k).at_.toNat (sAt out k).sd.toNat = out.take (k + 1) := by
      rw [List.take_add_one, List.getElem?_eq_getElem hk, putS, ← sAt_eq hk]
      have : (⟨((sAt out k).at_.toNat : Int), ((sAt out k).sd.toNat : Int)⟩ : Spot_) = sAt out k := by
        rw [Int.toNat_of_nonneg hi.1, Int.toNat_of_nonneg hi.2.1]
      rw [this]; rfl
    rw [firstF_succ]
    refine findG_ne (a := (sAt out k).at_.toNat) (d := (sAt out k).sd.toNat) (by omega) (by omega) ?_
    rw [cellG_fit (by rw [e, hl, fitB_take (by omega) (by omega)]; exact hf), e]
    exact firstF_complete hh hp f (k + 1) (by omega)
def fitsF (c : Chamber_) (hs : List Hull_) : Bool := (firstF c hs hs.length []).isSome
theorem packB_nil (c : Chamber_) (hs : List Hull_) : packB c hs [] = true := rfl
theorem fitsF_iff {c : Chamber_} {hs : List Hull_} (hh : ∀ i, i < hs.length → 1 ≤ (hAt hs i).ln ∧ 1 ≤ (hAt hs i).wd) : fitsF c hs = true ↔ ∃ out, packB c hs out = true ∧ out.length = hs.length := by
  rw [fitsF, Option.isSome_iff_exists]
  constructor
  · rintro ⟨out, h⟩
    obtain ⟨h1, h2, _⟩ := firstF_sound _ _ _ h (packB_nil c hs)
    exact ⟨out, h1, by simpa using h2⟩
  · rintro ⟨out, h1, h2⟩
    have := firstF_complete (c := c) (hs := hs) (out := out) (by rw [h2]; exact hh) h1 hs.length 0 (by omega)
    rw [List.take_zero] at this
    exact Option.ne_none_iff_exists'.1 this
/-- Hulls that have a packing have no more cells than the chamber. -/
theorem fits_area {c : Chamber_} {hs : List Hull_} (hok : ∀ i, i < hs.length → (1 ≤ (hAt hs i).ln ∧ (hAt hs i).ln ≤ 6) ∧ (1 ≤ (hAt hs i).wd ∧ (hAt hs i).wd ≤ 3)) (h : fitsF c hs = true) : areaM hs hs.length ≤ c.ln.toNat * c.wd.toNat := by
  obtain ⟨out, h1, h2⟩ := (fitsF_iff fun i hi => by have := hok i hi; omega).1 h
  rw [← h2, ← covered (ss := out) (by rw [h2]; exact hok) h1 out.length (Nat.le_refl _)]
  exact grid_le _ _ _
/-! ### Fewer hulls have a packing too -/
def packP (c : Chamber_) (l : List (Hull_ × Spot_)) : Prop := (∀ p ∈ l, insB c p.1 p.2 = true) ∧ l.Pairwise fun p q => meetB q.1 q.2 p.1 p.2 = false
theorem packP_iff {c : Chamber_} {hs : List Hull_} {ss : List Spot_} (hl : ss.length = hs.length) : packB c hs ss = true ↔ packP c (hs.zip ss) := by
  have hz : (hs.zip ss).length = ss.length := by rw [List.length_zip]; omega
  have hg : ∀ i (hi : i < (hs.zip ss).length), (hs.zip ss)[i] = (hAt hs i, sAt ss i) := fun i hi => by
    rw [List.getElem_zip, hAt_eq (by omega), sAt_eq (by omega)]
  rw [packB_iff, packP, List.pairwise_iff_getElem]
  constructor
  · intro h
    refine ⟨fun p hp => ?_, fun i j hi hj hij => ?_⟩
    · obtain ⟨i, hi, rfl⟩ := List.getElem_of_mem hp
      rw [hg i hi]; exact (fitB_iff.1 (h i (by omega))).1
    · rw [hg i hi, hg j hj]; exact (fitB_iff.1 (h j (by omega))).2 i hij
  · rintro ⟨h1, h2⟩ i hi
    have hi' : i < (hs.zip ss).length := by omega
    refine fitB_iff.2 ⟨?_, fun k hk => ?_⟩
    · have := h1 _ (List.getElem_mem hi'); rwa [hg i hi'] at this
    · have hk' : k < (hs.zip ss).length := by omega
      have := h2 k i hk' hi' hk; rwa [hg i hi', hg k hk'] at this
theorem packP_sub {c : Chamber_} {l m : List (Hull_ × Spot_)} (hs : m.Sublist l) (h : packP c l) : packP c m := ⟨fun p hp => h.1 p (hs.subset hp), h.2.sublist hs⟩
theorem hAt_mem {hs : List Hull_} {i : Nat} (hi : i < hs.length) : hAt hs i ∈ hs := by rw [hAt_eq hi]; exact List.getElem_mem hi
theorem fitsF_sub {c : Chamber_} {hs gs : List Hull_} (hh : ∀ h ∈ hs, 1 ≤ h.ln ∧ 1 ≤ h.wd) (hsub : gs.Sublist hs) (h : fitsF c hs = true) : fitsF c gs = true := by
  obtain ⟨out, h1, h2⟩ := (fitsF_iff fun i hi => hh _ (hAt_mem hi)).1 h
  rw [packP_iff h2] at h1
  have e : (hs.zip out).map Prod.fst = hs := List.map_fst_zip (by omega : hs.length ≤ out.length)
  have hsub' := hsub
  rw [← e] at hsub'
  obtain ⟨m, hm, rfl⟩ := List.sublist_map_iff.1 hsub'
  refine (fitsF_iff fun i hi => hh _ (hsub.subset (hAt_mem hi))).2 ⟨m.map Prod.snd, ?_, by simp⟩
  rw [packP_iff (by simp)]
  have : (m.map Prod.fst).zip (m.map Prod.snd) = m := by rw [← List.unzip_fst, ← List.unzip_snd, List.zip_unzip]
  rw [this]
  exact packP_sub hm h1
theorem hullsF_sub {hs gs : List Hull_} (hsub : gs.Sublist hs) (h : hullsF hs = true) : hullsF gs = true := by
  obtain ⟨h1, h2, h3⟩ := hullsF_iff.1 h
  have hp : hs.Pairwise fun a b => a.id < b.id := by
    rw [List.pairwise_iff_getElem]
    intro i j hi hj hij
    obtain ⟨k, rfl⟩ : ∃ k, j = i + k + 1 := ⟨j - i - 1, by omega⟩
    clear hij
    induction k with
    | zero => exact h2 i hj
    | succ k ih => have h4 := ih (by omega); have h5 := h2 (i + k + 1) hj; exact Int.lt_trans h4 h5
  have hq := List.pairwise_iff_getElem.1 (hp.sublist hsub)
  refine hullsF_iff.2 ⟨fun j hj => ?_, fun j hj => hq j (j + 1) (Nat.lt_of_succ_lt hj) hj (Nat.lt_succ_self j), Nat.le_trans hsub.length_le h3⟩
  have := hsub.subset (List.getElem_mem hj)
  obtain ⟨i, hi, e⟩ := List.getElem_of_mem this
  rw [← e]; exact h1 i hi
end Go.Proofs.Ythmaiahllhgdpaa
