/- Parsed vessels: plain; the program's and the reference's reading agree. -/
import Derived.Test.YtdlebdgdcpemmaaGreatDoorHo
import Derived.Test.YtdlebdgdcpemmaaGreatDoorGb
namespace Go.Proofs.YtdlebdgdcpemmaaGreatDoor
open Go.RowKit
set_option linter.unusedVariables false
set_option linter.unusedSimpArgs false
def posX (s : ByteArray) : Int := Lib.index s.data.toList [120]
def cutA (s : ByteArray) : ByteArray := if posX s < 0 then s else s.extract 0 (posX s).toNat
def cutB (s : ByteArray) : ByteArray := if posX s < 0 then ⟨#[]⟩ else s.extract ((posX s).toNat + 1) s.size
theorem idx_app {b : UInt8} {x : List UInt8} (h : b ∉ x) (y : List UInt8) : Lib.index (x ++ b :: y) [b] = x.length := by
  induction x with
  | nil => rw [List.nil_append, idx_cons, if_pos rfl]; rfl
  | cons c x ih =>
    simp only [List.mem_cons, not_or] at h
    rw [List.cons_append, idx_cons, if_neg fun e => h.1 e.symm, ih h.2, if_neg (by omega)]
    simp
theorem cut_at {x : List UInt8} (h : (120 : UInt8) ∉ x) (y : List UInt8) : cutA (baL (x ++ 120 :: y)) = baL x ∧ cutB (baL (x ++ 120 :: y)) = baL y := by
  have hp : posX (baL (x ++ 120 :: y)) = x.length := by unfold posX; rw [data_baL, idx_app h]
  have hs : (baL (x ++ 120 :: y)).size = x.length + 1 + y.length := by
    show (baL (x ++ 120 :: y)).data.size = _
    rw [← Array.length_toList, data_baL]; simp; omega
  constructor
  · rw [cutA, if_neg (by omega), hp]
    apply baL_inj
    rw [extract_list, data_baL, data_baL, show ((x.length : Int)).toNat = x.length by omega]
    simp
  · rw [cutB, if_neg (by omega), hp, hs]
    apply baL_inj
    rw [extract_list, data_baL, data_baL, show ((x.length : Int)).toNat = x.length by omega, List.take_of_length_le (by simp; omega)]
    simp [List.drop_append]
def idxL : List ByteArray → ByteArray → Int
  | [], _ => -1
  | x :: l, s => if x = s then 0 else if idxL l s = -1 then -1 else idxL l s + 1
theorem idxL_no : ∀ {l : List ByteArray} {s : ByteArray}, (∀ j : Nat, l[j]? ≠ some s) → idxL l s = -1
  | [], _, _ => rfl
  | x :: l, s, h => by
    have h0 : ¬ x = s := fun e => h 0 (by rw [e]; rfl)
    have := idxL_no (l := l) (s := s) fun j hj => h (j + 1) (by simpa using hj)
    rw [idxL, if_neg h0, if_pos this]
theorem idxL_at : ∀ {l : List ByteArray} {s : ByteArray} {i : Nat}, l[i]? = some s → (∀ j : Nat, j < i → l[j]? ≠ some s) → idxL l s = i
  | x :: l, s, 0, h, _ => by
    simp at h
    rw [idxL, if_pos h]; rfl
  | x :: l, s, i + 1, h, hn => by
    have h0 : ¬ x = s := fun e => hn 0 (by omega) (by rw [e]; rfl)
    have := idxL_at (l := l) (s := s) (i := i) (by simpa using h) fun j hj e => hn (j + 1) (by omega) (by simpa using e)
    rw [idxL, if_neg h0, this, if_neg (by omega)]
    rfl
def idxS (l : List ByteArray) (s : ByteArray) : Int := idxL (l.drop 1) s + 1
def mkV (ws : List ByteArray) (a b c d k : Int) : Vessel_ := ⟨a, ws.getD 1 ⟨#[]⟩, b, c, d, k⟩
def keepV (s : ByteArray) (v : Vessel_) : Option Vessel_ := if vesF v = true ∧ textV v = s then some v else none
def wordsI (ws : List ByteArray) : List ByteArray := [ws.getD 0 ⟨#[]⟩, cutA (ws.getD 3 ⟨#[]⟩), cutB (ws.getD 3 ⟨#[]⟩), ws.getD 5 ⟨#[]⟩]
def parseVI (s : ByteArray) : Option Vessel_ :=
  if (parts s 32).length = 6 then (numsR (wordsI (parts s 32)) [0, 1, 2, 3]).bind fun l => keepV s (mkV (parts s 32) (l.getD 0 0) (l.getD 1 0) (l.getD 2 0) (l.getD 3 0) (idxL kindL ((parts s 32).getD 2 ⟨#[]⟩))) else none
def sideW (ws : List ByteArray) : List ByteArray := parts (ws.getD 3 ⟨#[]⟩) 120
def allR (ws : List ByteArray) : Bool := (readR (ws.getD 0 ⟨#[]⟩)).2 && (readR ((sideW ws).getD 0 ⟨#[]⟩)).2 && (readR ((sideW ws).getD 1 ⟨#[]⟩)).2 && (readR (ws.getD 5 ⟨#[]⟩)).2
def vesS (ws : List ByteArray) : Vessel_ := mkV ws (readR (ws.getD 0 ⟨#[]⟩)).1 (readR ((sideW ws).getD 0 ⟨#[]⟩)).1 (readR ((sideW ws).getD 1 ⟨#[]⟩)).1 (readR (ws.getD 5 ⟨#[]⟩)).1 (idxS kindL (ws.getD 2 ⟨#[]⟩))
def parseVS (s : ByteArray) : Option Vessel_ :=
  if s.size ≤ 60 ∧ (parts s 32).length = 6 ∧ (sideW (parts s 32)).length = 2 ∧ allR (parts s 32) = true then keepV s (vesS (parts s 32)) else none
theorem keepV_iff {s : ByteArray} {w x : Vessel_} : keepV s w = some x ↔ w = x ∧ vesF x = true ∧ textV x = s := by
  unfold keepV
  split
  · rename_i h
    constructor
    · intro e; injection e with e; subst e; exact ⟨rfl, h⟩
    · rintro ⟨rfl, _⟩; rfl
  · rename_i h
    constructor
    · intro e; cases e
    · rintro ⟨rfl, h2⟩; exact absurd h2 h
theorem keepV_no1 {s : ByteArray} {w : Vessel_} (h : vesF w = false) : keepV s w = none := if_neg fun k => by rw [h] at k; cases k.1
theorem keepV_no2 {s : ByteArray} {w : Vessel_} (h : ¬ textV w = s) : keepV s w = none := if_neg fun k => h k.2
theorem keepV_yes {s : ByteArray} {w : Vessel_} (h : vesF w = true) (h2 : textV w = s) : keepV s w = some w := if_pos ⟨h, h2⟩
theorem parseVI_sound {s : ByteArray} {x : Vessel_} (h : parseVI s = some x) : vesF x = true ∧ textV x = s := by
  unfold parseVI at h
  split at h
  · obtain ⟨w, _, hk⟩ := Option.bind_eq_some_iff.1 h
    obtain ⟨rfl, h2⟩ := keepV_iff.1 hk
    exact h2
  · cases h
theorem parseVS_sound {s : ByteArray} {x : Vessel_} (h : parseVS s = some x) : vesF x = true ∧ textV x = s := by
  unfold parseVS at h
  split at h
  · obtain ⟨rfl, h2⟩ := keepV_iff.1 h
    exact h2
  · cases h
theorem lett_no {l : List UInt8} {b : UInt8} (h : l.all lett = true) (hb : lett b = false) : b ∉ l := fun hm => by
  have := List.all_eq_true.1 h b hm
  rw [hb] at this; cases this
theorem wordK_lett {x : Vessel_} (h : 1 ≤ x.kd ∧ x.kd ≤ 4) : (wordK x).data.toList.all lett = true := by
  have e : ∀ i : Fin 5, ((kindL[i.1]?).getD ⟨#[]⟩).data.toList.all lett = true := by decide
  exact e ⟨x.kd.toNat, by omega⟩
theorem wordK_idx {x : Vessel_} (h : 1 ≤ x.kd ∧ x.kd ≤ 4) : idxL kindL (wordK x) = x.kd ∧ idxS kindL (wordK x) = x.kd := by
  have e : ∀ i : Fin 4, idxL kindL ((kindL[i.1 + 1]?).getD ⟨#[]⟩) = ((i.1 + 1 : Nat) : Int) ∧ idxS kindL ((kindL[i.1 + 1]?).getD ⟨#[]⟩) = ((i.1 + 1 : Nat) : Int) := by decide
  have := e ⟨x.kd.toNat - 1, by omega⟩
  dsimp only at this
  rw [show x.kd.toNat - 1 + 1 = x.kd.toNat by omega] at this
  rw [show wordK x = (kindL[x.kd.toNat]?).getD ⟨#[]⟩ from rfl]
  omega
def sideT (x : Vessel_) : List UInt8 := (numS x.ln).data.toList ++ 120 :: (numS x.wd).data.toList
theorem text_words {x : Vessel_} (h : vesF x = true) : parts (textV x) 32 = [numS x.id, x.nm, wordK x, baL (sideT x), baL [100, 114, 97, 117, 103, 104, 116], numS x.dr] := by
  obtain ⟨b1, b2, b3, b4, b5, b6⟩ := vesF_bd h
  have hn : x.nm.data.toList.all lett = true := by
    simp only [vesF, wordF, Bool.and_eq_true] at h
    have := h.1.1.1.1.2.1
    rwa [ByteArray.toList_eq] at this
  have h32 := no_dig (b := 32) (by decide)
  have e : (textV x).data.toList = (numS x.id).data.toList ++ 32 :: (x.nm.data.toList ++ 32 :: ((wordK x).data.toList ++ 32 :: (sideT x ++ 32 :: ([100, 114, 97, 117, 103, 104, 116] ++ 32 :: (numS x.dr).data.toList)))) := by
    simp [textV, sideT]
  have hs : (32 : UInt8) ∉ sideT x := by
    unfold sideT
    simp only [List.mem_append, List.mem_cons, h32]
    decide
  unfold parts
  rw [e, splitL_cons (h32 _), splitL_cons (lett_no hn (by decide)), splitL_cons (lett_no (wordK_lett b6) (by decide)), splitL_cons hs, splitL_cons (by decide), splitL_none (h32 _)]
  simp only [List.map_cons, List.map_nil, baL_data]
theorem side_words (x : Vessel_) : parts (baL (sideT x)) 120 = [numS x.ln, numS x.wd] := by
  have h := fun n => num_no (n := n) (b := 120) (by unfold isD; decide) (by decide)
  unfold parts sideT
  rw [data_baL, splitL_cons (h _), splitL_none (h _)]
  simp only [List.map_cons, List.map_nil, baL_data]
theorem side_cut (x : Vessel_) : cutA (baL (sideT x)) = numS x.ln ∧ cutB (baL (sideT x)) = numS x.wd := by
  have h := cut_at (x := (numS x.ln).data.toList) (num_no (by unfold isD; decide) (by decide)) (numS x.wd).data.toList
  rw [baL_data, baL_data] at h
  exact h
theorem textV_sz {x : Vessel_} (h : vesF x = true) : (textV x).size ≤ 60 := by
  obtain ⟨b1, b2, b3, b4, b5, b6⟩ := vesF_bd h
  have n1 := num_sz (n := x.id) (by omega)
  have n2 := num_sz (n := x.ln) (by omega)
  have n3 := num_sz (n := x.wd) (by omega)
  have n4 := num_sz (n := x.dr) (by omega)
  have n5 := (wordK_at b6).2
  have c1 : (⟨#[32]⟩ : ByteArray).size = 1 := rfl
  have c2 : (⟨#[120]⟩ : ByteArray).size = 1 := rfl
  have c3 : (⟨#[32, 100, 114, 97, 117, 103, 104, 116, 32]⟩ : ByteArray).size = 9 := rfl
  unfold textV
  simp only [ByteArray.size_append, c1, c2, c3]
  omega
theorem mkV_text {x : Vessel_} (h : vesF x = true) : mkV (parts (textV x) 32) x.id x.ln x.wd x.dr x.kd = x := by
  rw [text_words h]
  rfl
theorem word2 {x : Vessel_} (h : vesF x = true) : (parts (textV x) 32).getD 2 ⟨#[]⟩ = wordK x := by rw [text_words h]; rfl
theorem parseV_text {x : Vessel_} (h : vesF x = true) : parseVI (textV x) = some x ∧ parseVS (textV x) = some x := by
  obtain ⟨b1, b2, b3, b4, b5, b6⟩ := vesF_bd h
  have hw := text_words h
  have hm := mkV_text h
  have hl : (parts (textV x) 32).length = 6 := by rw [hw]; rfl
  obtain ⟨k1, k2⟩ := side_cut x
  have hk : keepV (textV x) x = some x := keepV_yes h rfl
  obtain ⟨i1, i2⟩ := wordK_idx b6
  have w2 := word2 h
  constructor
  · have hn : numsR (wordsI (parts (textV x) 32)) [0, 1, 2, 3] = some [x.id, x.ln, x.wd, x.dr] := by
      rw [hw]
      simp only [wordsI, List.getD_cons_succ, List.getD_cons_zero, k1, k2]
      have a0 := numA_num (ws := [numS x.id, numS x.ln, numS x.wd, numS x.dr]) (i := 0) rfl (by omega : -1000 ≤ x.id ∧ x.id ≤ 1000)
      have a1 := numA_num (ws := [numS x.id, numS x.ln, numS x.wd, numS x.dr]) (i := 1) rfl (by omega : -1000 ≤ x.ln ∧ x.ln ≤ 1000)
      have a2 := numA_num (ws := [numS x.id, numS x.ln, numS x.wd, numS x.dr]) (i := 2) rfl (by omega : -1000 ≤ x.wd ∧ x.wd ≤ 1000)
      have a3 := numA_num (ws := [numS x.id, numS x.ln, numS x.wd, numS x.dr]) (i := 3) rfl (by omega : -1000 ≤ x.dr ∧ x.dr ≤ 1000)
      simp only [numsR, List.length_cons, List.length_nil, Nat.zero_add, Nat.reduceAdd, numsTo, List.getElem?_cons_zero, List.getElem?_cons_succ, a0, a1, a2, a3, Option.map_some, List.nil_append, List.cons_append]
    rw [parseVI, if_pos hl, hn]
    simp only [Option.bind_some, List.getD_cons_succ, List.getD_cons_zero, w2, i1, hm, hk]
  · have hs : sideW (parts (textV x) 32) = [numS x.ln, numS x.wd] := by
      rw [sideW, hw]
      exact side_words x
    have r0 := read_num (by omega : -1000 ≤ x.id ∧ x.id ≤ 1000)
    have r1 := read_num (by omega : -1000 ≤ x.ln ∧ x.ln ≤ 1000)
    have r2 := read_num (by omega : -1000 ≤ x.wd ∧ x.wd ≤ 1000)
    have r3 := read_num (by omega : -1000 ≤ x.dr ∧ x.dr ≤ 1000)
    have ha : allR (parts (textV x) 32) = true := by
      rw [allR, hs, hw]
      simp only [List.getD_cons_succ, List.getD_cons_zero, r0, r1, r2, r3, Bool.and_self]
    have hv : vesS (parts (textV x) 32) = x := by
      rw [vesS, hs, w2, i2]
      have e0 : (parts (textV x) 32).getD 0 ⟨#[]⟩ = numS x.id := by rw [hw]; rfl
      have e5 : (parts (textV x) 32).getD 5 ⟨#[]⟩ = numS x.dr := by rw [hw]; rfl
      rw [e0, e5]
      simp only [List.getD_cons_succ, List.getD_cons_zero, r0, r1, r2, r3]
      exact hm
    rw [parseVS, if_pos ⟨textV_sz h, hl, by rw [hs]; rfl, ha⟩, hv, hk]
theorem parseV_eq (s : ByteArray) : parseVS s = parseVI s := by
  cases h : parseVI s with
  | some x =>
    obtain ⟨h1, rfl⟩ := parseVI_sound h
    exact (parseV_text h1).2
  | none =>
    cases h2 : parseVS s with
    | none => rfl
    | some x =>
      obtain ⟨h3, rfl⟩ := parseVS_sound h2
      rw [(parseV_text h3).1] at h
      cases h
end Go.Proofs.YtdlebdgdcpemmaaGreatDoor
