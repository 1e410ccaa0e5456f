/- Parsed waterways: plain; the program's and the reference's reading agree. -/
import Derived.Test.YtkdbkddlbahceaaDoorHq
import Derived.Test.YtkdbkddlbahceaaDoorHn
namespace Go.Proofs.YtkdbkddlbahceaaDoor
open Go.RowKit
set_option linter.unusedVariables false
set_option linter.unusedSimpArgs false
/-! ### Both sides' readings, plain -/
def stepI (w : Way_) (i : Nat) (line : ByteArray) : Option Way_ :=
  if i % 2 = 1 then (numsR (parts line 32) [1]).map fun l => ⟨w.rs, w.is ++ [l.getD 0 0]⟩
  else (numsR (parts line 32) [1, 3, 5]).map fun l => ⟨w.rs ++ [⟨l.getD 0 0, l.getD 1 0, l.getD 2 0⟩], w.is⟩
def runI (lines : List ByteArray) : Nat → Option Way_
  | 0 => some ⟨[], []⟩
  | i + 1 => (runI lines i).bind fun w => stepI w i (lines.getD i ⟨#[]⟩)
def keepW (s : ByteArray) (w : Way_) : Option Way_ := if wayF w = true ∧ textW w = s then some w else none
def parseI (s : ByteArray) : Option Way_ :=
  if (parts s 10).length ≤ 12 then (runI (parts s 10) ((parts s 10).length - 1)).bind (keepW s) else none
def readW (ws : List ByteArray) (i : Nat) : Int × Bool := readR (ws.getD i ⟨#[]⟩)
def stepS (w : Way_) (line : ByteArray) : Option Way_ :=
  if (parts line 32).length = 2 then (if (readW (parts line 32) 1).2 then some ⟨w.rs, w.is ++ [(readW (parts line 32) 1).1]⟩ else none)
  else if (parts line 32).length = 7 then
    (if (readW (parts line 32) 1).2 ∧ (readW (parts line 32) 3).2 ∧ (readW (parts line 32) 5).2 then some ⟨w.rs ++ [⟨(readW (parts line 32) 1).1, (readW (parts line 32) 3).1, (readW (parts line 32) 5).1⟩], w.is⟩ else none)
  else some w
def runS (lines : List ByteArray) : Nat → Option Way_
  | 0 => some ⟨[], []⟩
  | i + 1 => (runS lines i).bind fun w => stepS w (lines.getD i ⟨#[]⟩)
def parseS (s : ByteArray) : Option Way_ :=
  if s.size ≤ 400 then (runS (parts s 10) ((parts s 10).length - 1)).bind (keepW s) else none
theorem runI_none {lines : List ByteArray} {i : Nat} (h : runI lines i = none) : ∀ d, runI lines (i + d) = none
  | 0 => h
  | d + 1 => by rw [← Nat.add_assoc, runI, runI_none h d]; rfl
theorem runS_none {lines : List ByteArray} {i : Nat} (h : runS lines i = none) : ∀ d, runS lines (i + d) = none
  | 0 => h
  | d + 1 => by rw [← Nat.add_assoc, runS, runS_none h d]; rfl
theorem keepW_iff {s : ByteArray} {w x : Way_} : keepW s w = some x ↔ w = x ∧ wayF x = true ∧ textW x = s := by
  unfold keepW
  split
  · rename_i h
    constructor
    · intro e; injection e with e; subst e; exact ⟨rfl, h⟩
    · rintro ⟨rfl, _⟩; rfl
  · rename_i h
    constructor
    · intro e; cases e
    · rintro ⟨rfl, h2⟩; exact absurd h2 h
theorem parseI_sound {s : ByteArray} {x : Way_} (h : parseI s = some x) : wayF x = true ∧ textW x = s := by
  unfold parseI at h
  split at h
  · obtain ⟨w, _, hk⟩ := Option.bind_eq_some_iff.1 h
    obtain ⟨rfl, h2⟩ := keepW_iff.1 hk
    exact h2
  · cases h
theorem parseS_sound {s : ByteArray} {x : Way_} (h : parseS s = some x) : wayF x = true ∧ textW x = s := by
  unfold parseS at h
  split at h
  · obtain ⟨w, _, hk⟩ := Option.bind_eq_some_iff.1 h
    obtain ⟨rfl, h2⟩ := keepW_iff.1 hk
    exact h2
  · cases h
theorem parseI_step {s : ByteArray} {i : Nat} (hi : i < (parts s 10).length - 1) (h : runI (parts s 10) (i + 1) = none) : parseI s = none := by
  unfold parseI
  split
  · have := runI_none h ((parts s 10).length - 1 - (i + 1))
    rw [show i + 1 + ((parts s 10).length - 1 - (i + 1)) = (parts s 10).length - 1 by omega] at this
    rw [this]; rfl
  · rfl
theorem parseI_end {s : ByteArray} {w : Way_} (h12 : (parts s 10).length ≤ 12) (h : runI (parts s 10) ((parts s 10).length - 1) = some w) : parseI s = keepW s w := by
  rw [parseI, if_pos h12, h]; rfl
theorem parseS_step {s : ByteArray} {i : Nat} (hi : i < (parts s 10).length - 1) (h : runS (parts s 10) (i + 1) = none) : parseS s = none := by
  unfold parseS
  split
  · have := runS_none h ((parts s 10).length - 1 - (i + 1))
    rw [show i + 1 + ((parts s 10).length - 1 - (i + 1)) = (parts s 10).length - 1 by omega] at this
    rw [this]; rfl
  · rfl
theorem parseS_end {s : ByteArray} {w : Way_} (h12 : s.size ≤ 400) (h : runS (parts s 10) ((parts s 10).length - 1) = some w) : parseS s = keepW s w := by
  rw [parseS, if_pos h12, h]; rfl
theorem keepW_no1 {s : ByteArray} {w : Way_} (h : wayF w = false) : keepW s w = none := if_neg fun k => by rw [h] at k; cases k.1
theorem keepW_no2 {s : ByteArray} {w : Way_} (h : ¬ textW w = s) : keepW s w = none := if_neg fun k => h k.2
theorem keepW_yes {s : ByteArray} {w : Way_} (h : wayF w = true) (h2 : textW w = s) : keepW s w = some w := if_pos ⟨h, h2⟩
theorem splitL_le (b : UInt8) : ∀ (l : List UInt8), ∀ x ∈ splitL b l, x.length ≤ l.length
  | [], x, h => by simp [splitL] at h; subst h; exact Nat.le_refl _
  | c :: l, x, h => by
    have ih := splitL_le b l
    unfold splitL at h
    split at h
    · rcases List.mem_cons.1 h with rfl | h
      · simp
      · have := ih x h; simp; omega
    · cases hs : splitL b l with
      | nil => exact absurd hs (splitL_ne b l)
      | cons y t =>
        rw [hs] at h ih
        rcases List.mem_cons.1 h with rfl | h
        · have := ih y (by simp); simp; omega
        · have := ih x (List.mem_cons_of_mem _ h); simp; omega
theorem parts_sz (s : ByteArray) (b : UInt8) : ∀ x ∈ parts s b, x.size ≤ s.size := fun x hx => by
  obtain ⟨l, hl, rfl⟩ := List.mem_map.1 hx
  have := splitL_le b _ l hl
  rw [Array.length_toList] at this
  show (baL l).data.size ≤ s.data.size
  simpa [baL] using this
theorem strs_getD {l : List ByteArray} {i : Nat} (h : i < l.length) : (strs l)[i]? = some [Value.string (l.getD i ⟨#[]⟩)] := by simp [strs, h]
theorem getD_sz {l : List ByteArray} {n : Nat} (h : ∀ x ∈ l, x.size ≤ n) (i : Nat) : (l.getD i ⟨#[]⟩).size ≤ n := by
  by_cases hi : i < l.length
  · have := h l[i] (List.getElem_mem hi); simpa [hi] using this
  · have e : l.getD i ⟨#[]⟩ = ⟨#[]⟩ := by simp [hi]
    rw [e]
    exact Nat.zero_le _
/-! ### The text's lines and words -/
theorem no_dig {b : UInt8} (h : b.toNat < 45) (n : Int) : b ∉ (numS n).data.toList := num_no (by unfold isD; omega) (by rintro rfl; simp at h)
def lineR (r : Reach_) : List UInt8 := [114, 101, 97, 99, 104] ++ 32 :: ((numS r.ln).data.toList ++ 32 :: ([107, 109] ++ 32 :: ((numS r.dp).data.toList ++ 32 :: ([99, 109] ++ 32 :: ((numS r.sp).data.toList ++ 32 :: [107, 109, 47, 104])))))
def lineK (k : Int) : List UInt8 := [108, 111, 99, 107] ++ 32 :: (numS k).data.toList
theorem reachT_data (r : Reach_) : (reachT r).data.toList = lineR r ++ [10] := by
  simp [reachT, bR, bK, bC, bH, lineR]
theorem lockT_data (k : Int) : (lockT k).data.toList = lineK k ++ [10] := by
  simp [lockT, bL, bN, lineK]
theorem words_R (r : Reach_) : parts (baL (lineR r)) 32 = [baL [114, 101, 97, 99, 104], numS r.ln, baL [107, 109], numS r.dp, baL [99, 109], numS r.sp, baL [107, 109, 47, 104]] := by
  have h1 := no_dig (b := 32) (by decide)
  unfold parts
  rw [data_baL, lineR, splitL_cons (by decide), splitL_cons (h1 _), splitL_cons (by decide), splitL_cons (h1 _), splitL_cons (by decide), splitL_cons (h1 _), splitL_none (by decide)]
  simp only [List.map_cons, List.map_nil, baL_data]
theorem words_K (k : Int) : parts (baL (lineK k)) 32 = [baL [108, 111, 99, 107], numS k] := by
  have h1 := no_dig (b := 32) (by decide)
  unfold parts
  rw [data_baL, lineK, splitL_cons (by decide), splitL_none (h1 _)]
  simp only [List.map_cons, List.map_nil, baL_data]
theorem line_R10 (r : Reach_) : (10 : UInt8) ∉ lineR r := by
  have h1 := no_dig (b := 10) (by decide)
  unfold lineR
  simp only [List.mem_append, List.mem_cons, List.not_mem_nil, h1]
  decide
theorem line_K10 (k : Int) : (10 : UInt8) ∉ lineK k := by
  have h1 := no_dig (b := 10) (by decide)
  unfold lineK
  simp only [List.mem_append, List.mem_cons, List.not_mem_nil, h1]
  decide
/-- The lines of the first i reaches and of the locks between them. -/
def linesTo (x : Way_) : Nat → List (List UInt8)
  | 0 => []
  | i + 1 => (if i = 0 then linesTo x i else linesTo x i ++ [lineK (x.is.getD (i - 1) 0)]) ++ [lineR (x.rs.getD i ⟨0, 0, 0⟩)]
theorem linesL_app (b : UInt8) (l m : List (List UInt8)) : linesL b (l ++ m) = linesL b l ++ linesL b m := by simp [linesL]
theorem linesL_one (b : UInt8) (l : List UInt8) : linesL b [l] = l ++ [b] := by simp [linesL]
theorem textTo_data (x : Way_) : ∀ i, (textTo x i).data.toList = linesL 10 (linesTo x i)
  | 0 => rfl
  | i + 1 => by
    have ih := textTo_data x i
    rw [textTo, linesTo, linesL_app, linesL_one, ByteArray.data_append, Array.toList_append, reachT_data]
    congr 1
    split
    · exact ih
    · rw [linesL_app, linesL_one, ByteArray.data_append, Array.toList_append, lockT_data, ih]
theorem linesTo_no (x : Way_) : ∀ i, ∀ l ∈ linesTo x i, (10 : UInt8) ∉ l
  | 0, l, h => by cases h
  | i + 1, l, h => by
    rw [linesTo, List.mem_append, List.mem_singleton] at h
    rcases h with h | rfl
    · split at h
      · exact linesTo_no x i l h
      · rw [List.mem_append, List.mem_singleton] at h
        rcases h with h | rfl
        · exact linesTo_no x i l h
        · exact line_K10 _
    · exact line_R10 _
theorem linesTo_len (x : Way_) : ∀ i, (linesTo x i).length = 2 * i - 1
  | 0 => rfl
  | i + 1 => by
    have ih := linesTo_len x i
    rw [linesTo, List.length_append]
    split
    · rename_i h; subst h; rfl
    · rw [List.length_append, ih]
      simp only [List.length_cons, List.length_nil]
      omega
theorem linesTo_mono (x : Way_) (i j : Nat) (l : List UInt8) (h : (linesTo x i)[j]? = some l) : ∀ d, (linesTo x (i + d))[j]? = some l
  | 0 => h
  | d + 1 => by
    have ih := linesTo_mono x i j l h d
    have hj := (List.getElem?_eq_some_iff.1 ih).1
    rw [← Nat.add_assoc, linesTo]
    split
    · rw [List.getElem?_append_left hj]; exact ih
    · rw [List.append_assoc, List.getElem?_append_left hj]; exact ih
theorem linesTo_R (x : Way_) {i n : Nat} (h : i < n) : (linesTo x n)[2 * i]? = some (lineR (x.rs.getD i ⟨0, 0, 0⟩)) := by
  have hl := linesTo_len x i
  have e : (linesTo x (i + 1))[2 * i]? = some (lineR (x.rs.getD i ⟨0, 0, 0⟩)) := by
    rw [linesTo]
    split
    · rename_i h0; subst h0; rfl
    · rw [List.getElem?_append_right (by rw [List.length_append]; simp; omega), List.length_append, hl]
      rw [show 2 * i - (2 * i - 1 + [lineK (x.is.getD (i - 1) 0)].length) = 0 by simp; omega]; rfl
  have := linesTo_mono x (i + 1) _ _ e (n - (i + 1))
  rwa [show i + 1 + (n - (i + 1)) = n by omega] at this
theorem linesTo_K (x : Way_) {i n : Nat} (h : i + 1 < n) : (linesTo x n)[2 * i + 1]? = some (lineK (x.is.getD i 0)) := by
  have hl := linesTo_len x (i + 1)
  have e : (linesTo x (i + 2))[2 * i + 1]? = some (lineK (x.is.getD i 0)) := by
    rw [linesTo, if_neg (by omega), List.append_assoc, List.getElem?_append_right (by omega), hl, show 2 * i + 1 - (2 * (i + 1) - 1) = 0 by omega]
    rfl
  have := linesTo_mono x (i + 2) _ _ e (n - (i + 2))
  rwa [show i + 2 + (n - (i + 2)) = n by omega] at this
theorem text_parts (x : Way_) : parts (textW x) 10 = (linesTo x x.rs.length).map baL ++ [baL []] := by
  unfold parts textW
  rw [textTo_data, split_lines (linesTo_no x _), List.map_append]
  rfl
theorem text_len {x : Way_} (hw : wayF x = true) : (parts (textW x) 10).length = 2 * x.rs.length := by
  have := (wayF_iff.1 hw).1
  rw [text_parts, List.length_append, List.length_map, linesTo_len]
  simp only [List.length_cons, List.length_nil]
  omega
theorem text_at {x : Way_} {j : Nat} {l : List UInt8} (h : (linesTo x x.rs.length)[j]? = some l) : (parts (textW x) 10).getD j ⟨#[]⟩ = baL l := by
  have hj := (List.getElem?_eq_some_iff.1 h).1
  rw [text_parts, List.getD_eq_getElem?_getD, List.getElem?_append_left (by rw [List.length_map]; exact hj), List.getElem?_map, h]
  rfl
theorem read_num {n : Int} (h : -1000 ≤ n ∧ n ≤ 1000) : readR (numS n) = (n, true) := readR_yes ⟨by omega, by omega, rfl⟩
theorem numA_num {ws : List ByteArray} {i n : Int} (h : ws[i.toNat]? = some (numS n)) (hn : -1000 ≤ n ∧ n ≤ 1000) : numA ws i = some n := by
  unfold numA
  rw [h]
  simp only [read_num hn, if_true]
theorem reach_b {r : Reach_} (h : reachF r = true) : (-1000 ≤ r.ln ∧ r.ln ≤ 1000) ∧ (-1000 ≤ r.dp ∧ r.dp ≤ 1000) ∧ (-1000 ≤ r.sp ∧ r.sp ≤ 1000) := by
  have := reachF_iff.1 h
  omega
theorem nums_R {r : Reach_} (h : reachF r = true) : numsR (parts (baL (lineR r)) 32) [1, 3, 5] = some [r.ln, r.dp, r.sp] := by
  obtain ⟨h1, h2, h3⟩ := reach_b h
  rw [words_R]
  have a1 := numA_num (ws := [baL [114, 101, 97, 99, 104], numS r.ln, baL [107, 109], numS r.dp, baL [99, 109], numS r.sp, baL [107, 109, 47, 104]]) (i := 1) rfl h1
  have a2 := numA_num (ws := [baL [114, 101, 97, 99, 104], numS r.ln, baL [107, 109], numS r.dp, baL [99, 109], numS r.sp, baL [107, 109, 47, 104]]) (i := 3) rfl h2
  have a3 := numA_num (ws := [baL [114, 101, 97, 99, 104], numS r.ln, baL [107, 109], numS r.dp, baL [99, 109], numS r.sp, baL [107, 109, 47, 104]]) (i := 5) rfl h3
  simp only [numsR, List.length_cons, List.length_nil, Nat.zero_add, Nat.reduceAdd, numsTo, List.getElem?_cons_zero, List.getElem?_cons_succ, a1, a2, a3, Option.map_some, List.nil_append, List.cons_append]
theorem nums_K {k : Int} (h : -1000 ≤ k ∧ k ≤ 1000) : numsR (parts (baL (lineK k)) 32) [1] = some [k] := by
  rw [words_K]
  have a1 := numA_num (ws := [baL [108, 111, 99, 107], numS k]) (i := 1) rfl h
  simp only [numsR, List.length_cons, List.length_nil, Nat.zero_add, numsTo, List.getElem?_cons_zero, a1, Option.map_some, List.nil_append]
theorem take_snoc {α : Type} {l : List α} {i : Nat} (d : α) (h : i < l.length) : l.take i ++ [l.getD i d] = l.take (i + 1) := by
  rw [List.take_succ_eq_append_getElem h]; simp [h]
/-- What stands behind i lines. -/
def upTo (x : Way_) (i : Nat) : Way_ := ⟨x.rs.take ((i + 1) / 2), x.is.take (i / 2)⟩
theorem run_text {x : Way_} (hw : wayF x = true) (i : Nat) (hi : i ≤ 2 * x.rs.length - 1) : runI (parts (textW x) 10) i = some (upTo x i) ∧ runS (parts (textW x) 10) i = some (upTo x i) := by
  have hli := (wayF_iff.1 hw).2.1
  induction i with
  | zero => exact ⟨rfl, rfl⟩
  | succ i ih =>
    obtain ⟨ih1, ih2⟩ := ih (by omega)
    rw [runI, runS, ih1, ih2]
    simp only [Option.bind_some]
    rcases Nat.mod_two_eq_zero_or_one i with hm | hm
    · obtain ⟨k, rfl⟩ : ∃ k, i = 2 * k := ⟨i / 2, by omega⟩
      have hk : k < x.rs.length := by omega
      have hb := (way_b hw).1 k hk
      rw [text_at (linesTo_R x hk)]
      have e : upTo x (2 * k + 1) = ⟨(upTo x (2 * k)).rs ++ [x.rs.getD k ⟨0, 0, 0⟩], (upTo x (2 * k)).is⟩ := by
        unfold upTo
        rw [show (2 * k + 1 + 1) / 2 = k + 1 by omega, show (2 * k + 1) / 2 = k by omega, show 2 * k / 2 = k by omega, take_snoc _ hk]
      generalize x.rs.getD k ⟨0, 0, 0⟩ = r at *
      obtain ⟨h1, h2, h3⟩ := reach_b hb
      constructor
      · rw [stepI, if_neg (by omega), nums_R hb, e]; rfl
      · rw [stepS, words_R, e]
        simp only [List.length_cons, List.length_nil, Nat.zero_add, Nat.reduceAdd, Nat.reduceEqDiff, if_false, reduceIte, readW, List.getD_cons_succ, List.getD_cons_zero, read_num h1, read_num h2, read_num h3, and_self, if_true]
    · obtain ⟨k, rfl⟩ : ∃ k, i = 2 * k + 1 := ⟨i / 2, by omega⟩
      have hk : k < x.is.length := by omega
      have hb := (way_b hw).2 k hk
      rw [text_at (linesTo_K x (by omega))]
      have e : upTo x (2 * k + 1 + 1) = ⟨(upTo x (2 * k + 1)).rs, (upTo x (2 * k + 1)).is ++ [x.is.getD k 0]⟩ := by
        unfold upTo
        rw [show (2 * k + 1 + 1 + 1) / 2 = k + 1 by omega, show (2 * k + 1 + 1) / 2 = k + 1 by omega, show (2 * k + 1) / 2 = k by omega, take_snoc _ hk]
      generalize x.is.getD k 0 = y at *
      constructor
      · rw [stepI, if_pos (by omega), nums_K hb, e]; rfl
      · rw [stepS, words_K, e]
        simp only [List.length_cons, List.length_nil, Nat.zero_add, Nat.reduceAdd, Nat.reduceEqDiff, if_false, reduceIte, readW, List.getD_cons_succ, List.getD_cons_zero, read_num hb, if_true]
theorem upTo_all {x : Way_} (hw : wayF x = true) : upTo x (2 * x.rs.length - 1) = x := by
  obtain ⟨h1, h2, _⟩ := wayF_iff.1 hw
  unfold upTo
  rw [List.take_of_length_le (by omega), List.take_of_length_le (by omega)]
theorem parse_text {x : Way_} (hw : wayF x = true) : parseI (textW x) = some x ∧ parseS (textW x) = some x := by
  have hl := text_len hw
  have h6 := (wayF_iff.1 hw).1
  obtain ⟨h1, h2⟩ := run_text hw (2 * x.rs.length - 1) (Nat.le_refl _)
  have hsz := textW_sz hw
  constructor
  · rw [parseI, if_pos (by omega), hl, h1, upTo_all hw]
    exact keepW_iff.2 ⟨rfl, hw, rfl⟩
  · rw [parseS, if_pos (by omega), hl, h2, upTo_all hw]
    exact keepW_iff.2 ⟨rfl, hw, rfl⟩
theorem parse_eq (s : ByteArray) : parseS s = parseI s := by
  cases h : parseI s with
  | some x =>
    obtain ⟨h1, rfl⟩ := parseI_sound h
    exact (parse_text h1).2
  | none =>
    cases h2 : parseS s with
    | none => rfl
    | some x =>
      obtain ⟨h3, rfl⟩ := parseS_sound h2
      rw [(parse_text h3).1] at h
      cases h
/-- What is answered: the waterway in rows of its own, or none. -/
def wsP : Option Way_ → List AW
  | some x => [.agg [.sl 65 (.own 0) (reachs x.rs), .sl 3 (.own 1) (its x.is)], .c (.p (.bool true))]
  | none => [.agg [.nl, .nl], .c (.p (.bool false))]
def kP : Option Way_ → Nat
  | some _ => 2
  | none => 0
theorem one_wsP (o : Option Way_) : one (wsP o) = .tup (wsP o) := by cases o <;> rfl
end Go.Proofs.YtkdbkddlbahceaaDoor
