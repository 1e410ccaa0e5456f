/- slices.Insert of one vessel into an own row: an own row. -/
import Derived.Test.YtdhplkdohhiooaaVi2
namespace Go.Proofs.Ytdhplkdohhiooaa
open Go.Lib Go.RowKit Go.Shelf
set_option linter.unusedVariables false
set_option linter.unusedSimpArgs false
theorem insert_own (w : World) (base b n c i vb vc : Nat) (cur vcur : Array Value) (tV : TypeId) (hb : w.heap[b]? = some (.cells cur 31 (0, 0))) (hbase : base ≤ b) (hn : n ≤ c) (hcm : c ≤ maxLen) (hcs : cur.size = c * 6)
    (hv : w.heap[vb]? = some (.cells vcur tV (0, 0))) (hvs : 6 ≤ vcur.size) (hvb : vb ≠ b) (h1c : ∀ v ∈ cur.toList.take (n * 6), v.oneCell' = true) (h1v : ∀ v ∈ vcur.toList.take 6, v.oneCell' = true) (hi : i ≤ n) (hbig : n + 1 ≤ 1000000) (hbw : base ≤ w.heap.size) :
    Calls Try.prog 15 #[.slice (some ⟨b, 0, none⟩) n c, .int .i64 i, .slice (some ⟨vb, 0, none⟩) 1 vc] w fun e w' => ∃ v' g', e = .returned v' ∧
      w'.ownsRow base 31 6 v' (n + 1) ((cur.toList.take (n * 6)).take (i * 6) ++ vcur.toList.take 6 ++ (cur.toList.take (n * 6)).drop (i * 6)) ∧ w.grownBy w' (some b) ∧ v'.ownBlock = some g' ∧ (g' = b ∨ w.heap.size ≤ g') := by
  have hbl : b < w.heap.size := (Array.getElem?_eq_some_iff.1 hb).1
  have hvl : vb < w.heap.size := (Array.getElem?_eq_some_iff.1 hv).1
  have hcb : ∀ j, w.cell? ⟨b, j, none⟩ = cur[j]? := fun j => by simp [World.cell?, hb]
  have hcv : ∀ j, w.cell? ⟨vb, j, none⟩ = vcur[j]? := fun j => by simp [World.cell?, hv]
  have hfb : ∀ j, w.frozen? ⟨b, j, none⟩ = false := fun j => by simp [World.frozen?, hb]
  have hfv : ∀ j, w.frozen? ⟨vb, j, none⟩ = false := fun j => by simp [World.frozen?, hv]
  have hcl : (cur.toList.take (n * 6)).length = n * 6 := by rw [List.length_take, Array.length_toList, hcs]; omega
  have hvl6 : (vcur.toList.take 6).length = 6 := by rw [List.length_take, Array.length_toList]; omega
  have hcx : ∀ j v, (cur.toList.take (n * 6))[j]? = some v → w.cell? ⟨b, j, none⟩ = some v := fun j v h => by
    rw [hcb]
    rw [List.getElem?_take] at h
    split at h
    · simpa using h
    · cases h
  have hvx : ∀ j v, (vcur.toList.take 6)[j]? = some v → w.cell? ⟨vb, 0 + j, none⟩ = some v := fun j v h => by
    rw [Nat.zero_add, hcv]
    rw [List.getElem?_take] at h
    split at h
    · simpa using h
    · cases h
  obtain ⟨i0, z0, hi0, hz0, hzs, hsz0, hby, hce⟩ := rowB_spec (P := Try.prog) (e := 31) (by kernel_rfl)
  have h6 : i0.size = 6 := by rw [← hce]; kernel_rfl
  rcases Nat.lt_or_ge i n with hlt | hge
  · by_cases hroom : n + 1 ≤ c
    · have hsh := insert_shift w b n c i vb 0 vc (cur.toList.take (n * 6)) (vcur.toList.take 6) hlt hroom (by unfold maxLen at hcm; omega) hvb hcl hvl6 hcx
        (fun j hj => by rw [hcb, Array.getElem?_eq_getElem (by omega)]; rfl) hfb hvx h1c h1v tV 31 vcur.size cur.size (by simp [World.shape?, hv]) (by simp [World.shape?, hb]) (by omega) (hfv 0) (hfv _)
      refine hsh.mono ?_
      rintro e w' ⟨rfl, rfl⟩
      have hdl : ((cur.toList.take (n * 6)).drop (i * 6)).length = (n - i) * 6 := by rw [List.length_drop, hcl]; omega
      obtain ⟨c1, k1, k2⟩ := block_setCells b 31 (0, 0) ((cur.toList.take (n * 6)).drop (i * 6)) ((i + 1) * 6) w.drew cur hb (by omega)
      have k1s : c1.size = c * 6 := by
        have := congrArg List.length k2
        simp only [Array.length_toList, List.length_append, List.length_take, List.length_drop, hcs] at this
        omega
      obtain ⟨c2, k3, k4⟩ := block_setCells b 31 (0, 0) (vcur.toList.take 6) (i * 6) _ c1 k1 (by omega)
      have k3s : c2.size = c * 6 := by
        have := congrArg List.length k4
        simp only [Array.length_toList, List.length_append, List.length_take, List.length_drop, k1s] at this
        omega
      refine ⟨_, b, rfl, ⟨?_, .inr ⟨b, c, c2, rfl, hbase, k3, hroom, hcm, k3s, ?_⟩⟩, ?_, rfl, .inl rfl⟩
      · simp only [List.length_append, List.length_take, List.length_drop, Array.length_toList, hcs]; omega
      · have e1 : c1.toList.take (i * 6) = (cur.toList.take (n * 6)).take (i * 6) := by
          rw [k2, List.append_assoc, List.take_append_of_le_length (by rw [List.length_take, Array.length_toList]; omega), List.take_take, List.take_take]
          congr 1
          omega
        have e2 : c1.toList.drop (i * 6 + 6) = (cur.toList.take (n * 6)).drop (i * 6) ++ cur.toList.drop ((i + 1) * 6 + ((cur.toList.take (n * 6)).drop (i * 6)).length) := by
          rw [k2, List.append_assoc]
          exact List.drop_left' (by rw [List.length_take, Array.length_toList]; omega)
        rw [k4, hvl6, e1, e2, ← List.append_assoc]
        refine List.take_left' ?_
        rw [List.length_append, List.length_append, hdl, hvl6, List.length_take, hcl]
        omega
      · obtain ⟨o1, o2, o3⟩ := frame_setCells b (vcur.toList.take 6) (i * 6) (w.drew.setCells b ((i + 1) * 6) ((cur.toList.take (n * 6)).drop (i * 6)))
        obtain ⟨p1, p2, p3⟩ := frame_setCells b ((cur.toList.take (n * 6)).drop (i * 6)) ((i + 1) * 6) w.drew
        refine ⟨o1.trans p1, o2.trans p2, o3.trans p3, ?_, fun k hk hne => ?_⟩
        · rw [heap_size_setCells, heap_size_setCells]; exact Nat.le_refl _
        · have hkb : k ≠ b := fun e => hne (by rw [e])
          rw [block_other_setCells b hkb, block_other_setCells b hkb]; rfl
    · have hg := insert_grow w b n c i vb 0 vc (cur.toList.take (n * 6)) (vcur.toList.take 6) hlt hn (by omega) (by omega) hcl hvl6 hcx hvx h1c h1v
      refine hg.mono ?_
      rintro e w' ⟨G, ROW, rfl, hG1, hG2, hR1, hR2, rfl⟩
      have hdl : ((cur.toList.take (n * 6)).drop (i * 6)).length = (n - i) * 6 := by rw [List.length_drop, hcl]; omega
      have hnew : (w.alloc (.cells ROW 31)).drew.heap[w.heap.size]? = some (.cells ROW 31 (0, 0)) := by
        show (w.heap.push _)[w.heap.size]? = _
        simp
      obtain ⟨c1, k1, k2⟩ := block_setCells w.heap.size 31 (0, 0) (vcur.toList.take 6) (i * 6) _ ROW hnew (by rw [hvl6, hR1]; omega)
      have k1s : c1.size = G * 6 := by
        have := congrArg List.length k2
        simp only [Array.length_toList, List.length_append, List.length_take, List.length_drop, hR1] at this
        omega
      obtain ⟨c2, k3, k4⟩ := block_setCells w.heap.size 31 (0, 0) ((cur.toList.take (n * 6)).drop (i * 6)) ((i + 1) * 6) ((((w.alloc (.cells ROW 31)).drew.setCells w.heap.size (i * 6) (vcur.toList.take 6)).drew)) c1 k1 (by omega)
      have k3s : c2.size = G * 6 := by
        have := congrArg List.length k4
        simp only [Array.length_toList, List.length_append, List.length_take, List.length_drop, hcs] at this
        omega
      refine ⟨_, w.heap.size, rfl, ⟨?_, .inr ⟨w.heap.size, G, c2, rfl, hbw, k3, hG1, hG2, k3s, ?_⟩⟩, ?_, rfl, .inr (Nat.le_refl _)⟩
      · simp only [List.length_append, List.length_take, List.length_drop, Array.length_toList, hcs]; omega
      · have e1 : c1.toList.take ((i + 1) * 6) = (cur.toList.take (n * 6)).take (i * 6) ++ vcur.toList.take 6 := by
          rw [k2, hR2]
          refine List.take_left' ?_
          rw [List.length_append, List.length_take, hcl, hvl6]
          omega
        rw [k4, e1]
        refine List.take_left' ?_
        rw [List.length_append, List.length_append, hdl, hvl6, List.length_take, hcl]
        omega
      · obtain ⟨o1, o2, o3⟩ := frame_setCells w.heap.size ((cur.toList.take (n * 6)).drop (i * 6)) ((i + 1) * 6) (((w.alloc (.cells ROW 31)).drew.setCells w.heap.size (i * 6) (vcur.toList.take 6)).drew)
        obtain ⟨p1, p2, p3⟩ := frame_setCells w.heap.size (vcur.toList.take 6) (i * 6) (w.alloc (.cells ROW 31)).drew
        refine ⟨o1.trans p1, o2.trans p2, o3.trans p3, ?_, fun k hk hne => ?_⟩
        · rw [heap_size_setCells]
          show w.heap.size ≤ ((w.alloc (.cells ROW 31)).drew.setCells w.heap.size (i * 6) (vcur.toList.take 6)).heap.size
          rw [heap_size_setCells]
          show w.heap.size ≤ (w.heap.push _).size
          simp
        · have hkb : k ≠ w.heap.size := by omega
          rw [block_other_setCells _ hkb]
          show ((w.alloc (.cells ROW 31)).drew.setCells w.heap.size (i * 6) (vcur.toList.take 6)).heap[k]? = _
          rw [block_other_setCells _ hkb]
          show (w.heap.push _)[k]? = _
          rw [Array.getElem?_push, if_neg hkb]
  · obtain rfl : i = n := by omega
    have ho : w.ownsRow base 31 i0.size (.slice (some ⟨b, 0, none⟩) i c) i (cur.toList.take (i * 6)) := by
      rw [h6]
      exact ⟨hcl, .inr ⟨b, c, cur, rfl, hbase, hb, hn, hcm, hcs, rfl⟩⟩
    have hfit := Nat.mul_le_mul (show i + 1 ≤ 134217728 by omega) hby
    obtain ⟨v', w', g', hrun, how, hgr, hv', hgg⟩ := run_append_own' (P := Try.prog) 27 27 31 i0 z0 (by kernel_rfl) hi0 hz0 hzs hsz0 _ i b _ ho rfl ⟨vb, 0, none⟩ 1 vc (vcur.toList.take 6) (by rw [hvl6, h6]) (fun j u hj => by rw [Addr.add_lit]; exact hvx j u hj) h1v (by unfold maxLen; omega) (by omega) hbw
    refine (insert_end w b i c vb 0 vc (by omega) hrun).mono ?_
    rintro e w'' ⟨rfl, rfl⟩
    rw [h6] at how
    refine ⟨v', g', rfl, ?_, hgr, hv', hgg⟩
    have ea : (cur.toList.take (i * 6)).take (i * 6) = cur.toList.take (i * 6) := List.take_of_length_le (by omega)
    have eb : (cur.toList.take (i * 6)).drop (i * 6) = [] := List.drop_of_length_le (by omega)
    rw [ea, eb, List.append_nil]
    exact how
end Go.Proofs.Ytdhplkdohhiooaa
