/-
  Chapter 11: a level put in order (slices.SortFunc, off the shelf).
-/
import Derived.Test.YtbhfcjgejnnpcaaMf
set_option linter.unusedVariables false
set_option linter.unusedSimpArgs false
namespace Go.Proofs.Ytbhfcjgejnnpcaa
open Go.RowKit Go.Proofs.YtbhfcjgejnnpcaaW.PrintWords Go.Proofs.Ytbhfcjgejnnpcaa.PManifest Go.Sort
instance : Inhabited S44 := ⟨z44⟩
theorem cells_len (t : S44) : (cellsT t).length = 5 := rfl
/-- A row of one's own, cell by cell. -/
theorem rw_open {W : World} {base g n c : Nat} {l : List S44} (h : Rw W base (.slice (some ⟨g, 0, none⟩) n c) l) : l.length = n ∧ base ≤ g ∧ c ≤ maxLen ∧ n ≤ c ∧ ∃ cur, W.heap[g]? = some (.cells cur 44 (0, 0)) ∧ cur.size = c * 5 ∧ ∀ j p, l[j]? = some p → ∀ i, i < 5 → cur[j * 5 + i]? = (cellsT p)[i]? := by
  obtain ⟨h1, cs, ho, hr⟩ := h
  rcases ho.2 with ⟨h2, _⟩ | ⟨g2, cap, cur, hv, hb, hh, hn, hm, hs, ht⟩
  · cases h2
  · injection hv with hg hn2 hc
    injection hg with hg
    injection hg with hg
    subst hg
    subst hc
    refine ⟨hn2.symm, hb, hm, by omega, cur, hh, hs, fun j p hj i hi => ?_⟩
    have hk := k44_openM (hr.2 j p hj)
    have hjl : j < l.length := (List.getElem?_eq_some_iff.1 hj).1
    have e1 : ((cs.drop (j * 5)).take 5)[i]? = (cellsT p)[i]? := congrArg (fun z => z[i]?) hk
    have ht2 : cur.toList.take (l.length * 5) = cs := ht
    rw [List.getElem?_take_of_lt hi, List.getElem?_drop, ← ht2, List.getElem?_take_of_lt (show j * 5 + i < l.length * 5 by omega)] at e1
    rw [← e1]
    simp
theorem rw_shut {W : World} {base g n c : Nat} {l : List S44} (hl : l.length = n) (hb : base ≤ g) (hm : c ≤ maxLen) (hn : n ≤ c) {cur : Array Value} (hh : W.heap[g]? = some (.cells cur 44 (0, 0))) (hs : cur.size = c * 5) (hc : ∀ j p, l[j]? = some p → ∀ i, i < 5 → cur[j * 5 + i]? = (cellsT p)[i]?) : Rw W base (.slice (some ⟨g, 0, none⟩) n c) l := by
  subst hl
  have hlen : (cur.toList.take (l.length * 5)).length = l.length * 5 := by rw [List.length_take]; simp [hs]; omega
  refine ⟨fun _ _ => trivial, cur.toList.take (l.length * 5), ⟨hlen, .inr ⟨g, c, cur, rfl, hb, hh, hn, hm, hs, rfl⟩⟩, hlen, fun j p hj => ?_⟩
  have hjl : j < l.length := (List.getElem?_eq_some_iff.1 hj).1
  have e : ((cur.toList.take (l.length * 5)).drop (j * 5)).take 5 = cellsT p := by
    apply List.ext_getElem?
    intro i
    by_cases hi : i < 5
    · rw [List.getElem?_take_of_lt hi, List.getElem?_drop, List.getElem?_take_of_lt (show j * 5 + i < l.length * 5 by omega)]
      have := hc j p hj i hi
      rw [← this]
      simp
    · rw [List.getElem?_eq_none (by rw [List.length_take]; omega), List.getElem?_eq_none (by rw [cells_len]; omega)]
  show k44.M W base _ p (((cur.toList.take (l.length * 5)).drop (j * 5)).take 5)
  rw [e]
  exact k44_mkM W base _ p
theorem flat_at (d : Array S44) (j i : Nat) (hj : j < d.size) (hi : i < 5) : (flatK cellsT 5 d)[j * 5 + i]? = (cellsT d[j]!)[i]? := by
  have hlt : j * 5 + i < d.size * 5 := by omega
  rw [show (flatK cellsT 5 d)[j * 5 + i]? = some ((flatK cellsT 5 d)[j * 5 + i]!) by rw [getElem!_pos (flatK cellsT 5 d) (j * 5 + i) (by simpa using hlt)]; simp [hlt], get_flatK cellsT 5 d _ hlt]
  rw [show (j * 5 + i) / 5 = j by omega, show (j * 5 + i) % 5 = i by omega]
  rw [getElem!_pos (cellsT d[j]!) i (by rw [cells_len]; exact hi)]
  simp [cells_len, hi]
theorem holds_of {W : World} {base g n c : Nat} {l : List S44} (h : Rw W base (.slice (some ⟨g, 0, none⟩) n c) l) : HoldsK cellsT 5 W g 0 l.toArray := by
  obtain ⟨hl, hb, hm, hn, cur, hh, hs, hc⟩ := rw_open h
  intro t ht
  have ht2 : t < l.length * 5 := by simpa using ht
  refine ⟨?_, by rw [Nat.zero_add]; exact blk_frozen hh t⟩
  rw [Nat.zero_add, blk_cell hh]
  have hj : t / 5 < l.length := by omega
  have h1 := hc (t / 5) (l[t / 5]'hj) (List.getElem?_eq_getElem hj) (t % 5) (by omega)
  have h2 := flat_at l.toArray (t / 5) (t % 5) (by simpa using hj) (by omega)
  have e : t / 5 * 5 + t % 5 = t := by omega
  rw [e] at h1 h2
  have e2 : l.toArray[t / 5]! = l[t / 5]'hj := by rw [getElem!_pos l.toArray (t / 5) (by simpa using hj)]; simp
  rw [e2] at h2
  rw [h1, ← h2, Array.getElem?_eq_getElem ht, getElem!_pos (flatK cellsT 5 l.toArray) t ht]
  rfl
theorem rw_sorted {W : World} {base g n c q : Nat} {l : List S44} {d : Array S44} {os : Array Obj} (h : Rw W base (.slice (some ⟨g, 0, none⟩) n c) l) (hd : d.size = l.length) : Rw (sortWorldK cellsT 5 W g 0 q d os) base (.slice (some ⟨g, 0, none⟩) n c) d.toList := by
  obtain ⟨hl, hb, hm, hn, cur, hh, hs, hc⟩ := rw_open h
  have hg : g < W.heap.size := (Array.getElem?_eq_some_iff.1 hh).1
  refine rw_shut (cur := putCells id 0 (flatK cellsT 5 d) cur) (by simp [hd, hl]) hb hm hn ?_ (by simp [putCells, hs]) fun j p hj i hi => ?_
  · show (Go.Sort.grow (putRow id (Sort.ahead W q) g 0 (flatK cellsT 5 d)) os).heap[g]? = _
    rw [heap_grow_old _ _ (by simpa [putRow, mapBlock, Sort.ahead] using hg)]
    simp only [putRow, mapBlock, Sort.ahead, Array.getElem?_modify, if_true, hh, Option.map_some, onCells]
  · have hjl : j < d.size := by simpa using (List.getElem?_eq_some_iff.1 hj).1
    have hp : d[j]! = p := by
      rw [getElem!_pos d j hjl]
      have := List.getElem?_eq_some_iff.1 hj
      simpa using this.2
    have hlt : j * 5 + i < cur.size := by omega
    have h2 := flat_at d j i hjl hi
    rw [hp] at h2
    have hf : j * 5 + i < (flatK cellsT 5 d).size := by simp; omega
    rw [← h2]
    simp only [putCells, Array.getElem?_mapIdx]
    rw [Array.getElem?_eq_getElem hlt]
    simp only [Option.map_some]
    rw [if_pos ⟨Nat.zero_le _, by rw [Nat.zero_add]; exact hf⟩, Nat.sub_zero, getElem!_pos (flatK cellsT 5 d) (j * 5 + i) hf, Array.getElem?_eq_getElem hf]
    rfl
end Go.Proofs.Ytbhfcjgejnnpcaa
