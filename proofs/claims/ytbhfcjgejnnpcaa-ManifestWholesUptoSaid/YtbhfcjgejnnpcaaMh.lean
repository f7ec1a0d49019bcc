/-
  Chapter 11: sorted, walked.
-/
import Derived.Test.YtbhfcjgejnnpcaaMg
set_option linter.unusedVariables false
set_option linter.unusedSimpArgs false
namespace Go.Proofs.Ytbhfcjgejnnpcaa
open Go.RowKit Go.Proofs.YtbhfcjgejnnpcaaW.PrintWords Go.Proofs.Ytbhfcjgejnnpcaa.PManifest Go.Sort
theorem lessB_iff (x y : ByteArray) : lessB x y = true ↔ x.toList < y.toList := by
  unfold lessB
  rw [Proofs.bytesLess_eq, decide_eq_true_eq]
/-- Which of two files of a level stands ahead of the other. -/
def LtT (n : Int) (x y : S44) : Prop := if n = 0 then x.f0 < y.f0 else x.f3.toList < y.f3.toList ∨ (x.f3.toList = y.f3.toList ∧ x.f0 < y.f0)
theorem cmpI_lt (x y : Int) : cmpI x y < 0 ↔ x < y := by
  unfold cmpI
  by_cases h : x < y
  · simp [h]
  · by_cases h2 : y < x <;> simp [h, h2]
theorem cmpS_cases (x y : ByteArray) : (cmpS x y < 0 ↔ x.toList < y.toList) ∧ (cmpS x y = 0 ↔ x.toList = y.toList) := by
  unfold cmpS
  by_cases h : lessB x y = true
  · have h1 := (lessB_iff x y).1 h
    rw [if_pos h]
    exact ⟨by simp [h1], by simp; intro e; rw [e] at h1; exact List.lt_irrefl _ h1⟩
  · have h1 : ¬ x.toList < y.toList := fun e => h ((lessB_iff x y).2 e)
    rw [if_neg h]
    by_cases h2 : lessB y x = true
    · have h3 := (lessB_iff y x).1 h2
      rw [if_pos h2]
      exact ⟨by simp [h1], by simp; intro e; rw [e] at h3; exact List.lt_irrefl _ h3⟩
    · have h3 : ¬ y.toList < x.toList := fun e => h2 ((lessB_iff y x).2 e)
      rw [if_neg h2]
      exact ⟨by simp [h1], by simp; exact List.le_antisymm (List.not_lt.1 h3) (List.not_lt.1 h1)⟩
theorem cmp_lt (n : Int) (x y : S44) : cmpT n x y < 0 ↔ LtT n x y := by
  unfold cmpT LtT
  by_cases h0 : n = 0
  · rw [if_pos h0, if_pos h0, cmpI_lt]
  · rw [if_neg h0, if_neg h0]
    obtain ⟨c1, c2⟩ := cmpS_cases x.f3 y.f3
    by_cases h : cmpS x.f3 y.f3 = 0
    · rw [if_pos h, cmpI_lt]
      have e := c2.1 h
      rw [e]
      simp [List.lt_irrefl]
    · rw [if_neg h, c1]
      constructor
      · exact Or.inl
      · rintro (h1 | h1)
        · exact h1
        · exact absurd (c2.2 h1.1) h
theorem ltOf_iff (n : Int) (x y : S44) : ltOf (cmpT n) x y = true ↔ LtT n x y := by
  unfold ltOf
  rw [decide_eq_true_eq, cmp_lt]
theorem ltT_irrefl (n : Int) (x : S44) : ¬ LtT n x x := by
  unfold LtT
  split
  · omega
  · rintro (h | h)
    · exact List.lt_irrefl _ h
    · omega
theorem ltT_trans (n : Int) {x y z : S44} (h1 : LtT n x y) (h2 : LtT n y z) : LtT n x z := by
  unfold LtT at *
  by_cases hn : n = 0
  · simp only [if_pos hn] at *
    omega
  · simp only [if_neg hn] at *
    rcases h1 with h1 | h1 <;> rcases h2 with h2 | h2
    · exact Or.inl (List.lt_trans h1 h2)
    · exact Or.inl (by rw [← h2.1]; exact h1)
    · exact Or.inl (by rw [h1.1]; exact h2)
    · exact Or.inr ⟨h1.1.trans h2.1, by omega⟩
theorem ltT_ntrans (n : Int) {x y z : S44} (h1 : ¬ LtT n x y) (h2 : ¬ LtT n y z) : ¬ LtT n x z := by
  unfold LtT at *
  by_cases hn : n = 0
  · simp only [if_pos hn] at *
    omega
  · simp only [if_neg hn] at *
    rw [not_or] at *
    have a1 := List.not_lt.1 h1.1
    have a2 := List.not_lt.1 h2.1
    have a3 := List.le_trans a2 a1
    refine ⟨List.not_lt.2 a3, fun h3 => ?_⟩
    have e1 : y.f3.toList = z.f3.toList := List.le_antisymm (by rw [← h3.1]; exact a1) a2
    have e2 : x.f3.toList = y.f3.toList := h3.1.trans e1.symm
    have b1 : ¬ x.f0 < y.f0 := fun h => h1.2 ⟨e2, h⟩
    have b2 : ¬ y.f0 < z.f0 := fun h => h2.2 ⟨e1, h⟩
    omega
theorem swoT (n : Int) : SWO (ltOf (cmpT n)) where
  irrefl x := Bool.eq_false_iff.2 fun h => ltT_irrefl n x ((ltOf_iff n x x).1 h)
  trans x y z h1 h2 := (ltOf_iff n x z).2 (ltT_trans n ((ltOf_iff n x y).1 h1) ((ltOf_iff n y z).1 h2))
  ntrans x y z h1 h2 := Bool.eq_false_iff.2 fun h => ltT_ntrans n (fun k => Bool.eq_false_iff.1 h1 ((ltOf_iff n x y).2 k)) (fun k => Bool.eq_false_iff.1 h2 ((ltOf_iff n y z).2 k)) ((ltOf_iff n x z).1 h)
/-- A level that stands in order. -/
def InOrd (n : Int) (l : List S44) : Prop := l.Pairwise fun a b => ¬ LtT n b a
theorem eg_sorted : ∀ args w, (callFunc 67 args).run Try.prog w = .ok (.enter 67 args) w := enters_of Try.func67 (by kernel_rfl) rfl
theorem ord_of {n : Int} {d : Array S44} (h : SortedIn (ltOf (cmpT n)) 0 d.size d) : InOrd n d.toList := by
  unfold InOrd
  rw [List.pairwise_iff_getElem]
  intro i j hi hj hij hlt
  have := h i j (Nat.zero_le _) hij (by simpa using hj)
  rw [getElem!_pos d i (by simpa using hi), getElem!_pos d j (by simpa using hj)] at this
  have h2 := (ltOf_iff n d.toList[j] d.toList[i]).2 hlt
  simp at h2
  rw [this] at h2
  cases h2
set_option maxHeartbeats 1000000 in
set_option maxRecDepth 100000 in
theorem sorted_any (n : Nat) (l : List S44) (hl : l.length < 1000000000) (v : Value) (base : Nat) (w : World) (hv : Rw w base v l) :
    Calls Try.prog 38 #[.int .i64 (n : Nat), v] w fun e w' => e = .returned (.tuple #[]) ∧ ∃ l', l'.Perm l ∧ InOrd n l' ∧ Rw w' base v l' ∧ w.grownBy w' v.ownBlock := by
  have hb := below_alloc (Below.refl w.heap.size w) (.cells #[.int .i64 (n : Int)] 3)
  have hv1 := hv.below hb
  have hlv : (w.alloc (.cells #[.int .i64 (n : Int)] 3)).cell? ⟨w.heap.size, 0, none⟩ = some (.int .i64 (n : Int)) := (blk_cell (heap_alloc_new w _) 0).trans rfl
  obtain ⟨cs, ho⟩ := hv.own
  rcases ho.2 with ⟨rfl, h0⟩ | ⟨g, cap, cur, rfl, hg, hh, _⟩
  · have hnil : l = [] := List.length_eq_zero_iff.1 h0
    subst hnil
    have hN := fun W => AnyF.slices_SortFunc_none { Try.sortSst with } none 0 (.func (.func 67) #[] #[.pointer (some ⟨w.heap.size, 0, none⟩)]) W
    change ∀ W, Calls Try.prog 66 _ _ _ at hN
    replace hN := Lib.hid hN
    replace hb := Lib.hid hb
    clear hv hv1
    go_enter Try.func38, Try.ntmps38
    go_wp2_with (first | (go_at_call 66; go_must (refine (hN.out _).mono ?_; rintro e w' ⟨rfl, rfl⟩)))
    go_end0
    exact ⟨rfl, [], List.Perm.refl _, List.Pairwise.nil, Rw.nil _ _, grown_of_below hb.out _⟩
  · have hgl : g < w.heap.size := (Array.getElem?_eq_some_iff.1 hh).1
    have hC : CmpLays Try.prog 67 #[.pointer (some ⟨w.heap.size, 0, none⟩)] cellsT 5 (cmpT n) g 0 l.toArray.size (w.alloc (.cells #[.int .i64 (n : Int)] 3)) := fun m os dk hdk x y => by
      refine closure_any n ⟨w.heap.size, 0, none⟩ x y _ ?_
      have h1 : (sortWorldK cellsT 5 (w.alloc (.cells #[.int .i64 (n : Int)] 3)) g 0 m dk os).cell? ⟨w.heap.size, 0, none⟩ = (putRowK cellsT 5 (Sort.ahead (w.alloc (.cells #[.int .i64 (n : Int)] 3)) m) g 0 dk).cell? ⟨w.heap.size, 0, none⟩ := cell?_grow _ _ _ (by simp [putRowK, putRow, mapBlock, Sort.ahead])
      rw [h1]
      exact (cell?_putRow_other id _ g 0 _ _ (Or.inl (by show w.heap.size ≠ g; omega))).trans hlv
    have hS := AnyQ.slices_SortFunc Try.sortSst 5 Try.isAgg44 Try.sizeOf44 cellsT (fun _ => rfl) (fun x u hu => by simp [cellsT] at hu; rcases hu with rfl | rfl | rfl | rfl | rfl <;> rfl) (cmpT n) (swoT n) 67 #[.pointer (some ⟨w.heap.size, 0, none⟩)] g 0 cap l.toArray _ eg_sorted hC (holds_of hv1) (by simp; omega) (by simp; omega)
    change Calls Try.prog 66 _ _ _ at hS
    rw [show l.toArray.size = l.length by simp] at hS
    replace hS := Lib.hid hS
    replace hv1 := Lib.hid hv1
    clear hv hb hC hlv ho hh
    go_enter Try.func38, Try.ntmps38
    go_wp2_with (first | (go_at_call 66; go_must (refine hS.out.mono ?_; rintro e w' ⟨rfl, d, m, os, hp, hs, rfl⟩; replace hp := Lib.hid hp; replace hs := Lib.hid hs)))
    go_end0
    have hds : d.size = l.length := by simpa using hp.out.1
    refine ⟨rfl, d.toList, ?_, ord_of (by rw [hds]; exact hs.out), rw_sorted hv1.out hds, ?_⟩
    · have h2 := hp.out.2.2
      rw [← hds, Array.extract_size] at h2
      rw [hds] at h2
      have e : l.toArray.extract 0 l.length = l.toArray := by simp
      rw [e] at h2
      simpa using h2
    · have hsz : w.heap.size ≤ (putRow id (Sort.ahead (w.alloc (.cells #[.int .i64 (n : Int)] 3)) m) g 0 (flatK cellsT 5 d)).heap.size := by simp [putRow, mapBlock, Sort.ahead]
      refine ⟨rfl, rfl, rfl, ?_, fun i hi hne => ?_⟩
      · simp [sortWorldK, Go.Sort.grow, putRowK, putRow, mapBlock, Sort.ahead]
        omega
      · show (Go.Sort.grow (putRow id (Sort.ahead (w.alloc (.cells #[.int .i64 (n : Int)] 3)) m) g 0 (flatK cellsT 5 d)) os).heap[i]? = _
        rw [heap_grow_old _ _ (by omega)]
        have hig : ¬ g = i := fun e => hne (by rw [e]; rfl)
        simp only [putRow, mapBlock, Sort.ahead, Array.getElem?_modify, if_neg hig]
        exact RowKit.Below.heap_alloc w _ i hi
end Go.Proofs.Ytbhfcjgejnnpcaa
