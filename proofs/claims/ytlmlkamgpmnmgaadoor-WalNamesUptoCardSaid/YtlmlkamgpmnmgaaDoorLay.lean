/-
  How a record is laid behind a log, as plain functions of lists: its fragments, how long they are.
-/
import Derived.Test.YtlmlkamgpmnmgaaDoorFrag
set_option linter.unusedVariables false
set_option linter.unusedSimpArgs false
namespace Go.Proofs.YtlmlkamgpmnmgaaDoor
def room (a : Nat) : Nat := 1024 - a % 1024 - 7
def lenF : Nat → Nat → Nat → Nat
  | 0, _, _ => 0
  | k + 1, a, n => if n ≤ room a then 7 + n else 7 + room a + lenF k (a + 7 + room a) (n - room a)
def layF : Nat → Bool → Nat → List UInt8 → List UInt8
  | 0, _, _, _ => []
  | k + 1, first, a, l => if l.length ≤ room a then frag (if first then 1 else 4) l else frag (if first then 2 else 3) (l.take (room a)) ++ layF k false (a + 7 + room a) (l.drop (room a))
def Fits : Nat → Nat → Nat → Prop
  | 0, _, _ => False
  | k + 1, a, n => n ≤ room a ∨ Fits k (a + 7 + room a) (n - room a)
def lenA (a n : Nat) : Nat := gapN a + lenF (n + 2) (a + gapN a) n
def layA (a : Nat) (l : List UInt8) : List UInt8 := List.replicate (gapN a) 0 ++ layF (l.length + 2) true (a + gapN a) l

theorem room_next (a : Nat) (h : a % 1024 ≤ 1017) : (a + 7 + room a) % 1024 = 0 := by unfold room; omega
theorem room_zero (a : Nat) (h : a % 1024 = 0) : room a = 1017 := by unfold room; omega
theorem room_le (a : Nat) : room a ≤ 1017 := by unfold room; omega
theorem gap_next (a : Nat) : (a + gapN a) % 1024 ≤ 1017 := by unfold gapN; split <;> omega
theorem gapN_le (a : Nat) : gapN a ≤ 6 := by unfold gapN; split <;> omega
theorem gapN_zero (a : Nat) (h : a % 1024 ≤ 1017) : gapN a = 0 := by unfold gapN; split <;> omega
theorem fits_aligned : ∀ (n k a : Nat), a % 1024 = 0 → n < k → Fits k a n := by
  intro n
  induction n using Nat.strongRecOn with
  | _ n ih =>
    intro k a ha hk
    obtain ⟨k, rfl⟩ : ∃ m, k = m + 1 := ⟨k - 1, by omega⟩
    have hr := room_zero a ha
    by_cases h : n ≤ room a
    · exact .inl h
    · refine .inr (ih (n - room a) (by omega) k _ (room_next a (by omega)) (by omega))
theorem fits_start (a n : Nat) (h : a % 1024 ≤ 1017) : Fits (n + 2) a n := by
  by_cases h1 : n ≤ room a
  · exact .inl h1
  · exact .inr (fits_aligned _ _ _ (room_next a h) (by omega))
theorem layF_len : ∀ (k : Nat) (first : Bool) (a : Nat) (l : List UInt8), (layF k first a l).length = lenF k a l.length
  | 0, _, _, _ => rfl
  | k + 1, first, a, l => by
    unfold layF lenF
    by_cases h : l.length ≤ room a
    · rw [if_pos h, if_pos h, frag_len]
    · rw [if_neg h, if_neg h, List.length_append, frag_len, layF_len k, List.length_take, List.length_drop]
      have : min (room a) l.length = room a := by omega
      rw [this]
theorem layA_len (a : Nat) (l : List UInt8) : (layA a l).length = lenA a l.length := by simp [layA, lenA, layF_len]
/-- What is still to come behind some bytes. -/
def tail (q : Nat) (first : Bool) (a : Nat) (l : List UInt8) : List UInt8 := List.replicate (gapN a) 0 ++ layF q first (a + gapN a) l
theorem tail_len (q : Nat) (first : Bool) (a : Nat) (l : List UInt8) : (tail q first a l).length = gapN a + lenF q (a + gapN a) l.length := by simp [tail, layF_len]
theorem gap_yes (a : Nat) (h : 1024 - a % 1024 < 7) : gapN a = 1024 - a % 1024 := by unfold gapN; rw [if_pos h]
theorem gap_no (a : Nat) (h : ¬ 1024 - a % 1024 < 7) : gapN a = 0 := by unfold gapN; rw [if_neg h]
theorem gap_gap (a : Nat) : gapN (a + gapN a) = 0 := gapN_zero _ (gap_next a)
theorem tail_gap (q : Nat) (first : Bool) (a : Nat) (l : List UInt8) (h : 1024 - a % 1024 < 7) : tail q first a l = List.replicate (1024 - a % 1024) 0 ++ tail q first (a + (1024 - a % 1024)) l := by
  have h1 := gap_yes a h
  have h2 := gap_gap a
  rw [h1] at h2
  unfold tail
  rw [h1, h2]
  rfl
theorem tail_last (q : Nat) (first : Bool) (a : Nat) (l : List UInt8) (h : ¬ 1024 - a % 1024 < 7) (hl : l.length ≤ room a) : tail (q + 1) first a l = frag (if first then 1 else 4) l := by
  unfold tail
  rw [gap_no a h]
  unfold layF
  rw [Nat.add_zero, if_pos hl]
  rfl
theorem tail_more (q : Nat) (first : Bool) (a : Nat) (l : List UInt8) (h : ¬ 1024 - a % 1024 < 7) (hl : ¬ l.length ≤ room a) :
    tail (q + 1) first a l = frag (if first then 2 else 3) (l.take (room a)) ++ tail q false (a + 7 + room a) (l.drop (room a)) := by
  have h3 : gapN (a + 7 + room a) = 0 := gapN_zero _ (by rw [room_next a (by omega)]; omega)
  unfold tail
  rw [gap_no a h, h3]
  conv => lhs; unfold layF
  rw [Nat.add_zero, if_neg hl]
  rfl
theorem lenF_aligned : ∀ (k a n : Nat), a % 1024 = 0 → lenF k a n ≤ 8 * n + 14 := by
  intro k
  induction k with
  | zero => intro a n _; simp [lenF]
  | succ k ih =>
    intro a n ha
    have hr := room_zero a ha
    unfold lenF
    by_cases h : n ≤ room a
    · rw [if_pos h]; omega
    · rw [if_neg h]
      have := ih (a + 7 + room a) (n - room a) (room_next a (by omega))
      omega
theorem lenF_le (k a n : Nat) (h2 : a % 1024 ≤ 1017) : lenF k a n ≤ 8 * n + 1100 := by
  cases k with
  | zero => simp [lenF]
  | succ k =>
    unfold lenF
    by_cases h : n ≤ room a
    · rw [if_pos h]; omega
    · rw [if_neg h]
      have hr := room_le a
      have := lenF_aligned k (a + 7 + room a) (n - room a) (room_next a h2)
      omega
theorem lenA_le (a n : Nat) : lenA a n ≤ 8 * n + 1106 := by
  have h := lenF_le (n + 2) (a + gapN a) n (gap_next a)
  have := gapN_le a
  unfold lenA
  omega
theorem lenF_pos (k a n : Nat) (hk : 0 < k) : 7 ≤ lenF k a n := by
  obtain ⟨k, rfl⟩ : ∃ m, k = m + 1 := ⟨k - 1, by omega⟩
  unfold lenF
  split <;> omega
end Go.Proofs.YtlmlkamgpmnmgaaDoor
