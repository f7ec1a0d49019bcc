/-
  A writer's laying, whatever the record: the program's and the reference's tell the same.
-/
import Derived.Test.YtlmlkamgpmnmgaaRefW
import Derived.Test.YtlmlkamgpmnmgaaWlayok
import Derived.Test.YtlmlkamgpmnmgaaZer
import Derived.Test.YtlmlkamgpmnmgaaLives
set_option linter.unusedVariables false
set_option linter.unusedSimpArgs false
namespace Go.Proofs.Ytlmlkamgpmnmgaa
open Go.RowKit Go.Proofs.YtlmlkamgpmnmgaaW.PrintWords
def fitsB (size : Nat) (s : ByteArray) : Prop := s.size ≤ 262144 ∧ size + lenA size s.size ≤ 1048576
instance (size : Nat) (s : ByteArray) : Decidable (fitsB size s) := by unfold fitsB; exact inferInstance
def layO (size : Nat) (s : ByteArray) : List UInt8 := if fitsB size s then layA size s.data.toList else []
def layE (size : Nat) (s : ByteArray) : Nat := if fitsB size s then 0 else 3
def layS (size : Nat) (s : ByteArray) : Nat := if fitsB size s then size + lenA size s.size else size
theorem layS_eq (size : Nat) (s : ByteArray) : layS size s = size + (layO size s).length := by
  unfold layS layO
  split
  · rw [layA_len, len_data]
  · rfl
theorem layS_le (size : Nat) (s : ByteArray) (h : size ≤ 1048576) : layS size s ≤ 1048576 := by
  unfold layS
  split
  · rename_i h1; exact h1.2
  · exact h
theorem wlay_any {w : World} {g size : Nat} (hW : WW w g size) (hsz : size ≤ 1048576) (s : ByteArray) (hs : s.size ≤ 140737488351232) :
    Calls Try.prog 12 #[.pointer (some ⟨g, 0, none⟩), .string s] w fun e w' => ∃ v, e = .returned (.tuple #[v, .int .i64 (layE size s : Int)]) ∧ Row w' w.heap.size v (layO size s) ∧ WW w' g (layS size s) ∧ Kept w w' (fun k => k = g) ∧ ∀ w0 : World, Below w0.heap.size w0 w → w0.heap.size ≤ g → Below w0.heap.size w0 w' := by
  unfold layE layO layS
  by_cases h : fitsB size s
  · rw [if_pos h, if_pos h, if_pos h]
    exact wlay_ok hW s h.1 h.2
  · rw [if_neg h, if_neg h, if_neg h]
    refine (wlay_long hW hsz s hs (by unfold fitsB at h; omega)).mono ?_
    rintro e w' ⟨rfl, rfl⟩
    exact ⟨_, rfl, Row.nil _ _, hW, Kept.refl _ _, fun _ h0 _ => h0⟩
theorem RW.below {w w1 : World} {g size : Nat} (h : RW w g size) (hb : Below w.heap.size w w1) : RW w1 g size := ⟨by rw [hb.block g (blk_lt h.blk)]; exact h.blk⟩
theorem rlay_any {w : World} {g size : Nat} (hW : RW w g size) (hsz : size ≤ 1048576) (s : ByteArray) (hs : s.size ≤ 140737488351232) :
    Calls Try.prog 13 #[.pointer (some ⟨g, 0, none⟩), .string s] w fun e w' => ∃ v, e = .returned (.tuple #[v, .int .i64 (layE size s : Int)]) ∧ Row w' w.heap.size v (layO size s) ∧ RW w' g (layS size s) ∧ Kept w w' (fun k => k = g) ∧ ∀ w0 : World, Below w0.heap.size w0 w → w0.heap.size ≤ g → Below w0.heap.size w0 w' := by
  unfold layE layO layS
  by_cases h : fitsB size s
  · rw [if_pos h, if_pos h, if_pos h]
    exact rlay_ok hW s h.1 h.2
  · rw [if_neg h, if_neg h, if_neg h]
    refine (rlay_long hW hsz s hs (by unfold fitsB at h; omega)).mono ?_
    rintro e w' ⟨rfl, hb⟩
    exact ⟨_, rfl, Row.nil _ _, hW.below hb, Kept.of_below hb _, fun _ h0 _ => h0.trans (hb.mono h0.size)⟩
/-- Both lengths are the same. -/
theorem length_same (a n : Int) : ∃ r e : Int, (∀ w : World, Calls Try.prog 8 #[.int .i64 a, .int .i64 n] w fun en w' => en = .returned (.tuple #[.int .i64 r, .int .i64 e]) ∧ w = w') ∧
    ∀ w : World, Calls Try.prog 9 #[.int .i64 a, .int .i64 n] w fun en w' => en = .returned (.tuple #[.int .i64 r, .int .i64 e]) ∧ Below w.heap.size w w' := by
  by_cases h : badLen a n
  · exact ⟨0, 1, fun w => length_bad a n h w, fun w => (reflength_bad a n h w).mono (by rintro e w' ⟨rfl, rfl⟩; exact ⟨rfl, Below.refl _ _⟩)⟩
  · unfold badLen at h
    obtain ⟨a, rfl⟩ := Int.eq_ofNat_of_zero_le (show 0 ≤ a by omega)
    obtain ⟨n, rfl⟩ := Int.eq_ofNat_of_zero_le (show 0 ≤ n by omega)
    exact ⟨_, 0, fun w => length_ok a n (by omega) (by omega) w, fun w => reflength_ok a n (by omega) (by omega) w⟩
end Go.Proofs.Ytlmlkamgpmnmgaa
