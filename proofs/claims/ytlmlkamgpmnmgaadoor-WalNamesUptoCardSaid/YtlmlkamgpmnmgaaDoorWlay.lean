/-
  The log's writer, walked: a new one, its size, a record laid.
-/
import Derived.Test.YtlmlkamgpmnmgaaDoorWlen
set_option linter.unusedVariables false
set_option linter.unusedSimpArgs false
namespace Go.Proofs.YtlmlkamgpmnmgaaDoor
open Go.RowKit Go.Proofs.YtlmlkamgpmnmgaaDoorW.PrintWords
/-- The writer at block g, behind so many bytes. -/
structure WW (w : World) (g size : Nat) : Prop where
  blk : w.heap[g]? = some (.cells #[.int .i64 (size : Int), .bool true] 36 (0, 0))
theorem WW.below {w w1 : World} {g size : Nat} (h : WW w g size) (hb : Below w.heap.size w w1) : WW w1 g size := ⟨by rw [hb.block g (blk_lt h.blk)]; exact h.blk⟩
set_option maxHeartbeats 400000 in
theorem wnew_bad (n : Int) (h : n < 0 ∨ 1048576 < n) (w : World) :
    Calls Tryd.prog 18 #[.int .i64 n] w fun e w' => e = .returned (.tuple #[.pointer none, .int .i64 1]) ∧ w = w' := by
  by_cases h1 : n < 0
  · go_enter Tryd.func18, Tryd.ntmps18
    go_wp2
    go_ret2
    exact ⟨rfl, rfl⟩
  · have h2 : 1048576 < n := by omega
    go_enter Tryd.func18, Tryd.ntmps18
    go_wp2
    go_ret2
    exact ⟨rfl, rfl⟩
set_option maxHeartbeats 400000 in
theorem wnew_ok (n : Nat) (h : n ≤ 1048576) (w : World) :
    Calls Tryd.prog 18 #[.int .i64 (n : Int)] w fun e w' => e = .returned (.tuple #[.pointer (some ⟨w.heap.size, 0, none⟩), .int .i64 0]) ∧ WW w' w.heap.size n ∧ Below w.heap.size w w' := by
  have h1 : ¬ (n : Int) < 0 := by omega
  have h2 : ¬ (1048576 : Int) < (n : Int) := by omega
  go_enter Tryd.func18, Tryd.ntmps18
  go_wp2
  go_ret2
  exact ⟨rfl, ⟨heap_alloc_new w _⟩, (Below.refl _ _).alloc (Nat.le_refl _) _⟩
set_option maxHeartbeats 400000 in
theorem wsize {w : World} {g size : Nat} (h : WW w g size) :
    Calls Tryd.prog 8 #[.pointer (some ⟨g, 0, none⟩)] w fun e w' => e = .returned (.int .i64 (size : Int)) ∧ w = w' := by
  obtain ⟨hb⟩ := h
  have k0 := (blk_cell hb 0).trans rfl
  go_enter Tryd.func8, Tryd.ntmps8
  go_wp2
  go_ret
  exact ⟨rfl, rfl⟩
set_option maxHeartbeats 400000 in
theorem wlay_long {w : World} {g size : Nat} (hW : WW w g size) (hsz : size ≤ 1048576) (s : ByteArray) (hs : s.size ≤ 140737488351232) (h : 262144 < s.size ∨ 1048576 < size + lenA size s.size) :
    Calls Tryd.prog 4 #[.pointer (some ⟨g, 0, none⟩), .string s] w fun e w' => e = .returned (.tuple #[.slice none 0 0, .int .i64 3]) ∧ w = w' := by
  obtain ⟨hb⟩ := hW
  have k0 := (blk_cell hb 0).trans rfl
  have k1 := (blk_cell hb 1).trans rfl
  by_cases h1 : 262144 < s.size
  · have hL := Lib.hid (length_bad (size : Int) (s.size : Int) (by unfold badLen; omega) w)
    clear h
    go_enter Tryd.func4, Tryd.ntmps4
    go_wp2_with (go_at_call 11; go_must (refine hL.out.mono ?_; rintro e w2 ⟨rfl, rfl⟩))
    go_ret2
    exact ⟨rfl, rfl⟩
  · have hL := Lib.hid (length_ok size s.size hsz (by omega) w)
    have hle := lenA_le size s.size
    have h2 : (1048576 : Int) < (size : Int) + ((lenA size s.size : Nat) : Int) := by omega
    clear h
    generalize lenA size s.size = T at *
    go_enter Tryd.func4, Tryd.ntmps4
    go_wp2_with (go_at_call 11; go_must (refine hL.out.mono ?_; rintro e w2 ⟨rfl, rfl⟩))
    go_ret2
    exact ⟨rfl, rfl⟩
end Go.Proofs.YtlmlkamgpmnmgaaDoor
