/-
  The reference's writer, walked: its length of a record, a new one, a record laid.
-/
import Derived.Test.YtlmlkamgpmnmgaaRefLay
import Derived.Test.YtlmlkamgpmnmgaaWlen
set_option linter.unusedVariables false
set_option linter.unusedSimpArgs false
namespace Go.Proofs.Ytlmlkamgpmnmgaa
open Go.RowKit Go.Proofs.YtlmlkamgpmnmgaaW.PrintWords
set_option maxHeartbeats 400000 in
theorem reflength_bad (a n : Int) (h : badLen a n) (w : World) :
    Calls Try.prog 9 #[.int .i64 a, .int .i64 n] w fun e w' => e = .returned (.tuple #[.int .i64 0, .int .i64 1]) ∧ w = w' := by
  unfold badLen at h
  by_cases h1 : a < 0
  · go_enter Try.func9, Try.ntmps9
    go_wp2
    go_ret2
    exact ⟨rfl, rfl⟩
  · by_cases h2 : 1048576 < a
    · go_enter Try.func9, Try.ntmps9
      go_wp2
      go_ret2
      exact ⟨rfl, rfl⟩
    · by_cases h3 : n < 0
      · go_enter Try.func9, Try.ntmps9
        go_wp2
        go_ret2
        exact ⟨rfl, rfl⟩
      · have h4 : 262144 < n := by omega
        go_enter Try.func9, Try.ntmps9
        go_wp2
        go_ret2
        exact ⟨rfl, rfl⟩
set_option maxHeartbeats 400000 in
theorem reflength_ok (a n : Nat) (ha : a ≤ 1048576) (hn : n ≤ 262144) (w : World) :
    Calls Try.prog 9 #[.int .i64 (a : Int), .int .i64 (n : Int)] w fun e w' => e = .returned (.tuple #[.int .i64 ((lenA a n : Nat) : Int), .int .i64 0]) ∧ Below w.heap.size w w' := by
  have h0 : ¬ (a : Int) < 0 := by omega
  have h1 : ¬ (1048576 : Int) < (a : Int) := by omega
  have h2 : ¬ (n : Int) < 0 := by omega
  have h3 : ¬ (262144 : Int) < (n : Int) := by omega
  have hmk := make_bytes n n (Nat.le_refl _) (by omega)
  have hrow := Lib.hid (row_made w w.heap.size n n (Nat.le_refl _) (by omega) (Nat.le_refl _))
  have hcv := conv_row hrow.out
  have hsz : Hid ((⟨(List.replicate n (0 : UInt8)).toArray⟩ : ByteArray).size = n) := by
    show _ = _
    rw [size_mk, List.length_replicate]
  have hL := Lib.hid (reflay_any a ⟨(List.replicate n (0 : UInt8)).toArray⟩ ha (by rw [hsz.out]; exact hn) (w.alloc (.cells (madeCells #[.int .u8 0] n) 5)))
  have hb1 : Hid (Below w.heap.size w (w.alloc (.cells (madeCells #[.int .u8 0] n) 5))) := (Below.refl _ _).alloc (Nat.le_refl _) _
  have hle := lenA_le a n
  have hlen := Lib.hid (show (layA a (List.replicate n (0 : UInt8))).length = lenA a n by rw [layA_len, List.length_replicate])
  go_enter Try.func9, Try.ntmps9
  go_wp2_with (go_at_call 21; go_must (refine hL.out.mono ?_; rintro e w2 ⟨v, rfl, ho, hb⟩; obtain ⟨A1, c1, rfl, _, _⟩ := ho.rd))
  go_ret2
  exact ⟨ret_int2 (by rw [← hlen.out]) rfl, hb1.out.trans (hb.mono hb1.out.size)⟩
/-- The reference's writer at block g. -/
structure RW (w : World) (g size : Nat) : Prop where
  blk : w.heap[g]? = some (.cells #[.int .i64 (size : Int)] 39 (0, 0))
set_option maxHeartbeats 400000 in
theorem rnew_bad (n : Int) (h : n < 0 ∨ 1048576 < n) (w : World) :
    Calls Try.prog 11 #[.int .i64 n] w fun e w' => e = .returned (.tuple #[.pointer none, .int .i64 1]) ∧ w = w' := by
  by_cases h1 : n < 0
  · go_enter Try.func11, Try.ntmps11
    go_wp2
    go_ret2
    exact ⟨rfl, rfl⟩
  · have h2 : 1048576 < n := by omega
    go_enter Try.func11, Try.ntmps11
    go_wp2
    go_ret2
    exact ⟨rfl, rfl⟩
set_option maxHeartbeats 400000 in
theorem rnew_ok (n : Nat) (h : n ≤ 1048576) (w : World) :
    Calls Try.prog 11 #[.int .i64 (n : Int)] w fun e w' => e = .returned (.tuple #[.pointer (some ⟨w.heap.size, 0, none⟩), .int .i64 0]) ∧ RW w' w.heap.size n ∧ Below w.heap.size w w' := by
  have h1 : ¬ (n : Int) < 0 := by omega
  have h2 : ¬ (1048576 : Int) < (n : Int) := by omega
  go_enter Try.func11, Try.ntmps11
  go_wp2
  go_ret2
  exact ⟨rfl, ⟨heap_alloc_new w _⟩, (Below.refl _ _).alloc (Nat.le_refl _) _⟩
set_option maxHeartbeats 400000 in
theorem rlay_long {w : World} {g size : Nat} (hW : RW w g size) (hsz : size ≤ 1048576) (s : ByteArray) (hs : s.size ≤ 140737488351232) (h : 262144 < s.size ∨ 1048576 < size + lenA size s.size) :
    Calls Try.prog 13 #[.pointer (some ⟨g, 0, none⟩), .string s] w fun e w' => e = .returned (.tuple #[.slice none 0 0, .int .i64 3]) ∧ Below w.heap.size w w' := by
  obtain ⟨hb⟩ := hW
  have k0 : w.cell? ⟨g, 0, none⟩ = some (.int .i64 (size : Int)) := (blk_cell hb 0).trans rfl
  by_cases h1 : 262144 < s.size
  · have h1i : (262144 : Int) < (s.size : Int) := by omega
    go_enter Try.func13, Try.ntmps13
    go_wp2
    go_ret2
    exact ⟨rfl, Below.refl _ _⟩
  · have h1i : ¬ (262144 : Int) < (s.size : Int) := by omega
    have hL := Lib.hid (reflay_any size s hsz (by omega) w)
    have hle := lenA_le size s.size
    have hlen := Lib.hid (show (layA size s.data.toList).length = lenA size s.size by rw [layA_len, len_data])
    have hgl := blk_lt hb
    have hbH := Lib.hid hb
    go_enter Try.func13, Try.ntmps13
    go_wp2_with (go_at_call 21; go_must (refine hL.out.mono ?_; rintro e w2 ⟨v, rfl, ho, hb⟩; obtain ⟨A1, c1, rfl, _, _⟩ := ho.rd; have k2 : w2.cell? ⟨g, 0, none⟩ = some (.int .i64 (size : Int)) := (blk_cell ((hb.block g hgl).trans hbH.out) 0).trans rfl; have h2 : (1048576 : Int) < (size : Int) + (((layA size s.data.toList).length : Nat) : Int) := (by rw [hlen.out]; omega); have h3 : (layA size s.data.toList).length ≤ 4194304 := (by rw [hlen.out]; omega)))
    go_ret2
    exact ⟨rfl, hb⟩
set_option maxHeartbeats 400000 in
theorem rlay_ok {w : World} {g size : Nat} (hW : RW w g size) (s : ByteArray) (hs : s.size ≤ 262144) (hfit : size + lenA size s.size ≤ 1048576) :
    Calls Try.prog 13 #[.pointer (some ⟨g, 0, none⟩), .string s] w fun e w' => ∃ v, e = .returned (.tuple #[v, .int .i64 0]) ∧ Row w' w.heap.size v (layA size s.data.toList) ∧ RW w' g (size + lenA size s.size) ∧ Kept w w' (fun k => k = g) ∧ ∀ w0 : World, Below w0.heap.size w0 w → w0.heap.size ≤ g → Below w0.heap.size w0 w' := by
  obtain ⟨hb⟩ := hW
  have k0 : w.cell? ⟨g, 0, none⟩ = some (.int .i64 (size : Int)) := (blk_cell hb 0).trans rfl
  have h1i : ¬ (262144 : Int) < (s.size : Int) := by omega
  have hL := Lib.hid (reflay_any size s (by omega) hs w)
  have hlen := Lib.hid (show (layA size s.data.toList).length = lenA size s.size by rw [layA_len, len_data])
  have hgl := blk_lt hb
  have hbH := Lib.hid hb
  go_enter Try.func13, Try.ntmps13
  go_wp2_with (go_at_call 21; go_must (refine hL.out.mono ?_; rintro e w2 ⟨v, rfl, ho, hb2⟩; obtain ⟨A1, c1, rfl, _, _⟩ := ho.rd; have hg2 := (hb2.block g hgl).trans hbH.out; have k2 : w2.cell? ⟨g, 0, none⟩ = some (.int .i64 (size : Int)) := (blk_cell hg2 0).trans rfl; have f2 := blk_frozen hg2 0; have h2 : ¬ (1048576 : Int) < (size : Int) + (((layA size s.data.toList).length : Nat) : Int) := by rw [hlen.out]; omega))
  go_ret2
  refine ⟨_, rfl, ho.frame (fun q hq => Below.heap_setCell _ _ _ _ (fun e => ?_)), ⟨?_⟩, Kept.setCell (S := fun k => k = g) (Kept.of_below hb2 _) (p := ⟨g, 0, none⟩) (.inl rfl) _, fun w0 h0 hg0 => (h0.trans (hb2.mono h0.size)).setCell (p := ⟨g, 0, none⟩) hg0 _⟩
  · have := ho.ge q hq
    rw [e] at this
    exact absurd hgl (by simpa using this)
  · have := blk_set hg2 0 (.int .i64 ((size : Int) + (((layA size s.data.toList).length : Nat) : Int)))
    rw [hlen.out] at this ⊢
    simpa using this
end Go.Proofs.Ytlmlkamgpmnmgaa
