/-
  The law of a log that was cut off: the walk's premises met.
-/
import Derived.Test.YtlmlkamgpmnmgaaLawCuts
set_option linter.unusedVariables false
set_option linter.unusedSimpArgs false
namespace Go.Proofs.Ytlmlkamgpmnmgaa
open Go.RowKit Go.Proofs.YtlmlkamgpmnmgaaW.PrintWords
theorem wrap_in (z : Int) (h : -9223372036854775808 ≤ z ∧ z ≤ 9223372036854775807) : wrap64 z = z := by
  exact IntWalk.wrap64_in z h
theorem cuts_walk (W : World) (A : Option Addr) (n c : Nat) (recs : List ByteArray) (hr : SRd W A n recs) (hnc : n ≤ c) (hn : n ≤ 1048576) (hss : ∀ s ∈ recs, s.size ≤ 1048576) (a1 : Int) (w1 : (Lit.int .i64 a1).wf = true) :
    Calls Try.prog 4 #[.slice A n c, .int .i64 a1] W fun e w' => e = .returned (.bool true) ∧ Below W.heap.size W w' := by
  have hT := logB_le recs 0 (by omega)
  rw [Nat.zero_add] at hT
  have hEW := logE_len recs 0
  have hEn : (logE 0 recs).length ≤ 1048576 := by
    have := logE_count recs 0
    have := hr.len
    omega
  obtain ⟨m, hmT, hx⟩ : ∃ m : Nat, m ≤ (logB 0 recs).length ∧ ((a1.tmod (((logB 0 recs).length : Int) + 1) < 0 ∧ wrap64 (wrap64 (a1.tmod (((logB 0 recs).length : Int) + 1) + ((logB 0 recs).length : Int)) + 1) = (m : Int)) ∨ (¬ a1.tmod (((logB 0 recs).length : Int) + 1) < 0 ∧ a1.tmod (((logB 0 recs).length : Int) + 1) = (m : Int))) := by
    generalize (logB 0 recs).length = T at *
    have hlt := Int.tmod_lt_of_pos a1 (show (0 : Int) < (T : Int) + 1 by omega)
    have hgt : -((T : Int) + 1) < a1.tmod ((T : Int) + 1) := by
      have := Int.tmod_lt_of_pos (-a1) (show (0 : Int) < (T : Int) + 1 by omega)
      rw [Int.neg_tmod] at this
      omega
    generalize a1.tmod ((T : Int) + 1) = x at *
    by_cases h : x < 0
    · refine ⟨(x + T + 1).toNat, by omega, .inl ⟨h, ?_⟩⟩
      rw [wrap_in (x + T) (by omega), wrap_in _ (by omega)]
      omega
    · exact ⟨x.toNat, by omega, .inr ⟨h, by omega⟩⟩
  have hsc : scanR (logB 0 recs) = (logW 0 recs, (logE 0 recs).getLastD 0, 1) := scan_log recs (logB 0 recs) 0 [] (Nat.zero_le _) rfl
  obtain ⟨why, hcut, hw⟩ : ∃ why, scanR ((logB 0 recs).take m) = ((logW 0 recs).take (within m (logE 0 recs)), ((logE 0 recs).take (within m (logE 0 recs))).getLastD 0, why) ∧ (why = 1 ∨ why = 2) := by
    obtain ⟨why, h1, h2⟩ := scan_log_cut recs ((logB 0 recs).take m) 0 m [] 0 (by rw [List.length_take]; omega) hmT rfl
    rw [Nat.zero_add, List.nil_append] at h1
    exact ⟨why, h1, h2⟩
  have hKN := within_le m (logE 0 recs)
  refine cuts_core W A n c recs hr a1 (logB 0 recs) (logE 0 recs) (logW 0 recs) (logE 0 recs).length (logB 0 recs).length m (within m (logE 0 recs)) why rfl hT hEn hmT rfl hKN rfl ?_ ((logE 0 recs).getLastD 0) ?_ (((logE 0 recs).take (within m (logE 0 recs))).getLastD 0) ?_ hw ?_ ?_ ?_ hx
  · intro w h
    refine (laid_any w A n c recs h (fun s hs => by have := hss s hs; omega) hn).mono ?_
    rintro e w' ⟨v1, v2, v3, rfl, h1, h2, h3, hb⟩
    obtain ⟨A1, c1, rfl, hr1, hc1⟩ := h1.rd
    obtain ⟨A2, c2, rfl, hr2⟩ := h2.rd
    obtain ⟨A3, c3, rfl, hr3, hc3⟩ := h3.rd
    rw [← hEW] at hr3 hc3 ⊢
    exact ⟨A1, c1, A2, c2, A3, c3, rfl, hr1, hc1, hr2, hr3, hc3, hb⟩
  · intro w A c hr hc
    refine (scan_any hr hc (by omega)).mono ?_
    rw [hsc]
    rintro e w' ⟨v, rfl, h1, hb⟩
    obtain ⟨A1, c1, rfl, hr1, hc1⟩ := h1.rd
    rw [← hEW] at hr1 ⊢
    exact ⟨A1, c1, rfl, hr1, hb⟩
  · intro w A c hr hc
    have hKl : ((logW 0 recs).take (within m (logE 0 recs))).length = within m (logE 0 recs) := by rw [List.length_take]; omega
    refine (scan_any (hr.take m hmT) (by omega) (by omega)).mono ?_
    rw [hcut]
    rintro e w' ⟨v, rfl, h1, hb⟩
    obtain ⟨A1, c1, rfl, hr1, hc1⟩ := h1.rd
    simp only [hKl] at hr1 ⊢
    exact ⟨A1, c1, rfl, hr1, hb⟩
  · intro h
    exact last_whole _ h
  · intro h
    rw [h]
    simp
  · intro h
    exact last_take _ _ h hKN
end Go.Proofs.Ytlmlkamgpmnmgaa
