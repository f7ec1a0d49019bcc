/-
  wal.Length, walked.
-/
import Derived.Test.YtlmlkamgpmnmgaaDoorLay
set_option linter.unusedVariables false
set_option linter.unusedSimpArgs false
namespace Go.Proofs.YtlmlkamgpmnmgaaDoor
open Go.RowKit Go.Proofs.YtlmlkamgpmnmgaaDoorW.PrintWords
def badLen (a n : Int) : Prop := a < 0 ∨ 1048576 < a ∨ n < 0 ∨ 262144 < n
set_option maxHeartbeats 400000 in
theorem length_bad (a n : Int) (h : badLen a n) (w : World) :
    Calls Tryd.prog 11 #[.int .i64 a, .int .i64 n] w fun e w' => e = .returned (.tuple #[.int .i64 0, .int .i64 1]) ∧ w = w' := by
  unfold badLen at h
  by_cases h1 : a < 0
  · go_enter Tryd.func11, Tryd.ntmps11
    go_wp2
    go_ret2
    exact ⟨rfl, rfl⟩
  · by_cases h2 : 1048576 < a
    · go_enter Tryd.func11, Tryd.ntmps11
      go_wp2
      go_ret2
      exact ⟨rfl, rfl⟩
    · by_cases h3 : n < 0
      · go_enter Tryd.func11, Tryd.ntmps11
        go_wp2
        go_ret2
        exact ⟨rfl, rfl⟩
      · have h4 : 262144 < n := by omega
        go_enter Tryd.func11, Tryd.ntmps11
        go_wp2
        go_ret2
        exact ⟨rfl, rfl⟩
set_option maxHeartbeats 400000 in
theorem length_ok (a n : Nat) (ha : a ≤ 1048576) (hn : n ≤ 262144) (w : World) :
    Calls Tryd.prog 11 #[.int .i64 (a : Int), .int .i64 (n : Int)] w fun e w' => e = .returned (.tuple #[.int .i64 ((lenA a n : Nat) : Int), .int .i64 0]) ∧ w = w' := by
  have hg := gapN_le a
  have hF := fits_start (a + gapN a) n (gap_next a)
  have hle := lenA_le a n
  have hA := Lib.hid (show lenA a n = gapN a + lenF (n + 2) (a + gapN a) n from rfl)
  have h0 : ¬ (a : Int) < 0 := by omega
  have h1 : ¬ (1048576 : Int) < (a : Int) := by omega
  have h2 : ¬ (n : Int) < 0 := by omega
  have h3 : ¬ (262144 : Int) < (n : Int) := by omega
  have hal := Lib.hid (gap_next a)
  have hF := Lib.hid hF
  go_enter Tryd.func11, Tryd.ntmps11
  go_wp2_with (first | (go_at_call 12; go_must (refine (gap_any a (by omega) _).mono ?_; rintro e w3 ⟨rfl, rfl⟩)))
  generalize gapN a = g at *
  obtain ⟨T, hTT⟩ : ∃ T, T = lenA a n := ⟨_, rfl⟩
  rw [← hTT] at hle hA
  have hTT := Lib.hid hTT
  go_loop [0, 1] (fun x y => ∃ a' n' k : Nat, x = .int .i64 a' ∧ y = .int .i64 n' ∧ a' % 1024 ≤ 1017 ∧ Fits k a' n' ∧ a' + lenF k a' n' = a + T ∧ a ≤ a' ∧ n' ≤ 262144) (fun x _ => a + T - (intOf x).toNat)
  case atStart => exact ⟨a + g, n, n + 2, by go_num, rfl, hal.out, hF.out, by have := hA.out; omega, by omega, hn⟩
  case round =>
    obtain ⟨a', n', k, rfl, rfl, hmod, hfit, htot, hge, hn'⟩ := hrel
    obtain ⟨k, rfl⟩ : ∃ m, k = m + 1 := by
      cases k with
      | zero => exact absurd hfit id
      | succ k => exact ⟨k, rfl⟩
    have hrm : ((1024 : Int) - (a' : Int) % 1024 - 7) = ((room a' : Nat) : Int) := by unfold room; omega
    have hrl := room_le a'
    have hal2 := Lib.hid (room_next a' hmod)
    have hpos := lenF_pos (k + 1) a' n' (by omega)
    unfold lenF at htot
    unfold Fits at hfit
    have hfit := Lib.hid hfit
    by_cases hc : n' ≤ room a'
    · rw [if_pos hc] at htot
      have hmin : min (n' : Int) ((room a' : Nat) : Int) = (n' : Int) := by omega
      have hT : T = 7 + n' + (a' - a) := by omega
      have hT := Lib.hid hT
      clear htot
      go_wp2
      go_ret2
      exact ⟨ret_int2 (by rw [← hTT.out, hT.out]; omega) rfl, rfl⟩
    · rw [if_neg hc] at htot
      have hmin : min (n' : Int) ((room a' : Nat) : Int) = ((room a' : Nat) : Int) := by omega
      have hne : (((n' : Int) - ((room a' : Nat) : Int)) == 0) = false := by rw [beq_eq_false_iff_ne]; omega
      have htot := Lib.hid htot
      go_wp2
      go_round
      case rel => exact ⟨a' + 7 + room a', n' - room a', k, by go_num, by go_num, by rw [hal2.out]; omega, (hfit.out).resolve_left hc, by have := htot.out; omega, by omega, by omega⟩
      case measure => simp [intOf]; have := htot.out; omega
end Go.Proofs.YtlmlkamgpmnmgaaDoor
