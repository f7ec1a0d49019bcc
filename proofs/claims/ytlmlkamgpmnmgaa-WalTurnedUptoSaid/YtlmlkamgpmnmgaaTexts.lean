/-
  Are two slices of strings the same: walked.
-/
import Derived.Test.YtlmlkamgpmnmgaaYield
import Derived.Test.YtlmlkamgpmnmgaaZer
set_option linter.unusedVariables false
set_option linter.unusedSimpArgs false
namespace Go.Proofs.Ytlmlkamgpmnmgaa
open Go.RowKit Go.Proofs.YtlmlkamgpmnmgaaW.PrintWords
theorem SRd.getd {w : World} {A : Option Addr} {n : Nat} {l : List ByteArray} (h : SRd w A n l) (k : Nat) (hk : k < n) : ∃ ad, A = some ad ∧ ∃ h' : k < l.length, w.cell? (ad.add k) = some (.string (l[k]'h')) := by
  have hl := h.len
  obtain ⟨ad, e, hc⟩ := h.at_ k hk
  refine ⟨ad, e, by omega, ?_⟩
  rw [hc]
  simp [List.getD_eq_getElem?_getD, List.getElem?_eq_getElem (show k < l.length by omega)]
theorem bs_beq (a b : ByteArray) : (a.toList == b.toList) = decide (a = b) := by
  rw [Lib.toList_data, Lib.toList_data]
  by_cases h : a = b
  · subst h; simp
  · rw [decide_eq_false h, beq_eq_false_iff_ne]
    intro e
    refine h ?_
    rw [← str_mk a, ← str_mk b, e]
theorem stake_eq {l m : List ByteArray} {k : Nat} (hk : k < l.length) (hm : k < m.length) (h : l.take k = m.take k) (he : l[k] = m[k]) : l.take (k + 1) = m.take (k + 1) := by
  rw [List.take_succ_eq_append_getElem hk, List.take_succ_eq_append_getElem hm, h, he]
set_option maxHeartbeats 400000 in
theorem texts_any {w : World} {A A2 : Option Addr} {n c n2 c2 : Nat} {l m : List ByteArray} (h : SRd w A n l) (h2 : SRd w A2 n2 m) :
    Calls Try.prog 18 #[.slice A n c, .slice A2 n2 c2] w fun e w' => e = .returned (.bool (decide (l = m))) ∧ Drawn0 w w' := by
  have hm1 : n ≤ 9223372036854775807 := h.2.1
  have hm2 : n2 ≤ 9223372036854775807 := h2.2.1
  have hl := Lib.hid h.len
  have hl2 := Lib.hid h2.len
  have H := Lib.hid h
  have H2 := Lib.hid h2
  clear h h2
  by_cases hnn : n = n2
  · subst hnn
    go_enter Try.func18, Try.ntmps18
    go_wp2
    go_loopw [5] (fun i wr => ∃ k : Nat, k ≤ n ∧ i = .int .i64 k ∧ l.take k = m.take k ∧ Drawn0 w wr) (fun i _ => n - (intOf i).toNat)
    case atStart => exact ⟨0, Nat.zero_le _, rfl, by simp, Drawn0.refl _⟩
    case round =>
      obtain ⟨k, hk, rfl, he, hd⟩ := hrel
      replace he := Lib.hid he
      obtain ⟨⟨dq, rfl⟩⟩ := hd
      by_cases hlt : k < n
      · obtain ⟨ad, rfl, hkl, hc⟩ := H.out.getd k hlt
        obtain ⟨ad2, rfl, hkl2, hc2⟩ := H2.out.getd k hlt
        have hst := Lib.hid (stake_eq hkl hkl2 he.out)
        cases hb : decide (l[k] = m[k]) with
        | true =>
          have hbe : l[k] = m[k] := of_decide_eq_true hb
          have hu : (l[k].toList == m[k].toList) = true := by rw [bs_beq]; exact decide_eq_true hbe
          replace hbe := Lib.hid hbe
          clear hb
          go_wp2
          go_quiet (fail)
          go_wp2
          go_roundw
          case rel => exact ⟨k + 1, by omega, by go_num, hst.out hbe.out, by repeat (first | exact Drawn0.refl _ | apply Drawn0.step)⟩
          case measure => simp [intOf]; omega
        | false =>
          have hbe : ¬ l[k] = m[k] := of_decide_eq_false hb
          have hu : (l[k].toList == m[k].toList) = false := by rw [bs_beq]; exact decide_eq_false hbe
          have hfin : decide (l = m) = false := decide_eq_false (fun e => hbe (by subst e; rfl))
          replace hfin := Lib.hid hfin
          clear hb hbe
          go_wp2
          go_quiet (fail)
          go_wp2
          go_ret
          exact ⟨ret_bool (by rw [hfin.out]), by repeat (first | exact Drawn0.refl _ | apply Drawn0.step)⟩
      · obtain rfl : k = n := by omega
        have hfin : decide (l = m) = true := by
          have := he.out
          rw [List.take_of_length_le (by rw [hl.out]; exact Nat.le_refl _), List.take_of_length_le (by rw [hl2.out]; exact Nat.le_refl _)] at this
          exact decide_eq_true this
        replace hfin := Lib.hid hfin
        go_wp2
        go_ret
        exact ⟨ret_bool (by rw [hfin.out]), by repeat (first | exact Drawn0.refl _ | apply Drawn0.step)⟩
  · have hb : ((n : Int) != (n2 : Int)) = true := by rw [bne_iff_ne]; omega
    have hfin : decide (l = m) = false := decide_eq_false (fun e => hnn (by rw [← hl.out, ← hl2.out, e]))
    replace hfin := Lib.hid hfin
    go_enter Try.func18, Try.ntmps18
    go_wp2
    go_ret
    exact ⟨ret_bool (by rw [hfin.out]), Drawn0.refl _⟩
end Go.Proofs.Ytlmlkamgpmnmgaa
