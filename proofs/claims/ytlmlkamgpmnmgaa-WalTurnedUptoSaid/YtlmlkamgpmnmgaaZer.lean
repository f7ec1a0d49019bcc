/-
  Are all bytes 0; are two slices of bytes the same: walked.
-/
import Derived.Test.YtlmlkamgpmnmgaaCrc
set_option linter.unusedVariables false
set_option linter.unusedSimpArgs false
namespace Go.Proofs.Ytlmlkamgpmnmgaa
open Go.RowKit Go.Proofs.YtlmlkamgpmnmgaaW.PrintWords
theorem Rd.at {w : World} {A : Option Addr} {n : Nat} {l : List UInt8} (h : Rd w A n l) (k : Nat) (hk : k < n) : ∃ ad, A = some ad ∧ ∃ h' : k < l.length, w.cell? (ad.add k) = some (.int .u8 ((l[k]'h').toNat : Int)) := by
  have hl := h.len
  obtain ⟨ad, e, hc⟩ := h.2.2 (by omega)
  refine ⟨ad, e, by omega, ?_⟩
  rw [hc k hk]
  simp [bi, List.getD_eq_getElem?_getD, List.getElem?_eq_getElem (show k < l.length by omega)]
def allZero (l : List UInt8) : Bool := l.all (fun b => b == 0)
theorem u8_zero (b : UInt8) : (((b.toNat : Int) != 0) = !(b == 0)) := by
  by_cases h : b = 0
  · subst h; rfl
  · have h1 : (b == 0) = false := by simpa using h
    have h2 : (b.toNat : Int) ≠ 0 := by
      intro e
      exact h (UInt8.toNat_inj.mp (by simpa using (by omega : b.toNat = 0)))
    rw [h1]
    simpa using h2
set_option maxHeartbeats 400000 in
theorem zeros_any {w : World} {A : Option Addr} {n c : Nat} {l : List UInt8} (h : Rd w A n l) (hnc : n ≤ c) :
    Calls Try.prog 47 #[.slice A n c] w fun e w' => e = .returned (.bool (allZero l)) ∧ w = w' := by
  have hm : n ≤ 9223372036854775807 := h.2.1
  have hl := Lib.hid h.len
  have H := Lib.hid h
  clear h
  go_enter Try.func47, Try.ntmps47
  go_wp2
  go_loop [7] (fun i => ∃ k : Nat, k ≤ n ∧ i = .int .i64 k ∧ allZero (l.take k) = true) (fun i => n - (intOf i).toNat)
  case atStart => exact ⟨0, Nat.zero_le _, rfl, by simp [allZero]⟩
  case round =>
    obtain ⟨k, hk, rfl, hz⟩ := hrel
    have hz := Lib.hid hz
    by_cases hlt : k < n
    · obtain ⟨ad, rfl, hkl, hc⟩ := H.out.at k hlt
      have hu := u8_zero l[k]
      have hts : l.take (k + 1) = l.take k ++ [l[k]] := by rw [List.take_succ_eq_append_getElem hkl]
      have hts := Lib.hid hts
      have hmem := Lib.hid (List.getElem_mem hkl)
      cases hb : l[k] == 0 with
      | true =>
        rw [hb] at hu
        have hbH := Lib.hid hb
        clear hb
        generalize l[k] = x at *
        go_wp2
        go_round
        case rel => exact ⟨k + 1, by omega, by go_num, by rw [hts.out, allZero, List.all_append]; simp only [List.all_cons, List.all_nil, hbH.out, Bool.and_true]; exact hz.out⟩
        case measure => simp [intOf]; omega
      | false =>
        rw [hb] at hu
        have hbH := Lib.hid hb
        clear hb
        generalize l[k] = x at *
        have hfin : allZero l = false := by
          cases he : allZero l with
          | false => rfl
          | true =>
            rw [allZero, List.all_eq_true] at he
            rw [he x hmem.out] at hbH
            exact absurd hbH.out (by simp)
        replace hfin := Lib.hid hfin
        go_wp2
        go_ret
        exact ⟨ret_bool (by rw [hfin.out]), rfl⟩
    · obtain rfl : k = n := by omega
      have hfin : allZero l = true := by
        have := hz.out
        rwa [List.take_of_length_le (by rw [hl.out]; exact Nat.le_refl _)] at this
      replace hfin := Lib.hid hfin
      go_wp2
      go_ret
      exact ⟨ret_bool (by rw [hfin.out]), rfl⟩
theorem take_eq_step {l m : List UInt8} {k : Nat} (hk : k < l.length) (hm : k < m.length) (h : l.take k = m.take k) (he : l[k] = m[k]) : l.take (k + 1) = m.take (k + 1) := by
  rw [List.take_succ_eq_append_getElem hk, List.take_succ_eq_append_getElem hm, h, he]
theorem u8_neq (a b : UInt8) : (((a.toNat : Int) != (b.toNat : Int)) = !(a == b)) := by
  by_cases h : a = b
  · subst h; simp
  · have h1 : (a == b) = false := by simpa using h
    have h2 : (a.toNat : Int) ≠ (b.toNat : Int) := by
      intro e
      exact h (UInt8.toNat_inj.mp (by omega))
    rw [h1]
    simpa using h2
set_option maxHeartbeats 400000 in
theorem same_any {w : World} {A A2 : Option Addr} {n c n2 c2 : Nat} {l m : List UInt8} (h : Rd w A n l) (hnc : n ≤ c) (h2 : Rd w A2 n2 m) (hnc2 : n2 ≤ c2) :
    Calls Try.prog 14 #[.slice A n c, .slice A2 n2 c2] w fun e w' => e = .returned (.bool (l == m)) ∧ Drawn0 w w' := by
  have hm1 : n ≤ 9223372036854775807 := h.2.1
  have hm2 : n2 ≤ 9223372036854775807 := h2.2.1
  have hl := Lib.hid h.len
  have hl2 := Lib.hid h2.len
  have H := Lib.hid h
  have H2 := Lib.hid h2
  clear h h2
  by_cases hnn : n = n2
  · subst hnn
    go_enter Try.func14, Try.ntmps14
    go_wp2
    go_loopw [5] (fun i wr => ∃ k : Nat, k ≤ n ∧ i = .int .i64 k ∧ l.take k = m.take k ∧ Drawn0 w wr) (fun i _ => n - (intOf i).toNat)
    case atStart => exact ⟨0, Nat.zero_le _, rfl, by simp, Drawn0.refl _⟩
    case round =>
      obtain ⟨k, hk, rfl, he, hd⟩ := hrel
      have he := Lib.hid he
      obtain ⟨⟨dq, rfl⟩⟩ := hd
      by_cases hlt : k < n
      · obtain ⟨ad, rfl, hkl, hc⟩ := H.out.at k hlt
        obtain ⟨ad2, rfl, hkl2, hc2⟩ := H2.out.at k hlt
        have hu := u8_neq l[k] m[k]
        have hstep := Lib.hid (take_eq_step hkl hkl2 he.out)
        have hne : Hid (l[k] ≠ m[k] → l ≠ m) := fun h e => h (by subst e; rfl)
        cases hb : l[k] == m[k] with
        | true =>
          rw [hb] at hu
          have hbH := Lib.hid hb
          clear hb
          generalize l[k] = x at *
          generalize m[k] = y at *
          go_wp2
          go_quiet (fail)
          go_wp2
          go_roundw
          case rel => exact ⟨k + 1, by omega, by go_num, hstep.out (by simpa using hbH.out), ⟨⟨_, rfl⟩⟩⟩
          case measure => simp [intOf]; omega
        | false =>
          rw [hb] at hu
          have hbH := Lib.hid hb
          clear hb
          generalize l[k] = x at *
          generalize m[k] = y at *
          have hfin := Lib.hid (show (l == m) = false by rw [beq_eq_false_iff_ne]; exact hne.out (by simpa using hbH.out))
          go_wp2
          go_quiet (fail)
          go_wp2
          go_ret
          exact ⟨ret_bool (by rw [hfin.out]), ⟨⟨_, World.drewN_drewN ..⟩⟩⟩
      · obtain rfl : k = n := by omega
        have hfin : (l == m) = true := by
          have h1 := he.out
          rw [List.take_of_length_le (by rw [hl.out]; exact Nat.le_refl _), List.take_of_length_le (by rw [hl2.out]; exact Nat.le_refl _)] at h1
          simpa using h1
        replace hfin := Lib.hid hfin
        go_wp2
        go_ret
        exact ⟨ret_bool (by rw [hfin.out]), ⟨⟨_, rfl⟩⟩⟩
  · have hfin := Lib.hid (show (l == m) = false by rw [beq_eq_false_iff_ne]; intro e; exact hnn (by rw [← hl.out, ← hl2.out, e]))
    have hne : ((n : Int) != (n2 : Int)) = true := by rw [bne_iff_ne]; omega
    go_enter Try.func14, Try.ntmps14
    go_wp2
    go_ret
    exact ⟨ret_bool (by rw [hfin.out]), Drawn0.refl _⟩
end Go.Proofs.Ytlmlkamgpmnmgaa
