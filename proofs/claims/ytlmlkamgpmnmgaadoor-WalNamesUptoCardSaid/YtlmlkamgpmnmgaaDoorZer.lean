/-
  Are all bytes 0; are two slices of bytes the same: walked.
-/
import Derived.Test.YtlmlkamgpmnmgaaDoorCrc
set_option linter.unusedVariables false
set_option linter.unusedSimpArgs false
namespace Go.Proofs.YtlmlkamgpmnmgaaDoor
open Go.RowKit Go.Proofs.YtlmlkamgpmnmgaaDoorW.PrintWords
theorem Rd.at {w : World} {A : Option Addr} {n : Nat} {l : List UInt8} (h : Rd w A n l) (k : Nat) (hk : k < n) : ∃ ad, A = some ad ∧ ∃ h' : k < l.length, w.cell? (ad.add k) = some (.int .u8 ((l[k]'h').toNat : Int)) := by
  have hl := h.len
  obtain ⟨ad, e, hc⟩ := h.2.2 (by omega)
  refine ⟨ad, e, by omega, ?_⟩
  rw [hc k hk]
  simp [bi, List.getD_eq_getElem?_getD, List.getElem?_eq_getElem (show k < l.length by omega)]
def allZero (l : List UInt8) : Bool := l.all (fun b => b == 0)
theorem u8_zero (b : UInt8) : (((b.toNat : Int) != 0) = !(b == 0)) := by
  by_cases h : b = 0
  · subst h; rfl
  · have h1 : (b == 0) = false := by simpa using h
    have h2 : (b.toNat : Int) ≠ 0 := by
      intro e
      exact h (UInt8.toNat_inj.mp (by simpa using (by omega : b.toNat = 0)))
    rw [h1]
    simpa using h2
set_option maxHeartbeats 400000 in
theorem zeros_any {w : World} {A : Option Addr} {n c : Nat} {l : List UInt8} (h : Rd w A n l) (hnc : n ≤ c) :
    Calls Tryd.prog 75 #[.slice A n c] w fun e w' => e = .returned (.bool (allZero l)) ∧ w = w' := by
  have hm : n ≤ 9223372036854775807 := h.2.1
  have hl := Lib.hid h.len
  have H := Lib.hid h
  clear h
  go_enter Tryd.func75, Tryd.ntmps75
  go_wp2
  go_loop [7] (fun i => ∃ k : Nat, k ≤ n ∧ i = .int .i64 k ∧ allZero (l.take k) = true) (fun i => n - (intOf i).toNat)
  case atStart => exact ⟨0, Nat.zero_le _, rfl, by simp [allZero]⟩
  case round =>
    obtain ⟨k, hk, rfl, hz⟩ := hrel
    have hz := Lib.hid hz
    by_cases hlt : k < n
    · obtain ⟨ad, rfl, hkl, hc⟩ := H.out.at k hlt
      have hu := u8_zero l[k]
      have hts : l.take (k + 1) = l.take k ++ [l[k]] := by rw [List.take_succ_eq_append_getElem hkl]
      have hts := Lib.hid hts
      have hmem := Lib.hid (List.getElem_mem hkl)
      cases hb : l[k] == 0 with
      | true =>
        rw [hb] at hu
        have hbH := Lib.hid hb
        clear hb
        generalize l[k] = x at *
        go_wp2
        go_round
        case rel => exact ⟨k + 1, by omega, by go_num, by rw [hts.out, allZero, List.all_append]; simp only [List.all_cons, List.all_nil, hbH.out, Bool.and_true]; exact hz.out⟩
        case measure => simp [intOf]; omega
      | false =>
        rw [hb] at hu
        have hbH := Lib.hid hb
        clear hb
        generalize l[k] = x at *
        have hfin : allZero l = false := by
          cases he : allZero l with
          | false => rfl
          | true =>
            rw [allZero, List.all_eq_true] at he
            rw [he x hmem.out] at hbH
            exact absurd hbH.out (by simp)
        replace hfin := Lib.hid hfin
        go_wp2
        go_ret
        exact ⟨ret_bool (by rw [hfin.out]), rfl⟩
    · obtain rfl : k = n := by omega
      have hfin : allZero l = true := by
        have := hz.out
        rwa [List.take_of_length_le (by rw [hl.out]; exact Nat.le_refl _)] at this
      replace hfin := Lib.hid hfin
      go_wp2
      go_ret
      exact ⟨ret_bool (by rw [hfin.out]), rfl⟩
theorem take_eq_step {l m : List UInt8} {k : Nat} (hk : k < l.length) (hm : k < m.length) (h : l.take k = m.take k) (he : l[k] = m[k]) : l.take (k + 1) = m.take (k + 1) := by
  rw [List.take_succ_eq_append_getElem hk, List.take_succ_eq_append_getElem hm, h, he]
theorem u8_neq (a b : UInt8) : (((a.toNat : Int) != (b.toNat : Int)) = !(a == b)) := by
  by_cases h : a = b
  · subst h; simp
  · have h1 : (a == b) = false := by simpa using h
    have h2 : (a.toNat : Int) ≠ (b.toNat : Int) := by
      intro e
      exact h (UInt8.toNat_inj.mp (by omega))
    rw [h1]
    simpa using h2
end Go.Proofs.YtlmlkamgpmnmgaaDoor
