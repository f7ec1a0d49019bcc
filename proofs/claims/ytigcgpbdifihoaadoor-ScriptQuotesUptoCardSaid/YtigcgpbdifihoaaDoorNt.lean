/-
  Chapter 28: what the printed reference's Unquote comes to.
-/
import Derived.Test.YtigcgpbdifihoaaDoorNs
import Derived.Test.YtigcgpbdifihoaaDoorR3
set_option linter.unusedVariables false
set_option linter.unusedSimpArgs false
namespace Go.Proofs.YtigcgpbdifihoaaDoor
open Go.RowKit Go.Proofs.YtigcgpbdifihoaaDoorW.PrintWords Go.Proofs.YtigcgpbdifihoaaDoor.PScriptQuotes
/-- What reading a quoted text must say. -/
def UQ (s : List UInt8) (o : Option (List UInt8)) : Prop := (∀ b, o = some b → quoteL b = s) ∧ ∀ b, s = quoteL b → o = some b
theorem UQ.one {s : List UInt8} {o p : Option (List UInt8)} (h : UQ s o) (k : UQ s p) : o = p := by
  cases o with
  | some b => exact (k.2 b (h.1 b rfl).symm).symm
  | none =>
    cases p with
    | none => rfl
    | some b => exact h.2 b (k.1 b rfl).symm
theorem uq_none {s : List UInt8} (h : ¬ ∃ b, s = quoteL b) : UQ s none := ⟨fun _ h2 => (by cases h2), fun b e => absurd ⟨b, e⟩ h⟩
theorem not_qd {s : List UInt8} (h : ¬ Qd s) : ¬ ∃ b, s = quoteL b := fun ⟨b, e⟩ => h ⟨b, [], by rw [e, List.append_nil]⟩
def digI (c : UInt8) : Int := if 48 ≤ c.toNat ∧ c.toNat ≤ 57 then (c.toNat : Int) - 48 else if 97 ≤ c.toNat ∧ c.toNat ≤ 102 then (c.toNat : Int) - 87 else -1
theorem digit_f (k : Nat) (c : UInt8) : atriumref28_digit.f (k + 1) (c.toNat : Int) = some (digI c) := by
  have hc := UInt8.toNat_lt c
  simp only [digI, atriumref28_digit.f, atriumref28_digit.j0, decide_eq_true_eq, Bool.false_eq_true, if_false]
  repeat' split
  all_goals first | omega | (congr 1; omega) | (exfalso; omega) | rfl
theorem dig_hex (m : Nat) (h : m < 16) : digI (hexB m) = (m : Int) := by
  match m, h with
  | 0, _ => rfl
  | 1, _ => rfl
  | 2, _ => rfl
  | 3, _ => rfl
  | 4, _ => rfl
  | 5, _ => rfl
  | 6, _ => rfl
  | 7, _ => rfl
  | 8, _ => rfl
  | 9, _ => rfl
  | 10, _ => rfl
  | 11, _ => rfl
  | 12, _ => rfl
  | 13, _ => rfl
  | 14, _ => rfl
  | 15, _ => rfl
  | n + 16, h => exact absurd h (by omega)
theorem hex_dig (c : UInt8) (h : ¬ digI c < 0) : ∃ m, m < 16 ∧ c = hexB m ∧ digI c = (m : Int) := by
  unfold digI at h ⊢
  have hc := UInt8.toNat_lt c
  by_cases h1 : 48 ≤ c.toNat ∧ c.toNat ≤ 57
  · refine ⟨c.toNat - 48, by omega, ?_, by rw [if_pos h1]; omega⟩
    apply u8_nat
    have := hexB_nat (c.toNat - 48) (by omega)
    unfold hexN at this
    rw [if_pos (by omega)] at this
    omega
  · rw [if_neg h1] at h ⊢
    by_cases h2 : 97 ≤ c.toNat ∧ c.toNat ≤ 102
    · refine ⟨c.toNat - 87, by omega, ?_, by rw [if_pos h2]; omega⟩
      apply u8_nat
      have := hexB_nat (c.toNat - 87) (by omega)
      unfold hexN at this
      rw [if_neg (by omega)] at this
      omega
    · rw [if_neg h2] at h
      omega
theorem hex_ne34 (m : Nat) (h : m < 16) : hexB m ≠ 34 := by
  intro e
  have := hexB_nat m h
  rw [e] at this
  unfold hexN at this
  split at this <;> (simp at this; omega)
end Go.Proofs.YtigcgpbdifihoaaDoor
