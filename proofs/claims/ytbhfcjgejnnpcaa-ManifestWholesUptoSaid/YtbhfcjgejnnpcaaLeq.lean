/-
  Strings by '<=': the other way round.
-/
import Derived.Test.YtbhfcjgejnnpcaaProg
import Derived.WalkKit
import Derived.Laws.Cover1
import Derived.Sort.Walk0
namespace Go.Proofs.Ytbhfcjgejnnpcaa
theorem less_flip (a b : List UInt8) : (Op.bytesLess a b || a == b) = !Op.bytesLess b a := by
  rw [Proofs.bytesLess_eq, Proofs.bytesLess_eq, Bool.eq_iff_iff]
  simp only [Bool.or_eq_true, decide_eq_true_eq, beq_iff_eq, Bool.not_eq_true', decide_eq_false_iff_not]
  constructor
  · rintro (h | rfl)
    · exact List.lt_asymm h
    · exact List.lt_irrefl _
  · intro h
    have h2 : a ≤ b := List.not_lt.1 h
    exact (List.le_iff_lt_or_eq (l₁ := a) (l₂ := b)).1 h2
theorem leqM (t : TypeId) (a b : ByteArray) : binOp .leq t (.string a) (.string b) = pure (.bool !(Op.bytesLess b.toList a.toList)) := by
  rw [binOp_string_leq, less_flip]
end Go.Proofs.Ytbhfcjgejnnpcaa
