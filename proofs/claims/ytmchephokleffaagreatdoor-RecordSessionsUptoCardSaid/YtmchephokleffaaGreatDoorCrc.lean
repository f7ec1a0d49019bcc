/-
  Takes of a string's bytes.
-/
import Derived.Test.YtmchephokleffaaGreatDoorBase
import Derived.Test.YtmchephokleffaaGreatDoorHand
namespace Go.Proofs.YtmchephokleffaaGreatDoor
open Go.RowKit
theorem take_snoc (s : ByteArray) (k : Nat) (h : k < s.size) : s.data.toList.take (k + 1) = s.data.toList.take k ++ [s[k]] := by
  rw [List.take_succ_eq_append_getElem (by simpa using h)]; rfl
theorem take_all (s : ByteArray) (k : Nat) (h : s.size ≤ k) : s.data.toList.take k = s.data.toList := by
  rw [List.take_of_length_le (by simpa using h)]
end Go.Proofs.YtmchephokleffaaGreatDoor
