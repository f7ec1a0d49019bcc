/-
  Chapter 28: the law ScriptNames, walked.
-/
import Derived.Test.YtigcgpbdifihoaaDoorNl
set_option linter.unusedVariables false
set_option linter.unusedSimpArgs false
namespace Go.Proofs.YtigcgpbdifihoaaDoor
open Go.RowKit Go.Proofs.YtigcgpbdifihoaaDoorW.PrintWords Go.Proofs.YtigcgpbdifihoaaDoor.PScriptRequests
set_option maxHeartbeats 1000000 in
set_option maxRecDepth 100000 in
theorem names_walk (W : World) (ht : Tab W) : Calls Tryd.prog 3 #[] W fun e w' => e = .returned (.bool true) ∧ Below W.heap.size W w' := by
  have hA := Lib.hid (awake_any W ht)
  go_enter Tryd.func3, Tryd.ntmps3
  go_wp2_with (first | (go_at_call 8; go_must (refine hA.out.mono ?_; rintro e w2 ⟨rfl, hb2⟩)))
  go_ret
  exact ⟨rfl, hb2⟩
end Go.Proofs.YtigcgpbdifihoaaDoor
