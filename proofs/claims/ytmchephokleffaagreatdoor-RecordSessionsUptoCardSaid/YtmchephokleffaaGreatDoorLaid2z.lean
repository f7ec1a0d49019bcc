/-
  The rows' frame of chapter 22: the listed tables, a world that holds them, what the library's variable holds.
-/
import Derived.Test.YtmchephokleffaaGreatDoorCards
import Derived.Test.YtmchephokleffaaGreatDoorTie
import Derived.Test.YtmchephokleffaaGreatDoorOpG
import Derived.Test.YtmchephokleffaaGreatDoorOpN
import Derived.Test.YtmchephokleffaaGreatDoorOpN
import Derived.Deep.DeepHandedRow
import Derived.Lib.LaidTab
import Derived.ChangeArms
import Derived.Shelf.Vars
set_option linter.unusedVariables false
namespace Go.Proofs.YtmchephokleffaaGreatDoor
open Go.ChangeShapes Go.WideShapes Go.ChangeAt Go.RowKit
mutual
def numsOf : DataW Unit → List Value
  | .lit (.int k n) => [.int k n]
  | .agg parts => numsAll parts
  | _ => []
def numsAll : List (DataW Unit) → List Value
  | [] => []
  | d :: l => numsOf d ++ numsAll l
 end
/-- A world that holds the listed tables. -/
noncomputable def laidWorld (os : Os) : World :=
  Rows.recordSessionsUptoRow.laid.foldl (fun W nd => match Tryz.prog.globalNamed nd.1 with
    | some g => { W with heap := W.heap.modify g fun | .cells _ t frozen => .cells (numsOf nd.2).toArray t frozen | o => o }
    | _ => W) (World.holding Tryz.prog os ⟨#[], #[], []⟩)
end Go.Proofs.YtmchephokleffaaGreatDoor
