-- cut by merge22.py out of texts that print.sh wrote
import Derived.Test.YtmchephokleffaaDoorProg
import Derived.Below
import Derived.Deep.Draws
import Derived.Deep.AppendLies
import Derived.Maps.AppendAt
import Derived.OwnWalk
import Derived.Laws.BytesArg
import Derived.Laws.MakeOwn
import Derived.Laws.OwnMore
import Derived.Deep.OwnRows
import Derived.Tactics
import Derived.Lib.ConvBytes
import Derived.Laws.Slices
import Derived.WalkKit
import Derived.KernelRfl
import Derived.RowKit3
import Derived.Deep.LoopGhost
import Derived.Deep.QuietTactic
import Derived.BigQuiet
import Derived.WideLaws
import Derived.Deep.DeepCutAuto
import Derived.Deep.CutBlock
import Derived.Deep.RegionHeld3
import Derived.Laws.Rows
import Derived.Lib.AppendStr
import Derived.ArgAppend
import Derived.Laws.IdiomCopy
import Derived.OrdersHeld
import Derived.Laws.BitsLemmas
import Derived.RowKit
import Derived.Test.YtmchephokleffaaDoorWWords
import Derived.Test.YtmchephokleffaaDoorWLast
import Derived.Test.YtmchephokleffaaDoorWTab
import Derived.Test.YtmchephokleffaaDoorWFour
import Derived.Test.YtmchephokleffaaDoorWQPut
import Derived.Test.YtmchephokleffaaDoorWApart
import Derived.Test.YtmchephokleffaaDoorWArr
import Derived.Test.YtmchephokleffaaDoorWZeros
import Derived.Test.YtmchephokleffaaDoorWFoot
import Derived.Test.YtmchephokleffaaDoorWKept
import Derived.Test.YtmchephokleffaaDoorWShare
import Derived.Test.YtmchephokleffaaDoorWN
import Derived.Test.YtmchephokleffaaDoorWFootNe
import Derived.Test.YtmchephokleffaaDoorWAt
import Derived.Test.YtmchephokleffaaDoorWEqStruct
import Derived.Test.YtmchephokleffaaDoorWRepsOne
import Derived.Test.YtmchephokleffaaDoorWInv
import Derived.Test.YtmchephokleffaaDoorWInvWords
import Derived.Test.YtmchephokleffaaDoorWGuard
import Derived.Test.YtmchephokleffaaDoorWNEv
import Derived.Test.YtmchephokleffaaDoorWMore
namespace Go.Proofs.YtmchephokleffaaDoor.PRecord
open Go.RowKit Go.Proofs.YtmchephokleffaaDoorW.PrintWords Go.Proofs.YtmchephokleffaaDoorW.PrintLast Go.Proofs.YtmchephokleffaaDoorW.PrintMore
attribute [local go_sem] max2_int min2_int max_two min_two max_three min_three max_four min_four   -- for this text's walks alone
set_option linter.unusedVariables false
set_option linter.unusedSimpArgs false



def errW : Option Int → Value
  | none => .nilIface
  | some c => .iface 0 (.int .i64 c)
theorem errW_none : errW none = .nilIface := rfl
theorem errW_some (c : Int) : errW (some c) = .iface 0 (.int .i64 c) := rfl

theorem info5 : (Tryd.prog.info? 5).map (fun i => (i.zero, i.size, i.bytes)) = some (some (.int .u8 0), 1, 1) := by kernel_rfl
-- the values' own types

end Go.Proofs.YtmchephokleffaaDoor.PRecord
