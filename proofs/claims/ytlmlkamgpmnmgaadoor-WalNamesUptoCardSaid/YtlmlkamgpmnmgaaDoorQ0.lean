-- cut by cutp.py out of a text that print.sh wrote
import Derived.Test.YtlmlkamgpmnmgaaDoorProg
import Derived.Below
import Derived.Deep.Draws
import Derived.Deep.AppendLies
import Derived.Maps.AppendAt
import Derived.OwnWalk
import Derived.Laws.BytesArg
import Derived.Laws.MakeOwn
import Derived.Laws.OwnMore
import Derived.Deep.OwnRows
import Derived.Tactics
import Derived.Lib.ConvBytes
import Derived.Laws.Slices
import Derived.WalkKit
import Derived.KernelRfl
import Derived.RowKit3
import Derived.Deep.LoopGhost
import Derived.Deep.QuietTactic
import Derived.BigQuiet
import Derived.WideLaws
import Derived.Deep.DeepCutAuto
import Derived.Deep.CutBlock
import Derived.Deep.RegionHeld3
import Derived.Laws.Rows
import Derived.Lib.AppendStr
import Derived.ArgAppend
import Derived.Laws.IdiomCopy
import Derived.OrdersHeld
import Derived.Laws.BitsLemmas
import Derived.RowKit
import Derived.Test.YtlmlkamgpmnmgaaDoorWWords
import Derived.Test.YtlmlkamgpmnmgaaDoorWLast
import Derived.Test.YtlmlkamgpmnmgaaDoorWTab
import Derived.Test.YtlmlkamgpmnmgaaDoorWFour
import Derived.Test.YtlmlkamgpmnmgaaDoorWQPut
import Derived.Test.YtlmlkamgpmnmgaaDoorWApart
import Derived.Test.YtlmlkamgpmnmgaaDoorWArr
import Derived.Test.YtlmlkamgpmnmgaaDoorWZeros
import Derived.Test.YtlmlkamgpmnmgaaDoorWFoot
import Derived.Test.YtlmlkamgpmnmgaaDoorWKept
import Derived.Test.YtlmlkamgpmnmgaaDoorWShare
import Derived.Test.YtlmlkamgpmnmgaaDoorWN
import Derived.Test.YtlmlkamgpmnmgaaDoorWFootNe
import Derived.Test.YtlmlkamgpmnmgaaDoorWAt
import Derived.Test.YtlmlkamgpmnmgaaDoorWEqStruct
import Derived.Test.YtlmlkamgpmnmgaaDoorWRepsOne
import Derived.Test.YtlmlkamgpmnmgaaDoorWInv
import Derived.Test.YtlmlkamgpmnmgaaDoorWInvWords
import Derived.Test.YtlmlkamgpmnmgaaDoorWGuard
import Derived.Test.YtlmlkamgpmnmgaaDoorWNEv
import Derived.Test.YtlmlkamgpmnmgaaDoorWMore
namespace Go.Proofs.YtlmlkamgpmnmgaaDoor.PWalNames
open Go.RowKit Go.Proofs.YtlmlkamgpmnmgaaDoorW.PrintWords Go.Proofs.YtlmlkamgpmnmgaaDoorW.PrintLast Go.Proofs.YtlmlkamgpmnmgaaDoorW.PrintMore
attribute [local go_sem] max2_int min2_int max_two min_two max_three min_three max_four min_four   -- for this text's walks alone
set_option linter.unusedVariables false
set_option linter.unusedSimpArgs false



def errW : Option Int → Value
  | none => .nilIface
  | some c => .iface 77 (.int .i64 c)
theorem errW_none : errW none = .nilIface := rfl
theorem errW_some (c : Int) : errW (some c) = .iface 77 (.int .i64 c) := rfl

theorem info5 : (Tryd.prog.info? 5).map (fun i => (i.zero, i.size, i.bytes)) = some (some (.int .u8 0), 1, 1) := by kernel_rfl
-- the values' own types

end Go.Proofs.YtlmlkamgpmnmgaaDoor.PWalNames
