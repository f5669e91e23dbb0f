-- Printed by wip/tools/hprint.py of this claim, over the kit's print with functions of its own among them. Lean checks it.
import Derived.Test.YtikdiepcfdimgaaDoorProg
import Derived.Below
import Derived.Deep.Draws
import Derived.Deep.AppendLies
import Derived.Maps.AppendAt
import Derived.OwnWalk
import Derived.Laws.BytesArg
import Derived.Laws.MakeOwn
import Derived.Laws.OwnMore
import Derived.Deep.OwnRows
import Derived.Tactics
import Derived.Lib.ConvBytes
import Derived.Laws.Slices
import Derived.WalkKit
import Derived.KernelRfl
import Derived.RowKit3
import Derived.Deep.LoopGhost
import Derived.Deep.QuietTactic
import Derived.BigQuiet
import Derived.WideLaws
import Derived.Deep.DeepCutAuto
import Derived.Deep.CutBlock
import Derived.Deep.RegionHeld3
import Derived.Laws.Rows
import Derived.Lib.AppendStr
import Derived.ArgAppend
import Derived.Laws.IdiomCopy
import Derived.OrdersHeld
import Derived.Laws.BitsLemmas
import Derived.RowKit
import Derived.Test.YtikdiepcfdimgaaDoorWWords
import Derived.Test.YtikdiepcfdimgaaDoorWLast
import Derived.Test.YtikdiepcfdimgaaDoorWTab
import Derived.Test.YtikdiepcfdimgaaDoorWFour
import Derived.Test.YtikdiepcfdimgaaDoorWQPut
import Derived.Test.YtikdiepcfdimgaaDoorWApart
import Derived.Test.YtikdiepcfdimgaaDoorWArr
import Derived.Test.YtikdiepcfdimgaaDoorWZeros
import Derived.Test.YtikdiepcfdimgaaDoorWFoot
import Derived.Test.YtikdiepcfdimgaaDoorWKept
import Derived.Test.YtikdiepcfdimgaaDoorWShare
import Derived.Test.YtikdiepcfdimgaaDoorWN
import Derived.Test.YtikdiepcfdimgaaDoorWFootNe
import Derived.Test.YtikdiepcfdimgaaDoorWAt
import Derived.Test.YtikdiepcfdimgaaDoorWEqStruct
import Derived.Test.YtikdiepcfdimgaaDoorWRepsOne
import Derived.Test.YtikdiepcfdimgaaDoorWInv
import Derived.Test.YtikdiepcfdimgaaDoorWInvWords
import Derived.Test.YtikdiepcfdimgaaDoorWGuard
import Derived.Test.YtikdiepcfdimgaaDoorWNEv
import Derived.Test.YtikdiepcfdimgaaDoorWMore
namespace Go.Proofs.YtikdiepcfdimgaaDoor.POw
open Go.RowKit Go.Proofs.YtikdiepcfdimgaaDoorW.PrintWords Go.Proofs.YtikdiepcfdimgaaDoorW.PrintLast Go.Proofs.YtikdiepcfdimgaaDoorW.PrintMore
attribute [local go_sem] max2_int min2_int max_two min_two max_three min_three max_four min_four   -- for this text's walks alone
set_option linter.unusedVariables false
set_option linter.unusedSimpArgs false



def errW : Option Int → Value
  | none => .nilIface
  | some c => .iface 0 (.int .i64 c)
theorem errW_none : errW none = .nilIface := rfl
theorem errW_some (c : Int) : errW (some c) = .iface 0 (.int .i64 c) := rfl

theorem info3 : (Tryd.prog.info? 3).map (fun i => (i.zero, i.size, i.bytes)) = some (some (.int .i64 0), 1, 8) := by kernel_rfl
-- the values' own types

end Go.Proofs.YtikdiepcfdimgaaDoor.POw
