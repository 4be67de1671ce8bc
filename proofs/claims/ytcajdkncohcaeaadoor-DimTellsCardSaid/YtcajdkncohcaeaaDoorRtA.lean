import Derived.Test.YtcajdkncohcaeaaDoorProg
import Derived.Below
import Derived.Deep.Draws
import Derived.Deep.AppendLies
import Derived.Maps.AppendAt
import Derived.OwnWalk
import Derived.Laws.BytesArg
import Derived.Laws.MakeOwn
import Derived.Laws.OwnMore
import Derived.Deep.OwnRows
import Derived.Tactics
import Derived.Lib.ConvBytes
import Derived.Laws.Slices
import Derived.WalkKit
import Derived.KernelRfl
import Derived.RowKit3
import Derived.Deep.LoopGhost
import Derived.Deep.QuietTactic
import Derived.BigQuiet
import Derived.WideLaws
import Derived.Deep.DeepCutAuto
import Derived.Deep.CutBlock
import Derived.Deep.RegionHeld3
import Derived.Laws.Rows
import Derived.Lib.AppendStr
import Derived.ArgAppend
import Derived.Laws.IdiomCopy
import Derived.OrdersHeld
import Derived.Laws.BitsLemmas
import Derived.RowKit
import Derived.Test.YtcajdkncohcaeaaDoorWWords
import Derived.Test.YtcajdkncohcaeaaDoorWLast
import Derived.Test.YtcajdkncohcaeaaDoorWTab
import Derived.Test.YtcajdkncohcaeaaDoorWFour
import Derived.Test.YtcajdkncohcaeaaDoorWQPut
import Derived.Test.YtcajdkncohcaeaaDoorWApart
import Derived.Test.YtcajdkncohcaeaaDoorWArr
import Derived.Test.YtcajdkncohcaeaaDoorWZeros
import Derived.Test.YtcajdkncohcaeaaDoorWFoot
import Derived.Test.YtcajdkncohcaeaaDoorWKept
import Derived.Test.YtcajdkncohcaeaaDoorWShare
import Derived.Test.YtcajdkncohcaeaaDoorWN
import Derived.Test.YtcajdkncohcaeaaDoorWFootNe
import Derived.Test.YtcajdkncohcaeaaDoorWAt
import Derived.Test.YtcajdkncohcaeaaDoorWEqStruct
import Derived.Test.YtcajdkncohcaeaaDoorWRepsOne
import Derived.Test.YtcajdkncohcaeaaDoorWInv
import Derived.Test.YtcajdkncohcaeaaDoorWInvWords
import Derived.Test.YtcajdkncohcaeaaDoorWGuard
import Derived.Test.YtcajdkncohcaeaaDoorWNEv
import Derived.Test.YtcajdkncohcaeaaDoorWMore
namespace Go.Proofs.YtcajdkncohcaeaaDoor.Rt
open Go.RowKit Go.Proofs.YtcajdkncohcaeaaDoorW.PrintWords Go.Proofs.YtcajdkncohcaeaaDoorW.PrintLast Go.Proofs.YtcajdkncohcaeaaDoorW.PrintMore
attribute [local go_sem] max2_int min2_int max_two min_two max_three min_three max_four min_four   -- for this text's walks alone
set_option linter.unusedVariables false
set_option linter.unusedSimpArgs false



def errW : Option Int → Value
  | none => .nilIface
  | some c => .iface 0 (.int .i64 c)
theorem errW_none : errW none = .nilIface := rfl
theorem errW_some (c : Int) : errW (some c) = .iface 0 (.int .i64 c) := rfl

theorem info5 : (Tryd.prog.info? 5).map (fun i => (i.zero, i.size, i.bytes)) = some (some (.int .u8 0), 1, 1) := by kernel_rfl
theorem info133 : (Tryd.prog.info? 133).map (fun i => (i.zero, i.size, i.bytes)) = some (some (.int .u32 0), 1, 4) := by kernel_rfl
-- the values' own types

end Go.Proofs.YtcajdkncohcaeaaDoor.Rt
