import Derived.Test.YtcajdkncohcaeaaDoorVTrM
import Derived.Test.YtcajdkncohcaeaaDoorVLx
import Derived.Lib.SmallJoins
import Derived.Below
namespace Go.Proofs.YtcajdkncohcaeaaDoor
set_option linter.unusedVariables false
set_option linter.unusedSimpArgs false
open Go.ChangeShapes Go.WideShapes Go.ChangeAt Go.RowKit Go.Deep
open GTree (S52 k52)
theorem laidOut : laidOutB Tryd.prog = true := by kernel_rfl
end Go.Proofs.YtcajdkncohcaeaaDoor
