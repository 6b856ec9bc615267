/- Contracts: isTime, isAmount, areAmounts, l04Nums, ModeOk. -/
import Derived.Test.YtjeeajgijdcdbaaProjF
import Derived.Test.YtjeeajgijdcdbaaHas
namespace Go.Proofs.Ytjeeajgijdcdbaa
open Go.ChangeShapes Go.WideShapes Go.ChangeAt Go.RowKit
set_option linter.unusedVariables false

theorem inB_v (n lo hi : Int) : inB n lo hi = inBv n lo hi := rfl







end Go.Proofs.Ytjeeajgijdcdbaa
