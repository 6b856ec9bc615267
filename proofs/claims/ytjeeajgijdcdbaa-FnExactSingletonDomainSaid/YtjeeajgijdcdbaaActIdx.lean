/- Contracts of ActivityIndex. -/
import Derived.Test.YtjeeajgijdcdbaaName
import Derived.Test.YtjeeajgijdcdbaaEq
namespace Go.Proofs.Ytjeeajgijdcdbaa
open Go.ChangeShapes Go.WideShapes Go.ChangeAt Go.RowKit
set_option linter.unusedVariables false





end Go.Proofs.Ytjeeajgijdcdbaa
