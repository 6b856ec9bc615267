/- Contracts of ResourceOk. -/
import Derived.Test.YtjeeajgijdcdbaaSteps
import Derived.Test.YtjeeajgijdcdbaaHas
namespace Go.Proofs.Ytjeeajgijdcdbaa
open Go.ChangeShapes Go.WideShapes Go.ChangeAt Go.RowKit
set_option linter.unusedVariables false



end Go.Proofs.Ytjeeajgijdcdbaa
