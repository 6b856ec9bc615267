/- Contracts of ActivityOk. -/
import Derived.Test.YtjeeajgijdcdbaaName
namespace Go.Proofs.Ytjeeajgijdcdbaa
open Go.ChangeShapes Go.WideShapes Go.ChangeAt Go.RowKit
set_option linter.unusedVariables false



end Go.Proofs.Ytjeeajgijdcdbaa
