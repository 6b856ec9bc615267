/- Contracts of linkOk and of the search among links. -/
import Derived.Test.YtjeeajgijdcdbaaActIdx
namespace Go.Proofs.Ytjeeajgijdcdbaa
open Go.ChangeShapes Go.WideShapes Go.ChangeAt Go.RowKit
set_option linter.unusedVariables false






end Go.Proofs.Ytjeeajgijdcdbaa
