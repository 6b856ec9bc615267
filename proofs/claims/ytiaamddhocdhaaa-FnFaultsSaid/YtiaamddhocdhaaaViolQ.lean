/- Contract of l10Pair. -/
import Derived.Test.YtiaamddhocdhaaaViolP
namespace Go.Proofs.Ytiaamddhocdhaaa
open Go.ChangeShapes Go.WideShapes Go.ChangeAt Go.RowKit
set_option linter.unusedVariables false


end Go.Proofs.Ytiaamddhocdhaaa
