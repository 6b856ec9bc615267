/- Contract of l07Ring. -/
import Derived.Test.YtiaamddhocdhaaaRingF
import Derived.Deep.DeepCutAuto
import Derived.Deep.RegionHeld3
namespace Go.Proofs.Ytiaamddhocdhaaa
open Go.ChangeShapes Go.WideShapes Go.ChangeAt Go.RowKit
set_option linter.unusedVariables false



end Go.Proofs.Ytiaamddhocdhaaa
