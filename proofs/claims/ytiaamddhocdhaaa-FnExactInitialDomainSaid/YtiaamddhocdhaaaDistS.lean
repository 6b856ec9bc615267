/- The distances, in the reference. -/
import Derived.Test.YtiaamddhocdhaaaDistF
import Derived.Test.YtiaamddhocdhaaaPos
import Derived.Deep.DeepCutAuto
import Derived.Deep.RegionHeld3
import Derived.Deep.DrawnRows
import Derived.Conc.WalkWords
namespace Go.Proofs.Ytiaamddhocdhaaa
open Go.ChangeShapes Go.WideShapes Go.ChangeAt Go.RowKit
set_option linter.unusedVariables false



end Go.Proofs.Ytiaamddhocdhaaa
