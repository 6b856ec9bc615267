/- l10Fails, kind by kind. -/
import Derived.Test.YtiaamddhocdhaaaViolQ
namespace Go.Proofs.Ytiaamddhocdhaaa
open Go.ChangeShapes Go.WideShapes Go.ChangeAt Go.RowKit
set_option linter.unusedVariables false

theorem nle_dec (a b : Int) : decide (b < a) = !decide (a ≤ b) := by
  by_cases h : b < a
  · rw [decide_eq_true h, decide_eq_false (by omega)]; rfl
  · rw [decide_eq_false h, decide_eq_true (by omega)]; rfl







end Go.Proofs.Ytiaamddhocdhaaa
