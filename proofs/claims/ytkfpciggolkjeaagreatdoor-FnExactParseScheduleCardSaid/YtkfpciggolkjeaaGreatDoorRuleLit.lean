/- toRule on a rule given by value. -/
import Derived.Test.YtkfpciggolkjeaaGreatDoorIn
import Derived.Test.YtkfpciggolkjeaaGreatDoorReps
namespace Go.Proofs.YtkfpciggolkjeaaGreatDoor
open Go.ChangeShapes Go.WideShapes Go.ChangeAt Go.RowKit
set_option linter.unusedVariables false

theorem toRule_any (k a v c : Int) (w : World) :
    Calls Tryz.prog 10 #[.agg #[.int .i64 k, .int .i64 a, .int .i64 v, .int .i64 c]] w fun e w' => e = .returned (.agg #[.int .i64 k, .int .i64 a, .int .i64 v, .int .i64 c]) ∧ Bel w w' := by
  go_enter Tryz.func10, Tryz.ntmps10
  go_wp2
  exact bodyPost_ret (v := .agg #[.int .i64 k, .int .i64 a, .int .i64 v, .int .i64 c]) (by simp [results, Tryz.results10, go_sem]) rfl ⟨rfl, by (repeat (first | exact Bel.refl _ | apply Bel.drew | apply Bel.alloc | refine Bel.set ?_ (by first | exact Nat.le_refl _ | exact Nat.le_add_right _ _ | (simp; omega)) _))⟩
theorem toRule_lit (x : RuleT) (w : World) :
    Calls Tryz.prog 10 #[.agg #[.int .i64 x.1, .int .i64 x.2.1, .int .i64 x.2.2.1, .int .i64 x.2.2.2]] w fun e w' => e = .returned (.agg #[.int .i64 x.1, .int .i64 x.2.1, .int .i64 x.2.2.1, .int .i64 x.2.2.2]) ∧ Bel w w' := toRule_any _ _ _ _ w
end Go.Proofs.YtkfpciggolkjeaaGreatDoor
