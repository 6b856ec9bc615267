/- toRule on a rule given by value. -/
import Derived.Test.YtkfmohcfgpfjkaaIn
import Derived.Test.YtkfmohcfgpfjkaaReps
namespace Go.Proofs.Ytkfmohcfgpfjkaa
open Go.ChangeShapes Go.WideShapes Go.ChangeAt Go.RowKit
set_option linter.unusedVariables false

theorem toRule_any (k a v c : Int) (w : World) :
    Calls Try.prog 25 #[.agg #[.int .i64 k, .int .i64 a, .int .i64 v, .int .i64 c]] w fun e w' => e = .returned (.agg #[.int .i64 k, .int .i64 a, .int .i64 v, .int .i64 c]) ∧ Bel w w' := by
  go_enter Try.func25, Try.ntmps25
  go_wp2
  exact bodyPost_ret (v := .agg #[.int .i64 k, .int .i64 a, .int .i64 v, .int .i64 c]) (by simp [results, Try.results25, go_sem]) rfl ⟨rfl, by (repeat (first | exact Bel.refl _ | apply Bel.drew | apply Bel.alloc | refine Bel.set ?_ (by first | exact Nat.le_refl _ | exact Nat.le_add_right _ _ | (simp; omega)) _))⟩
theorem toRule_lit (x : RuleT) (w : World) :
    Calls Try.prog 25 #[.agg #[.int .i64 x.1, .int .i64 x.2.1, .int .i64 x.2.2.1, .int .i64 x.2.2.2]] w fun e w' => e = .returned (.agg #[.int .i64 x.1, .int .i64 x.2.1, .int .i64 x.2.2.1, .int .i64 x.2.2.2]) ∧ Bel w w' := toRule_any _ _ _ _ w
end Go.Proofs.Ytkfmohcfgpfjkaa
