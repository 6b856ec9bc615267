/- Equality of a rule with itself, of a literal with itself. -/
import Derived.Test.YtkfpciggolkjeaaGreatDoorEq
namespace Go.Proofs.YtkfpciggolkjeaaGreatDoor
open Go.ChangeShapes Go.WideShapes Go.ChangeAt Go.RowKit
set_option linter.unusedVariables false

theorem eqRule_self (k a b c : Int) (w : World) :
    Calls Tryz.prog 18 #[.agg #[.int .i64 k, .int .i64 a, .int .i64 b, .int .i64 c], .agg #[.int .i64 k, .int .i64 a, .int .i64 b, .int .i64 c]] w fun e w' => e = .returned (.bool true) ∧ Bel w w' := by
  have h1 : (k != k) = false := bne_self_eq_false k
  have h2 : (a != a) = false := bne_self_eq_false a
  have h3 : (b != b) = false := bne_self_eq_false b
  have h4 : (c != c) = false := bne_self_eq_false c
  go_enter Tryz.func18, Tryz.ntmps18
  go_wp2
  go_ret
  exact ⟨rfl, by repeat (first | exact Bel.refl _ | apply Bel.drew | apply Bel.alloc)⟩
theorem eqLiteral_self (k a v : Int) (w : World) :
    Calls Tryz.prog 15 #[.agg #[.int .i64 k, .int .i64 a, .int .i64 v], .agg #[.int .i64 k, .int .i64 a, .int .i64 v]] w fun e w' => e = .returned (.bool true) ∧ Bel w w' := by
  have h1 : (k != k) = false := bne_self_eq_false k
  have h2 : (a != a) = false := bne_self_eq_false a
  have h3 : (v != v) = false := bne_self_eq_false v
  go_enter Tryz.func15, Tryz.ntmps15
  go_wp2
  go_ret
  exact ⟨rfl, by repeat (first | exact Bel.refl _ | apply Bel.drew | apply Bel.alloc)⟩
end Go.Proofs.YtkfpciggolkjeaaGreatDoor
