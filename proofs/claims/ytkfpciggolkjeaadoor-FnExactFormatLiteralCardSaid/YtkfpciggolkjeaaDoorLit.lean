/- Contracts over one literal: toLiteral, eqLiteral, Negate, CompareLiterals. -/
import Derived.Test.YtkfpciggolkjeaaDoorIn
import Derived.Test.YtkfpciggolkjeaaDoorReps
namespace Go.Proofs.YtkfpciggolkjeaaDoor
open Go.ChangeShapes Go.WideShapes Go.ChangeAt Go.RowKit
set_option linter.unusedVariables false


theorem toLiteral_any (k a v : Int) (w : World) :
    Calls Tryd.prog 8 #[.agg #[.int .i64 k, .int .i64 a, .int .i64 v]] w fun e w' => e = .returned (.agg #[.int .i64 k, .int .i64 a, .int .i64 v]) ∧ Bel w w' := by
  go_enter Tryd.func8, Tryd.ntmps8
  go_wp2
  exact bodyPost_ret (v := .agg #[.int .i64 k, .int .i64 a, .int .i64 v]) (by simp [results, Tryd.results8, go_sem]) rfl ⟨rfl, by repeat (first | exact Bel.refl _ | apply Bel.drew | apply Bel.alloc)⟩

theorem toLiteral_lit (x : LitT) (w : World) :
    Calls Tryd.prog 8 #[.agg #[.int .i64 x.1, .int .i64 x.2.1, .int .i64 x.2.2]] w fun e w' => e = .returned (.agg #[.int .i64 x.1, .int .i64 x.2.1, .int .i64 x.2.2]) ∧ Bel w w' := toLiteral_any _ _ _ w

def eqLitB (k a v k' a' v' : Int) : Bool := k == k' && (a == a' && v == v')


def negL (k a v : Int) : Int × Int × Int :=
  if inB v (-100000) 100000 then
    if k = 1 then (2, a, v - 1) else if k = 2 then (1, a, v + 1) else if k = 3 then (4, a, v) else if k = 4 then (3, a, v) else (0, 0, 0)
  else (0, 0, 0)
def litV (t : Int × Int × Int) : Value := .agg #[.int .i64 t.1, .int .i64 t.2.1, .int .i64 t.2.2]






theorem eqLitB_self (a b c : Int) : eqLitB a b c a b c = true := by simp [eqLitB]

end Go.Proofs.YtkfpciggolkjeaaDoor
