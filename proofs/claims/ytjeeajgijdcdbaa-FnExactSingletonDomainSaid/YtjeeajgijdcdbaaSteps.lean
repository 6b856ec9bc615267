/- Contracts of StepsOk. -/
import Derived.Test.YtjeeajgijdcdbaaName
namespace Go.Proofs.Ytjeeajgijdcdbaa
open Go.ChangeShapes Go.WideShapes Go.ChangeAt Go.RowKit
set_option linter.unusedVariables false

theorem stepsOk_no {l : List StepT} {k : Nat} (hk : k < l.length) (h : stepAt l k = false) : stepsOkB l = false := by unfold stepsOkB; rw [all_false hk h]; rfl
theorem stepAt_first {l : List StepT} {a c : Int} (h : l.getD 0 zStep = (a, c)) : stepAt l 0 = (inBv a 0 60 && (inBv c 0 20 && true)) := by unfold stepAt; rw [h]; rfl
theorem stepAt_next {l : List StepT} {m : Nat} {a c p : Int} (h : l.getD (m + 1) zStep = (a, c)) (hp : (l.getD m zStep).1 = p) : stepAt l (m + 1) = (inBv a 0 60 && (inBv c 0 20 && decide (p < a))) := by
  unfold stepAt
  rw [h, show m + 1 - 1 = m from rfl, hp]
  simp



end Go.Proofs.Ytjeeajgijdcdbaa
