/- ParseRule, plain: the fields that the program reads. -/
import Derived.Test.YtkfpciggolkjeaaGreatDoorRuleP
namespace Go.Proofs.YtkfpciggolkjeaaGreatDoor
open Go.ChangeShapes Go.WideShapes Go.ChangeAt Go.RowKit
set_option linter.unusedVariables false

/-- The fields' cells behind n words. -/
noncomputable def flds (p : ProjT) (ws : List ByteArray) (n : Nat) : List Value := [.int .i64 (fldAt p ws n 1), .int .i64 (fldAt p ws n 2), .int .i64 (fldAt p ws n 3)]
theorem flds_one (p : ProjT) (ws : List ByteArray) : flds p ws 1 = [.int .i64 0, .int .i64 0, .int .i64 0] := by simp [flds, fldAt]
theorem flds_step (p : ProjT) (ws : List ByteArray) {k : Nat} (hk : k ≤ 2) : (flds p ws (k + 1)).set k (.int .i64 (fldV p (ws.getD (k + 1) ⟨#[]⟩))) = flds p ws (k + 2) := by
  have e : k = 0 ∨ k = 1 ∨ k = 2 := by omega
  rcases e with rfl | rfl | rfl <;> simp [flds, fldAt]
theorem fld_yes {p : ProjT} {w : ByteArray} (h : (parseV w).2 = true) : fldV p w = (parseV w).1 := by unfold fldV; rw [if_pos h]
theorem fld_no {p : ProjT} {w : ByteArray} (h : (parseV w).2 = false) : fldV p w = actIndex p.2.1 w := by unfold fldV; rw [if_neg (by rw [h]; decide)]
end Go.Proofs.YtkfpciggolkjeaaGreatDoor
