/- The rows of a slice of rows, in cells. -/
import Derived.Test.YtclmffknggmlnaaHas
namespace Go.Proofs.Ytclmffknggmlnaa
open Go.ChangeShapes Go.WideShapes Go.ChangeAt Go.RowKit
set_option linter.unusedVariables false

/-- The cell of the i-th row of a slice of rows: the row's own slice. -/
theorem rowsR_at {S : Nat → Prop} {w : World} {v : Value} {xs : List (List Int)} (h : rowsR S w [v] xs) {i : Nat} (hi : i < xs.length) :
    ∃ b off p cap, sliceAddr v = some ⟨b, off, none⟩ ∧ w.cell? ⟨b, off + i, none⟩ = some (.slice p (xs.getD i []).length cap) ∧ (xs.getD i []).length ≤ cap ∧ cap ≤ maxLen ∧ intsR S w [.slice p (xs.getD i []).length cap] (xs.getD i []) := by
  obtain ⟨p', cap', rfl, _, _, h4⟩ := sliceR_open h
  obtain ⟨b, off, ecs, e1, e2, e3, e4, e5⟩ := h4 i hi
  have e7 : xs.getD i [] = xs[i] := by simp [List.getD, hi]
  rw [e7]
  have e6 := e5
  obtain ⟨p, cap, rfl, l1, l2, _⟩ := e5
  have := (e4 0 (by simp)).1
  simp only [List.getElem_cons_zero, Nat.mul_one, Nat.add_zero] at this
  exact ⟨b, off, p, cap, e1, this, l1, l2, e6⟩

end Go.Proofs.Ytclmffknggmlnaa
