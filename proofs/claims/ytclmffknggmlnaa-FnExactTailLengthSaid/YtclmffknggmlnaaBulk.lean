/- How much an argument counts in the laws (bulk), and what is left. No program. -/
import Derived.Test.YtclmffknggmlnaaReps
namespace Go.Proofs.Ytclmffknggmlnaa
open Go.RowKit
set_option linter.unusedVariables false

def sumL (l : List Nat) : Nat := l.foldr (· + ·) 0
theorem sumL_cons (a : Nat) (l : List Nat) : sumL (a :: l) = a + sumL l := rfl
theorem sumL_append : ∀ (a b : List Nat), sumL (a ++ b) = sumL a + sumL b
  | [], b => by simp [sumL]
  | x :: a, b => by rw [List.cons_append, sumL_cons, sumL_cons, sumL_append a b]; omega
theorem sumL_take {α : Type} (f : α → Nat) (xs : List α) (k : Nat) (h : k < xs.length) : sumL ((xs.take (k + 1)).map f) = sumL ((xs.take k).map f) + f xs[k] := by
  rw [List.take_succ_eq_append_getElem h, List.map_append, sumL_append]
  simp [sumL]
theorem sumL_take_le {α : Type} (f : α → Nat) (xs : List α) (k : Nat) : sumL ((xs.take k).map f) ≤ sumL (xs.map f) := by
  have h : xs.map f = (xs.take k).map f ++ (xs.drop k).map f := by rw [← List.map_append, List.take_append_drop]
  rw [h, sumL_append]; omega
theorem le_sumL {α : Type} (f : α → Nat) (xs : List α) (k : Nat) (h : k < xs.length) : f xs[k] ≤ sumL (xs.map f) := by
  have h1 := sumL_take f xs k h
  have h2 := sumL_take_le f xs (k + 1)
  omega

/-- What is left of the allowance, or -1. -/
def szN (b : Nat) (left : Int) : Int := if left < b then -1 else left - b
theorem szN_ok {b : Nat} {left : Int} (h : (b : Int) ≤ left) : szN b left = left - b := by unfold szN; rw [if_neg (by omega)]
theorem szN_no {b : Nat} {left : Int} (h : left < b) : szN b left = -1 := by unfold szN; rw [if_pos h]

def bulkLiteralS (xs : List (LitT)) : Nat := xs.length
def bulkStepS (xs : List (StepT)) : Nat := xs.length
def bulkLinkS (xs : List (LinkT)) : Nat := xs.length
def bulkRuleS (xs : List (RuleT)) : Nat := xs.length
def bulkIntS (xs : List (Int)) : Nat := xs.length
def bulkIntSS (xs : List (List Int)) : Nat := xs.length + sumL (xs.map bulkIntS)
def bulkSchedule (x : SchT) : Nat := bulkIntS x.1 + bulkIntS x.2
def bulkDomain (x : DomT) : Nat := bulkIntS x.1 + bulkIntS x.2.1 + bulkIntSS x.2.2
def bulkMode (x : ModeT) : Nat := bulkIntS x.2.1 + bulkIntS x.2.2
def bulkModeS (xs : List (ModeT)) : Nat := xs.length + sumL (xs.map bulkMode)
def bulkActivity (x : ActT) : Nat := (x.1).size + bulkModeS x.2.2
def bulkActivityS (xs : List (ActT)) : Nat := xs.length + sumL (xs.map bulkActivity)
def bulkResource (x : ResT) : Nat := bulkStepS x.1 + bulkIntSS x.2
def bulkResourceS (xs : List (ResT)) : Nat := xs.length + sumL (xs.map bulkResource)
def bulkProject (x : ProjT) : Nat := bulkActivityS x.2.1 + bulkLinkS x.2.2.1 + bulkResourceS x.2.2.2.1 + bulkIntS x.2.2.2.2
end Go.Proofs.Ytclmffknggmlnaa
