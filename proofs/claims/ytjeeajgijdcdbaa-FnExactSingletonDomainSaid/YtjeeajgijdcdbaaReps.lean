/- The data of the given program, as they lie in cells. No program. -/
import Derived.Test.YtjeeajgijdcdbaaOpen
namespace Go.Proofs.Ytjeeajgijdcdbaa
open Go.RowKit

abbrev IntsT := List Int
abbrev LitT := Int × Int × Int
abbrev SchT := List Int × List Int
abbrev DomT := List Int × List Int × List (List Int)
abbrev StepT := Int × Int
abbrev ModeT := Int × List Int × List Int
abbrev ActT := ByteArray × Int × List ModeT
abbrev ResT := List StepT × List (List Int)
abbrev LinkT := Int × Int × Bool × Int
abbrev ProjT := Int × List ActT × List LinkT × List ResT × List Int
abbrev RuleT := Int × Int × Int × Int

instance instDecActT : DecidableEq ActT := fun a b => @instDecidableEqProd _ _ ByteArray.instDecidableEq inferInstance a b
instance instDecActs : DecidableEq (List ActT) := fun a b => @instDecidableEqList _ instDecActT a b
instance instDecLink : DecidableEq LinkT := inferInstance
instance instDecLinks : DecidableEq (List LinkT) := fun a b => @instDecidableEqList _ instDecLink a b
instance instDecRes : DecidableEq ResT := inferInstance
instance instDecRess : DecidableEq (List ResT) := fun a b => @instDecidableEqList _ instDecRes a b
instance instDecP4 : DecidableEq (List ResT × List Int) := fun a b => @instDecidableEqProd _ _ instDecRess inferInstance a b
instance instDecP3 : DecidableEq (List LinkT × List ResT × List Int) := fun a b => @instDecidableEqProd _ _ instDecLinks instDecP4 a b
instance instDecP2 : DecidableEq (List ActT × List LinkT × List ResT × List Int) := fun a b => @instDecidableEqProd _ _ instDecActs instDecP3 a b
instance instDecProjT : DecidableEq ProjT := fun a b => @instDecidableEqProd _ _ inferInstance instDecP2 a b

def intsR : RepT IntsT := sliceR 1 intR
def litR : RepT LitT := consR intR (consR intR intR)
def litsR : RepT (List LitT) := sliceR 3 litR
def schR : RepT SchT := consR intsR intsR
def rowsR : RepT (List (List Int)) := sliceR 1 intsR
def domR : RepT DomT := consR intsR (consR intsR rowsR)
def stepR : RepT StepT := consR intR intR
def stepsR : RepT (List StepT) := sliceR 2 stepR
def modeR : RepT ModeT := consR intR (consR intsR intsR)
def modesR : RepT (List ModeT) := sliceR 3 modeR
def actR : RepT ActT := consR strR (consR intR modesR)
def actsR : RepT (List ActT) := sliceR 3 actR
def resR : RepT ResT := consR stepsR rowsR
def ressR : RepT (List ResT) := sliceR 2 resR
def linkR : RepT LinkT := consR intR (consR intR (consR boolR intR))
def linksR : RepT (List LinkT) := sliceR 4 linkR
def projR : RepT ProjT := consR intR (consR actsR (consR linksR (consR ressR intsR)))
def ruleR : RepT RuleT := consR intR (consR intR (consR intR intR))
def rulesR : RepT (List RuleT) := sliceR 4 ruleR

theorem intsR_good : Good intsR := sliceR_good intR_good
theorem litR_good : Good litR := consR_good intR_good (consR_good intR_good intR_good)
theorem litsR_good : Good litsR := sliceR_good litR_good
theorem schR_good : Good schR := consR_good intsR_good intsR_good
theorem rowsR_good : Good rowsR := sliceR_good intsR_good
theorem domR_good : Good domR := consR_good intsR_good (consR_good intsR_good rowsR_good)
theorem stepR_good : Good stepR := consR_good intR_good intR_good
theorem stepsR_good : Good stepsR := sliceR_good stepR_good
theorem modeR_good : Good modeR := consR_good intR_good (consR_good intsR_good intsR_good)
theorem modesR_good : Good modesR := sliceR_good modeR_good
theorem actR_good : Good actR := consR_good strR_good (consR_good intR_good modesR_good)
theorem actsR_good : Good actsR := sliceR_good actR_good
theorem resR_good : Good resR := consR_good stepsR_good rowsR_good
theorem ressR_good : Good ressR := sliceR_good resR_good
theorem linkR_good : Good linkR := consR_good intR_good (consR_good intR_good (consR_good boolR_good intR_good))
theorem linksR_good : Good linksR := sliceR_good linkR_good
theorem projR_good : Good projR := consR_good intR_good (consR_good actsR_good (consR_good linksR_good (consR_good ressR_good intsR_good)))
theorem ruleR_good : Good ruleR := consR_good intR_good (consR_good intR_good (consR_good intR_good intR_good))
theorem rulesR_good : Good rulesR := sliceR_good ruleR_good
end Go.Proofs.Ytjeeajgijdcdbaa

/- How much an argument counts in the laws (bulk), and what is left. No program. -/
namespace Go.Proofs.Ytjeeajgijdcdbaa
open Go.RowKit
set_option linter.unusedVariables false

def sumL (l : List Nat) : Nat := l.foldr (· + ·) 0
theorem sumL_cons (a : Nat) (l : List Nat) : sumL (a :: l) = a + sumL l := rfl
theorem sumL_append : ∀ (a b : List Nat), sumL (a ++ b) = sumL a + sumL b
  | [], b => by simp [sumL]
  | x :: a, b => by rw [List.cons_append, sumL_cons, sumL_cons, sumL_append a b]; omega
theorem sumL_take {α : Type} (f : α → Nat) (xs : List α) (k : Nat) (h : k < xs.length) : sumL ((xs.take (k + 1)).map f) = sumL ((xs.take k).map f) + f xs[k] := by
  rw [List.take_succ_eq_append_getElem h, List.map_append, sumL_append]
  simp [sumL]
theorem sumL_take_le {α : Type} (f : α → Nat) (xs : List α) (k : Nat) : sumL ((xs.take k).map f) ≤ sumL (xs.map f) := by
  have h : xs.map f = (xs.take k).map f ++ (xs.drop k).map f := by rw [← List.map_append, List.take_append_drop]
  rw [h, sumL_append]; omega
theorem le_sumL {α : Type} (f : α → Nat) (xs : List α) (k : Nat) (h : k < xs.length) : f xs[k] ≤ sumL (xs.map f) := by
  have h1 := sumL_take f xs k h
  have h2 := sumL_take_le f xs (k + 1)
  omega

/-- What is left of the allowance, or -1. -/
def szN (b : Nat) (left : Int) : Int := if left < b then -1 else left - b
theorem szN_ok {b : Nat} {left : Int} (h : (b : Int) ≤ left) : szN b left = left - b := by unfold szN; rw [if_neg (by omega)]
theorem szN_no {b : Nat} {left : Int} (h : left < b) : szN b left = -1 := by unfold szN; rw [if_pos h]

def bulkLiteralS (xs : List (LitT)) : Nat := xs.length
def bulkStepS (xs : List (StepT)) : Nat := xs.length
def bulkLinkS (xs : List (LinkT)) : Nat := xs.length
def bulkRuleS (xs : List (RuleT)) : Nat := xs.length
def bulkIntS (xs : List (Int)) : Nat := xs.length
def bulkIntSS (xs : List (List Int)) : Nat := xs.length + sumL (xs.map bulkIntS)
def bulkSchedule (x : SchT) : Nat := bulkIntS x.1 + bulkIntS x.2
def bulkDomain (x : DomT) : Nat := bulkIntS x.1 + bulkIntS x.2.1 + bulkIntSS x.2.2
def bulkMode (x : ModeT) : Nat := bulkIntS x.2.1 + bulkIntS x.2.2
def bulkModeS (xs : List (ModeT)) : Nat := xs.length + sumL (xs.map bulkMode)
def bulkActivity (x : ActT) : Nat := (x.1).size + bulkModeS x.2.2
def bulkActivityS (xs : List (ActT)) : Nat := xs.length + sumL (xs.map bulkActivity)
def bulkResource (x : ResT) : Nat := bulkStepS x.1 + bulkIntSS x.2
def bulkResourceS (xs : List (ResT)) : Nat := xs.length + sumL (xs.map bulkResource)
def bulkProject (x : ProjT) : Nat := bulkActivityS x.2.1 + bulkLinkS x.2.2.1 + bulkResourceS x.2.2.2.1 + bulkIntS x.2.2.2.2
end Go.Proofs.Ytjeeajgijdcdbaa
