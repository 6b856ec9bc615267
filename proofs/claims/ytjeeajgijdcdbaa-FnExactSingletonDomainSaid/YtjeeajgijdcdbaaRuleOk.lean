/- Contracts of hasResource, hasStock, IsMachine, RuleOk. -/
import Derived.Test.YtjeeajgijdcdbaaProjOk
import Derived.Test.YtjeeajgijdcdbaaHolds
namespace Go.Proofs.Ytjeeajgijdcdbaa
open Go.ChangeShapes Go.WideShapes Go.ChangeAt Go.RowKit
set_option linter.unusedVariables false



def machB (p : ProjT) (a : Int) : Bool := inBv a 0 ((p.2.2.2.1.length : Int) - 1) && decide (0 < (p.2.2.2.1.getD a.toNat zRes).2.length)
/-- What is asked of a rule of a well formed project. -/
def ruleAt (p : ProjT) (k a b c : Int) : Bool :=
  if k = 1 then inBv a 0 ((p.2.2.1.length : Int) - 1) && (decide (b = 0) && decide (c = 0))
  else if k = 2 then inBv a 0 ((p.2.1.length : Int) - 1) && (decide (b = 0) && decide (c = 0))
  else if k = 3 then inBv a 0 ((p.2.2.2.1.length : Int) - 1) && (inBv b 0 60 && decide (c = 0))
  else if k = 4 then inBv a 0 ((p.2.2.2.1.length : Int) - 1) && (inBv b 0 60 && (inBv c 0 60 && decide (b < c)))
  else if k = 5 then machB p a && (inBv b 0 ((p.2.1.length : Int) - 1) && (inBv c 0 ((p.2.1.length : Int) - 1) && decide (b < c)))
  else if k = 6 then inBv a 0 ((p.2.2.2.2.length : Int) - 1) && (decide (b = 0) && decide (c = 0))
  else false
def ruleOkB (p : ProjT) (r : RuleT) : Bool := projOk p && ruleAt p r.1 r.2.1 r.2.2.1 r.2.2.2





end Go.Proofs.Ytjeeajgijdcdbaa
