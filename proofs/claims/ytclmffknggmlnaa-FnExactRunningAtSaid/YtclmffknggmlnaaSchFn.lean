/- Contracts of EndTime, Makespan, ConsumptionOf. -/
import Derived.Test.YtclmffknggmlnaaMode
import Derived.Test.YtclmffknggmlnaaRuleOk
namespace Go.Proofs.Ytclmffknggmlnaa
open Go.ChangeShapes Go.WideShapes Go.ChangeAt Go.RowKit
set_option linter.unusedVariables false

def endTimeV (p : ProjT) (s : SchT) (a : Int) : Int := if schFormB p s && inBv a 0 ((p.2.1.length : Int) - 1) then endOf p s a.toNat else -1
def endMax (p : ProjT) (s : SchT) : Nat → Int
  | 0 => 0
  | k + 1 => maxI (endMax p s k) (endOf p s k)
def makespanV (p : ProjT) (s : SchT) : Int := if schFormB p s then endMax p s p.2.1.length else -1
theorem endMax_bd {p : ProjT} {s : SchT} (h : schFormB p s = true) : ∀ k, k ≤ p.2.1.length → 0 ≤ endMax p s k ∧ endMax p s k ≤ 72 := by
  intro k
  induction k with
  | zero => intro _; simp [endMax]
  | succ k ih =>
    intro hk
    have h1 := ih (by omega)
    have h2 := endOf_bd h (show k < p.2.1.length by omega)
    simp only [endMax, maxI]
    split <;> omega
theorem endMax_one {p : ProjT} {s : SchT} (h : schFormB p s = true) (hk : 0 < p.2.1.length) : endMax p s 1 = maxI (-1) (endOf p s 0) := by
  have h2 := endOf_bd h hk
  show maxI 0 (endOf p s 0) = maxI (-1) (endOf p s 0)
  unfold maxI
  rw [if_neg (by omega), if_neg (by omega)]
def consTo (p : ProjT) (s : SchT) (st : Nat) : Nat → Int
  | 0 => 0
  | k + 1 => consTo p s st k + (modeOf p s k).2.2.getD st 0
def consV (p : ProjT) (s : SchT) (st : Int) : Int := if schFormB p s && inBv st 0 ((p.2.2.2.2.length : Int) - 1) then consTo p s st.toNat p.2.1.length else 0
theorem consTo_bd {p : ProjT} {s : SchT} {st : Nat} (h : schFormB p s = true) (hs : st < p.2.2.2.2.length) : ∀ k, k ≤ p.2.1.length → 0 ≤ consTo p s st k ∧ consTo p s st k ≤ 20 * k := by
  intro k
  induction k with
  | zero => intro _; simp [consTo]
  | succ k ih =>
    intro hk
    have h1 := ih (by omega)
    have h2 := (modeOk_bd (modeOf_ok h (show k < p.2.1.length by omega))).2.2.2.2.2 st hs
    simp only [consTo]
    omega







end Go.Proofs.Ytclmffknggmlnaa
