/- Contracts of UsageAt, the capacity at a time, IdleCapacity. -/
import Derived.Test.YthkcdmghchikjaaGreatRun
namespace Go.Proofs.YthkcdmghchikjaaGreat
open Go.ChangeShapes Go.WideShapes Go.ChangeAt Go.RowKit
set_option linter.unusedVariables false

def capTo (l : List StepT) (t : Int) : Nat → Int
  | 0 => 0
  | k + 1 => if (l.getD k zStep).1 ≤ t then (l.getD k zStep).2 else capTo l t k
/-- The capacity of steps at a time. -/
def capV (l : List StepT) (t : Int) : Int := capTo l t l.length
theorem capTo_bd {l : List StepT} (h : stepsOkB l = true) (t : Int) : ∀ k, k ≤ l.length → 0 ≤ capTo l t k ∧ capTo l t k ≤ 20 := by
  intro k
  induction k with
  | zero => intro _; simp [capTo]
  | succ k ih =>
    intro hk
    unfold stepsOkB at h
    simp only [Bool.and_eq_true] at h
    have h1 := List.all_eq_true.1 h.1 k (List.mem_range.2 (by omega))
    unfold stepAt at h1
    simp only [inBv, Bool.and_eq_true, decide_eq_true_eq] at h1
    have h2 := ih (by omega)
    simp only [capTo]
    split <;> omega
theorem projOk_steps {p : ProjT} (h : projOk p = true) {r : Nat} (hr : r < p.2.2.2.1.length) : stepsOkB (p.2.2.2.1.getD r zRes).1 = true := by
  unfold projOk at h
  simp only [Bool.and_eq_true] at h
  have h1 := List.all_eq_true.1 h.2.2.1 r (List.mem_range.2 hr)
  unfold resOkB at h1
  simp only [Bool.and_eq_true] at h1
  exact h1.2.1
theorem stepsOk_len {l : List StepT} (h : stepsOkB l = true) : l.length ≤ 8 := by
  unfold stepsOkB at h
  simp only [inBv, Bool.and_eq_true, decide_eq_true_eq] at h
  omega
def idleTo (p : ProjT) (s : SchT) (r : Nat) : Nat → Int
  | 0 => 0
  | k + 1 => idleTo p s r k + maxI 0 (capV (p.2.2.2.1.getD r zRes).1 k - usageV p s r k)
def idleV (p : ProjT) (s : SchT) (r : Int) : Int := if schFormB p s && inBv r 0 ((p.2.2.2.1.length : Int) - 1) then idleTo p s r.toNat (minI (endMax p s p.2.1.length) 60).toNat else 0
theorem idleTo_bd {p : ProjT} {s : SchT} {r : Nat} (h : schFormB p s = true) (hr : r < p.2.2.2.1.length) : ∀ k, 0 ≤ idleTo p s r k ∧ idleTo p s r k ≤ 20 * k := by
  intro k
  induction k with
  | zero => simp [idleTo]
  | succ k ih =>
    have h1 := usageV_bd (t := (k : Int)) h hr
    have h2 := capTo_bd (projOk_steps (projOk_form h) hr) (k : Int) _ (Nat.le_refl _)
    simp only [idleTo, maxI]
    unfold capV
    split <;> omega



end Go.Proofs.YthkcdmghchikjaaGreat
