/- Contracts of ScheduleForm. -/
import Derived.Test.YtjeeajgijdcdbaaProjOk
namespace Go.Proofs.Ytjeeajgijdcdbaa
open Go.ChangeShapes Go.WideShapes Go.ChangeAt Go.RowKit
set_option linter.unusedVariables false

def formAt (p : ProjT) (s : SchT) (i : Nat) : Bool := inBv (s.1.getD i 0) 0 60 && inBv (s.2.getD i 0) 0 (((p.2.1.getD i zAct).2.2.length : Int) - 1)
def schFormB (p : ProjT) (s : SchT) : Bool := projOk p && (decide (s.1.length = p.2.1.length) && (decide (s.2.length = p.2.1.length) && (List.range p.2.1.length).all (formAt p s)))
theorem schForm_no1 {p : ProjT} {s : SchT} (h : projOk p = false) : schFormB p s = false := by unfold schFormB; rw [h]; rfl
theorem schForm_no2 {p : ProjT} {s : SchT} (h : ¬ s.1.length = p.2.1.length) : schFormB p s = false := by unfold schFormB; rw [decide_eq_false h]; simp
theorem schForm_no3 {p : ProjT} {s : SchT} (h : ¬ s.2.length = p.2.1.length) : schFormB p s = false := by unfold schFormB; rw [decide_eq_false h]; simp
theorem schForm_no4 {p : ProjT} {s : SchT} {k : Nat} (hk : k < p.2.1.length) (h : formAt p s k = false) : schFormB p s = false := by unfold schFormB; rw [all_false hk h]; simp
theorem schForm_yes {p : ProjT} {s : SchT} (h1 : projOk p = true) (h2 : s.1.length = p.2.1.length) (h3 : s.2.length = p.2.1.length) (h : ∀ j, j < p.2.1.length → formAt p s j = true) : schFormB p s = true := by
  unfold schFormB; rw [h1, decide_eq_true h2, decide_eq_true h3, all_true h]; rfl



end Go.Proofs.Ytjeeajgijdcdbaa
