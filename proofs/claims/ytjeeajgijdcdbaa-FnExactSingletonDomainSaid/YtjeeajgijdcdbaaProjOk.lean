/- Contracts of ProjectOk. -/
import Derived.Test.YtjeeajgijdcdbaaAct
import Derived.Test.YtjeeajgijdcdbaaRes
import Derived.Test.YtjeeajgijdcdbaaLinkOk
namespace Go.Proofs.Ytjeeajgijdcdbaa
open Go.ChangeShapes Go.WideShapes Go.ChangeAt Go.RowKit
set_option linter.unusedVariables false

theorem headOk_no1 {p : ProjT} (h : inB p.1 1 60 = false) : projOk p = false := by unfold projOk headOkB; rw [← inB_v, h]; rfl
theorem headOk_no2 {p : ProjT} (h : inB (p.2.1.length : Int) 1 6 = false) : projOk p = false := by unfold projOk headOkB; rw [← inB_v (p.2.1.length : Int), h]; simp
theorem headOk_no3 {p : ProjT} (h : ¬ p.2.2.2.1.length ≤ 3) : projOk p = false := by unfold projOk headOkB; rw [decide_eq_false h]; simp
theorem headOk_no4 {p : ProjT} (h : ¬ p.2.2.2.2.length ≤ 2) : projOk p = false := by unfold projOk headOkB; rw [decide_eq_false h]; simp
theorem headOk_no5 {p : ProjT} (h : ¬ p.2.2.1.length ≤ 12) : projOk p = false := by unfold projOk headOkB; rw [decide_eq_false h]; simp
theorem headOk_yes {p : ProjT} (h1 : inB p.1 1 60 = true) (h2 : inB (p.2.1.length : Int) 1 6 = true) (h3 : p.2.2.2.1.length ≤ 3) (h4 : p.2.2.2.2.length ≤ 2) (h5 : p.2.2.1.length ≤ 12) : headOkB p = true := by
  unfold headOkB; rw [← inB_v, ← inB_v, h1, h2, decide_eq_true h3, decide_eq_true h4, decide_eq_true h5]; rfl
theorem projOk_acts {p : ProjT} {k : Nat} (hk : k < p.2.1.length) (h : actAtOk p k = false) : projOk p = false := by unfold projOk; rw [all_false hk h]; simp
theorem projOk_ress {p : ProjT} {k : Nat} (hk : k < p.2.2.2.1.length) (h : resOkB (p.2.2.2.1.getD k zRes) = false) : projOk p = false := by unfold projOk; rw [all_false (c := fun i => resOkB (p.2.2.2.1.getD i zRes)) hk h]; simp
theorem projOk_stocks {p : ProjT} {k : Nat} (hk : k < p.2.2.2.2.length) (h : inB (p.2.2.2.2.getD k 0) 0 100 = false) : projOk p = false := by unfold projOk; rw [all_false (c := fun i => inBv (p.2.2.2.2.getD i 0) 0 100) hk h]; simp
theorem projOk_links {p : ProjT} {k : Nat} (hk : k < p.2.2.1.length) (h : linkOkB p.2.1.length (p.2.2.1.getD k zLink) = false) : projOk p = false := by unfold projOk; rw [all_false (c := fun i => linkOkB p.2.1.length (p.2.2.1.getD i zLink)) hk h]; simp
theorem projOk_rest {p : ProjT} (h : headOkB p = true) (h1 : ∀ j, j < p.2.1.length → actAtOk p j = true) (h2 : ∀ j, j < p.2.2.2.1.length → resOkB (p.2.2.2.1.getD j zRes) = true) (h3 : ∀ j, j < p.2.2.2.2.length → inB (p.2.2.2.2.getD j 0) 0 100 = true) :
    projOk p = (List.range p.2.2.1.length).all (fun i => linkOkB p.2.1.length (p.2.2.1.getD i zLink)) := by
  unfold projOk
  rw [h, all_true h1, all_true (c := fun i => resOkB (p.2.2.2.1.getD i zRes)) h2, all_true (c := fun i => inBv (p.2.2.2.2.getD i 0) 0 100) h3]
  rfl



end Go.Proofs.Ytjeeajgijdcdbaa
