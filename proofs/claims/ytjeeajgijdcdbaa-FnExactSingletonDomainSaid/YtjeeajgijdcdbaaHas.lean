/- Contracts: membership and subsets of lists of ints; min, max, clamped. -/
import Derived.Test.YtjeeajgijdcdbaaIn
import Derived.Test.YtjeeajgijdcdbaaShape
import Derived.Test.YtjeeajgijdcdbaaBlk
namespace Go.Proofs.Ytjeeajgijdcdbaa
open Go.ChangeShapes Go.WideShapes Go.ChangeAt Go.RowKit
set_option linter.unusedVariables false

def maxI (x y : Int) : Int := if y < x then x else y
def minI (x y : Int) : Int := if x < y then x else y
/-- A number brought between -2 and 62. -/
def clampI (n : Int) : Int := maxI (-2) (minI 62 n)
theorem clampI_bd (n : Int) : -2 ≤ clampI n ∧ clampI n ≤ 62 := by unfold clampI maxI minI; split <;> split <;> omega
def hasB (n : Int) (xs : List Int) : Bool := decide (n ∈ xs)
def subB (xs ys : List Int) : Bool := xs.all fun n => hasB n ys
theorem hasB_false {n : Int} {xs : List Int} (h : ∀ j, j < xs.length → xs.getD j 0 ≠ n) : hasB n xs = false := by
  unfold hasB
  rw [decide_eq_false_iff_not]
  intro hm
  obtain ⟨j, hj, e⟩ := List.getElem_of_mem hm
  exact h j hj (by simp [List.getD, hj, e])
theorem hasB_true {n : Int} {xs : List Int} {j : Nat} (hj : j < xs.length) (h : xs.getD j 0 = n) : hasB n xs = true := by
  unfold hasB
  rw [decide_eq_true_eq]
  have : xs[j] = n := by simpa [List.getD, hj] using h
  rw [← this]
  exact List.getElem_mem hj
theorem subB_true {xs ys : List Int} (h : ∀ j, j < xs.length → hasB (xs.getD j 0) ys = true) : subB xs ys = true := by
  unfold subB
  rw [List.all_eq_true]
  intro x hx
  obtain ⟨j, hj, e⟩ := List.getElem_of_mem hx
  have h2 := h j hj
  simp only [List.getD, List.getElem?_eq_getElem hj, Option.getD_some, e] at h2
  exact h2
theorem subB_false {xs ys : List Int} {j : Nat} (hj : j < xs.length) (h : hasB (xs.getD j 0) ys = false) : subB xs ys = false := by
  unfold subB
  rw [List.all_eq_false]
  refine ⟨xs[j], List.getElem_mem hj, ?_⟩
  simp only [List.getD, List.getElem?_eq_getElem hj, Option.getD_some] at h
  simp [h]





def sliceAddr : Value → Option Addr
  | .slice p _ _ => p
  | _ => none
theorem intsR_at' {S : Nat → Prop} {w : World} {v : Value} {xs : List Int} (h : intsR S w [v] xs) {i : Nat} (hi : i < xs.length) :
    ∃ b off, sliceAddr v = some ⟨b, off, none⟩ ∧ w.cell? ⟨b, off + i, none⟩ = some (.int .i64 (xs.getD i 0)) := by
  obtain ⟨p', cap', rfl, _, _, h4⟩ := sliceR_open h
  obtain ⟨b, off, ecs, e1, e2, e3, e4, e5, e6⟩ := h4 i hi
  subst e5
  have := (e4 0 (by simp)).1
  simp only [List.getElem_cons_zero, Nat.mul_one, Nat.add_zero] at this
  have e7 : xs.getD i 0 = xs[i] := by simp [List.getD, hi]
  rw [e7]
  exact ⟨b, off, e1, this⟩








end Go.Proofs.Ytjeeajgijdcdbaa

/- The rows of a slice of rows, in cells. -/
namespace Go.Proofs.Ytjeeajgijdcdbaa
open Go.ChangeShapes Go.WideShapes Go.ChangeAt Go.RowKit
set_option linter.unusedVariables false

/-- The cell of the i-th row of a slice of rows: the row's own slice. -/
theorem rowsR_at {S : Nat → Prop} {w : World} {v : Value} {xs : List (List Int)} (h : rowsR S w [v] xs) {i : Nat} (hi : i < xs.length) :
    ∃ b off p cap, sliceAddr v = some ⟨b, off, none⟩ ∧ w.cell? ⟨b, off + i, none⟩ = some (.slice p (xs.getD i []).length cap) ∧ (xs.getD i []).length ≤ cap ∧ cap ≤ maxLen ∧ intsR S w [.slice p (xs.getD i []).length cap] (xs.getD i []) := by
  obtain ⟨p', cap', rfl, _, _, h4⟩ := sliceR_open h
  obtain ⟨b, off, ecs, e1, e2, e3, e4, e5⟩ := h4 i hi
  have e7 : xs.getD i [] = xs[i] := by simp [List.getD, hi]
  rw [e7]
  have e6 := e5
  obtain ⟨p, cap, rfl, l1, l2, _⟩ := e5
  have := (e4 0 (by simp)).1
  simp only [List.getElem_cons_zero, Nat.mul_one, Nat.add_zero] at this
  exact ⟨b, off, p, cap, e1, this, l1, l2, e6⟩

end Go.Proofs.Ytjeeajgijdcdbaa
