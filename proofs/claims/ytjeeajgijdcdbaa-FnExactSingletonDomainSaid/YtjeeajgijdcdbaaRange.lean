/- Contracts of IntRange, ModeIndexes. -/
import Derived.Test.YtjeeajgijdcdbaaOwn
import Derived.Test.YtjeeajgijdcdbaaProjF
import Derived.Test.YtjeeajgijdcdbaaIn
namespace Go.Proofs.Ytjeeajgijdcdbaa
open Go.ChangeShapes Go.WideShapes Go.ChangeAt Go.RowKit
set_option linter.unusedVariables false

def rangeL (n : Nat) : List Int := (List.range n).map fun (i : Nat) => (i : Int)
theorem rangeL_length (n : Nat) : (rangeL n).length = n := by simp [rangeL]
theorem rangeL_succ (n : Nat) : rangeL (n + 1) = rangeL n ++ [(n : Int)] := by simp [rangeL, List.range_succ]
theorem rangeL_at {n i : Nat} (h : i < n) : (rangeL n).getD i 0 = i := by simp [rangeL, List.getD, h]
theorem rangeL_has {n : Nat} {k : Int} : k ∈ rangeL n ↔ 0 ≤ k ∧ k < n := by
  simp only [rangeL, List.mem_map, List.mem_range]
  constructor
  · rintro ⟨a, h, rfl⟩; omega
  · rintro ⟨h0, h1⟩; exact ⟨k.toNat, by omega, by omega⟩
theorem inB_yes {n : Nat} {m : Int} (h : (n : Int) ≤ m) : inB (n : Int) 0 m = true := by simp only [inB, Bool.and_eq_true, decide_eq_true_eq]; omega





end Go.Proofs.Ytjeeajgijdcdbaa
