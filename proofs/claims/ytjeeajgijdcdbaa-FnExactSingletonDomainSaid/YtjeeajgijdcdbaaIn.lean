/- Contracts of within, l01In. -/
import Derived.Test.YtjeeajgijdcdbaaRows
import Derived.Test.YtjeeajgijdcdbaaBase
import Derived.WalkKit
import Derived.ProofKit
import Derived.OpenShut
import Derived.Lib.Hide
import Derived.Outline
import Derived.WalkLawsBesides
import Derived.WalkSpells
namespace Go.Proofs.Ytjeeajgijdcdbaa
open Go.ChangeShapes Go.WideShapes Go.ChangeAt Go.RowKit
set_option linter.unusedVariables false

def inB (n lo hi : Int) : Bool := decide (lo ≤ n) && decide (n ≤ hi)



theorem inB_cases (n : Int) (m : Nat) : inB n 0 m = true → ∃ k : Nat, n = k ∧ k ≤ m := by
  intro h
  simp only [inB, Bool.and_eq_true, decide_eq_true_eq] at h
  obtain ⟨k, rfl⟩ := Int.eq_ofNat_of_zero_le h.1
  exact ⟨k, rfl, by omega⟩

theorem ret_str {a b : ByteArray} (h : a = b) : Ending.returned (.string a) = .returned (.string b) := by rw [h]
theorem ret_bool {a b : Bool} (h : a = b) : Ending.returned (.bool a) = .returned (.bool b) := by rw [h]
theorem ret_int {k : IntKind} {a b : Int} (h : a = b) : Ending.returned (.int k a) = .returned (.int k b) := by rw [h]
theorem inB_cases1 (n : Int) (m : Nat) : inB n 1 m = true → ∃ k : Nat, n = k ∧ 1 ≤ k ∧ k ≤ m := by
  intro h
  simp only [inB, Bool.and_eq_true, decide_eq_true_eq] at h
  obtain ⟨k, rfl⟩ := Int.eq_ofNat_of_zero_le (show 0 ≤ n by omega)
  exact ⟨k, rfl, by omega, by omega⟩
end Go.Proofs.Ytjeeajgijdcdbaa
