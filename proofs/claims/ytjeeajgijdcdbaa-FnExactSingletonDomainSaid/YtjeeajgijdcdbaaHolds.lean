/- Contracts of LiteralHolds. -/
import Derived.Test.YtjeeajgijdcdbaaIn
import Derived.Test.YtjeeajgijdcdbaaShape
import Derived.Test.YtjeeajgijdcdbaaBlk
namespace Go.Proofs.Ytjeeajgijdcdbaa
open Go.ChangeShapes Go.WideShapes Go.ChangeAt Go.RowKit
set_option linter.unusedVariables false

/-- Whether a literal holds of a start and a mode. -/
def holdsB (k v s m : Int) : Bool := if k = 1 then decide (v ≤ s) else if k = 2 then decide (s ≤ v) else if k = 3 then decide (m = v) else if k = 4 then decide (m ≠ v) else false
def litHolds (l : LitT) (x : SchT) : Bool :=
  if inB l.2.1 0 ((x.1.length : Int) - 1) && inB l.2.1 0 ((x.2.length : Int) - 1) then holdsB l.1 l.2.2 (x.1.getD l.2.1.toNat 0) (x.2.getD l.2.1.toNat 0) else false
theorem inB_idx {n : Int} {m : Nat} (h : inB n 0 ((m : Int) - 1) = true) : ∃ k : Nat, n = k ∧ k < m := by
  simp only [inB, Bool.and_eq_true, decide_eq_true_eq] at h
  obtain ⟨k, rfl⟩ := Int.eq_ofNat_of_zero_le h.1
  exact ⟨k, rfl, by omega⟩
theorem inB_lt {k m : Nat} (h : k < m) : inB (k : Int) 0 ((m : Int) - 1) = true := by
  simp only [inB, Bool.and_eq_true, decide_eq_true_eq]; omega
theorem inB_ge {k m : Nat} (h : ¬ k < m) : inB (k : Int) 0 ((m : Int) - 1) = false := by
  simp only [inB, Bool.and_eq_false_iff, decide_eq_false_iff_not]; omega
/-- The cell of the i-th number of a slice of ints. -/
theorem intsR_at {S : Nat → Prop} {w : World} {p : Option Addr} {len cap : Nat} {xs : List Int} (h : intsR S w [.slice p len cap] xs) {i : Nat} (hi : i < xs.length) :
    ∃ b off, p = some ⟨b, off, none⟩ ∧ S b ∧ w.cell? ⟨b, off + i, none⟩ = some (.int .i64 (xs.getD i 0)) ∧ I64 (xs.getD i 0) := by
  obtain ⟨p', cap', e, _, _, h4⟩ := sliceR_open h
  obtain ⟨b, off, ecs, e1, e2, e3, e4, e5, e6⟩ := h4 i hi
  obtain ⟨rfl, _, _⟩ : p = p' ∧ len = xs.length ∧ cap = cap' := by simpa using e
  subst e5
  have := (e4 0 (by simp)).1
  simp only [List.getElem_cons_zero, Nat.mul_one, Nat.add_zero] at this
  have e7 : xs.getD i 0 = xs[i] := by simp [List.getD, hi]
  rw [e7]
  exact ⟨b, off, e1, e2, this, e6⟩



end Go.Proofs.Ytjeeajgijdcdbaa
