/- Successors, predecessors and roots as lists. No program. -/
import Derived.Test.YtiaamddhocdhaaaSetF
import Derived.Test.YtiaamddhocdhaaaMode
namespace Go.Proofs.Ytiaamddhocdhaaa
open Go.RowKit
set_option linter.unusedVariables false

/-- Does link k touch a on this side; and what stands on its other side. -/
def sideB (a : Int) (back : Bool) (k : LinkT) : Bool := if back = true then decide (k.2.1 = a) else decide (k.1 = a)
def sideE (back : Bool) (k : LinkT) : Int := if back = true then k.1 else k.2.1
def sideTo (ls : List LinkT) (a : Int) (back : Bool) : Nat → List Int
  | 0 => []
  | j + 1 => if sideB a back (ls.getD j zLink) = true then sideTo ls a back j ++ [sideE back (ls.getD j zLink)] else sideTo ls a back j
theorem sideTo_yes {ls : List LinkT} {a : Int} {back : Bool} {j : Nat} (h : sideB a back (ls.getD j zLink) = true) : sideTo ls a back (j + 1) = sideTo ls a back j ++ [sideE back (ls.getD j zLink)] := if_pos h
theorem sideTo_no {ls : List LinkT} {a : Int} {back : Bool} {j : Nat} (h : sideB a back (ls.getD j zLink) = false) : sideTo ls a back (j + 1) = sideTo ls a back j := if_neg (by rw [h]; decide)
theorem sideTo_le (ls : List LinkT) (a : Int) (back : Bool) : ∀ j, (sideTo ls a back j).length ≤ j := by
  intro j
  induction j with
  | zero => simp [sideTo]
  | succ j ih =>
    simp only [sideTo]
    split
    · simp; omega
    · omega
theorem sideTo_mem (ls : List LinkT) (a : Int) (back : Bool) : ∀ j, j ≤ ls.length → ∀ x, x ∈ sideTo ls a back j → ∃ i, i < ls.length ∧ x = sideE back (ls.getD i zLink) := by
  intro j
  induction j with
  | zero => intro _ x h; simp [sideTo] at h
  | succ j ih =>
    intro hj x h
    simp only [sideTo] at h
    split at h
    · rcases List.mem_append.1 h with h | h
      · exact ih (by omega) x h
      · exact ⟨j, by omega, by simpa using h⟩
    · exact ih (by omega) x h
/-- The set of a's neighbours on one side. -/
def sideV (p : ProjT) (a : Int) (back : Bool) : List Int := setL (sideTo p.2.2.1 a back p.2.2.1.length)
theorem sideV_le (p : ProjT) (a : Int) (back : Bool) : (sideV p a back).length ≤ p.2.2.1.length := Nat.le_trans (setL_length _) (sideTo_le _ _ _ _)
def nbrV (p : ProjT) (a : Int) (back : Bool) : List Int := if projOk p = true ∧ inB a 0 ((p.2.1.length : Int) - 1) = true then sideV p a back else []
theorem nbrV_len (p : ProjT) (a : Int) (back : Bool) : (nbrV p a back).length ≤ 1048576 := by
  unfold nbrV
  split
  · next h =>
    have := sideV_le p a back
    have := (projOk_bd h.1).2.2.2.2.1
    omega
  · simp
def sucV (p : ProjT) (a : Int) : List Int := nbrV p a false
def preV (p : ProjT) (a : Int) : List Int := nbrV p a true
theorem sucV_len (p : ProjT) (a : Int) : (sucV p a).length ≤ 1048576 := nbrV_len p a false
theorem preV_len (p : ProjT) (a : Int) : (preV p a).length ≤ 1048576 := nbrV_len p a true
/-- Activities without predecessors. -/
def rootB (p : ProjT) (a : Nat) : Bool := decide ((sideV p (a : Int) true).length = 0)
def rootTo (p : ProjT) (k : Nat) : List Int := ((List.range k).filter (rootB p)).map fun (a : Nat) => (a : Int)
theorem rootTo_yes {p : ProjT} {k : Nat} (h : rootB p k = true) : rootTo p (k + 1) = rootTo p k ++ [(k : Int)] := by simp [rootTo, List.range_succ, List.filter_append, h]
theorem rootTo_no {p : ProjT} {k : Nat} (h : rootB p k = false) : rootTo p (k + 1) = rootTo p k := by simp [rootTo, List.range_succ, List.filter_append, h]
theorem rootTo_le (p : ProjT) (k : Nat) : (rootTo p k).length ≤ k := by
  unfold rootTo
  rw [List.length_map]
  exact Nat.le_trans (List.length_filter_le _ _) (by simp)
def rootV (p : ProjT) : List Int := if projOk p = true then rootTo p p.2.1.length else []
theorem rootV_len (p : ProjT) : (rootV p).length ≤ 1048576 := by
  unfold rootV
  split
  · next h =>
    have := rootTo_le p p.2.1.length
    have := (projOk_bd h).2.1
    omega
  · simp
end Go.Proofs.Ytiaamddhocdhaaa
