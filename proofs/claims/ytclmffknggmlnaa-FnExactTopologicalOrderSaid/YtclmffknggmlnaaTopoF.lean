/- The topological order. No program. -/
import Derived.Test.YtclmffknggmlnaaFullGap
namespace Go.Proofs.Ytclmffknggmlnaa
open Go.RowKit
set_option linter.unusedVariables false

/-- The first index below n that c takes, or -1. -/
def idxV (c : Nat → Bool) (n : Nat) : Int := match (List.range n).find? c with | some k => (k : Int) | none => -1
theorem idxV_hit {c : Nat → Bool} {n k : Nat} (hk : k < n) (hc : c k = true) (h : ∀ j, j < k → c j = false) : (List.range n).find? c = some k := by
  rw [List.find?_range_eq_some]
  exact ⟨hc, List.mem_range.2 hk, fun j hj => by rw [h j hj]; rfl⟩
theorem idxV_miss {c : Nat → Bool} {n : Nat} (h : ∀ j, j < n → c j = false) : (List.range n).find? c = none := by
  rw [List.find?_eq_none]
  intro j hj
  rw [h j (List.mem_range.1 hj)]
  exact Bool.false_ne_true
theorem any_hit {c : Nat → Bool} {n k : Nat} (hk : k < n) (hc : c k = true) : (List.range n).any c = true := List.any_eq_true.2 ⟨k, List.mem_range.2 hk, hc⟩
theorem any_miss {c : Nat → Bool} {n : Nat} (h : ∀ j, j < n → c j = false) : (List.range n).any c = false := by
  rw [List.any_eq_false]
  intro j hj
  rw [h j (List.mem_range.1 hj)]
  exact Bool.false_ne_true

/-- Whether a link bars a. -/
def barsB (p : ProjT) (done : List Int) (a : Int) (k : LinkT) : Bool := decide (k.2.1 = a) && (decide (0 < fullGapV p k) && !hasB k.1 done)
def readyB (p : ProjT) (done : List Int) (a : Int) : Bool := !(List.range p.2.2.1.length).any fun j => barsB p done a (p.2.2.1.getD j zLink)
def freeB (p : ProjT) (done : List Int) (a : Nat) : Bool := !hasB (a : Int) done && readyB p done a
def topoR (p : ProjT) : Nat → List Int
  | 0 => []
  | k + 1 => match (List.range p.2.1.length).find? (freeB p (topoR p k)) with
    | none => topoR p k
    | some a => topoR p k ++ [(a : Int)]
def topoB (p : ProjT) : Bool := projOk p && decide ((topoR p p.2.1.length).length = p.2.1.length)
def topoV (p : ProjT) : List Int := if topoB p then topoR p p.2.1.length else []
theorem topoR_le (p : ProjT) : ∀ k, (topoR p k).length ≤ k := by
  intro k
  induction k with
  | zero => simp [topoR]
  | succ k ih =>
    simp only [topoR]
    split
    · omega
    · rw [List.length_append, List.length_singleton]; omega
theorem topoR_no {p : ProjT} {k : Nat} (h : (List.range p.2.1.length).find? (freeB p (topoR p k)) = none) : topoR p (k + 1) = topoR p k := by
  simp only [topoR, h]
theorem topoR_yes {p : ProjT} {k a : Nat} (h : (List.range p.2.1.length).find? (freeB p (topoR p k)) = some a) : topoR p (k + 1) = topoR p k ++ [(a : Int)] := by
  simp only [topoR, h]
theorem topoR_stuck {p : ProjT} {k : Nat} (h : (List.range p.2.1.length).find? (freeB p (topoR p k)) = none) : ∀ j, topoR p (k + j) = topoR p k := by
  intro j
  induction j with
  | zero => rfl
  | succ j ih => rw [show k + (j + 1) = (k + j) + 1 from by omega, topoR_no (by rw [ih]; exact h), ih]
theorem topoV_len (p : ProjT) : (topoV p).length ≤ 1048576 := by
  unfold topoV
  split
  · rename_i h
    unfold topoB at h
    simp only [Bool.and_eq_true] at h
    have h1 := topoR_le p p.2.1.length
    have h2 := (projOk_bd h.1).2.1
    omega
  · simp
theorem topo_no {p : ProjT} (h : projOk p = false) : topoB p = false ∧ topoV p = [] := by
  have h1 : topoB p = false := by unfold topoB; rw [h]; rfl
  exact ⟨h1, by unfold topoV; rw [h1]; rfl⟩
theorem topo_short {p : ProjT} (h : (topoR p p.2.1.length).length ≠ p.2.1.length) : topoB p = false ∧ topoV p = [] := by
  have h1 : topoB p = false := by unfold topoB; rw [decide_eq_false h]; simp
  exact ⟨h1, by unfold topoV; rw [h1]; rfl⟩
theorem topo_full {p : ProjT} (hp : projOk p = true) (h : (topoR p p.2.1.length).length = p.2.1.length) : topoB p = true ∧ topoV p = topoR p p.2.1.length := by
  have h1 : topoB p = true := by unfold topoB; rw [decide_eq_true h, hp]; rfl
  exact ⟨h1, by unfold topoV; rw [h1]; rfl⟩
theorem topo_stop {p : ProjT} {k : Nat} (hk : k < p.2.1.length) (h : (List.range p.2.1.length).find? (freeB p (topoR p k)) = none) : topoB p = false ∧ topoV p = [] := by
  have h1 := topoR_stuck h (p.2.1.length - k)
  rw [show k + (p.2.1.length - k) = p.2.1.length from by omega] at h1
  have h2 := topoR_le p k
  exact topo_short (by rw [h1]; omega)
theorem projOk_name {p : ProjT} (h : projOk p = true) {k : Nat} (hk : k < p.2.1.length) : actIndex p.2.1 (p.2.1.getD k zAct).1 = k := by
  have h1 := projOk_act h hk
  unfold actAtOk at h1
  simp only [Bool.and_eq_true, decide_eq_true_eq] at h1
  exact h1.2
/-- Two results: a datum in new memory and a mark. -/
def FreshP {α : Type} (R : RepT α) (w : World) (x : α) (b : Bool) (e : Ending) (w' : World) : Prop := ∃ v, e = .returned (.tuple #[v, .bool b]) ∧ R (New w w') w' [v] x ∧ Bel w w'
end Go.Proofs.Ytclmffknggmlnaa
