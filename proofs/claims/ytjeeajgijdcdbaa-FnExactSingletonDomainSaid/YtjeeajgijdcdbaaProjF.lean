/- What makes a project well formed. No program. -/
import Derived.Test.YtjeeajgijdcdbaaMut
namespace Go.Proofs.Ytjeeajgijdcdbaa
open Go.RowKit
set_option linter.unusedVariables false

def inBv (n lo hi : Int) : Bool := decide (lo ≤ n) && decide (n ≤ hi)
def amountsB (l : List Int) (n : Int) : Bool := (List.range l.length).all (fun i => inBv (l.getD i 0) 0 20) && decide ((l.length : Int) = n)
def modeOkB (m : ModeT) (r s : Int) : Bool := inBv m.1 1 12 && (amountsB m.2.1 r && amountsB m.2.2 s)
def byteAt (s : ByteArray) (i : Nat) : Nat := (s.data.toList.getD i 0).toNat
def smallB (c : Nat) : Bool := decide (97 ≤ c) && decide (c ≤ 122)
def digitB (c : Nat) : Bool := decide (48 ≤ c) && decide (c ≤ 57)
def nameAt (s : ByteArray) (i : Nat) : Bool := smallB (byteAt s i) || (!decide (i = 0) && digitB (byteAt s i))
def isNameB (s : ByteArray) : Bool := (List.range s.size).all (nameAt s) && inBv s.size 1 8
abbrev zMode : ModeT := (0, [], [])
abbrev zAct : ActT := (ByteArray.empty, 0, [])
abbrev zRes : ResT := ([], [])
abbrev zStep : StepT := (0, 0)
abbrev zLink : LinkT := (0, 0, false, 0)
def actOkB (a : ActT) (r s : Int) : Bool := (List.range a.2.2.length).all (fun i => modeOkB (a.2.2.getD i zMode) r s) && (isNameB a.1 && (inBv a.2.1 0 3 && inBv a.2.2.length 1 3))
def stepAt (l : List StepT) (i : Nat) : Bool := inBv (l.getD i zStep).1 0 60 && (inBv (l.getD i zStep).2 0 20 && (if i = 0 then true else decide ((l.getD (i - 1) zStep).1 < (l.getD i zStep).1)))
def stepsOkB (l : List StepT) : Bool := (List.range l.length).all (stepAt l) && (inBv l.length 1 8 && decide ((l.getD 0 zStep).1 = 0))
def rowOkB (r : List Int) : Bool := decide (r.length = 4) && (List.range r.length).all (fun i => inBv (r.getD i 0) 0 12)
def resOkB (r : ResT) : Bool := (List.range r.2.length).all (fun i => rowOkB (r.2.getD i [])) && (stepsOkB r.1 && (decide (r.2.length = 0) || decide (r.2.length = 4)))
/-- The first activity of a name, or -1. -/
def actFrom (as_ : List ActT) (n : ByteArray) : Nat → Int
  | 0 => -1
  | k + 1 => if (as_.getD (as_.length - (k + 1)) zAct).1 = n then ((as_.length - (k + 1) : Nat) : Int) else actFrom as_ n k
def actIndex (as_ : List ActT) (n : ByteArray) : Int := actFrom as_ n as_.length
def linkOkB (n : Int) (k : LinkT) : Bool := inBv k.1 0 (n - 1) && (inBv k.2.1 0 (n - 1) && (!decide (k.1 = k.2.1) && inBv k.2.2.2 (-60) 60))
def headOkB (p : ProjT) : Bool := inBv p.1 1 60 && (inBv p.2.1.length 1 6 && (decide (p.2.2.2.1.length ≤ 3) && (decide (p.2.2.2.2.length ≤ 2) && decide (p.2.2.1.length ≤ 12))))
def actAtOk (p : ProjT) (i : Nat) : Bool := actOkB (p.2.1.getD i zAct) p.2.2.2.1.length p.2.2.2.2.length && decide (actIndex p.2.1 (p.2.1.getD i zAct).1 = i)
def projOk (p : ProjT) : Bool := headOkB p && ((List.range p.2.1.length).all (actAtOk p) && ((List.range p.2.2.2.1.length).all (fun i => resOkB (p.2.2.2.1.getD i zRes)) &&
  ((List.range p.2.2.2.2.length).all (fun i => inBv (p.2.2.2.2.getD i 0) 0 100) && (List.range p.2.2.1.length).all (fun i => linkOkB p.2.1.length (p.2.2.1.getD i zLink)))))
theorem all_true {n : Nat} {c : Nat → Bool} (h : ∀ j, j < n → c j = true) : (List.range n).all c = true := List.all_eq_true.2 fun j hj => h j (List.mem_range.1 hj)
theorem all_false {n k : Nat} {c : Nat → Bool} (hk : k < n) (h : c k = false) : (List.range n).all c = false := List.all_eq_false.2 ⟨k, List.mem_range.2 hk, by simp [h]⟩
theorem actFrom_hit {as_ : List ActT} {n : ByteArray} : ∀ (d k : Nat), k + d = as_.length → (∀ j, j < k → (as_.getD j zAct).1 ≠ n) → actIndex as_ n = actFrom as_ n d := by
  intro d
  induction d with
  | zero =>
    intro k hk hall
    have key : ∀ m, m ≤ as_.length → actFrom as_ n m = -1 := by
      intro m
      induction m with
      | zero => intro _; rfl
      | succ m ih =>
        intro hm
        simp only [actFrom]
        rw [if_neg (hall _ (by omega)), ih (by omega)]
    rw [actIndex, key _ (Nat.le_refl _)]
    rfl
  | succ d ih =>
    intro k hk hall
    have key : ∀ m, m + (d + 1) ≤ as_.length → actFrom as_ n (m + (d + 1)) = actFrom as_ n (d + 1) := by
      intro m
      induction m with
      | zero => intro _; rw [Nat.zero_add]
      | succ m ihm =>
        intro hm
        rw [show m + 1 + (d + 1) = (m + (d + 1)) + 1 from by omega]
        simp only [actFrom]
        rw [if_neg (hall _ (by omega))]
        have := ihm (by omega)
        simp only [actFrom] at this
        exact this
    have := key k (by omega)
    rw [hk] at this
    exact this
theorem actIndex_yes {as_ : List ActT} {n : ByteArray} {k : Nat} (hk : k < as_.length) (h : (as_.getD k zAct).1 = n) (hall : ∀ j, j < k → (as_.getD j zAct).1 ≠ n) : actIndex as_ n = k := by
  rw [actFrom_hit (as_.length - k) k (by omega) hall, show as_.length - k = (as_.length - k - 1) + 1 from by omega]
  simp only [actFrom]
  rw [show as_.length - (as_.length - k - 1 + 1) = k from by omega, if_pos h]
theorem actIndex_no {as_ : List ActT} {n : ByteArray} (hall : ∀ j, j < as_.length → (as_.getD j zAct).1 ≠ n) : actIndex as_ n = -1 := by
  rw [actFrom_hit 0 as_.length (by omega) hall]
  rfl
def sliceAt : Value → Option Addr
  | .slice p _ _ => p
  | _ => none
/-- The i-th element of a slice, in cells. -/
theorem sliceR_at {α : Type} {n : Nat} {R : RepT α} {S : Nat → Prop} {w : World} {v : Value} {xs : List α} (d : α) (h : sliceR n R S w [v] xs) {i : Nat} (hi : i < xs.length) :
    ∃ b off ecs, sliceAt v = some ⟨b, off, none⟩ ∧ RowAt w b (off + i * n) ecs ∧ R S w ecs (xs.getD i d) := by
  obtain ⟨p', cap', rfl, _, _, h4⟩ := sliceR_open h
  obtain ⟨b, off, ecs, e1, e2, e3, e4, e5⟩ := h4 i hi
  have e7 : xs.getD i d = xs[i] := by simp [List.getD, hi]
  rw [e7]
  exact ⟨b, off, ecs, e1, e4, e5⟩
end Go.Proofs.Ytjeeajgijdcdbaa
