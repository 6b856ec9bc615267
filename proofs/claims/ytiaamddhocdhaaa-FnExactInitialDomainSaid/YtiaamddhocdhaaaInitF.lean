/- InitialDomain: what it gives. No program. -/
import Derived.Test.YtiaamddhocdhaaaDom3
import Derived.Test.YtiaamddhocdhaaaMode
import Derived.Test.YtiaamddhocdhaaaRange
namespace Go.Proofs.Ytiaamddhocdhaaa
open Go.RowKit
set_option linter.unusedVariables false

def initX (k : Nat) : List Int := List.replicate k 0
def initY (p : ProjT) (k : Nat) : List Int := List.replicate k (p.1 - 1)
def initR (p : ProjT) (k : Nat) : List (List Int) := (p.2.1.take k).map fun a => rangeL a.2.2.length
theorem initX_succ (k : Nat) : initX (k + 1) = initX k ++ [0] := List.replicate_succ'
theorem initY_succ (p : ProjT) (k : Nat) : initY p (k + 1) = initY p k ++ [p.1 - 1] := List.replicate_succ'
theorem initR_succ (p : ProjT) {k : Nat} (h : k < p.2.1.length) : initR p (k + 1) = initR p k ++ [rangeL (p.2.1.getD k zAct).2.2.length] := by
  unfold initR
  rw [List.take_succ_eq_append_getElem h, List.map_append, List.getD_eq_getElem?_getD, List.getElem?_eq_getElem h]
  rfl
theorem initX_length (k : Nat) : (initX k).length = k := by simp [initX]
theorem initY_length (p : ProjT) (k : Nat) : (initY p k).length = k := by simp [initY]
theorem initR_length (p : ProjT) {k : Nat} (h : k ≤ p.2.1.length) : (initR p k).length = k := by simp [initR]; omega
def initV (p : ProjT) : DomT := if projOk p = true then (initX p.2.1.length, initY p p.2.1.length, initR p p.2.1.length) else ([], [], [])
theorem initV_len (p : ProjT) : domC (domN (initV p)) ≤ 1048576 := by
  unfold initV
  split
  · next h =>
    have hb := projOk_bd h
    have : sumL ((initR p p.2.1.length).map List.length) ≤ 6 * 3 := by
      unfold initR
      rw [List.take_length, List.map_map]
      have key : ∀ (l : List ActT), (∀ a, a ∈ l → a.2.2.length ≤ 3) → sumL (l.map (List.length ∘ fun a => rangeL a.2.2.length)) ≤ l.length * 3 := by
        intro l
        induction l with
        | nil => intro _; simp [sumL]
        | cons a l ih =>
          intro hl
          have h1 := ih (fun x hx => hl x (by simp [hx]))
          have h2 := hl a (by simp)
          show (rangeL a.2.2.length).length + sumL (l.map (List.length ∘ fun a => rangeL a.2.2.length)) ≤ (l.length + 1) * 3
          rw [rangeL_length]
          omega
      refine Nat.le_trans (key _ fun a ha => ?_) (Nat.mul_le_mul hb.2.1 (Nat.le_refl _))
      obtain ⟨i, hi, rfl⟩ := List.getElem_of_mem ha
      have := (projOk_modes h hi).2
      rwa [List.getD_eq_getElem?_getD, List.getElem?_eq_getElem hi, Option.getD_some] at this
    simp only [domC, domN, initX_length, initY_length]
    omega
  · decide
theorem intsR_nilD (T : Nat → Prop) (w : World) : intsR T w [.slice none 0 0] [] := ⟨none, 0, rfl, Nat.le_refl _, Nat.zero_le _, fun i hi => absurd hi (Nat.not_lt_zero _)⟩
theorem domM_nil (T : Nat → Prop) (w : World) : domM T w [.slice none 0 0, .slice none 0 0, .slice none 0 0] ([], [], []) := by
  refine ⟨_, _, _, fun _ => False, fun _ => False, fun _ => False, rfl, intsR_nilD _ _, intsR_nilD _ _, matR_nil _ _, fun _ h => h.elim, fun _ h => h.elim, fun _ h => h.elim⟩
theorem Blk.belowD {B : Nat} {w w' : World} {g : Nat} {e : TypeId} {arr : List Value} (h : Blk w g e arr) (hd : Below B w w') (hg : g < B) : Blk w' g e arr := by
  unfold Blk at h ⊢
  rw [Below.block hd g hg]
  exact h
/-- A block that an append leaves alone. -/
theorem Blk.farA {w w' : World} {g : Nat} {e : TypeId} {arr : List Value} {q q' : Option Addr} (h : Blk w g e arr) (hf : FarA w w' q q') (hq : ¬ InQ q g) : Blk w' g e arr := by
  have := hf g h.lt (fun a ha e => hq ⟨a, ha, e⟩)
  unfold Blk at h ⊢
  rw [this.1]
  exact h
end Go.Proofs.Ytiaamddhocdhaaa
