/- Rules in a schedule. No program. -/
import Derived.Test.YtiaamddhocdhaaaIdle
import Derived.Test.YtiaamddhocdhaaaGap
namespace Go.Proofs.Ytiaamddhocdhaaa
open Go.RowKit
set_option linter.unusedVariables false

def linkHoldsB (p : ProjT) (s : SchT) (k : LinkT) : Bool := decide ((if k.2.2.1 = true then endOf p s k.1.toNat else s.1.getD k.1.toNat 0) + k.2.2.2 ≤ s.1.getD k.2.1.toNat 0)
def workTo (p : ProjT) (s : SchT) (r : Nat) (x : Int) : Nat → Int
  | 0 => 0
  | k + 1 => workTo p s r x k + usageV p s r (x + k)
def totTo (l : List StepT) (x : Int) : Nat → Int
  | 0 => 0
  | k + 1 => totTo l x k + capV l (x + k)
def setupV (p : ProjT) (r a b : Nat) : Int := (((p.2.2.2.1.getD r zRes).2).getD (p.2.1.getD a zAct).2.1.toNat []).getD (p.2.1.getD b zAct).2.1.toNat 0
def useAt (p : ProjT) (s : SchT) (r k : Nat) : Int := (modeOf p s k).2.1.getD r 0
def aheadB (p : ProjT) (s : SchT) (r a b : Nat) : Bool := decide (endOf p s a + setupV p r a b ≤ s.1.getD b 0)
def pairB (p : ProjT) (s : SchT) (r b c : Nat) : Bool := decide (useAt p s r b = 0) || (decide (useAt p s r c = 0) || (aheadB p s r b c || aheadB p s r c b))
/-- Whether a valid rule is satisfied. -/
def satB (p : ProjT) (s : SchT) (r : RuleT) : Bool :=
  if r.1 = 1 then linkHoldsB p s (p.2.2.1.getD r.2.1.toNat zLink)
  else if r.1 = 2 then decide (endOf p s r.2.1.toNat ≤ p.1)
  else if r.1 = 3 then decide (usageV p s r.2.1.toNat r.2.2.1 ≤ capV (p.2.2.2.1.getD r.2.1.toNat zRes).1 r.2.2.1)
  else if r.1 = 4 then decide (workTo p s r.2.1.toNat r.2.2.1 (r.2.2.2 - r.2.2.1).toNat ≤ totTo (p.2.2.2.1.getD r.2.1.toNat zRes).1 r.2.2.1 (r.2.2.2 - r.2.2.1).toNat)
  else if r.1 = 5 then pairB p s r.2.1.toNat r.2.2.1.toNat r.2.2.2.toNat
  else decide (consTo p s r.2.1.toNat p.2.1.length ≤ p.2.2.2.2.getD r.2.1.toNat 0)
def violB (p : ProjT) (s : SchT) (r : RuleT) : Bool := schFormB p s && (ruleOkB p r && !satB p s r)
/-- The usage, summed over all activities. -/
def useAll (p : ProjT) (s : SchT) (r : Nat) (t : Int) : Nat → Int
  | 0 => 0
  | k + 1 => if runB p s t k = true then useAll p s r t k + (modeOf p s k).2.1.getD r 0 else useAll p s r t k
theorem getD_app {xs ys : List Int} {k : Nat} (h : k < xs.length) : (xs ++ ys).getD k 0 = xs.getD k 0 := by
  simp only [List.getD_eq_getElem?_getD]
  rw [List.getElem?_append_left h]
theorem getD_last (xs : List Int) (a : Int) : (xs ++ [a]).getD xs.length 0 = a := by
  simp only [List.getD_eq_getElem?_getD]
  rw [List.getElem?_append_right (Nat.le_refl _)]
  simp
theorem useTo_append (p : ProjT) (s : SchT) (r : Nat) (xs ys : List Int) : ∀ k, k ≤ xs.length → useTo p s r (xs ++ ys) k = useTo p s r xs k := by
  intro k
  induction k with
  | zero => intro _; rfl
  | succ k ih =>
    intro hk
    simp only [useTo]
    rw [ih (by omega), getD_app (by omega)]
theorem useTo_all (p : ProjT) (s : SchT) (r : Nat) (t : Int) : ∀ k, useTo p s r ((rangeL k).filter (runB p s t)) ((rangeL k).filter (runB p s t)).length = useAll p s r t k := by
  intro k
  induction k with
  | zero => rfl
  | succ k ih =>
    cases hb : runB p s t (k : Int)
    · rw [runTo_no hb, ih]
      simp only [useAll]
      rw [if_neg (by rw [hb]; simp)]
    · rw [runTo_yes hb, List.length_append, List.length_singleton]
      simp only [useAll, useTo]
      rw [if_pos hb, useTo_append _ _ _ _ _ _ (Nat.le_refl _), ih]
      rw [getD_last]
      rfl
theorem usageV_all (p : ProjT) (s : SchT) (r : Nat) (t : Int) : usageV p s r t = useAll p s r t p.2.1.length := useTo_all p s r t _
theorem useAll_bd {p : ProjT} {s : SchT} {r : Nat} {t : Int} (h : schFormB p s = true) (hr : r < p.2.2.2.1.length) : ∀ k, k ≤ p.2.1.length → 0 ≤ useAll p s r t k ∧ useAll p s r t k ≤ 20 * k := by
  intro k
  induction k with
  | zero => intro _; simp [useAll]
  | succ k ih =>
    intro hk
    have h1 := ih (by omega)
    have h2 := (modeOk_bd (modeOf_ok h (show k < p.2.1.length by omega))).2.2.2.2.1 r hr
    simp only [useAll]
    split <;> omega
theorem workTo_bd {p : ProjT} {s : SchT} {r : Nat} {x : Int} (h : schFormB p s = true) (hr : r < p.2.2.2.1.length) : ∀ k, 0 ≤ workTo p s r x k ∧ workTo p s r x k ≤ 120 * k := by
  intro k
  induction k with
  | zero => simp [workTo]
  | succ k ih =>
    have h1 := usageV_bd (t := x + k) h hr
    simp only [workTo]
    omega
theorem capV_bd {l : List StepT} (h : stepsOkB l = true) (t : Int) : 0 ≤ capV l t ∧ capV l t ≤ 20 := capTo_bd h t _ (Nat.le_refl _)
theorem totTo_bd {l : List StepT} {x : Int} (h : stepsOkB l = true) : ∀ k, 0 ≤ totTo l x k ∧ totTo l x k ≤ 20 * k := by
  intro k
  induction k with
  | zero => simp [totTo]
  | succ k ih =>
    have h1 := capV_bd h (x + k)
    simp only [totTo]
    omega
theorem useAt_bd {p : ProjT} {s : SchT} {r k : Nat} (h : schFormB p s = true) (hr : r < p.2.2.2.1.length) (hk : k < p.2.1.length) : 0 ≤ useAt p s r k ∧ useAt p s r k ≤ 20 ∧ r < (modeOf p s k).2.1.length := by
  have h1 := modeOk_bd (modeOf_ok h hk)
  exact ⟨(h1.2.2.2.2.1 r hr).1, (h1.2.2.2.2.1 r hr).2, by rw [h1.2.2.1]; exact hr⟩
theorem projOk_fam {p : ProjT} (h : projOk p = true) {k : Nat} (hk : k < p.2.1.length) : ∃ n : Nat, (p.2.1.getD k zAct).2.1 = n ∧ n < 4 := by
  have h1 := projOk_act h hk
  unfold actAtOk actOkB at h1
  simp only [inBv, Bool.and_eq_true, decide_eq_true_eq] at h1
  exact ⟨(p.2.1.getD k zAct).2.1.toNat, by omega, by omega⟩
/-- The setup table of a machine of a well formed project. -/
theorem projOk_setup {p : ProjT} (h : projOk p = true) {r : Nat} (hr : r < p.2.2.2.1.length) (hm : 0 < (p.2.2.2.1.getD r zRes).2.length) :
    (p.2.2.2.1.getD r zRes).2.length = 4 ∧ ∀ i, i < 4 → (((p.2.2.2.1.getD r zRes).2).getD i []).length = 4 ∧ ∀ j, j < 4 → 0 ≤ (((p.2.2.2.1.getD r zRes).2).getD i []).getD j 0 ∧ (((p.2.2.2.1.getD r zRes).2).getD i []).getD j 0 ≤ 12 := by
  unfold projOk at h
  simp only [Bool.and_eq_true] at h
  have h1 := List.all_eq_true.1 h.2.2.1 r (List.mem_range.2 hr)
  unfold resOkB at h1
  simp only [Bool.and_eq_true, Bool.or_eq_true, decide_eq_true_eq] at h1
  obtain ⟨h2, _, h3⟩ := h1
  have h4 : (p.2.2.2.1.getD r zRes).2.length = 4 := by omega
  refine ⟨h4, fun i hi => ?_⟩
  have h5 := List.all_eq_true.1 h2 i (List.mem_range.2 (by omega))
  unfold rowOkB at h5
  simp only [Bool.and_eq_true, decide_eq_true_eq] at h5
  refine ⟨h5.1, fun j hj => ?_⟩
  have h6 := List.all_eq_true.1 h5.2 j (List.mem_range.2 (by omega))
  simp only [inBv, Bool.and_eq_true, decide_eq_true_eq] at h6
  exact h6
theorem setupV_bd {p : ProjT} (h : projOk p = true) {r a b : Nat} (hr : r < p.2.2.2.1.length) (hm : 0 < (p.2.2.2.1.getD r zRes).2.length) (ha : a < p.2.1.length) (hb : b < p.2.1.length) : 0 ≤ setupV p r a b ∧ setupV p r a b ≤ 12 := by
  obtain ⟨i, hi, hi4⟩ := projOk_fam h ha
  obtain ⟨j, hj, hj4⟩ := projOk_fam h hb
  have h1 := (projOk_setup h hr hm).2 i hi4
  unfold setupV
  rw [hi, hj]
  exact h1.2 j hj4
theorem start_bd {p : ProjT} {s : SchT} {k : Nat} (h : schFormB p s = true) (hk : k < p.2.1.length) : 0 ≤ s.1.getD k 0 ∧ s.1.getD k 0 ≤ 60 := (formAt_in h hk).2
theorem form_len {p : ProjT} {s : SchT} (h : schFormB p s = true) : s.1.length = p.2.1.length ∧ s.2.length = p.2.1.length := by
  unfold schFormB at h
  simp only [Bool.and_eq_true, decide_eq_true_eq] at h
  exact ⟨h.2.1, h.2.2.1⟩
end Go.Proofs.Ytiaamddhocdhaaa
