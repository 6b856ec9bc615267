/- A well formed project is small. No program. -/
import Derived.Test.YtiaamddhocdhaaaMode
import Derived.Test.YtiaamddhocdhaaaReps
import Derived.Test.YtiaamddhocdhaaaSchForm
namespace Go.Proofs.Ytiaamddhocdhaaa
open Go.RowKit
set_option linter.unusedVariables false

theorem sumL_bdX {α : Type} (f : α → Nat) (c : Nat) : ∀ (xs : List α), (∀ x, x ∈ xs → f x ≤ c) → sumL (xs.map f) ≤ xs.length * c := by
  intro xs
  induction xs with
  | nil => intro _; simp [sumL]
  | cons x xs ih =>
    intro h
    rw [List.map_cons, sumL_cons, List.length_cons, Nat.succ_mul]
    have := h x List.mem_cons_self
    have := ih fun y hy => h y (List.mem_cons_of_mem _ hy)
    omega
theorem mem_getDX {α : Type} {xs : List α} {x : α} (d : α) (h : x ∈ xs) : ∃ i, i < xs.length ∧ xs.getD i d = x := by
  obtain ⟨i, hi, rfl⟩ := List.getElem_of_mem h
  exact ⟨i, hi, by simp [List.getD, hi]⟩
theorem amounts_lenX {l : List Int} {n : Nat} (h : amountsB l n = true) : l.length = n := by
  unfold amountsB at h
  simp only [Bool.and_eq_true, decide_eq_true_eq] at h
  omega
theorem projOk_act_name {p : ProjT} (h : projOk p = true) {k : Nat} (hk : k < p.2.1.length) : (p.2.1.getD k zAct).1.size ≤ 8 := by
  have h1 := projOk_act h hk
  unfold actAtOk actOkB isNameB inBv at h1
  simp only [Bool.and_eq_true, decide_eq_true_eq] at h1
  omega
theorem resOk_bdX {r : ResT} (h : resOkB r = true) : r.1.length ≤ 8 ∧ r.2.length ≤ 4 ∧ ∀ x, x ∈ r.2 → x.length = 4 := by
  unfold resOkB stepsOkB inBv at h
  simp only [Bool.and_eq_true, decide_eq_true_eq, Bool.or_eq_true] at h
  refine ⟨by omega, by omega, fun x hx => ?_⟩
  obtain ⟨i, hi, rfl⟩ := mem_getDX [] hx
  have h1 := List.all_eq_true.1 h.1 i (List.mem_range.2 hi)
  unfold rowOkB at h1
  simp only [Bool.and_eq_true, decide_eq_true_eq] at h1
  exact h1.1
theorem projOk_resX {p : ProjT} (h : projOk p = true) {k : Nat} (hk : k < p.2.2.2.1.length) : resOkB (p.2.2.2.1.getD k zRes) = true := by
  unfold projOk at h
  simp only [Bool.and_eq_true] at h
  exact List.all_eq_true.1 h.2.2.1 k (List.mem_range.2 hk)
theorem bulkAct_leX {p : ProjT} (h : projOk p = true) : ∀ x, x ∈ p.2.1 → bulkActivity x ≤ 100 := by
  intro x hx
  obtain ⟨i, hi, rfl⟩ := mem_getDX zAct hx
  have hb := projOk_bd h
  have h1 := projOk_act_name h hi
  have h2 := projOk_modes h hi
  have h3 : sumL ((p.2.1.getD i zAct).2.2.map bulkMode) ≤ (p.2.1.getD i zAct).2.2.length * 10 := sumL_bdX _ _ _ fun m hm => by
    obtain ⟨j, hj, rfl⟩ := mem_getDX zMode hm
    have h4 := projOk_mode h hi hj
    unfold modeOkB at h4
    simp only [Bool.and_eq_true] at h4
    have h5 := amounts_lenX h4.2.1
    have h6 := amounts_lenX h4.2.2
    unfold bulkMode bulkIntS
    omega
  unfold bulkActivity bulkModeS
  generalize (p.2.1.getD i zAct).2.2.length = M at *
  have : M * 10 ≤ 3 * 10 := Nat.mul_le_mul_right _ h2.2
  omega
theorem bulkRes_leX {p : ProjT} (h : projOk p = true) : ∀ x, x ∈ p.2.2.2.1 → bulkResource x ≤ 100 := by
  intro x hx
  obtain ⟨i, hi, rfl⟩ := mem_getDX zRes hx
  obtain ⟨h1, h2, h3⟩ := resOk_bdX (projOk_resX h hi)
  have h4 : sumL ((p.2.2.2.1.getD i zRes).2.map bulkIntS) ≤ (p.2.2.2.1.getD i zRes).2.length * 4 := sumL_bdX _ _ _ fun m hm => by
    unfold bulkIntS
    rw [h3 m hm]; exact Nat.le_refl _
  unfold bulkResource bulkStepS bulkIntSS
  generalize (p.2.2.2.1.getD i zRes).2.length = M at *
  have : M * 4 ≤ 4 * 4 := Nat.mul_le_mul_right _ h2
  omega
theorem bulkProj_ok {p : ProjT} (h : projOk p = true) : bulkProject p ≤ 1048576 := by
  have hb := projOk_bd h
  have h1 := sumL_bdX bulkActivity 100 p.2.1 (bulkAct_leX h)
  have h2 := sumL_bdX bulkResource 100 p.2.2.2.1 (bulkRes_leX h)
  unfold bulkProject bulkActivityS bulkResourceS bulkLinkS bulkIntS
  have : p.2.1.length * 100 ≤ 6 * 100 := Nat.mul_le_mul_right _ hb.2.1
  have : p.2.2.2.1.length * 100 ≤ 3 * 100 := Nat.mul_le_mul_right _ hb.2.2.1
  omega
theorem bulkSch_ok {p : ProjT} {s : SchT} (h : schFormB p s = true) : bulkSchedule s ≤ 1048576 := by
  unfold schFormB at h
  simp only [Bool.and_eq_true, decide_eq_true_eq] at h
  have hb := projOk_bd h.1
  unfold bulkSchedule bulkIntS
  omega
end Go.Proofs.Ytiaamddhocdhaaa
