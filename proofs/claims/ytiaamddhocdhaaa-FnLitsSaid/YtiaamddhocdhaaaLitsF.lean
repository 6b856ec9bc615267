/- Literals and their negations. No program. -/
import Derived.Test.YtiaamddhocdhaaaDrawQ
import Derived.Test.YtiaamddhocdhaaaSign
namespace Go.Proofs.Ytiaamddhocdhaaa
open Go.RowKit
set_option linter.unusedVariables false

theorem litOk_cases {p : ProjT} {l : LitT} (h : litOkB p l = true) : (∃ a : Nat, l.2.1 = a ∧ a < p.2.1.length) ∧ (l.1 = 1 ∨ l.1 = 2 ∨ l.1 = 3 ∨ l.1 = 4) := by
  unfold litOkB at h
  simp only [Bool.and_eq_true] at h
  obtain ⟨h1, h2, h3⟩ := h
  simp only [inBv, Bool.and_eq_true, decide_eq_true_eq] at h2
  obtain ⟨a, ha⟩ := Int.eq_ofNat_of_zero_le h2.1
  refine ⟨⟨a, ha, by omega⟩, ?_⟩
  unfold litAt at h3
  by_cases e1 : l.1 = 1
  · exact .inl e1
  rw [if_neg e1] at h3
  by_cases e2 : l.1 = 2
  · exact .inr (.inl e2)
  rw [if_neg e2] at h3
  by_cases e3 : l.1 = 3
  · exact .inr (.inr (.inl e3))
  rw [if_neg e3] at h3
  by_cases e4 : l.1 = 4
  · exact .inr (.inr (.inr e4))
  rw [if_neg e4] at h3
  cases h3
theorem schForm_lens {p : ProjT} {s : SchT} (h : schFormB p s = true) : s.1.length = p.2.1.length ∧ s.2.length = p.2.1.length := by
  unfold schFormB at h
  simp only [Bool.and_eq_true, decide_eq_true_eq] at h
  exact ⟨h.2.1, h.2.2.1⟩
/-- The values of a literal lie close by. -/
theorem litOk_val {p : ProjT} {l : LitT} (h : litOkB p l = true) : -1 ≤ l.2.2 ∧ l.2.2 ≤ 61 := by
  have hp : projOk p = true := by unfold litOkB at h; simp only [Bool.and_eq_true] at h; exact h.1
  obtain ⟨⟨a, ha, hlt⟩, hk⟩ := litOk_cases h
  have hm := projOk_modes hp hlt
  unfold litOkB at h
  simp only [Bool.and_eq_true] at h
  obtain ⟨-, -, h3⟩ := h
  rw [ha] at h3
  simp only [Int.toNat_natCast] at h3
  unfold litAt at h3
  generalize (p.2.1.getD a zAct).2.2.length = M at *
  rcases hk with e | e | e | e <;> rw [e] at h3 <;> simp [inBv] at h3 <;> omega
theorem neg_holds {p : ProjT} {l : LitT} {s : SchT} (h : litOkB p l = true) (hs : schFormB p s = true) : litHolds (negL l.1 l.2.1 l.2.2) s = !litHolds l s := by
  obtain ⟨⟨a, ha, hlt⟩, hk⟩ := litOk_cases h
  have hv := litOk_val h
  obtain ⟨k, l2, v⟩ := l
  simp only at ha hk hv
  subst ha
  obtain ⟨h1, h2⟩ := schForm_lens hs
  have i1 : inB (a : Int) 0 ((s.1.length : Int) - 1) = true := by simp [inB]; omega
  have i2 : inB (a : Int) 0 ((s.2.length : Int) - 1) = true := by simp [inB]; omega
  have i3 : inB v (-100000) 100000 = true := by simp [inB]; omega
  have key : ∀ k' v', litHolds (k', (a : Int), v') s = holdsB k' v' (s.1.getD a 0) (s.2.getD a 0) := fun k' v' => by
    unfold litHolds
    simp only
    rw [i1, i2]
    rfl
  rw [key]
  generalize s.1.getD a 0 = X at *
  generalize s.2.getD a 0 = Y at *
  unfold negL
  rw [i3, if_pos rfl]
  rcases hk with rfl | rfl | rfl | rfl
  · rw [if_pos rfl, key, holdsB, holdsB]
    by_cases e : v ≤ X
    · simp [e]; omega
    · simp [e]; omega
  · rw [if_neg (by simp), if_pos rfl, key, holdsB, holdsB]
    by_cases e : X ≤ v
    · simp [e]; omega
    · simp [e]; omega
  · rw [if_neg (by simp), if_neg (by simp), if_pos rfl, key, holdsB, holdsB]
    simp
  · rw [if_neg (by simp), if_neg (by simp), if_neg (by simp), if_pos rfl, key, holdsB, holdsB]
    simp
theorem neg_neg {p : ProjT} {l : LitT} (h : litOkB p l = true) : negL (negL l.1 l.2.1 l.2.2).1 (negL l.1 l.2.1 l.2.2).2.1 (negL l.1 l.2.1 l.2.2).2.2 = l := by
  obtain ⟨-, hk⟩ := litOk_cases h
  have hv := litOk_val h
  obtain ⟨k, a, v⟩ := l
  simp only at hk hv
  have i0 : inB v (-100000) 100000 = true := by simp [inB]; omega
  have i1 : inB (v - 1) (-100000) 100000 = true := by simp [inB]; omega
  have i2 : inB (v + 1) (-100000) 100000 = true := by simp [inB]; omega
  rcases hk with rfl | rfl | rfl | rfl <;> simp [negL, i0, i1, i2] <;> omega
theorem cmpI_swap (a b : Int) : cmpI a b = -cmpI b a := by unfold cmpI; split <;> split <;> (try split) <;> omega
theorem cmpI_zero (a b : Int) : cmpI a b = 0 ↔ a = b := by unfold cmpI; split <;> (try split) <;> omega
theorem cmpL_swap (k a v k' a' v' : Int) : cmpL k a v k' a' v' = -cmpL k' a' v' k a v := by
  unfold cmpL or3
  rw [cmpI_swap a' a, cmpI_swap k' k, cmpI_swap v' v]
  split <;> split <;> (try split) <;> (try split) <;> omega
theorem cmpL_zero (k a v k' a' v' : Int) : cmpL k a v k' a' v' = 0 ↔ k = k' ∧ a = a' ∧ v = v' := by
  unfold cmpL or3
  rw [← cmpI_zero k k', ← cmpI_zero a a', ← cmpI_zero v v']
  split <;> (try split) <;> omega
theorem cmpL_bd (k a v k' a' v' : Int) : -1 ≤ cmpL k a v k' a' v' ∧ cmpL k a v k' a' v' ≤ 1 := by
  unfold cmpL or3 cmpI
  repeat' split
  all_goals omega
theorem sign_some {p : ProjT} {l : LitT} (h : litOkB p l = true) : signF l.1 ≠ ⟨#[]⟩ := by
  obtain ⟨-, hk⟩ := litOk_cases h
  rcases hk with e | e | e | e <;> rw [e] <;> decide
end Go.Proofs.Ytiaamddhocdhaaa
