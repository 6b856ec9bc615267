/- Contracts of chosen, MinDuration. -/
import Derived.Test.YthkcdmghchikjaaGreatOwn
import Derived.Test.YthkcdmghchikjaaGreatProjF
import Derived.Test.YthkcdmghchikjaaGreatHas
namespace Go.Proofs.YthkcdmghchikjaaGreat
open Go.ChangeShapes Go.WideShapes Go.ChangeAt Go.RowKit
set_option linter.unusedVariables false

/-- The chosen ones of the first k modes. -/
def chosenTo (l : List ModeT) (sel : List Int) : Nat → List ModeT
  | 0 => []
  | k + 1 => if hasB k sel = true then chosenTo l sel k ++ [l.getD k zMode] else chosenTo l sel k
theorem chosenTo_le (l : List ModeT) (sel : List Int) : ∀ k, (chosenTo l sel k).length ≤ k := by
  intro k
  induction k with
  | zero => simp [chosenTo]
  | succ k ih => simp only [chosenTo]; split <;> (try simp) <;> omega
theorem chosenTo_yes {l : List ModeT} {sel : List Int} {k : Nat} (h : hasB k sel = true) : chosenTo l sel (k + 1) = chosenTo l sel k ++ [l.getD k zMode] := by simp only [chosenTo]; rw [if_pos h]
theorem chosenTo_no {l : List ModeT} {sel : List Int} {k : Nat} (h : hasB k sel = false) : chosenTo l sel (k + 1) = chosenTo l sel k := by simp only [chosenTo]; rw [if_neg (by rw [h]; simp)]
def minStep (a : Option Int) (m : ModeT) : Option Int := some (match a with | none => m.1 | some n => if m.1 < n then m.1 else n)
def minO (xs : List ModeT) : Option Int := xs.foldl minStep none
/-- The least duration of some modes, 0 if there is none. -/
def minD (xs : List ModeT) : Int := (minO xs).getD 0
theorem minO_snoc (xs : List ModeT) (m : ModeT) : minO (xs ++ [m]) = minStep (minO xs) m := by simp [minO]
theorem minO_some {xs : List ModeT} (h : xs ≠ []) : ∃ n, minO xs = some n := by
  rcases List.eq_nil_or_concat xs with rfl | ⟨ys, y, rfl⟩
  · exact absurd rfl h
  · exact ⟨_, by rw [List.concat_eq_append, minO_snoc]; rfl⟩
theorem minD_first (m : ModeT) : minD ([] ++ [m]) = m.1 := rfl
theorem minD_lt {xs : List ModeT} {m : ModeT} (h : xs.length ≠ 0) (hlt : m.1 < minD xs) : minD (xs ++ [m]) = m.1 := by
  obtain ⟨n, hn⟩ := minO_some (xs := xs) (by rintro rfl; simp at h)
  unfold minD at hlt ⊢
  rw [hn] at hlt
  rw [minO_snoc, hn]
  simp only [minStep, Option.getD_some] at hlt ⊢
  rw [if_pos hlt]
theorem minD_ge {xs : List ModeT} {m : ModeT} (h : xs.length ≠ 0) (hlt : ¬ m.1 < minD xs) : minD (xs ++ [m]) = minD xs := by
  obtain ⟨n, hn⟩ := minO_some (xs := xs) (by rintro rfl; simp at h)
  unfold minD at hlt ⊢
  rw [hn] at hlt
  rw [minO_snoc, hn]
  simp only [minStep, Option.getD_some] at hlt ⊢
  rw [if_neg hlt]
theorem minO_in : ∀ (n : Nat) (xs : List ModeT), xs.length = n → ∀ v, minO xs = some v → ∃ m, m ∈ xs ∧ v = m.1 := by
  intro n
  induction n with
  | zero => intro xs h v hv; obtain rfl := List.eq_nil_of_length_eq_zero h; simp [minO] at hv
  | succ n ih =>
    intro xs h v hv
    rcases List.eq_nil_or_concat xs with rfl | ⟨ys, y, rfl⟩
    · simp at h
    · rw [List.concat_eq_append] at h hv ⊢
      rw [minO_snoc] at hv
      simp only [minStep, Option.some.injEq] at hv
      cases hy : minO ys with
      | none => rw [hy] at hv; exact ⟨y, by simp, hv.symm⟩
      | some u =>
        rw [hy] at hv
        simp only at hv
        split at hv
        · exact ⟨y, by simp, hv.symm⟩
        · obtain ⟨m, h1, h2⟩ := ih ys (by simp at h; omega) u hy
          exact ⟨m, by simp [h1], by rw [← hv, h2]⟩
theorem chosenTo_in {l : List ModeT} {sel : List Int} {m : ModeT} : ∀ k, k ≤ l.length → m ∈ chosenTo l sel k → m ∈ l := by
  intro k
  induction k with
  | zero => intro _ h; simp [chosenTo] at h
  | succ k ih =>
    intro hk h
    simp only [chosenTo] at h
    split at h
    · rcases List.mem_append.1 h with h | h
      · exact ih (by omega) h
      · obtain rfl : m = l.getD k zMode := by simpa using h
        rw [List.getD_eq_getElem?_getD, List.getElem?_eq_getElem (by omega)]
        exact List.getElem_mem _
    · exact ih (by omega) h
/-- The least duration of an activity in some of its modes. -/
def minDur (l : List ModeT) (sel : List Int) : Int := minD (chosenTo l sel l.length)
theorem minDur_bd {l : List ModeT} {sel : List Int} (h : ∀ m, m ∈ l → 1 ≤ m.1 ∧ m.1 ≤ 12) : 0 ≤ minDur l sel ∧ minDur l sel ≤ 12 := by
  unfold minDur minD
  cases hm : minO (chosenTo l sel l.length) with
  | none => simp
  | some v =>
    obtain ⟨m, h1, rfl⟩ := minO_in _ _ rfl v hm
    have := h m (chosenTo_in _ (Nat.le_refl _) h1)
    simp only [Option.getD_some]
    omega


theorem take_snoc {l : List ModeT} {k : Nat} (h : k < l.length) : l.take (k + 1) = l.take k ++ [l.getD k zMode] := by
  rw [List.take_succ_eq_append_getElem h]
  simp [List.getD, h]



end Go.Proofs.YthkcdmghchikjaaGreat
