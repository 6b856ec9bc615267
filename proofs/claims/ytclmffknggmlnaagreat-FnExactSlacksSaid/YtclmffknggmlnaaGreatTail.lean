/- TailLength, both sides. -/
import Derived.Test.YtclmffknggmlnaaGreatPath
import Derived.Test.YtclmffknggmlnaaGreatLinkOk
import Derived.Deep.RegionHeld3
namespace Go.Proofs.YtclmffknggmlnaaGreat
open Go.ChangeShapes Go.WideShapes Go.ChangeAt Go.RowKit
set_option linter.unusedVariables false

def tailTo (M : List (List Int)) (p : ProjT) (a : Nat) : Nat → Int
  | 0 => 0
  | k + 1 => if (M.getD a []).getD k 0 = -1000 then tailTo M p a k else maxI (tailTo M p a k) ((M.getD a []).getD k 0 + shortV p k)
def tailV (p : ProjT) (a : Int) : Int := if 0 ≤ a ∧ a < ((distV p).length : Int) then tailTo (distV p) p a.toNat (distV p).length else 0
theorem distV_ok {p : ProjT} (h : 0 < (distV p).length) : projOk p = true ∧ (distV p).length = p.2.1.length := by
  unfold distV at h ⊢
  split at h
  · next h1 => rw [if_pos h1, rowsOf_length]; exact ⟨h1.1, rfl⟩
  · simp at h
theorem distV_diag {p : ProjT} {a : Nat} (h : a < (distV p).length) : ((distV p).getD a []).getD a 0 = 0 := by
  have hl := (distV_ok (p := p) (by omega)).2
  have hg : projOk p = true ∧ (netOf p).posF = [] := by
    unfold distV at h
    split at h
    · next h1 => exact h1
    · simp at h
  have e : distV p = rowsOf p.2.1.length p.2.1.length (distM (netOf p) p.2.1.length) := by unfold distV; rw [if_pos hg]
  have ha : a < p.2.1.length := by omega
  have hd := (dist_all _ (netOf_fine hg.1) ((netOf p).posF_none (netOf_fine hg.1) hg.2) p.2.1.length (Nat.le_refl _)).diag a ha
  rw [e, getD_get _ [] (by rw [rowsOf_length]; exact ha), rowsOf_at, getD_get _ 0 (by simp; exact ha)]
  simpa using hd
theorem tailTo_bd {p : ProjT} {M : List (List Int)} (hs : Sq M) (hp : projOk p = true) (hl : M.length = p.2.1.length) {a : Nat} (ha : a < M.length) : ∀ k, k ≤ M.length → 0 ≤ tailTo M p a k ∧ tailTo M p a k ≤ 4620 := by
  intro k
  induction k with
  | zero => intro _; simp [tailTo]
  | succ k ih =>
    intro hk
    have h1 := ih (by omega)
    have h2 := hs.2.2 a k ha (by omega)
    have h3 := shortV_bd hp (a := k) (by omega)
    simp only [tailTo, maxI_lt]
    split
    · exact h1
    · split <;> omega
theorem tailTo_ge {p : ProjT} {M : List (List Int)} {a : Nat} (hd : (M.getD a []).getD a 0 = 0) : ∀ k, a < k → shortV p a ≤ tailTo M p a k := by
  intro k
  induction k with
  | zero => intro h; omega
  | succ k ih =>
    intro h
    simp only [tailTo, maxI_lt]
    by_cases e : a = k
    · subst e
      rw [hd, if_neg (by decide)]
      split <;> omega
    · have := ih (by omega)
      split
      · exact this
      · split <;> omega
theorem maxI_eq (a b : Int) : maxI a b = max a b := by unfold maxI; split <;> omega
theorem maxI_swap (a b c : Int) : maxI (maxI a b) c = maxI (maxI a c) b := by
  simp only [maxI_eq]; omega
theorem inB_iff' {n lo hi : Int} : inB n lo hi = true ↔ lo ≤ n ∧ n ≤ hi := by unfold inB; simp


end Go.Proofs.YtclmffknggmlnaaGreat

/- Latest starts: the least of a row, reckoned in two ways. No program. -/
namespace Go.Proofs.YtclmffknggmlnaaGreat
open Go.RowKit
set_option linter.unusedVariables false

theorem wrap_in (x : Int) : -9223372036854775808 ≤ IntKind.i64.wrap x ∧ IntKind.i64.wrap x ≤ 9223372036854775807 := by
  rw [IntWalk.i64_left x]
  unfold RowKit.wrap64
  omega
/-- The latest start that entry k of row i lets. -/
def lateE (p : ProjT) (M : List (List Int)) (t : Int) (i k : Nat) : Int := IntKind.i64.wrap (IntKind.i64.wrap (t - shortV p k) - (M.getD i []).getD k 0)
/-- The reference: from the row's own. -/
def lateTo (p : ProjT) (M : List (List Int)) (t : Int) (i : Nat) : Nat → Int
  | 0 => IntKind.i64.wrap (t - shortV p i)
  | k + 1 => if (M.getD i []).getD k 0 = -1000 then lateTo p M t i k else min (lateTo p M t i k) (lateE p M t i k)
/-- The program: from the first that is met. -/
def lateI (p : ProjT) (M : List (List Int)) (t : Int) (i : Nat) : Nat → Bool × Int
  | 0 => (false, 0)
  | k + 1 => if (M.getD i []).getD k 0 ≠ -1000 ∧ ((lateI p M t i k).1 = false ∨ lateE p M t i k < (lateI p M t i k).2) then (true, lateE p M t i k) else lateI p M t i k
theorem late_both (p : ProjT) (M : List (List Int)) (t : Int) (i : Nat) : ∀ k, lateTo p M t i k = (if (lateI p M t i k).1 = true then min (lateTo p M t i 0) (lateI p M t i k).2 else lateTo p M t i 0) ∧ ∀ j, j < k → (M.getD i []).getD j 0 ≠ -1000 → (lateI p M t i k).1 = true ∧ (lateI p M t i k).2 ≤ lateE p M t i j := by
  intro k
  induction k with
  | zero => exact ⟨by simp [lateI], fun j hj => by omega⟩
  | succ k ih =>
    obtain ⟨h1, h2⟩ := ih
    rw [show lateTo p M t i (k + 1) = if (M.getD i []).getD k 0 = -1000 then lateTo p M t i k else min (lateTo p M t i k) (lateE p M t i k) from rfl, show lateI p M t i (k + 1) = if (M.getD i []).getD k 0 ≠ -1000 ∧ ((lateI p M t i k).1 = false ∨ lateE p M t i k < (lateI p M t i k).2) then (true, lateE p M t i k) else lateI p M t i k from rfl, h1]
    generalize lateTo p M t i 0 = Z at *
    generalize lateI p M t i k = L at *
    obtain ⟨f, l⟩ := L
    simp only at h2 ⊢
    obtain ⟨Q, hQ⟩ : ∃ Q, (if (M.getD i []).getD k 0 ≠ -1000 ∧ (f = false ∨ lateE p M t i k < l) then (true, lateE p M t i k) else (f, l)) = Q := ⟨_, rfl⟩
    rw [hQ]
    by_cases hd : (M.getD i []).getD k 0 = -1000
    · rw [if_neg (fun h => h.1 hd)] at hQ
      subst hQ
      rw [if_pos hd]
      refine ⟨rfl, fun j hj hn => h2 j ?_ hn⟩
      by_cases e : j = k
      · subst e; exact absurd hd hn
      · omega
    · rw [if_neg hd]
      cases f
      · rw [if_pos ⟨hd, .inl rfl⟩] at hQ
        subst hQ
        refine ⟨by simp, fun j hj hn => ⟨rfl, ?_⟩⟩
        by_cases e : j = k
        · subst e; exact Int.le_refl _
        · have := (h2 j (by omega) hn).1
          cases this
      · by_cases hl : lateE p M t i k < l
        · rw [if_pos ⟨hd, .inr hl⟩] at hQ
          subst hQ
          refine ⟨by simp; omega, fun j hj hn => ⟨rfl, ?_⟩⟩
          by_cases e : j = k
          · subst e; exact Int.le_refl _
          · have := (h2 j (by omega) hn).2
            show lateE p M t i k ≤ _
            omega
        · rw [if_neg (fun h => by rcases h.2 with h | h; cases h; exact hl h)] at hQ
          subst hQ
          refine ⟨by simp; omega, fun j hj hn => ⟨rfl, ?_⟩⟩
          by_cases e : j = k
          · subst e
            show l ≤ _
            omega
          · exact (h2 j (by omega) hn).2
theorem late_end {p : ProjT} {M : List (List Int)} {t : Int} {i n : Nat} (hi : i < n) (hd : (M.getD i []).getD i 0 = 0) : (lateI p M t i n).2 = lateTo p M t i n := by
  obtain ⟨h1, h2⟩ := late_both p M t i n
  obtain ⟨h3, h4⟩ := h2 i hi (by rw [hd]; decide)
  rw [h1, if_pos h3]
  have e : lateE p M t i i = lateTo p M t i 0 := by
    unfold lateE
    rw [hd, Int.sub_zero]
    exact IntWalk.i64_in _ (by have := wrap_in (t - shortV p i); omega)
  rw [e] at h4
  omega
end Go.Proofs.YtclmffknggmlnaaGreat
