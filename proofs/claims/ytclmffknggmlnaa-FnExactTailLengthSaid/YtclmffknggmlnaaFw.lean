/- The longest distances of a net, stage by stage. No program. -/
import Derived.Test.YtclmffknggmlnaaNet
namespace Go.Proofs.Ytclmffknggmlnaa
set_option linter.unusedVariables false

def triV (a b c : Int) : Int := if b = -1000 ∨ c = -1000 then a else if a < b + c then b + c else a
def dist0 (N : Net) : Nat → Nat → Nat → Int
  | 0, i, k => if i = k then 0 else -1000
  | t + 1, i, k => if i = N.fr t ∧ k = N.to t ∧ dist0 N t i k < N.gp t then N.gp t else dist0 N t i k
def distM (N : Net) : Nat → Nat → Nat → Int
  | 0, i, k => dist0 N N.nl i k
  | m + 1, i, k => triV (distM N m i k) (distM N m i m) (distM N m m k)
theorem dist0_all (N : Net) (hF : N.Fine) : ∀ t, t ≤ N.nl → (∀ i, i < N.n → dist0 N t i i = 0) ∧ (∀ i k, i < N.n → k < N.n → dist0 N t i k = -1000 ∨ (∃ l, N.wk i l k ∧ N.wt l = dist0 N t i k) ∧ -60 ≤ dist0 N t i k ∧ dist0 N t i k ≤ 72) ∧ (∀ j, j < t → N.gp j ≤ dist0 N t (N.fr j) (N.to j)) := by
  intro t
  induction t with
  | zero =>
    intro _
    refine ⟨fun i _ => by simp [dist0], fun i k _ _ => ?_, fun j hj => by omega⟩
    by_cases h : i = k
    · right; subst h; exact ⟨⟨[], rfl, by simp [Net.wt, dist0]⟩, by simp [dist0], by simp [dist0]⟩
    · left; simp [dist0, h]
  | succ t ih =>
    intro ht
    obtain ⟨h1, h2, h3⟩ := ih (by omega)
    obtain ⟨f1, f2, f3, f4, f5⟩ := hF.at_ t (by omega)
    refine ⟨fun i hi => ?_, fun i k hi hk => ?_, fun j hj => ?_⟩
    · simp only [dist0]
      rw [if_neg (by rintro ⟨e1, e2, _⟩; exact f3 (e1.symm.trans e2))]
      exact h1 i hi
    · simp only [dist0]
      split
      · rename_i hc
        right
        exact ⟨⟨[t], ⟨by omega, hc.1.symm, hc.2.1.symm⟩, by simp [Net.wt]⟩, f4, f5⟩
      · exact h2 i k hi hk
    · simp only [dist0]
      by_cases e : j = t
      · subst e
        split
        · exact Int.le_refl _
        · rename_i hc
          simp only [true_and] at hc
          omega
      · have := h3 j (by omega)
        split
        · rename_i hc; omega
        · exact this

def cntM (N : Net) (m i k : Nat) : Nat := (List.range m).countP fun x => decide (distM N m i x ≠ -1000) && decide (distM N m x k ≠ -1000)
theorem countP_two {p q r : Nat → Bool} : ∀ l : List Nat, (∀ x ∈ l, p x = true → r x = true) → (∀ x ∈ l, q x = true → r x = true) → (∀ x ∈ l, p x = true → q x = true → False) → l.countP p + l.countP q ≤ l.countP r
  | [], _, _, _ => by simp
  | a :: l, hp, hq, hn => by
    have ih := countP_two l (fun x hx => hp x (by simp [hx])) (fun x hx => hq x (by simp [hx])) (fun x hx => hn x (by simp [hx]))
    simp only [List.countP_cons]
    have h1 := hp a (by simp)
    have h2 := hq a (by simp)
    have h3 := hn a (by simp)
    cases hpa : p a <;> cases hqa : q a <;> cases hra : r a <;> simp_all <;> omega
theorem countP_le {p r : Nat → Bool} (l : List Nat) (h : ∀ x ∈ l, p x = true → r x = true) : l.countP p ≤ l.countP r := by
  have := countP_two (p := p) (q := fun _ => false) (r := r) l h (fun _ _ h => by cases h) (fun _ _ _ h => by cases h)
  omega

structure DistInv (N : Net) (m : Nat) : Prop where
  val : ∀ i k, i < N.n → k < N.n → distM N m i k = -1000 ∨ (∃ l, N.wk i l k ∧ N.wt l = distM N m i k) ∧ -60 * (1 + (cntM N m i k : Int)) ≤ distM N m i k ∧ distM N m i k ≤ 72 * 2 ^ m
  diag : ∀ i, i < N.n → distM N m i i = 0
  tri : ∀ i j k, i < N.n → j < m → k < N.n → distM N m i j ≠ -1000 → distM N m j k ≠ -1000 → distM N m i k ≠ -1000 ∧ distM N m i j + distM N m j k ≤ distM N m i k
  link : ∀ j, j < N.nl → N.gp j ≤ distM N m (N.fr j) (N.to j)
theorem cntM_le (N : Net) (m i k : Nat) : cntM N m i k ≤ m := by
  have := List.countP_le_length (p := fun x => decide (distM N m i x ≠ -1000) && decide (distM N m x k ≠ -1000)) (l := List.range m)
  simpa [cntM] using this
theorem DistInv.low {N : Net} (hF : N.Fine) {m : Nat} (hm : m ≤ N.n) (h : DistInv N m) {i k : Nat} (hi : i < N.n) (hk : k < N.n) : distM N m i k = -1000 ∨ -420 ≤ distM N m i k ∧ distM N m i k ≤ 4608 := by
  rcases h.val i k hi hk with h1 | ⟨_, h1, h2⟩
  · exact Or.inl h1
  · right
    have h3 := cntM_le N m i k
    have h4 := hF.le
    have h5 : (72 : Int) * 2 ^ m ≤ 72 * 2 ^ 6 := by
      have h6 : m = 0 ∨ m = 1 ∨ m = 2 ∨ m = 3 ∨ m = 4 ∨ m = 5 ∨ m = 6 := by omega
      rcases h6 with rfl | rfl | rfl | rfl | rfl | rfl | rfl <;> decide
    omega
theorem triV_none {a b c : Int} (h : b = -1000 ∨ c = -1000) : triV a b c = a := by unfold triV; rw [if_pos h]
theorem triV_some {a b c : Int} (hb : b ≠ -1000) (hc : c ≠ -1000) : triV a b c = if a < b + c then b + c else a := by unfold triV; rw [if_neg (by rintro (h | h); exact hb h; exact hc h)]

theorem dist_all (N : Net) (hF : N.Fine) (hN : ∀ (l : List Nat) (i : Nat), N.wk i l i → N.wt l ≤ 0) : ∀ m, m ≤ N.n → DistInv N m := by
  intro m
  induction m with
  | zero =>
    intro _
    obtain ⟨h1, h2, h3⟩ := dist0_all N hF N.nl (Nat.le_refl _)
    refine ⟨fun i k hi hk => ?_, h1, fun i j k _ hj => by omega, h3⟩
    rcases h2 i k hi hk with h4 | ⟨h4, h5, h6⟩
    · exact Or.inl h4
    · right
      have h7 := cntM_le N 0 i k
      refine ⟨h4, ?_, by simpa [distM] using h6⟩
      have h8 : -60 ≤ distM N 0 i k := h5
      have h9 : cntM N 0 i k = 0 := by omega
      rw [h9]; simpa using h8
  | succ m ih =>
    intro hm
    have H := ih (by omega)
    have hmn : m < N.n := by omega
    have lo := fun {i k : Nat} (hi : i < N.n) (hk : k < N.n) => H.low hF (by omega) hi hk
    -- a value of the next stage
    have low2 : ∀ {i k : Nat}, i < N.n → k < N.n → distM N m i m ≠ -1000 → distM N m m k ≠ -1000 → -840 ≤ distM N m i m + distM N m m k := by
      intro i k hi hk h1 h2
      rcases lo hi hmn with h3 | h3
      · exact absurd h3 h1
      · rcases lo hmn hk with h4 | h4
        · exact absurd h4 h2
        · omega
    have keep : ∀ {i k : Nat}, distM N m i k ≠ -1000 → i < N.n → k < N.n → distM N (m + 1) i k ≠ -1000 ∧ distM N m i k ≤ distM N (m + 1) i k := by
      intro i k h hi hk
      simp only [distM]
      by_cases hb : distM N m i m = -1000 ∨ distM N m m k = -1000
      · rw [triV_none hb]; exact ⟨h, Int.le_refl _⟩
      · rw [not_or] at hb
        have := low2 hi hk hb.1 hb.2
        rw [triV_some hb.1 hb.2]
        split
        · exact ⟨by omega, by omega⟩
        · exact ⟨h, Int.le_refl _⟩
    have thru : ∀ {i k : Nat}, i < N.n → k < N.n → distM N m i m ≠ -1000 → distM N m m k ≠ -1000 → distM N (m + 1) i k ≠ -1000 ∧ distM N m i m + distM N m m k ≤ distM N (m + 1) i k := by
      intro i k hi hk h1 h2
      have := low2 hi hk h1 h2
      simp only [distM]
      rw [triV_some h1 h2]
      split
      · exact ⟨by omega, by omega⟩
      · rename_i h3; exact ⟨by omega, by omega⟩
    have form : ∀ {i k : Nat}, distM N (m + 1) i k = distM N m i k ∨ (distM N m i m ≠ -1000 ∧ distM N m m k ≠ -1000 ∧ distM N (m + 1) i k = distM N m i m + distM N m m k) := by
      intro i k
      simp only [distM]
      by_cases hb : distM N m i m = -1000 ∨ distM N m m k = -1000
      · left; rw [triV_none hb]
      · rw [not_or] at hb
        rw [triV_some hb.1 hb.2]
        split
        · right; exact ⟨hb.1, hb.2, rfl⟩
        · left; rfl
    have diag' : ∀ i, i < N.n → distM N (m + 1) i i = 0 := by
      intro i hi
      have h1 := H.diag i hi
      have h2 := (keep (i := i) (k := i) (by omega) hi hi).2
      rcases form (i := i) (k := i) with h3 | ⟨h3, h4, h5⟩
      · omega
      · rcases H.val i m hi hmn with h6 | ⟨⟨a, ha, ha'⟩, _⟩
        · exact absurd h6 h3
        · rcases H.val m i hmn hi with h7 | ⟨⟨b, hb, hb'⟩, _⟩
          · exact absurd h7 h4
          · have := hN (a ++ b) i ((N.wk_append _ _ _ _).2 ⟨m, ha, hb⟩)
            rw [N.wt_append] at this
            omega
    -- column and row m stay
    have col : ∀ i, i < N.n → distM N (m + 1) i m = distM N m i m := by
      intro i hi
      rcases form (i := i) (k := m) with h3 | ⟨h3, h4, h5⟩
      · exact h3
      · have := H.diag m hmn; omega
    have row : ∀ k, k < N.n → distM N (m + 1) m k = distM N m m k := by
      intro k hk
      rcases form (i := m) (k := k) with h3 | ⟨h3, h4, h5⟩
      · exact h3
      · have := H.diag m hmn; omega
    have tri' : ∀ i j k, i < N.n → j < m + 1 → k < N.n → distM N (m + 1) i j ≠ -1000 → distM N (m + 1) j k ≠ -1000 → distM N (m + 1) i k ≠ -1000 ∧ distM N (m + 1) i j + distM N (m + 1) j k ≤ distM N (m + 1) i k := by
      intro i j k hi hj hk h1 h2
      by_cases e : j = m
      · subst e
        rw [col i hi] at h1 ⊢
        rw [row k hk] at h2 ⊢
        exact thru hi hk h1 h2
      · have hjm : j < m := by omega
        have hjn : j < N.n := by omega
        rcases form (i := i) (k := j) with h3 | ⟨h3, h4, h5⟩
        · rcases form (i := j) (k := k) with h6 | ⟨h6, h7, h8⟩
          · rw [h3] at h1 ⊢
            rw [h6] at h2 ⊢
            obtain ⟨t1, t2⟩ := H.tri i j k hi hjm hk h1 h2
            obtain ⟨t3, t4⟩ := keep t1 hi hk
            exact ⟨t3, by omega⟩
          · rw [h3] at h1 ⊢
            obtain ⟨t1, t2⟩ := H.tri i j m hi hjm hmn h1 h6
            obtain ⟨t3, t4⟩ := thru hi hk t1 h7
            exact ⟨t3, by omega⟩
        · rcases form (i := j) (k := k) with h6 | ⟨h6, h7, h8⟩
          · rw [h6] at h2 ⊢
            obtain ⟨t1, t2⟩ := H.tri m j k hmn hjm hk h4 h2
            obtain ⟨t3, t4⟩ := thru hi hk h3 t1
            exact ⟨t3, by omega⟩
          · obtain ⟨t1, t2⟩ := H.tri m j m hmn hjm hmn h4 h6
            have t0 := H.diag m hmn
            obtain ⟨t3, t4⟩ := thru hi hk h3 h7
            exact ⟨t3, by omega⟩
    refine ⟨fun i k hi hk => ?_, diag', tri', fun j hj => ?_⟩
    · rcases form (i := i) (k := k) with h3 | ⟨h3, h4, h5⟩
      · rcases H.val i k hi hk with h6 | ⟨h6, h7, h8⟩
        · exact Or.inl (h3.trans h6)
        · right
          have hc : cntM N m i k ≤ cntM N (m + 1) i k := by
            unfold cntM
            rw [List.range_succ, List.countP_append]
            refine Nat.le_trans (countP_le _ fun x hx hp => ?_) (Nat.le_add_right _ _)
            have hxm := List.mem_range.1 hx
            simp only [Bool.and_eq_true, decide_eq_true_eq] at hp ⊢
            exact ⟨(keep hp.1 hi (by omega)).1, (keep hp.2 (by omega) hk).1⟩
          rw [h3]
          refine ⟨h6, by omega, ?_⟩
          rw [Int.pow_succ]
          have : (0 : Int) < 2 ^ m := Int.pow_pos (by decide)
          omega
      · rcases H.val i m hi hmn with h6 | ⟨⟨a, ha, ha'⟩, h7, h8⟩
        · exact absurd h6 h3
        · rcases H.val m k hmn hk with h9 | ⟨⟨b, hb, hb'⟩, h10, h11⟩
          · exact absurd h9 h4
          · right
            refine ⟨⟨a ++ b, (N.wk_append _ _ _ _).2 ⟨m, ha, hb⟩, by rw [N.wt_append]; omega⟩, ?_, by rw [Int.pow_succ]; omega⟩
            by_cases hold : distM N m i k = -1000
            · have hc : cntM N m i m + cntM N m m k + 1 ≤ cntM N (m + 1) i k := by
                unfold cntM
                rw [List.range_succ, List.countP_append]
                have h12 : List.countP (fun x => decide (distM N (m + 1) i x ≠ -1000) && decide (distM N (m + 1) x k ≠ -1000)) [m] = 1 := by
                  simp only [List.countP_cons, List.countP_nil]
                  rw [col i hi, row k hk]
                  simp [h3, h4]
                rw [h12]
                refine Nat.add_le_add_right (countP_two _ (fun x hx hp => ?_) (fun x hx hp => ?_) (fun x hx hp hq => ?_)) 1
                · have hxm := List.mem_range.1 hx
                  simp only [Bool.and_eq_true, decide_eq_true_eq] at hp ⊢
                  exact ⟨(keep hp.1 hi (by omega)).1, (thru (by omega) hk hp.2 h4).1⟩
                · have hxm := List.mem_range.1 hx
                  simp only [Bool.and_eq_true, decide_eq_true_eq] at hp ⊢
                  exact ⟨(thru hi (by omega) h3 hp.1).1, (keep hp.2 (by omega) hk).1⟩
                · have hxm := List.mem_range.1 hx
                  simp only [Bool.and_eq_true, decide_eq_true_eq] at hp hq
                  exact (H.tri i x k hi hxm hk hp.1 hq.2).1 hold
              omega
            · -- the old value stands below
              have hge : distM N m i k ≤ distM N (m + 1) i k := (keep hold hi hk).2
              rcases H.val i k hi hk with h12 | ⟨_, h13, _⟩
              · exact absurd h12 hold
              · have hc : cntM N m i k ≤ cntM N (m + 1) i k := by
                  unfold cntM
                  rw [List.range_succ, List.countP_append]
                  refine Nat.le_trans (countP_le _ fun x hx hp => ?_) (Nat.le_add_right _ _)
                  have hxm := List.mem_range.1 hx
                  simp only [Bool.and_eq_true, decide_eq_true_eq] at hp ⊢
                  exact ⟨(keep hp.1 hi (by omega)).1, (keep hp.2 (by omega) hk).1⟩
                omega
    · obtain ⟨f1, f2, f3, f4, f5⟩ := hF.at_ j hj
      have h1 := H.link j hj
      have h2 := (keep (i := N.fr j) (k := N.to j) (by omega) f1 f2).2
      omega
end Go.Proofs.Ytclmffknggmlnaa
