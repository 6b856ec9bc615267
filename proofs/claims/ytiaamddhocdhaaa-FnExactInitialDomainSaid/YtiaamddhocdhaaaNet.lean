/- Nets of weighted links: walks, cycles with a positive sum, the longest distances. No program. -/
import Derived.WalkKit
namespace Go.Proofs.Ytiaamddhocdhaaa
set_option linter.unusedVariables false

/-- n nodes, nl links. -/
structure Net where
  n : Nat
  nl : Nat
  fr : Nat → Nat
  to : Nat → Nat
  gp : Nat → Int
structure Net.Fine (N : Net) : Prop where
  at_ : ∀ j, j < N.nl → N.fr j < N.n ∧ N.to j < N.n ∧ N.fr j ≠ N.to j ∧ -60 ≤ N.gp j ∧ N.gp j ≤ 72
  le : N.n ≤ 6

/-- A walk: the links by their numbers. -/
def Net.wk (N : Net) : Nat → List Nat → Nat → Prop
  | i, [], k => i = k
  | i, j :: t, k => j < N.nl ∧ N.fr j = i ∧ N.wk (N.to j) t k
def Net.wt (N : Net) : List Nat → Int
  | [] => 0
  | j :: t => N.gp j + N.wt t
theorem Net.wt_append (N : Net) : ∀ a b, N.wt (a ++ b) = N.wt a + N.wt b
  | [], b => by simp [Net.wt]
  | j :: t, b => by
    have := Net.wt_append N t b
    simp only [List.cons_append, Net.wt, this]; omega
theorem Net.wk_append (N : Net) : ∀ (a b : List Nat) (i k : Nat), N.wk i (a ++ b) k ↔ ∃ m, N.wk i a m ∧ N.wk m b k
  | [], b, i, k => by simp [Net.wk]
  | j :: t, b, i, k => by
    simp only [List.cons_append, Net.wk, Net.wk_append N t b]
    constructor
    · rintro ⟨h1, h2, m, h3, h4⟩; exact ⟨m, ⟨h1, h2, h3⟩, h4⟩
    · rintro ⟨m, ⟨h1, h2, h3⟩, h4⟩; exact ⟨h1, h2, m, h3, h4⟩
theorem Net.wk_lt (N : Net) : ∀ (a : List Nat) (i k : Nat), N.wk i a k → ∀ j ∈ a, j < N.nl
  | [], i, k, h => by simp
  | j :: t, i, k, h => by
    intro x hx
    rcases List.mem_cons.1 hx with rfl | hx
    · exact h.1
    · exact Net.wk_lt N t _ _ h.2.2 x hx

/-- The first list that is not empty. -/
def firstV (c : Nat → List Nat) (n : Nat) : List Nat := match (List.range n).find? (fun k => !(c k).isEmpty) with | some k => c k | none => []
theorem firstV_hit {c : Nat → List Nat} {n k : Nat} (hk : k < n) (hc : c k ≠ []) (h : ∀ j, j < k → c j = []) : firstV c n = c k := by
  have : (List.range n).find? (fun k => !(c k).isEmpty) = some k := by
    rw [List.find?_range_eq_some]
    exact ⟨by simpa using hc, List.mem_range.2 hk, fun j hj => by rw [h j hj]; rfl⟩
  unfold firstV
  rw [this]
theorem firstV_miss {c : Nat → List Nat} {n : Nat} (h : ∀ j, j < n → c j = []) : firstV c n = [] := by
  have : (List.range n).find? (fun k => !(c k).isEmpty) = none := by
    rw [List.find?_eq_none]
    intro j hj
    rw [h j (List.mem_range.1 hj)]
    simp
  unfold firstV
  rw [this]
theorem firstV_nil {c : Nat → List Nat} {n : Nat} (h : firstV c n = []) : ∀ k, k < n → c k = [] := by
  intro k hk
  unfold firstV at h
  split at h
  · rename_i j hj
    have := List.find?_some hj
    simp [h] at this
  · rename_i hj
    have := List.find?_eq_none.1 hj k (List.mem_range.2 hk)
    simpa using this
theorem firstV_of {c : Nat → List Nat} {n : Nat} (h : firstV c n ≠ []) : ∃ k, k < n ∧ c k ≠ [] ∧ firstV c n = c k := by
  unfold firstV at h ⊢
  split at h
  · rename_i j hj
    exact ⟨j, List.mem_range.1 (List.mem_of_find?_eq_some hj), h, rfl⟩
  · exact absurd rfl h

/-- The first cycle of f links more with a positive sum that goes on behind way. -/
def Net.ringF (N : Net) : Nat → List Nat → List Nat
  | 0, way => if N.to (way.getLastD 0) = N.fr (way.headD 0) ∧ 0 < N.wt way then way else []
  | f + 1, way => if N.to (way.getLastD 0) = N.fr (way.headD 0) then [] else
      if (way.dropLast.map N.to).contains (N.to (way.getLastD 0)) then [] else
        firstV (fun k => if way.headD 0 < k ∧ N.fr k = N.to (way.getLastD 0) then Net.ringF N f (way ++ [k]) else []) N.nl
def Net.posF (N : Net) : List Nat := firstV (fun t => firstV (fun k => N.ringF (t + 1) [k]) N.nl) (N.n - 1)
theorem Net.wk_ends (N : Net) {i k : Nat} {a : List Nat} (h : N.wk i a k) (ha : a ≠ []) : N.fr (a.headD 0) = i ∧ N.to (a.getLastD 0) = k := by
  induction a generalizing i with
  | nil => exact absurd rfl ha
  | cons j t ih =>
    refine ⟨h.2.1, ?_⟩
    cases t with
    | nil => exact h.2.2
    | cons j' t' => exact (ih h.2.2 (by simp)).2
theorem Net.ringF_sound (N : Net) : ∀ (f : Nat) (way : List Nat) (i k : Nat), N.wk i way k → way ≠ [] → N.ringF f way ≠ [] →
    ∃ u, N.wk u (N.ringF f way) u ∧ 0 < N.wt (N.ringF f way) ∧ (N.ringF f way).length = way.length + f
  | 0, way, i, k, hw, hne, h => by
    simp only [Net.ringF] at h ⊢
    split at h
    · rename_i hc
      obtain ⟨e1, e2⟩ := N.wk_ends hw hne
      rw [if_pos hc]
      rw [e1, e2] at hc
      obtain ⟨rfl, h2⟩ := hc
      exact ⟨_, hw, h2, by simp⟩
    · exact absurd rfl h
  | f + 1, way, i, k, hw, hne, h => by
    simp only [Net.ringF] at h ⊢
    obtain ⟨e1, e2⟩ := N.wk_ends hw hne
    split at h
    · exact absurd rfl h
    · rename_i h1
      rw [if_neg h1]
      split at h
      · exact absurd rfl h
      · rename_i h2
        rw [if_neg h2]
        obtain ⟨j, hj, hc, he⟩ := firstV_of h
        rw [he]
        split at hc
        · rename_i h3
          rw [if_pos h3]
          have := Net.ringF_sound N f (way ++ [j]) i (N.to j) ((N.wk_append _ _ _ _).2 ⟨k, hw, hj, by rw [h3.2, e2], rfl⟩) (by simp) hc
          obtain ⟨u, h5, h6, h7⟩ := this
          exact ⟨u, h5, h6, by rw [h7]; simp; omega⟩
        · exact absurd rfl hc

/-- A cycle without a node twice that the search meets. -/
theorem Net.ringF_finds (N : Net) : ∀ (r q : List Nat) (i k : Nat), N.wk i q k → N.wk k r i → q ≠ [] → ((q ++ r).map N.fr).Nodup → (∀ x ∈ q.tail ++ r, q.headD 0 < x) → 0 < N.wt (q ++ r) → N.ringF r.length q ≠ []
  | [], q, i, k, hq, hr, hne, hnd, hmin, hpos => by
    obtain ⟨e1, e2⟩ := N.wk_ends hq hne
    simp only [List.length_nil, Net.ringF]
    rw [if_pos ⟨by rw [e1, e2]; exact hr, by simpa using hpos⟩]
    exact hne
  | j :: r, q, i, k, hq, hr, hne, hnd, hmin, hpos => by
    obtain ⟨e1, e2⟩ := N.wk_ends hq hne
    obtain ⟨hj, hjk, hr'⟩ := hr
    simp only [List.length_cons, Net.ringF]
    obtain ⟨a, t, rfl⟩ : ∃ a t, q = a :: t := by cases q with | nil => exact absurd rfl hne | cons a t => exact ⟨a, t, rfl⟩
    have hai : N.fr a = i := hq.2.1
    have hki : ¬ k = i := by
      intro e
      simp only [List.cons_append, List.map_cons, List.map_append, List.nodup_cons, List.mem_append, List.mem_cons] at hnd
      exact hnd.1 (Or.inr (Or.inl (by rw [hai, hjk, e])))
    rw [e1, e2, if_neg hki]
    have hvis : ¬ (((a :: t).dropLast.map N.to).contains k) = true := by
      intro hc
      rw [List.contains_iff_mem, List.mem_map] at hc
      obtain ⟨x, hx, hxk⟩ := hc
      -- x stands ahead of some y in q with fr y = to x
      have key : ∀ (l : List Nat) (i : Nat), N.wk i l k → ∀ x ∈ l.dropLast, ∃ y ∈ l.tail, N.fr y = N.to x := by
        intro l
        induction l with
        | nil => intro i _ x hx; simp at hx
        | cons b l ih =>
          intro i h x hx
          cases l with
          | nil => simp at hx
          | cons c l =>
            rw [List.dropLast_cons_cons] at hx
            rcases List.mem_cons.1 hx with rfl | hx
            · exact ⟨c, by simp, h.2.2.2.1⟩
            · obtain ⟨y, hy, hy'⟩ := ih _ h.2.2 x hx
              exact ⟨y, by simp at hy ⊢; exact Or.inr hy, hy'⟩
      obtain ⟨y, hy, hy'⟩ := key _ _ hq x hx
      simp only [List.tail_cons] at hy
      simp only [List.cons_append, List.map_cons, List.map_append, List.nodup_cons] at hnd
      have h2 := (List.nodup_append.1 hnd.2).2.2
      exact h2 (N.fr y) (List.mem_map.2 ⟨y, hy, rfl⟩) (N.fr j) (by simp) (by rw [hy', hxk, hjk])
    rw [if_neg hvis]
    intro hno
    have h1 := firstV_nil hno j hj
    have hlt : (a :: t).headD 0 < j := hmin j (by simp)
    rw [if_pos ⟨hlt, hjk⟩] at h1
    refine Net.ringF_finds N r (a :: t ++ [j]) i (N.to j) ((N.wk_append _ _ _ _).2 ⟨k, hq, hj, hjk, rfl⟩) hr' (by simp) (by simpa using hnd) (fun x hx => ?_) (by simpa using hpos) h1
    have hh : (a :: t ++ [j]).headD 0 = (a :: t).headD 0 := rfl
    rw [hh]
    refine hmin x ?_
    simpa using hx

/-- A closed walk with a positive sum holds a cycle without a node twice. -/
theorem Net.simple (N : Net) : ∀ (m : Nat) (l : List Nat) (i : Nat), l.length ≤ m → N.wk i l i → 0 < N.wt l → ∃ c u, N.wk u c u ∧ 0 < N.wt c ∧ (c.map N.fr).Nodup
  | 0, l, i, hm, hw, hp => by
    have : l = [] := List.eq_nil_of_length_eq_zero (by omega)
    subst this
    simp [Net.wt] at hp
  | m + 1, l, i, hm, hw, hp => by
    by_cases hnd : (l.map N.fr).Nodup
    · exact ⟨l, i, hw, hp, hnd⟩
    · -- two links from one node
      have key : ∀ l : List Nat, ¬ (l.map N.fr).Nodup → ∃ a x b y c, l = a ++ x :: (b ++ y :: c) ∧ N.fr x = N.fr y := by
        intro l
        induction l with
        | nil => intro h; simp at h
        | cons x l ih =>
          intro h
          by_cases hx : N.fr x ∈ l.map N.fr
          · obtain ⟨y, hy, hxy⟩ := List.mem_map.1 hx
            obtain ⟨b, c, rfl⟩ := List.append_of_mem hy
            exact ⟨[], x, b, y, c, rfl, hxy.symm⟩
          · obtain ⟨a, x', b, y, c, rfl, he⟩ := ih (fun hh => h (by rw [List.map_cons, List.nodup_cons]; exact ⟨hx, hh⟩))
            exact ⟨x :: a, x', b, y, c, rfl, he⟩
      obtain ⟨a, x, b, y, c, rfl, he⟩ := key l hnd
      obtain ⟨u, h1, h2⟩ := (N.wk_append _ _ _ _).1 hw
      obtain ⟨hx, hxu, h3⟩ := h2
      obtain ⟨v, h4, h5⟩ := (N.wk_append _ _ _ _).1 h3
      have hv : v = u := by rw [← h5.2.1, ← hxu, he]
      subst hv
      have e1 : N.wt (a ++ x :: (b ++ y :: c)) = N.wt (x :: b) + N.wt (a ++ y :: c) := by
        simp only [Net.wt_append, Net.wt]; omega
      simp only [List.length_append, List.length_cons] at hm
      by_cases hb : 0 < N.wt (x :: b)
      · exact Net.simple N m (x :: b) v (by simp; omega) ⟨hx, hxu, h4⟩ hb
      · exact Net.simple N m (a ++ y :: c) i (by simp; omega) ((N.wk_append _ _ _ _).2 ⟨v, h1, h5⟩) (by omega)

theorem nodup_le : ∀ (n : Nat) (l : List Nat), l.Nodup → (∀ x ∈ l, x < n) → l.length ≤ n
  | 0, l, _, h => by
    cases l with
    | nil => simp
    | cons a l => have := h a (by simp); omega
  | n + 1, l, hn, h => by
    have h1 := nodup_le n (l.erase n) (hn.erase n) (fun x hx => by
      have h2 := (List.Nodup.mem_erase_iff hn).1 hx
      have := h x h2.2
      have := h2.1
      omega)
    have h3 : l.length ≤ (l.erase n).length + 1 := by
      rw [List.length_erase]
      split <;> omega
    omega

/-- No cycle is found: no closed walk has a positive sum. -/
theorem Net.posF_none (N : Net) (hF : N.Fine) (h : N.posF = []) : ∀ (l : List Nat) (i : Nat), N.wk i l i → N.wt l ≤ 0 := by
  intro l i hw
  apply Classical.byContradiction
  intro hp
  obtain ⟨c, u, hc, hpos, hnd⟩ := N.simple l.length l i (Nat.le_refl _) hw (by omega)
  -- the least link of c
  have hne : c ≠ [] := by rintro rfl; simp [Net.wt] at hpos
  have least : ∀ l : List Nat, l ≠ [] → ∃ x ∈ l, ∀ y ∈ l, x ≤ y := by
    intro l
    induction l with
    | nil => intro h; exact absurd rfl h
    | cons x l ih =>
      intro _
      by_cases hl : l = []
      · subst hl; exact ⟨x, by simp, by simp⟩
      · obtain ⟨z, hz, hz'⟩ := ih hl
        by_cases hxz : x ≤ z
        · refine ⟨x, by simp, fun y hy => ?_⟩
          rcases List.mem_cons.1 hy with rfl | hy
          · exact Nat.le_refl _
          · exact Nat.le_trans hxz (hz' y hy)
        · refine ⟨z, by simp [hz], fun y hy => ?_⟩
          rcases List.mem_cons.1 hy with rfl | hy
          · omega
          · exact hz' y hy
  obtain ⟨x, hx, hxmin⟩ := least c hne
  obtain ⟨a, b, rfl⟩ := List.append_of_mem hx
  obtain ⟨v, h1, h2⟩ := (N.wk_append _ _ _ _).1 hc
  obtain ⟨hxl, hxv, h3⟩ := h2
  have hcyc : N.wk (N.to x) (b ++ a) v := (N.wk_append _ _ _ _).2 ⟨u, h3, h1⟩
  have hperm : (x :: (b ++ a)).Perm (a ++ x :: b) := by
    have h4 : (x :: b ++ a).Perm (a ++ (x :: b)) := List.perm_append_comm
    simpa using h4
  have hnd2 : ((x :: (b ++ a)).map N.fr).Nodup := (hperm.map N.fr).nodup_iff.2 hnd
  have hnd3 : (x :: (b ++ a)).Nodup := List.Pairwise.of_map N.fr (fun _ _ h e => h (by rw [e])) hnd2
  have hw2 : N.wt (x :: (b ++ a)) = N.wt (a ++ x :: b) := by simp only [Net.wt_append, Net.wt]; omega
  have hfind := N.ringF_finds (b ++ a) [x] v (N.to x) ⟨hxl, hxv, rfl⟩ hcyc (by simp) (by simpa using hnd2) (fun y hy => by
    have hy' : y ∈ b ++ a := by simpa using hy
    have h5 := hxmin y (hperm.mem_iff.1 (by simp at hy' ⊢; right; exact hy'))
    have h6 : x ≠ y := by rintro rfl; exact (List.nodup_cons.1 hnd3).1 hy'
    simp only [List.headD_cons]
    omega) (by simpa [hw2] using hpos)
  have hlen : ((x :: (b ++ a)).map N.fr).length ≤ N.n := nodup_le N.n _ hnd2 (fun y hy => by
    obtain ⟨j, hj, rfl⟩ := List.mem_map.1 hy
    have : j < N.nl := by
      rcases List.mem_cons.1 hj with rfl | hj
      · exact hxl
      · exact N.wk_lt _ _ _ hcyc j hj
    exact (hF.at_ j this).1)
  simp only [List.length_map, List.length_cons] at hlen
  have hba : b ++ a ≠ [] := by
    intro e
    rw [e] at hcyc
    have : N.to x = v := hcyc
    exact (hF.at_ x hxl).2.2.1 (by rw [hxv, this])
  obtain ⟨t, ht⟩ : ∃ t, (b ++ a).length = t + 1 := ⟨(b ++ a).length - 1, by
    have := List.length_pos_iff.2 hba
    omega⟩
  have h7 := firstV_nil h t (by omega)
  have h8 := firstV_nil h7 x hxl
  rw [ht] at hfind
  exact hfind h8
end Go.Proofs.Ytiaamddhocdhaaa

/- The longest distances of a net, stage by stage. No program. -/
namespace Go.Proofs.Ytiaamddhocdhaaa
set_option linter.unusedVariables false

def triV (a b c : Int) : Int := if b = -1000 ∨ c = -1000 then a else if a < b + c then b + c else a
def dist0 (N : Net) : Nat → Nat → Nat → Int
  | 0, i, k => if i = k then 0 else -1000
  | t + 1, i, k => if i = N.fr t ∧ k = N.to t ∧ dist0 N t i k < N.gp t then N.gp t else dist0 N t i k
def distM (N : Net) : Nat → Nat → Nat → Int
  | 0, i, k => dist0 N N.nl i k
  | m + 1, i, k => triV (distM N m i k) (distM N m i m) (distM N m m k)
theorem dist0_all (N : Net) (hF : N.Fine) : ∀ t, t ≤ N.nl → (∀ i, i < N.n → dist0 N t i i = 0) ∧ (∀ i k, i < N.n → k < N.n → dist0 N t i k = -1000 ∨ (∃ l, N.wk i l k ∧ N.wt l = dist0 N t i k) ∧ -60 ≤ dist0 N t i k ∧ dist0 N t i k ≤ 72) ∧ (∀ j, j < t → N.gp j ≤ dist0 N t (N.fr j) (N.to j)) := by
  intro t
  induction t with
  | zero =>
    intro _
    refine ⟨fun i _ => by simp [dist0], fun i k _ _ => ?_, fun j hj => by omega⟩
    by_cases h : i = k
    · right; subst h; exact ⟨⟨[], rfl, by simp [Net.wt, dist0]⟩, by simp [dist0], by simp [dist0]⟩
    · left; simp [dist0, h]
  | succ t ih =>
    intro ht
    obtain ⟨h1, h2, h3⟩ := ih (by omega)
    obtain ⟨f1, f2, f3, f4, f5⟩ := hF.at_ t (by omega)
    refine ⟨fun i hi => ?_, fun i k hi hk => ?_, fun j hj => ?_⟩
    · simp only [dist0]
      rw [if_neg (by rintro ⟨e1, e2, _⟩; exact f3 (e1.symm.trans e2))]
      exact h1 i hi
    · simp only [dist0]
      split
      · rename_i hc
        right
        exact ⟨⟨[t], ⟨by omega, hc.1.symm, hc.2.1.symm⟩, by simp [Net.wt]⟩, f4, f5⟩
      · exact h2 i k hi hk
    · simp only [dist0]
      by_cases e : j = t
      · subst e
        split
        · exact Int.le_refl _
        · rename_i hc
          simp only [true_and] at hc
          omega
      · have := h3 j (by omega)
        split
        · rename_i hc; omega
        · exact this

def cntM (N : Net) (m i k : Nat) : Nat := (List.range m).countP fun x => decide (distM N m i x ≠ -1000) && decide (distM N m x k ≠ -1000)
theorem countP_two {p q r : Nat → Bool} : ∀ l : List Nat, (∀ x ∈ l, p x = true → r x = true) → (∀ x ∈ l, q x = true → r x = true) → (∀ x ∈ l, p x = true → q x = true → False) → l.countP p + l.countP q ≤ l.countP r
  | [], _, _, _ => by simp
  | a :: l, hp, hq, hn => by
    have ih := countP_two l (fun x hx => hp x (by simp [hx])) (fun x hx => hq x (by simp [hx])) (fun x hx => hn x (by simp [hx]))
    simp only [List.countP_cons]
    have h1 := hp a (by simp)
    have h2 := hq a (by simp)
    have h3 := hn a (by simp)
    cases hpa : p a <;> cases hqa : q a <;> cases hra : r a <;> simp_all <;> omega
theorem countP_le {p r : Nat → Bool} (l : List Nat) (h : ∀ x ∈ l, p x = true → r x = true) : l.countP p ≤ l.countP r := by
  have := countP_two (p := p) (q := fun _ => false) (r := r) l h (fun _ _ h => by cases h) (fun _ _ _ h => by cases h)
  omega

structure DistInv (N : Net) (m : Nat) : Prop where
  val : ∀ i k, i < N.n → k < N.n → distM N m i k = -1000 ∨ (∃ l, N.wk i l k ∧ N.wt l = distM N m i k) ∧ -60 * (1 + (cntM N m i k : Int)) ≤ distM N m i k ∧ distM N m i k ≤ 72 * 2 ^ m
  diag : ∀ i, i < N.n → distM N m i i = 0
  tri : ∀ i j k, i < N.n → j < m → k < N.n → distM N m i j ≠ -1000 → distM N m j k ≠ -1000 → distM N m i k ≠ -1000 ∧ distM N m i j + distM N m j k ≤ distM N m i k
  link : ∀ j, j < N.nl → N.gp j ≤ distM N m (N.fr j) (N.to j)
theorem cntM_le (N : Net) (m i k : Nat) : cntM N m i k ≤ m := by
  have := List.countP_le_length (p := fun x => decide (distM N m i x ≠ -1000) && decide (distM N m x k ≠ -1000)) (l := List.range m)
  simpa [cntM] using this
theorem DistInv.low {N : Net} (hF : N.Fine) {m : Nat} (hm : m ≤ N.n) (h : DistInv N m) {i k : Nat} (hi : i < N.n) (hk : k < N.n) : distM N m i k = -1000 ∨ -420 ≤ distM N m i k ∧ distM N m i k ≤ 4608 := by
  rcases h.val i k hi hk with h1 | ⟨_, h1, h2⟩
  · exact Or.inl h1
  · right
    have h3 := cntM_le N m i k
    have h4 := hF.le
    have h5 : (72 : Int) * 2 ^ m ≤ 72 * 2 ^ 6 := by
      have h6 : m = 0 ∨ m = 1 ∨ m = 2 ∨ m = 3 ∨ m = 4 ∨ m = 5 ∨ m = 6 := by omega
      rcases h6 with rfl | rfl | rfl | rfl | rfl | rfl | rfl <;> decide
    omega
theorem triV_none {a b c : Int} (h : b = -1000 ∨ c = -1000) : triV a b c = a := by unfold triV; rw [if_pos h]
theorem triV_some {a b c : Int} (hb : b ≠ -1000) (hc : c ≠ -1000) : triV a b c = if a < b + c then b + c else a := by unfold triV; rw [if_neg (by rintro (h | h); exact hb h; exact hc h)]

theorem dist_all (N : Net) (hF : N.Fine) (hN : ∀ (l : List Nat) (i : Nat), N.wk i l i → N.wt l ≤ 0) : ∀ m, m ≤ N.n → DistInv N m := by
  intro m
  induction m with
  | zero =>
    intro _
    obtain ⟨h1, h2, h3⟩ := dist0_all N hF N.nl (Nat.le_refl _)
    refine ⟨fun i k hi hk => ?_, h1, fun i j k _ hj => by omega, h3⟩
    rcases h2 i k hi hk with h4 | ⟨h4, h5, h6⟩
    · exact Or.inl h4
    · right
      have h7 := cntM_le N 0 i k
      refine ⟨h4, ?_, by simpa [distM] using h6⟩
      have h8 : -60 ≤ distM N 0 i k := h5
      have h9 : cntM N 0 i k = 0 := by omega
      rw [h9]; simpa using h8
  | succ m ih =>
    intro hm
    have H := ih (by omega)
    have hmn : m < N.n := by omega
    have lo := fun {i k : Nat} (hi : i < N.n) (hk : k < N.n) => H.low hF (by omega) hi hk
    -- a value of the next stage
    have low2 : ∀ {i k : Nat}, i < N.n → k < N.n → distM N m i m ≠ -1000 → distM N m m k ≠ -1000 → -840 ≤ distM N m i m + distM N m m k := by
      intro i k hi hk h1 h2
      rcases lo hi hmn with h3 | h3
      · exact absurd h3 h1
      · rcases lo hmn hk with h4 | h4
        · exact absurd h4 h2
        · omega
    have keep : ∀ {i k : Nat}, distM N m i k ≠ -1000 → i < N.n → k < N.n → distM N (m + 1) i k ≠ -1000 ∧ distM N m i k ≤ distM N (m + 1) i k := by
      intro i k h hi hk
      simp only [distM]
      by_cases hb : distM N m i m = -1000 ∨ distM N m m k = -1000
      · rw [triV_none hb]; exact ⟨h, Int.le_refl _⟩
      · rw [not_or] at hb
        have := low2 hi hk hb.1 hb.2
        rw [triV_some hb.1 hb.2]
        split
        · exact ⟨by omega, by omega⟩
        · exact ⟨h, Int.le_refl _⟩
    have thru : ∀ {i k : Nat}, i < N.n → k < N.n → distM N m i m ≠ -1000 → distM N m m k ≠ -1000 → distM N (m + 1) i k ≠ -1000 ∧ distM N m i m + distM N m m k ≤ distM N (m + 1) i k := by
      intro i k hi hk h1 h2
      have := low2 hi hk h1 h2
      simp only [distM]
      rw [triV_some h1 h2]
      split
      · exact ⟨by omega, by omega⟩
      · rename_i h3; exact ⟨by omega, by omega⟩
    have form : ∀ {i k : Nat}, distM N (m + 1) i k = distM N m i k ∨ (distM N m i m ≠ -1000 ∧ distM N m m k ≠ -1000 ∧ distM N (m + 1) i k = distM N m i m + distM N m m k) := by
      intro i k
      simp only [distM]
      by_cases hb : distM N m i m = -1000 ∨ distM N m m k = -1000
      · left; rw [triV_none hb]
      · rw [not_or] at hb
        rw [triV_some hb.1 hb.2]
        split
        · right; exact ⟨hb.1, hb.2, rfl⟩
        · left; rfl
    have diag' : ∀ i, i < N.n → distM N (m + 1) i i = 0 := by
      intro i hi
      have h1 := H.diag i hi
      have h2 := (keep (i := i) (k := i) (by omega) hi hi).2
      rcases form (i := i) (k := i) with h3 | ⟨h3, h4, h5⟩
      · omega
      · rcases H.val i m hi hmn with h6 | ⟨⟨a, ha, ha'⟩, _⟩
        · exact absurd h6 h3
        · rcases H.val m i hmn hi with h7 | ⟨⟨b, hb, hb'⟩, _⟩
          · exact absurd h7 h4
          · have := hN (a ++ b) i ((N.wk_append _ _ _ _).2 ⟨m, ha, hb⟩)
            rw [N.wt_append] at this
            omega
    -- column and row m stay
    have col : ∀ i, i < N.n → distM N (m + 1) i m = distM N m i m := by
      intro i hi
      rcases form (i := i) (k := m) with h3 | ⟨h3, h4, h5⟩
      · exact h3
      · have := H.diag m hmn; omega
    have row : ∀ k, k < N.n → distM N (m + 1) m k = distM N m m k := by
      intro k hk
      rcases form (i := m) (k := k) with h3 | ⟨h3, h4, h5⟩
      · exact h3
      · have := H.diag m hmn; omega
    have tri' : ∀ i j k, i < N.n → j < m + 1 → k < N.n → distM N (m + 1) i j ≠ -1000 → distM N (m + 1) j k ≠ -1000 → distM N (m + 1) i k ≠ -1000 ∧ distM N (m + 1) i j + distM N (m + 1) j k ≤ distM N (m + 1) i k := by
      intro i j k hi hj hk h1 h2
      by_cases e : j = m
      · subst e
        rw [col i hi] at h1 ⊢
        rw [row k hk] at h2 ⊢
        exact thru hi hk h1 h2
      · have hjm : j < m := by omega
        have hjn : j < N.n := by omega
        rcases form (i := i) (k := j) with h3 | ⟨h3, h4, h5⟩
        · rcases form (i := j) (k := k) with h6 | ⟨h6, h7, h8⟩
          · rw [h3] at h1 ⊢
            rw [h6] at h2 ⊢
            obtain ⟨t1, t2⟩ := H.tri i j k hi hjm hk h1 h2
            obtain ⟨t3, t4⟩ := keep t1 hi hk
            exact ⟨t3, by omega⟩
          · rw [h3] at h1 ⊢
            obtain ⟨t1, t2⟩ := H.tri i j m hi hjm hmn h1 h6
            obtain ⟨t3, t4⟩ := thru hi hk t1 h7
            exact ⟨t3, by omega⟩
        · rcases form (i := j) (k := k) with h6 | ⟨h6, h7, h8⟩
          · rw [h6] at h2 ⊢
            obtain ⟨t1, t2⟩ := H.tri m j k hmn hjm hk h4 h2
            obtain ⟨t3, t4⟩ := thru hi hk h3 t1
            exact ⟨t3, by omega⟩
          · obtain ⟨t1, t2⟩ := H.tri m j m hmn hjm hmn h4 h6
            have t0 := H.diag m hmn
            obtain ⟨t3, t4⟩ := thru hi hk h3 h7
            exact ⟨t3, by omega⟩
    refine ⟨fun i k hi hk => ?_, diag', tri', fun j hj => ?_⟩
    · rcases form (i := i) (k := k) with h3 | ⟨h3, h4, h5⟩
      · rcases H.val i k hi hk with h6 | ⟨h6, h7, h8⟩
        · exact Or.inl (h3.trans h6)
        · right
          have hc : cntM N m i k ≤ cntM N (m + 1) i k := by
            unfold cntM
            rw [List.range_succ, List.countP_append]
            refine Nat.le_trans (countP_le _ fun x hx hp => ?_) (Nat.le_add_right _ _)
            have hxm := List.mem_range.1 hx
            simp only [Bool.and_eq_true, decide_eq_true_eq] at hp ⊢
            exact ⟨(keep hp.1 hi (by omega)).1, (keep hp.2 (by omega) hk).1⟩
          rw [h3]
          refine ⟨h6, by omega, ?_⟩
          rw [Int.pow_succ]
          have : (0 : Int) < 2 ^ m := Int.pow_pos (by decide)
          omega
      · rcases H.val i m hi hmn with h6 | ⟨⟨a, ha, ha'⟩, h7, h8⟩
        · exact absurd h6 h3
        · rcases H.val m k hmn hk with h9 | ⟨⟨b, hb, hb'⟩, h10, h11⟩
          · exact absurd h9 h4
          · right
            refine ⟨⟨a ++ b, (N.wk_append _ _ _ _).2 ⟨m, ha, hb⟩, by rw [N.wt_append]; omega⟩, ?_, by rw [Int.pow_succ]; omega⟩
            by_cases hold : distM N m i k = -1000
            · have hc : cntM N m i m + cntM N m m k + 1 ≤ cntM N (m + 1) i k := by
                unfold cntM
                rw [List.range_succ, List.countP_append]
                have h12 : List.countP (fun x => decide (distM N (m + 1) i x ≠ -1000) && decide (distM N (m + 1) x k ≠ -1000)) [m] = 1 := by
                  simp only [List.countP_cons, List.countP_nil]
                  rw [col i hi, row k hk]
                  simp [h3, h4]
                rw [h12]
                refine Nat.add_le_add_right (countP_two _ (fun x hx hp => ?_) (fun x hx hp => ?_) (fun x hx hp hq => ?_)) 1
                · have hxm := List.mem_range.1 hx
                  simp only [Bool.and_eq_true, decide_eq_true_eq] at hp ⊢
                  exact ⟨(keep hp.1 hi (by omega)).1, (thru (by omega) hk hp.2 h4).1⟩
                · have hxm := List.mem_range.1 hx
                  simp only [Bool.and_eq_true, decide_eq_true_eq] at hp ⊢
                  exact ⟨(thru hi (by omega) h3 hp.1).1, (keep hp.2 (by omega) hk).1⟩
                · have hxm := List.mem_range.1 hx
                  simp only [Bool.and_eq_true, decide_eq_true_eq] at hp hq
                  exact (H.tri i x k hi hxm hk hp.1 hq.2).1 hold
              omega
            · -- the old value stands below
              have hge : distM N m i k ≤ distM N (m + 1) i k := (keep hold hi hk).2
              rcases H.val i k hi hk with h12 | ⟨_, h13, _⟩
              · exact absurd h12 hold
              · have hc : cntM N m i k ≤ cntM N (m + 1) i k := by
                  unfold cntM
                  rw [List.range_succ, List.countP_append]
                  refine Nat.le_trans (countP_le _ fun x hx hp => ?_) (Nat.le_add_right _ _)
                  have hxm := List.mem_range.1 hx
                  simp only [Bool.and_eq_true, decide_eq_true_eq] at hp ⊢
                  exact ⟨(keep hp.1 hi (by omega)).1, (keep hp.2 (by omega) hk).1⟩
                omega
    · obtain ⟨f1, f2, f3, f4, f5⟩ := hF.at_ j hj
      have h1 := H.link j hj
      have h2 := (keep (i := N.fr j) (k := N.to j) (by omega) f1 f2).2
      omega
end Go.Proofs.Ytiaamddhocdhaaa
