/- What can be reached: the reference's rounds and the program's search; a queue whose head is cut off. -/
import Derived.Test.YtiaamddhocdhaaaSideF
import Derived.Test.YtiaamddhocdhaaaGap
import Derived.Test.YtiaamddhocdhaaaSetW
namespace Go.Proofs.Ytiaamddhocdhaaa
open Go.RowKit
set_option linter.unusedVariables false

/-- All numbers of the list are activities. -/
def InR (p : ProjT) (l : List Int) : Prop := ∀ x, x ∈ l → 0 ≤ x ∧ x < (p.2.1.length : Int)
theorem side_in {p : ProjT} (h : projOk p = true) (a : Int) : InR p (sideV p a false) := by
  intro x hx
  have h1 := (setL_mem _ _).1 hx
  obtain ⟨i, hi, rfl⟩ := sideTo_mem _ _ _ _ (Nat.le_refl _) x h1
  obtain ⟨-, ⟨b, hb, hb'⟩, -⟩ := linkOk_bd (projOk_link h hi)
  unfold sideE
  rw [if_neg (by decide)]
  omega
theorem inc_len : ∀ (l : List Int) (lo n : Int), Inc l → (∀ x, x ∈ l → lo ≤ x ∧ x < n) → lo ≤ n → (l.length : Int) ≤ n - lo := by
  intro l
  induction l with
  | nil => intro lo n _ _ h; simp; omega
  | cons x l ih =>
    intro lo n h hr hlo
    have h' := List.pairwise_cons.1 h
    have hx := hr x List.mem_cons_self
    have := ih (x + 1) n h'.2 (fun y hy => ⟨by have := h'.1 y hy; omega, (hr y (List.mem_cons_of_mem _ hy)).2⟩) (by omega)
    simp only [List.length_cons]
    omega
theorem inr_len {p : ProjT} {l : List Int} (h : Inc l) (hr : InR p l) : l.length ≤ p.2.1.length := by
  have := inc_len l 0 p.2.1.length h hr (by omega)
  omega
/-- One union of a round. -/
def unS (p : ProjT) (s : List Int) (x : Int) : List Int := setL (s ++ sideV p x false)
def stepS (p : ProjT) (s : List Int) : List Int := s.foldl (unS p) s
def reachS (p : ProjT) (a : Int) : Nat → List Int
  | 0 => sucV p a
  | n + 1 => stepS p (reachS p a n)
def fldS (p : ProjT) (s : List Int) (j : Nat) : List Int := (s.take j).foldl (unS p) s
theorem fldS_zero (p : ProjT) (s : List Int) : fldS p s 0 = s := by simp [fldS]
theorem fldS_next {p : ProjT} {s : List Int} {j : Nat} (h : j < s.length) : fldS p s (j + 1) = unS p (fldS p s j) (s.getD j 0) := by
  unfold fldS
  rw [List.take_succ_eq_append_getElem h, List.foldl_append, List.getD_eq_getElem?_getD, List.getElem?_eq_getElem h]
  rfl
theorem fldS_all (p : ProjT) (s : List Int) : fldS p s s.length = stepS p s := by unfold fldS stepS; rw [List.take_length]
theorem unS_mem (p : ProjT) (s : List Int) (x y : Int) : y ∈ unS p s x ↔ y ∈ s ∨ y ∈ sideV p x false := by unfold unS; rw [setL_mem, List.mem_append]
theorem fold_un (p : ProjT) (l : List Int) : ∀ (s : List Int) (y : Int), y ∈ l.foldl (unS p) s ↔ y ∈ s ∨ ∃ x, x ∈ l ∧ y ∈ sideV p x false := by
  induction l with
  | nil => intro s y; simp
  | cons z l ih =>
    intro s y
    rw [List.foldl_cons, ih, unS_mem]
    constructor
    · rintro ((h | h) | ⟨x, hx, h⟩)
      · exact .inl h
      · exact .inr ⟨z, List.mem_cons_self, h⟩
      · exact .inr ⟨x, List.mem_cons_of_mem _ hx, h⟩
    · rintro (h | ⟨x, hx, h⟩)
      · exact .inl (.inl h)
      · rcases List.mem_cons.1 hx with e | hx
        · subst e; exact .inl (.inr h)
        · exact .inr ⟨x, hx, h⟩
theorem stepS_mem (p : ProjT) (s : List Int) (y : Int) : y ∈ stepS p s ↔ y ∈ s ∨ ∃ x, x ∈ s ∧ y ∈ sideV p x false := fold_un p s s y
/-- Sets of activities. -/
def SetA (p : ProjT) (l : List Int) : Prop := Inc l ∧ InR p l
theorem fldS_set {p : ProjT} (hp : projOk p = true) {s : List Int} (h : SetA p s) : ∀ j, j ≤ s.length → SetA p (fldS p s j) := by
  intro j
  induction j with
  | zero => intro _; rw [fldS_zero]; exact h
  | succ j ih =>
    intro hj
    rw [fldS_next (by omega)]
    refine ⟨setL_inc _, fun x hx => ?_⟩
    rcases (unS_mem _ _ _ _).1 hx with h1 | h1
    · exact (ih (by omega)).2 x h1
    · exact side_in hp _ x h1
theorem suc_set {p : ProjT} (hp : projOk p = true) (a : Int) : SetA p (sucV p a) := by
  unfold sucV nbrV
  split
  · exact ⟨setL_inc _, side_in hp a⟩
  · exact ⟨List.Pairwise.nil, fun x hx => by cases hx⟩
theorem reachS_set {p : ProjT} (hp : projOk p = true) (a : Int) : ∀ n, SetA p (reachS p a n) := by
  intro n
  induction n with
  | zero => exact suc_set hp a
  | succ n ih =>
    show SetA p (stepS p (reachS p a n))
    rw [← fldS_all]
    exact fldS_set hp ih _ (Nat.le_refl _)
theorem reachS_up {p : ProjT} {a : Int} {n : Nat} {x : Int} (h : x ∈ reachS p a n) : x ∈ reachS p a (n + 1) := (stepS_mem _ _ _).2 (.inl h)
theorem reachS_le {p : ProjT} {a : Int} {n m : Nat} (h : n ≤ m) {x : Int} (hx : x ∈ reachS p a n) : x ∈ reachS p a m := by
  obtain ⟨d, rfl⟩ := Nat.le.dest h
  clear h
  induction d with
  | zero => exact hx
  | succ d ih => exact reachS_up ih
/-- Nothing can be added. -/
def ClosedA (p : ProjT) (s : List Int) : Prop := ∀ x, x ∈ s → ∀ y, y ∈ sideV p x false → y ∈ s
theorem closed_step {p : ProjT} {s : List Int} (h : ClosedA p s) (x : Int) : x ∈ stepS p s ↔ x ∈ s := by
  rw [stepS_mem]
  exact ⟨fun h' => h'.elim id fun ⟨z, hz, hx⟩ => h z hz x hx, .inl⟩
theorem closed_up {p : ProjT} {a : Int} {n : Nat} (h : ClosedA p (reachS p a n)) : ∀ d x, x ∈ reachS p a (n + d) → x ∈ reachS p a n := by
  intro d
  induction d with
  | zero => intro x hx; exact hx
  | succ d ih =>
    intro x hx
    rcases (stepS_mem _ _ _).1 hx with h1 | ⟨z, hz, h1⟩
    · exact ih x h1
    · exact h z (ih z hz) x h1
theorem inc_lt_len : ∀ {a b : List Int}, Inc a → Inc b → (∀ x, x ∈ a → x ∈ b) → (∃ y, y ∈ b ∧ ¬ y ∈ a) → a.length < b.length := by
  intro a
  induction a with
  | nil =>
    intro b _ _ _ h
    obtain ⟨y, hy, _⟩ := h
    exact List.length_pos_of_mem hy
  | cons x a ih =>
    intro b ha hb hs hex
    cases b with
    | nil => exact absurd (hs x List.mem_cons_self) (by simp)
    | cons y b =>
      have ha' := List.pairwise_cons.1 ha
      have hb' := List.pairwise_cons.1 hb
      by_cases e : x = y
      · subst e
        obtain ⟨z, hz, hz'⟩ := hex
        have := ih ha'.2 hb'.2 (fun w hw => by
          rcases List.mem_cons.1 (hs w (List.mem_cons_of_mem _ hw)) with e | h
          · subst e; exact absurd (ha'.1 _ hw) (by omega)
          · exact h) ⟨z, by
            rcases List.mem_cons.1 hz with e | h
            · subst e; exact absurd List.mem_cons_self hz'
            · exact h, fun h => hz' (List.mem_cons_of_mem _ h)⟩
        simp only [List.length_cons]; omega
      · have hxb : x ∈ b := by
          rcases List.mem_cons.1 (hs x List.mem_cons_self) with h | h
          · exact absurd h e
          · exact h
        have hyx := hb'.1 x hxb
        have hsub : ∀ w, w ∈ x :: a → w ∈ b := fun w hw => by
          rcases List.mem_cons.1 (hs w hw) with h | h
          · subst h
            rcases List.mem_cons.1 hw with h | h
            · exact absurd h.symm e
            · have := ha'.1 w h; omega
          · exact h
        by_cases hall : ∃ z, z ∈ b ∧ ¬ z ∈ x :: a
        · have h1 : a.length < b.length := ih ha'.2 hb'.2 (fun w hw => hsub w (List.mem_cons_of_mem _ hw)) ⟨x, hxb, fun h => by have := ha'.1 x h; omega⟩
          simp only [List.length_cons]; omega
        · have h1 : a.length < b.length := ih ha'.2 hb'.2 (fun w hw => hsub w (List.mem_cons_of_mem _ hw)) ⟨x, hxb, fun h => by have := ha'.1 x h; omega⟩
          simp only [List.length_cons]; omega
theorem reach_grow {p : ProjT} (hp : projOk p = true) (a : Int) : ∀ n, (∃ k, k ≤ n ∧ ClosedA p (reachS p a k)) ∨ n + 1 ≤ (reachS p a n).length := by
  intro n
  induction n with
  | zero =>
    by_cases h : (reachS p a 0).length = 0
    · left
      refine ⟨0, Nat.le_refl _, fun x hx => ?_⟩
      rw [List.eq_nil_of_length_eq_zero h] at hx
      cases hx
    · right; omega
  | succ n ih =>
    rcases ih with ⟨k, hk, h⟩ | ih
    · exact .inl ⟨k, by omega, h⟩
    · by_cases hc : ClosedA p (reachS p a n)
      · exact .inl ⟨n, by omega, hc⟩
      · right
        have hex : ∃ y, y ∈ reachS p a (n + 1) ∧ ¬ y ∈ reachS p a n := by
          unfold ClosedA at hc
          simp only [Classical.not_forall] at hc
          obtain ⟨x, hx, y, hy, hny⟩ := hc
          exact ⟨y, (stepS_mem _ _ _).2 (.inr ⟨x, hx, hy⟩), hny⟩
        have := inc_lt_len (reachS_set hp a n).1 (reachS_set hp a (n + 1)).1 (fun x hx => reachS_up hx) hex
        omega
/-- The rounds reach all. -/
theorem reach_all {p : ProjT} (hp : projOk p = true) (a : Int) (n : Nat) (x : Int) (h : x ∈ reachS p a n) : x ∈ reachS p a p.2.1.length := by
  rcases reach_grow hp a p.2.1.length with ⟨k, hk, hc⟩ | hg
  · rcases Nat.lt_or_ge n k with hn | hn
    · exact reachS_le (by omega) h
    · obtain ⟨d, rfl⟩ := Nat.le.dest hn
      exact reachS_le hk (closed_up hc d x h)
  · have := inr_len (reachS_set hp a p.2.1.length).1 (reachS_set hp a p.2.1.length).2
    omega
def reachB (p : ProjT) (a b : Int) : Bool := projOk p && hasB b (reachS p a p.2.1.length)
/-- One element of the program's inner loop. -/
def bfs (s : List Int × List Int) (x : Int) : List Int × List Int := if hasB x s.1 = true then s else (s.1 ++ [x], s.2 ++ [x])
def bfsTo (seen opn D : List Int) (j : Nat) : List Int × List Int := (D.take j).foldl bfs (seen, opn)
theorem bfsTo_zero (seen opn D : List Int) : bfsTo seen opn D 0 = (seen, opn) := by simp [bfsTo]
theorem bfsTo_next {seen opn D : List Int} {j : Nat} (h : j < D.length) : bfsTo seen opn D (j + 1) = bfs (bfsTo seen opn D j) (D.getD j 0) := by
  unfold bfsTo
  rw [List.take_succ_eq_append_getElem h, List.foldl_append, List.getD_eq_getElem?_getD, List.getElem?_eq_getElem h]
  rfl
theorem bfs_mem (l : List Int) : ∀ (s : List Int × List Int) (y : Int), (y ∈ (l.foldl bfs s).1 ↔ y ∈ s.1 ∨ y ∈ l) ∧ (y ∈ (l.foldl bfs s).2 → y ∈ s.2 ∨ y ∈ l) ∧ (y ∈ s.2 → y ∈ (l.foldl bfs s).2) ∧ (y ∈ (l.foldl bfs s).1 → y ∈ s.1 ∨ y ∈ (l.foldl bfs s).2) := by
  induction l with
  | nil => intro s y; simp; exact Or.inl
  | cons z l ih =>
    intro s y
    rw [List.foldl_cons]
    obtain ⟨h1, h2, h3, h4⟩ := ih (bfs s z) y
    by_cases hz : hasB z s.1 = true
    · have e : bfs s z = s := if_pos hz
      rw [e] at h1 h2 h3 h4 ⊢
      have hz' := (hasB_iff z s.1).1 hz
      refine ⟨h1.trans ⟨fun h => h.elim .inl fun h => .inr (List.mem_cons_of_mem _ h), fun h => h.elim .inl fun h => ?_⟩, fun h => (h2 h).elim .inl fun h => .inr (List.mem_cons_of_mem _ h), h3, h4⟩
      rcases List.mem_cons.1 h with e | h
      · subst e; exact .inl hz'
      · exact .inr h
    · have e : bfs s z = (s.1 ++ [z], s.2 ++ [z]) := if_neg hz
      rw [e] at h1 h2 h3 h4 ⊢
      simp only [List.mem_append, List.mem_singleton] at h1 h2 h3 h4
      refine ⟨h1.trans ?_, fun h => ?_, fun h => h3 (.inl h), fun h => ?_⟩
      · rw [List.mem_cons, or_assoc]
      · rw [List.mem_cons]
        rcases h2 h with (h | h) | h
        · exact .inl h
        · exact .inr (.inl h)
        · exact .inr (.inr h)
      · rcases h4 h with (h5 | h5) | h5
        · exact .inl h5
        · exact .inr ((ih (s.1 ++ [z], s.2 ++ [z]) y).2.2.1 (by simp [h5]))
        · exact .inr h5
/-- No number twice, told by the set's length. -/
def Once (l : List Int) : Prop := (setL l).length = l.length
theorem once_snoc {l : List Int} {x : Int} (h : Once l) (hx : ¬ x ∈ l) : Once (l ++ [x]) := by
  unfold Once at h ⊢
  rw [setL_snoc]
  unfold putL
  rw [if_neg (by rw [hasB_iff, setL_mem]; exact hx)]
  have := cntL_le x (setL l)
  simp [List.length_take, List.length_drop]
  omega
theorem once_bfs (l : List Int) : ∀ (s : List Int × List Int), Once s.1 → Once (l.foldl bfs s).1 := by
  induction l with
  | nil => intro s h; exact h
  | cons z l ih =>
    intro s h
    rw [List.foldl_cons]
    refine ih _ ?_
    unfold bfs
    split
    · exact h
    · next hz => exact once_snoc h fun hm => hz ((hasB_iff z s.1).2 hm)
theorem once_len {p : ProjT} {l : List Int} (h : Once l) (hr : InR p l) : l.length ≤ p.2.1.length := by
  have h1 := inr_len (setL_inc l) (fun x hx => hr x ((setL_mem l x).1 hx))
  unfold Once at h
  omega
/-- What the search has so far. -/
structure Bfs (p : ProjT) (a : Int) (seen opn : List Int) : Prop where
  reach : ∀ x, x ∈ seen → ∃ n, x ∈ reachS p a n
  once : Once seen
  done : ∀ u, (u = a ∨ u ∈ seen) → u ∈ opn ∨ ∀ y, y ∈ sideV p u false → y ∈ seen
  left : ∀ x, x ∈ opn → x = a ∨ x ∈ seen
theorem Bfs.start (p : ProjT) (a : Int) : Bfs p a [] [a] := by
  refine ⟨fun x h => absurd h (by simp), rfl, fun u h => ?_, fun x h => .inl (by simpa using h)⟩
  rcases h with h | h
  · exact .inl (by simp [h])
  · cases h
theorem Bfs.inr {p : ProjT} {a : Int} {seen opn : List Int} (hp : projOk p = true) (h : Bfs p a seen opn) : InR p seen := fun x hx => by
  obtain ⟨n, hn⟩ := h.reach x hx
  exact (reachS_set hp a n).2 x hn
theorem Bfs.next {p : ProjT} {a u : Int} {seen rest : List Int} (hp : projOk p = true) (ha : inB a 0 ((p.2.1.length : Int) - 1) = true) (h : Bfs p a seen (u :: rest)) : Bfs p a (bfsTo seen (u :: rest) (sideV p u false) (sideV p u false).length).1 (bfsTo seen (u :: rest) (sideV p u false) (sideV p u false).length).2.tail := by
  unfold bfsTo
  rw [List.take_length]
  generalize hD : sideV p u false = D
  have hm := fun y => bfs_mem D (seen, u :: rest) y
  have hsuc : ∀ y, y ∈ sideV p u false → ∃ n, y ∈ reachS p a n := fun y hy => by
    rcases h.left u List.mem_cons_self with e | hu
    · subst e; exact ⟨0, by show y ∈ sucV p u; unfold sucV nbrV; rw [if_pos ⟨hp, ha⟩]; exact hy⟩
    · obtain ⟨n, hn⟩ := h.reach u hu
      exact ⟨n + 1, (stepS_mem _ _ _).2 (.inr ⟨u, hn, hy⟩)⟩
  have hhead : ∃ r, (D.foldl bfs (seen, u :: rest)).2 = u :: r := by
    clear hm hD
    have : ∀ (l : List Int) (s : List Int × List Int) r, s.2 = u :: r → ∃ r', (l.foldl bfs s).2 = u :: r' := by
      intro l
      induction l with
      | nil => intro s r h; exact ⟨r, h⟩
      | cons z l ih =>
        intro s r h
        rw [List.foldl_cons]
        unfold bfs
        split
        · exact ih s r h
        · exact ih _ (r ++ [z]) (by simp [h])
    exact this D (seen, u :: rest) rest rfl
  obtain ⟨r, hr⟩ := hhead
  refine ⟨fun x hx => ?_, once_bfs D (seen, u :: rest) h.once, fun v hv => ?_, fun x hx => ?_⟩
  · rcases (hm x).1.1 hx with h1 | h1
    · exact h.reach x h1
    · rw [← hD] at h1; exact hsuc x h1
  · by_cases e : v = u
    · right
      subst e
      intro y hy
      rw [hD] at hy
      exact (hm y).1.2 (.inr hy)
    · have hin : v ∈ u :: r → v ∈ r := fun h => by
        rcases List.mem_cons.1 h with h | h
        · exact absurd h e
        · exact h
      rcases hv with hv | hv
      · rcases h.done v (.inl hv) with h1 | h1
        · left
          have := (hm v).2.2.1 h1
          rw [hr] at this ⊢
          exact hin this
        · right
          intro y hy
          exact (hm y).1.2 (.inl (h1 y hy))
      · rcases (hm v).2.2.2 hv with h1 | h1
        · rcases h.done v (.inr h1) with h2 | h2
          · left
            have := (hm v).2.2.1 h2
            rw [hr] at this ⊢
            exact hin this
          · right
            intro y hy
            exact (hm y).1.2 (.inl (h2 y hy))
        · left
          rw [hr] at h1 ⊢
          exact hin h1
  · have hx' : x ∈ (D.foldl bfs (seen, u :: rest)).2 := by rw [hr] at hx ⊢; exact List.mem_cons_of_mem _ hx
    rcases (hm x).2.1 hx' with h1 | h1
    · rcases h.left x h1 with h2 | h2
      · exact .inl h2
      · exact .inr ((hm x).1.2 (.inl h2))
    · exact .inr ((hm x).1.2 (.inr h1))
/-- At the end the search has all. -/
theorem Bfs.fin {p : ProjT} {a b : Int} {seen : List Int} (hp : projOk p = true) (ha : inB a 0 ((p.2.1.length : Int) - 1) = true) (h : Bfs p a seen []) : hasB b seen = reachB p a b := by
  have hall : ∀ n x, x ∈ reachS p a n → x ∈ seen := by
    intro n
    induction n with
    | zero =>
      intro x hx
      have hx' : x ∈ sideV p a false := by
        have : sucV p a = sideV p a false := if_pos ⟨hp, ha⟩
        rw [← this]; exact hx
      rcases h.done a (.inl rfl) with h1 | h1
      · cases h1
      · exact h1 x hx'
    | succ n ih =>
      intro x hx
      rcases (stepS_mem _ _ _).1 hx with h1 | ⟨z, hz, h1⟩
      · exact ih x h1
      · rcases h.done z (.inr (ih z hz)) with h2 | h2
        · cases h2
        · exact h2 x h1
  unfold reachB
  rw [hp, Bool.true_and]
  rw [Bool.eq_iff_iff, hasB_iff, hasB_iff]
  exact ⟨fun hb => by obtain ⟨n, hn⟩ := h.reach b hb; exact reach_all hp a n b hn, hall _ b⟩
/-- Out of range: nothing. -/
theorem reach_out {p : ProjT} {a : Int} (ha : inB a 0 ((p.2.1.length : Int) - 1) = false) : ∀ n, reachS p a n = [] := by
  intro n
  induction n with
  | zero => exact if_neg (by rw [ha]; simp)
  | succ n ih => show stepS p (reachS p a n) = []; rw [ih]; rfl
theorem reachB_a {p : ProjT} {a b : Int} (ha : inB a 0 ((p.2.1.length : Int) - 1) = false) : reachB p a b = false := by
  unfold reachB; rw [reach_out ha]; simp [hasB]
theorem reachB_b {p : ProjT} {a b : Int} (hb : inB b 0 ((p.2.1.length : Int) - 1) = false) : reachB p a b = false := by
  unfold reachB
  cases hp : projOk p
  · rfl
  · rw [Bool.true_and, hasB_iff']
    intro hm
    have := (reachS_set hp a _).2 b hm
    unfold inB at hb
    rw [decide_eq_true this.1, decide_eq_true (show b ≤ (p.2.1.length : Int) - 1 from by omega)] at hb
    cases hb
theorem reachB_p {p : ProjT} {a b : Int} (hp : projOk p = false) : reachB p a b = false := by unfold reachB; rw [hp]; rfl
end Go.Proofs.Ytiaamddhocdhaaa
