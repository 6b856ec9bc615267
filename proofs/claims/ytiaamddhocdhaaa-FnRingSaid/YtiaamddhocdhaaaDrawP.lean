/- What is drawn is well formed. No program. -/
import Derived.Test.YtiaamddhocdhaaaDrawF
import Derived.Test.YtiaamddhocdhaaaMode
namespace Go.Proofs.Ytiaamddhocdhaaa
open Go.RowKit
set_option linter.unusedVariables false

theorem getD_snoc {α : Type} (l : List α) (x d : α) (i : Nat) : (l ++ [x]).getD i d = if i < l.length then l.getD i d else if i = l.length then x else d := by
  simp only [List.getD_eq_getElem?_getD]
  by_cases h : i < l.length
  · rw [if_pos h, List.getElem?_append_left h]
  · rw [if_neg h, List.getElem?_append_right (by omega)]
    by_cases h2 : i = l.length
    · rw [if_pos h2, h2]; simp
    · rw [if_neg h2, List.getElem?_eq_none (by simp; omega)]; rfl
theorem getD_of_mem {α : Type} {P : α → Prop} {l : List α} (h : ∀ x, x ∈ l → P x) (d : α) {i : Nat} (hi : i < l.length) : P (l.getD i d) := by
  rw [List.getD_eq_getElem?_getD, List.getElem?_eq_getElem hi, Option.getD_some]
  exact h _ (List.getElem_mem hi)
theorem inBv_of {n lo hi : Int} (h1 : lo ≤ n) (h2 : n ≤ hi) : inBv n lo hi = true := by simp [inBv, h1, h2]

theorem numsV_spec (C : List Int) : ∀ (n : Nat) (l : List Int) (s : StT), ∃ t, (numsV C n l s).1 = l ++ t ∧ t.length = n ∧ ∀ x, x ∈ t → 0 ≤ x ∧ x < 3 := by
  intro n
  induction n with
  | zero => intro l s; exact ⟨[], by simp [numsV], rfl, fun x hx => by cases hx⟩
  | succ n ih =>
    intro l s
    obtain ⟨t, h1, h2, h3⟩ := ih (l ++ [(belowV C 3 s).1]) (belowV C 3 s).2
    refine ⟨(belowV C 3 s).1 :: t, by rw [numsV, h1, List.append_assoc]; rfl, by simp [h2], fun x hx => ?_⟩
    rcases List.mem_cons.1 hx with rfl | hx
    · exact belowV_in C 3 s (by decide)
    · exact h3 x hx
theorem rowV_spec (C : List Int) (i : Nat) : ∀ (n : Nat) (l : List Int) (s : StT), ∃ t, (rowV C i n l s).1 = l ++ t ∧ t.length = n ∧ ∀ x, x ∈ t → 0 ≤ x ∧ x < 3 := by
  intro n
  induction n with
  | zero => intro l s; exact ⟨[], by simp [rowV], rfl, fun x hx => by cases hx⟩
  | succ n ih =>
    intro l s
    by_cases e : i = l.length
    · obtain ⟨t, h1, h2, h3⟩ := ih (l ++ [0]) s
      refine ⟨0 :: t, by rw [rowV, if_pos e, h1, List.append_assoc]; rfl, by simp [h2], fun x hx => ?_⟩
      rcases List.mem_cons.1 hx with rfl | hx
      · decide
      · exact h3 x hx
    · obtain ⟨t, h1, h2, h3⟩ := ih (l ++ [(belowV C 3 s).1]) (belowV C 3 s).2
      refine ⟨(belowV C 3 s).1 :: t, by rw [rowV, if_neg e, h1, List.append_assoc]; rfl, by simp [h2], fun x hx => ?_⟩
      rcases List.mem_cons.1 hx with rfl | hx
      · exact belowV_in C 3 s (by decide)
      · exact h3 x hx
theorem row4_ok (C : List Int) (i : Nat) (s : StT) : rowOkB (rowV C i 4 [] s).1 = true := by
  obtain ⟨t, h1, h2, h3⟩ := rowV_spec C i 4 [] s
  rw [h1, List.nil_append]
  unfold rowOkB
  rw [h2]
  simp only [decide_true, Bool.true_and]
  exact all_true fun j hj => by
    have := getD_of_mem h3 0 (i := j) (by omega)
    exact inBv_of (by omega) (by omega)
theorem gridV_spec (C : List Int) : ∀ (n : Nat) (l : List (List Int)) (s : StT), ∃ t, (gridV C n l s).1 = l ++ t ∧ t.length = n ∧ ∀ x, x ∈ t → rowOkB x = true := by
  intro n
  induction n with
  | zero => intro l s; exact ⟨[], by simp [gridV], rfl, fun x hx => by cases hx⟩
  | succ n ih =>
    intro l s
    obtain ⟨t, h1, h2, h3⟩ := ih (l ++ [(rowV C l.length 4 [] s).1]) (rowV C l.length 4 [] s).2
    refine ⟨(rowV C l.length 4 [] s).1 :: t, by rw [gridV, h1, List.append_assoc]; rfl, by simp [h2], fun x hx => ?_⟩
    rcases List.mem_cons.1 hx with rfl | hx
    · exact row4_ok C _ s
    · exact h3 x hx
theorem stepAt_of {l : List StepT} {i : Nat} (h1 : 0 ≤ (l.getD i zStep).1) (h2 : (l.getD i zStep).1 ≤ 60) (h3 : 0 ≤ (l.getD i zStep).2) (h4 : (l.getD i zStep).2 ≤ 20) (h5 : i = 0 ∨ (l.getD (i - 1) zStep).1 < (l.getD i zStep).1) : stepAt l i = true := by
  unfold stepAt
  rw [inBv_of h1 h2, inBv_of h3 h4]
  rcases h5 with h5 | h5
  · simp [h5]
  · rw [decide_eq_true h5]; simp
/-- Steps so far; none lies behind b. -/
structure StepsI (l : List StepT) (b : Int) : Prop where
  pos : 1 ≤ l.length
  zero : (l.getD 0 zStep).1 = 0
  at_ : ∀ i, i < l.length → 0 ≤ (l.getD i zStep).1 ∧ (l.getD i zStep).1 ≤ b ∧ 0 ≤ (l.getD i zStep).2 ∧ (l.getD i zStep).2 ≤ 20 ∧ (i = 0 ∨ (l.getD (i - 1) zStep).1 < (l.getD i zStep).1)
theorem StepsI.next {l : List StepT} {b a c : Int} (h : StepsI l b) (ha : 0 ≤ a) (ha9 : a < 9) (hc : 0 ≤ c) (hc5 : c < 5) : StepsI (l ++ [((l.getD (l.length - 1) (0, 0)).1 + 1 + a, c)]) (b + 9) := by
  have hp := h.pos
  have hl := h.at_ (l.length - 1) (by omega)
  refine ⟨by simp, by rw [getD_snoc, if_pos (by omega)]; exact h.zero, fun i hi => ?_⟩
  rw [List.length_append, List.length_singleton] at hi
  rw [getD_snoc, getD_snoc]
  by_cases e : i < l.length
  · rw [if_pos e, if_pos (by omega)]
    obtain ⟨h1, h2, h3, h4, h5⟩ := h.at_ i e
    exact ⟨h1, by omega, h3, h4, h5⟩
  · have e' : i = l.length := by omega
    rw [if_neg e, if_pos e', if_pos (by omega)]
    subst e'
    have hz : (l.getD (l.length - 1) (0, 0)) = l.getD (l.length - 1) zStep := rfl
    rw [hz]
    generalize l.getD (l.length - 1) zStep = X at *
    refine ⟨?_, ?_, hc, ?_, .inr ?_⟩ <;> simp only <;> omega
theorem stepsV_spec (C : List Int) : ∀ (n : Nat) (l : List StepT) (s : StT) (b : Int), StepsI l b → StepsI (stepsV C n l s).1 (b + 9 * n) ∧ (stepsV C n l s).1.length = l.length + n := by
  intro n
  induction n with
  | zero => intro l s b h; exact ⟨by simpa [stepsV] using h, rfl⟩
  | succ n ih =>
    intro l s b h
    have h1 := belowV_in C 9 s (by decide)
    have h2 := belowV_in C 5 (belowV C 9 s).2 (by decide)
    obtain ⟨h3, h4⟩ := ih _ (belowV C 5 (belowV C 9 s).2).2 _ (h.next h1.1 h1.2 h2.1 h2.2)
    rw [stepsV]
    refine ⟨?_, by rw [h4]; simp; omega⟩
    have : b + 9 + 9 * (n : Int) = b + 9 * ((n + 1 : Nat) : Int) := by omega
    rw [← this]
    exact h3
theorem steps0_ok (C : List Int) (s : StT) : stepsOkB (steps0 C s).1 = true := by
  have h1 := belowV_in C 4 s (by decide)
  have h2 := belowV_in C 6 (belowV C 4 s).2 (by decide)
  have h0 : StepsI [(0, 1 + (belowV C 4 s).1)] 0 := by
    refine ⟨Nat.le_refl _, rfl, fun i hi => ?_⟩
    obtain rfl : i = 0 := by simpa using hi
    refine ⟨Int.le_refl _, Int.le_refl _, ?_, ?_, .inl rfl⟩ <;> simp <;> omega
  have hn : ((belowV C 6 (belowV C 4 s).2).1 / 2).toNat ≤ 2 := by omega
  obtain ⟨h3, h4⟩ := stepsV_spec C ((belowV C 6 (belowV C 4 s).2).1 / 2).toNat _ (belowV C 6 (belowV C 4 s).2).2 0 h0
  unfold steps0
  generalize ((belowV C 6 (belowV C 4 s).2).1 / 2).toNat = n at *
  generalize (stepsV C n [(0, 1 + (belowV C 4 s).1)] (belowV C 6 (belowV C 4 s).2).2).1 = L at *
  unfold stepsOkB
  rw [all_true fun j hj => ?_, inBv_of (by simp at h4; omega) (by simp at h4; omega)]
  · simpa using h3.zero
  · obtain ⟨k1, k2, k3, k4, k5⟩ := h3.at_ j hj
    exact stepAt_of k1 (by omega) k3 k4 k5
theorem resV_ok (C : List Int) (s : StT) : resOkB (resV C s).1 = true := by
  unfold resV
  split
  · obtain ⟨t, h1, h2, h3⟩ := gridV_spec C 4 [] (onceV C 3 (steps0 C s).2).2
    unfold resOkB
    simp only [h1, List.nil_append, h2, steps0_ok]
    rw [all_true fun j hj => getD_of_mem (P := fun x => rowOkB x = true) h3 [] (by omega)]
    rfl
  · unfold resOkB
    simp only [steps0_ok]
    rfl
theorem ressV_spec (C : List Int) : ∀ (n : Nat) (l : List ResT) (s : StT), ∃ t, (ressV C n l s).1 = l ++ t ∧ t.length = n ∧ ∀ x, x ∈ t → resOkB x = true := by
  intro n
  induction n with
  | zero => intro l s; exact ⟨[], by simp [ressV], rfl, fun x hx => by cases hx⟩
  | succ n ih =>
    intro l s
    obtain ⟨t, h1, h2, h3⟩ := ih (l ++ [(resV C s).1]) (resV C s).2
    refine ⟨(resV C s).1 :: t, by rw [ressV, h1, List.append_assoc]; rfl, by simp [h2], fun x hx => ?_⟩
    rcases List.mem_cons.1 hx with rfl | hx
    · exact resV_ok C s
    · exact h3 x hx
theorem amounts_of {l : List Int} {n : Nat} (h1 : l.length = n) (h2 : ∀ x, x ∈ l → 0 ≤ x ∧ x < 3) : amountsB l n = true := by
  unfold amountsB
  rw [all_true fun j hj => ?_, h1]
  · simp
  · have := getD_of_mem h2 0 hj
    exact inBv_of this.1 (by omega)
theorem modeV_ok (C : List Int) (r k : Nat) (s : StT) : modeOkB (modeV C r k s).1 r k = true := by
  obtain ⟨t, h1, h2, h3⟩ := numsV_spec C r [] (belowV C 4 s).2
  obtain ⟨u, k1, k2, k3⟩ := numsV_spec C k [] (numsV C r [] (belowV C 4 s).2).2
  have hd := belowV_in C 4 s (by decide)
  unfold modeV modeOkB
  simp only [h1, k1, List.nil_append, amounts_of h2 h3, amounts_of k2 k3]
  rw [inBv_of (by omega) (by omega)]
  rfl
theorem modesV_spec (C : List Int) (r k : Nat) : ∀ (n : Nat) (l : List ModeT) (s : StT), ∃ t, (modesV C r k n l s).1 = l ++ t ∧ t.length = n ∧ ∀ x, x ∈ t → modeOkB x r k = true := by
  intro n
  induction n with
  | zero => intro l s; exact ⟨[], by simp [modesV], rfl, fun x hx => by cases hx⟩
  | succ n ih =>
    intro l s
    obtain ⟨t, h1, h2, h3⟩ := ih (l ++ [(modeV C r k s).1]) (modeV C r k s).2
    refine ⟨(modeV C r k s).1 :: t, by rw [modesV, h1, List.append_assoc]; rfl, by simp [h2], fun x hx => ?_⟩
    rcases List.mem_cons.1 hx with rfl | hx
    · exact modeV_ok C r k s
    · exact h3 x hx
theorem names6 : ∀ i : Fin 6, isNameB (nameV i) = true := by decide
theorem namesNe : ∀ i j : Fin 6, i ≠ j → nameV i ≠ nameV j := by decide
theorem actV_ok (C : List Int) (i r k : Nat) (s : StT) (hi : i < 6) : actOkB (actV C i r k s).1 r k = true := by
  have h2 := belowV_in C 2 s (by decide)
  have h4 := belowV_in C 4 (belowV C 2 s).2 (by decide)
  obtain ⟨t, h1, hl, h3⟩ := modesV_spec C r k (1 + ((belowV C 4 (belowV C 2 s).2).1 / 2).toNat) [] (belowV C 4 (belowV C 2 s).2).2
  have hn := names6 ⟨i, hi⟩
  unfold actV actOkB
  simp only [h1, List.nil_append]
  rw [all_true fun j hj => getD_of_mem (P := fun x => modeOkB x r k = true) h3 zMode hj, hn, inBv_of h2.1 (by omega), inBv_of (by omega) (by omega)]
  rfl
/-- The activities so far. -/
def ActsI (r k : Nat) (l : List ActT) : Prop := ∀ i, i < l.length → actOkB (l.getD i zAct) r k = true ∧ (l.getD i zAct).1 = nameV i
theorem actsV_spec (C : List Int) (r k : Nat) : ∀ (n : Nat) (l : List ActT) (s : StT), ActsI r k l → l.length + n ≤ 6 → ActsI r k (actsV C r k n l s).1 ∧ (actsV C r k n l s).1.length = l.length + n := by
  intro n
  induction n with
  | zero => intro l s h _; exact ⟨by simpa [actsV] using h, rfl⟩
  | succ n ih =>
    intro l s h hl
    rw [actsV]
    obtain ⟨h1, h2⟩ := ih (l ++ [(actV C l.length r k s).1]) (actV C l.length r k s).2 (fun i hi => by
      rw [getD_snoc]
      by_cases e : i < l.length
      · rw [if_pos e]; exact h i e
      · have e' : i = l.length := by simp at hi; omega
        rw [if_neg e, if_pos e']
        subst e'
        exact ⟨actV_ok C _ r k s (by omega), rfl⟩) (by simp; omega)
    exact ⟨h1, by rw [h2]; simp; omega⟩
theorem linkV_ok (C : List Int) (n : Nat) (s : StT) (h : 1 < n) : linkOkB n (linkV C n s).1 = true := by
  have hA := belowV_in C ((n : Int) - 1) s (by omega)
  have hB := belowV_in C ((n : Int) - 1 - (linkA C n s).1) (linkA C n s).2 (by unfold linkA; omega)
  have hL := belowV_in C 3 (linkE C n s).2 (by decide)
  have h9 := belowV_in C 9 (linkO C n s).2 (by decide)
  have eA : (belowV C ((n : Int) - 1) s).1 = (linkA C n s).1 := rfl
  have eB : (belowV C ((n : Int) - 1 - (linkA C n s).1) (linkA C n s).2).1 = (linkB C n s).1 := rfl
  have eL : (belowV C 3 (linkE C n s).2).1 = (linkL C n s).1 := rfl
  rw [eA] at hA
  rw [eB] at hB
  rw [eL] at hL
  unfold linkV
  generalize (linkA C n s).1 = A at *
  generalize (linkB C n s).1 = B at *
  generalize (linkL C n s).1 = L at *
  generalize (belowV C 9 (linkO C n s).2).1 = D at *
  split
  · unfold linkOkB
    rw [inBv_of (by simp only; omega) (by simp only; omega), inBv_of (by simp only; omega) (by simp only; omega), inBv_of (by simp only; omega) (by simp only; omega)]
    have : ¬ (A + 1 + B = A) := by omega
    simp [this]
  · unfold linkOkB
    rw [inBv_of (by simp only; omega) (by simp only; omega), inBv_of (by simp only; omega) (by simp only; omega), inBv_of (by simp only; omega) (by simp only; omega)]
    have : ¬ (A = A + 1 + B) := by omega
    simp [this]
theorem linksV_spec (C : List Int) (m : Nat) : ∀ (n : Nat) (l : List LinkT) (s : StT), ∃ t, (linksV C m n l s).1 = l ++ t ∧ t.length ≤ n ∧ ∀ x, x ∈ t → linkOkB m x = true := by
  intro n
  induction n with
  | zero => intro l s; exact ⟨[], by simp [linksV], Nat.le_refl _, fun x hx => by cases hx⟩
  | succ n ih =>
    intro l s
    by_cases e : (m : Int) > 1
    · obtain ⟨t, h1, h2, h3⟩ := ih (l ++ [(linkV C m s).1]) (linkV C m s).2
      refine ⟨(linkV C m s).1 :: t, by rw [linksV, if_pos e, h1, List.append_assoc]; rfl, by simp; omega, fun x hx => ?_⟩
      rcases List.mem_cons.1 hx with rfl | hx
      · exact linkV_ok C m s (by omega)
      · exact h3 x hx
    · exact ⟨[], by rw [linksV, if_neg e]; simp, by simp, fun x hx => by cases hx⟩
/-- A project as it is drawn. -/
structure Drawn (p : ProjT) (m : Nat) : Prop where
  ok : projOk p = true
  acts : p.2.1.length ≤ m
  links : p.2.2.1.length ≤ 3
  res : 1 ≤ p.2.2.2.1.length
theorem drawn_of {d : Int} {A : List ActT} {L : List LinkT} {R : List ResT} {K : List Int} {m : Nat} (hd0 : 1 ≤ d) (hd1 : d ≤ 60) (hA : ActsI R.length K.length A) (hA1 : 1 ≤ A.length) (hA2 : A.length ≤ m) (hm : m ≤ 6) (hR : ∀ x, x ∈ R → resOkB x = true) (hR1 : 1 ≤ R.length) (hR2 : R.length ≤ 3) (hK : ∀ x, x ∈ K → 0 ≤ x ∧ x < 6) (hK1 : K.length ≤ 1) (hL : ∀ x, x ∈ L → linkOkB A.length x = true) (hL1 : L.length ≤ 12) : projOk (d, A, L, R, K) = true := by
  unfold projOk headOkB
  simp only
  rw [inBv_of hd0 hd1, inBv_of (by omega) (by omega), decide_eq_true hR2, decide_eq_true (show K.length ≤ 2 by omega), decide_eq_true hL1]
  rw [all_true (c := actAtOk _) fun j hj => ?_, all_true (c := fun i => resOkB (R.getD i zRes)) fun j hj => getD_of_mem (P := fun x => resOkB x = true) hR zRes hj, all_true (c := fun i => inBv (K.getD i 0) 0 100) fun j hj => ?_, all_true (c := fun i => linkOkB A.length (L.getD i zLink)) fun j hj => getD_of_mem (P := fun x => linkOkB A.length x = true) hL zLink hj]
  · rfl
  · have := getD_of_mem hK 0 hj
    exact inBv_of this.1 (by omega)
  · unfold actAtOk
    simp only
    rw [(hA j hj).1, Bool.true_and, decide_eq_true_eq, (hA j hj).2]
    refine actIndex_yes hj (hA j hj).2 fun i hi => ?_
    rw [(hA i (by omega)).2]
    exact namesNe ⟨i, by omega⟩ ⟨j, by omega⟩ (by intro hh; simp at hh; omega)
theorem drawP_ok (C : List Int) (m : Nat) (s : StT) (h1 : 1 ≤ m) (h6 : m ≤ 6) : Drawn (drawP C m s).1 m := by
  have hD := belowV_in C 12 s (by decide)
  have hR4 := belowV_in C 4 (dD C s).2 (by decide)
  obtain ⟨tR, r1, r2, r3⟩ := ressV_spec C (1 + ((belowV C 4 (dD C s).2).1 / 2).toNat) [] (belowV C 4 (dD C s).2).2
  have eR : (dR C s).1 = tR := by unfold dR; rw [r1, List.nil_append]
  have hK : ∀ x, x ∈ (dS C s).1 → 0 ≤ x ∧ x < 6 := by
    intro x hx
    unfold dS stocksV at hx
    split at hx
    · rw [List.mem_singleton.1 hx]; exact belowV_in C 6 _ (by decide)
    · cases hx
  have hK1 : (dS C s).1.length ≤ 1 := by
    unfold dS stocksV
    split <;> simp
  have hM := belowV_in C (m : Int) (dS C s).2 (by omega)
  obtain ⟨a1, a2⟩ := actsV_spec C (dR C s).1.length (dS C s).1.length (1 + (belowV C m (dS C s).2).1.toNat) [] (belowV C m (dS C s).2).2 (fun i hi => by cases hi) (by simp; omega)
  have hL4 := belowV_in C 4 (dA C m s).2 (by decide)
  obtain ⟨tL, l1, l2, l3⟩ := linksV_spec C (dA C m s).1.length (belowV C 4 (dA C m s).2).1.toNat [] (belowV C 4 (dA C m s).2).2
  have eL : (dL C m s).1 = tL := by unfold dL; rw [l1, List.nil_append]
  have eA : (dA C m s).1 = (actsV C (dR C s).1.length (dS C s).1.length (1 + (belowV C m (dS C s).2).1.toNat) [] (belowV C m (dS C s).2).2).1 := rfl
  rw [← eA] at a1 a2
  have a2' : (dA C m s).1.length = 1 + (belowV C m (dS C s).2).1.toNat := by rw [a2]; simp
  have ht : tL.length ≤ 3 := by omega
  refine ⟨?_, ?_, ?_, ?_⟩
  · unfold drawP
    simp only
    refine drawn_of (m := m) (by unfold dD; omega) (by unfold dD; omega) a1 (by omega) (by omega) h6 (by rw [eR]; exact r3) (by rw [eR, r2]; omega) (by rw [eR, r2]; omega) hK hK1 (by rw [eL]; exact l3) (by rw [eL]; omega)
  · show (dA C m s).1.length ≤ m
    omega
  · show (dL C m s).1.length ≤ 3
    rw [eL]; exact ht
  · show 1 ≤ (dR C s).1.length
    rw [eR, r2]; omega
end Go.Proofs.Ytiaamddhocdhaaa
