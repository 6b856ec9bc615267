/- What is drawn is well formed: loops of links, schedules, literals. No program. -/
import Derived.Test.YtiaamddhocdhaaaDrawP
import Derived.Test.YtiaamddhocdhaaaLitOk
import Derived.Test.YtiaamddhocdhaaaGap
import Derived.Test.YtiaamddhocdhaaaHolds
import Derived.Test.YtiaamddhocdhaaaLit
import Derived.Test.YtiaamddhocdhaaaCmp
namespace Go.Proofs.Ytiaamddhocdhaaa
open Go.RowKit
set_option linter.unusedVariables false

theorem emod_step (A B : Int) (n : Nat) (h : 1 < n) (hA : 0 ≤ A ∧ A < n) (hB : 0 ≤ B ∧ B < (n : Int) - 1) : 0 ≤ (A + 1 + B) % (n : Int) ∧ (A + 1 + B) % (n : Int) < n ∧ (A + 1 + B) % (n : Int) ≠ A := by
  have h1 := Int.emod_nonneg (A + 1 + B) (show (n : Int) ≠ 0 by omega)
  have h2 := Int.emod_lt_of_pos (A + 1 + B) (show (0 : Int) < n by omega)
  refine ⟨h1, h2, ?_⟩
  by_cases e : A + 1 + B < n
  · rw [Int.emod_eq_of_lt (by omega) e]; omega
  · have e1 : (A + 1 + B) % (n : Int) = (A + 1 + B - n) % (n : Int) := by rw [Int.sub_emod, Int.emod_self, Int.sub_zero, Int.emod_emod_of_dvd _ (Int.dvd_refl _)]
    rw [e1, Int.emod_eq_of_lt (by omega) (by omega)]
    omega
theorem moreV_ok (C : List Int) (n : Nat) (s : StT) (h : 1 < n) : linkOkB n (moreV C n s).1 = true := by
  have hA := belowV_in C (n : Int) s (by omega)
  have hB := belowV_in C ((n : Int) - 1) (moreA C n s).2 (by omega)
  have hL := belowV_in C 8 (moreE C n s).2 (by decide)
  have eA : (belowV C (n : Int) s).1 = (moreA C n s).1 := rfl
  have eB : (belowV C ((n : Int) - 1) (moreA C n s).2).1 = (moreB C n s).1 := rfl
  have eL : (belowV C 8 (moreE C n s).2).1 = (moreL C n s).1 := rfl
  rw [eA] at hA
  rw [eB] at hB
  rw [eL] at hL
  unfold moreV
  have hm := emod_step _ _ n h hA hB
  generalize (moreA C n s).1 = A at *
  generalize (moreB C n s).1 = B at *
  generalize (moreL C n s).1 = L at *
  generalize (A + 1 + B) % (n : Int) = M at *
  unfold linkOkB
  rw [inBv_of (by simp only; omega) (by simp only; omega), inBv_of (by simp only; omega) (by simp only; omega), inBv_of (by simp only; omega) (by simp only; omega)]
  have : ¬ (A = M) := by omega
  simp [this]
theorem moresV_spec (C : List Int) (m : Nat) : ∀ (n : Nat) (l : List LinkT) (s : StT), ∃ t, (moresV C m n l s).1 = l ++ t ∧ t.length ≤ n ∧ ∀ x, x ∈ t → linkOkB m x = true := by
  intro n
  induction n with
  | zero => intro l s; exact ⟨[], by simp [moresV], Nat.le_refl _, fun x hx => by cases hx⟩
  | succ n ih =>
    intro l s
    by_cases e : (m : Int) > 1
    · obtain ⟨t, h1, h2, h3⟩ := ih (l ++ [(moreV C m s).1]) (moreV C m s).2
      refine ⟨(moreV C m s).1 :: t, by rw [moresV, if_pos e, h1, List.append_assoc]; rfl, by simp; omega, fun x hx => ?_⟩
      rcases List.mem_cons.1 hx with rfl | hx
      · exact moreV_ok C m s (by omega)
      · exact h3 x hx
    · exact ⟨[], by rw [moresV, if_neg e]; simp, by simp, fun x hx => by cases hx⟩
theorem projOk_links' {d : Int} {A : List ActT} {L L' : List LinkT} {R : List ResT} {K : List Int} (h : projOk (d, A, L, R, K) = true) (hl : L'.length ≤ 12) (hL : ∀ i, i < L'.length → linkOkB A.length (L'.getD i zLink) = true) : projOk (d, A, L', R, K) = true := by
  unfold projOk at h ⊢
  simp only [Bool.and_eq_true] at h ⊢
  obtain ⟨h1, h2, h3, h4, -⟩ := h
  refine ⟨?_, h2, h3, h4, all_true (c := fun i => linkOkB A.length (L'.getD i zLink)) hL⟩
  unfold headOkB at h1 ⊢
  simp only [Bool.and_eq_true, decide_eq_true_eq] at h1 ⊢
  exact ⟨h1.1, h1.2.1, h1.2.2.1, h1.2.2.2.1, hl⟩
theorem loopsP_ok (C : List Int) (s : StT) : projOk (loopsP C s).1 = true ∧ (loopsP C s).1.2.1.length ≤ 4 := by
  obtain ⟨h1, h2, h3, h4⟩ := drawP_ok C 4 s (by decide) (by decide)
  have h4' := belowV_in C 4 (drawP C ((4 : Nat) : Int) s).2 (by decide)
  refine ⟨?_, h2⟩
  obtain ⟨t, l1, l2, l3⟩ := moresV_spec C (drawP C ((4 : Nat) : Int) s).1.2.1.length (belowV C 4 (drawP C ((4 : Nat) : Int) s).2).1.toNat (drawP C ((4 : Nat) : Int) s).1.2.2.1 (belowV C 4 (drawP C ((4 : Nat) : Int) s).2).2
  have e : (loopL C (drawP C ((4 : Nat) : Int) s).1 (drawP C ((4 : Nat) : Int) s).2).1 = (drawP C ((4 : Nat) : Int) s).1.2.2.1 ++ t := by unfold loopL; rw [l1]
  show projOk ((drawP C ((4 : Nat) : Int) s).1.1, (drawP C ((4 : Nat) : Int) s).1.2.1, (loopL C (drawP C ((4 : Nat) : Int) s).1 (drawP C ((4 : Nat) : Int) s).2).1, (drawP C ((4 : Nat) : Int) s).1.2.2.2.1, (drawP C ((4 : Nat) : Int) s).1.2.2.2.2) = true
  rw [e]
  generalize drawP C ((4 : Nat) : Int) s = P at *
  obtain ⟨⟨d, A, L, R, K⟩, s2⟩ := P
  simp only at *
  refine projOk_links' h1 (by simp; omega) fun i hi => ?_
  by_cases e : i < L.length
  · have : (L ++ t).getD i zLink = L.getD i zLink := by simp only [List.getD_eq_getElem?_getD]; rw [List.getElem?_append_left e]
    rw [this]
    exact projOk_link h1 e
  · have : (L ++ t).getD i zLink = t.getD (i - L.length) zLink := by simp only [List.getD_eq_getElem?_getD]; rw [List.getElem?_append_right (by omega)]
    rw [this]
    exact getD_of_mem (P := fun x => linkOkB A.length x = true) l3 zLink (by simp at hi; omega)

theorem schTo_spec (C : List Int) : ∀ (as_ : List ActT) (at_ : Int) (x y : List Int) (s : StT), (∀ a, a ∈ as_ → 1 ≤ a.2.2.length) → 0 ≤ at_ → ∃ tx ty, (schTo C as_ at_ x y s).1 = (x ++ tx, y ++ ty) ∧ tx.length = as_.length ∧ ty.length = as_.length ∧ (∀ i, i < as_.length → 0 ≤ tx.getD i 0 ∧ tx.getD i 0 ≤ 12 + at_ + 5 * i ∧ 0 ≤ ty.getD i 0 ∧ ty.getD i 0 < ((as_.getD i zAct).2.2.length : Int)) := by
  intro as_
  induction as_ with
  | nil => intro at_ x y s _ _; exact ⟨[], [], by simp [schTo], rfl, rfl, fun i hi => by cases hi⟩
  | cons a as_ ih =>
    intro at_ x y s hm h0
    have hD := belowV_in C 5 (schM C a at_ s).2 (by decide)
    have eD : (belowV C 5 (schM C a at_ s).2).1 = (schD C a at_ s).1 := rfl
    have ha := hm a List.mem_cons_self
    have hM := belowV_in C (a.2.2.length : Int) (schN C at_ s).2 (by omega)
    have eM : (belowV C (a.2.2.length : Int) (schN C at_ s).2).1 = (schM C a at_ s).1 := rfl
    rw [eD] at hD
    rw [eM] at hM
    have hN : 0 ≤ (schN C at_ s).1 ∧ (schN C at_ s).1 ≤ 12 + at_ := by
      unfold schN
      split
      · have := belowV_in C 12 (onceV C 3 s).2 (by decide)
        omega
      · simp only; omega
    obtain ⟨tx, ty, h1, h2, h3, h4⟩ := ih (at_ + (schD C a at_ s).1) (x ++ [(schN C at_ s).1]) (y ++ [(schM C a at_ s).1]) (schD C a at_ s).2 (fun b hb => hm b (List.mem_cons_of_mem _ hb)) (by omega)
    refine ⟨(schN C at_ s).1 :: tx, (schM C a at_ s).1 :: ty, by rw [schTo, h1, List.append_assoc, List.append_assoc]; rfl, by simp [h2], by simp [h3], fun i hi => ?_⟩
    cases i with
    | zero => exact ⟨hN.1, by simpa using hN.2, hM.1, hM.2⟩
    | succ i =>
      obtain ⟨k1, k2, k3, k4⟩ := h4 i (by simpa using hi)
      refine ⟨k1, ?_, k3, k4⟩
      have e : ((schN C at_ s).1 :: tx).getD (i + 1) 0 = tx.getD i 0 := rfl
      rw [e]
      omega
theorem schV_ok (C : List Int) (p : ProjT) (s : StT) (h : projOk p = true) : schFormB p (schV C p s).1 = true := by
  have hb := projOk_bd h
  obtain ⟨tx, ty, h1, h2, h3, h4⟩ := schTo_spec C p.2.1 0 [] [] s (fun a ha => by
    obtain ⟨i, hi, rfl⟩ := List.getElem_of_mem ha
    have := (projOk_modes h hi).1
    rwa [List.getD_eq_getElem?_getD, List.getElem?_eq_getElem hi, Option.getD_some] at this) (Int.le_refl _)
  have e : (schV C p s).1 = (tx, ty) := by unfold schV; rw [h1]; rfl
  rw [e]
  refine schForm_yes h h2 h3 fun j hj => ?_
  obtain ⟨k1, k2, k3, k4⟩ := h4 j hj
  unfold formAt
  simp only
  rw [inBv_of k1 (by omega), inBv_of k3 (by omega)]
  rfl
theorem litD_ok (C : List Int) (p : ProjT) (s : StT) (h : projOk p = true) : litOkB p (litD C p s).1 = true ∧ inB (litD C p s).1.2.2 (-100000) 100000 = true ∧ (litD C p s).1.1 ≠ 0 := by
  have hb := projOk_bd h
  have hA := belowV_in C (p.2.1.length : Int) s (by omega)
  have eA : (belowV C (p.2.1.length : Int) s).1 = (litA C p s).1 := rfl
  rw [eA] at hA
  have hK := belowV_in C 2 (litO C p s).2 (by decide)
  have eK : (belowV C 2 (litO C p s).2).1 = (litK C p s).1 := rfl
  rw [eK] at hK
  obtain ⟨a, ha⟩ := Int.eq_ofNat_of_zero_le hA.1
  have hmo := projOk_modes h (k := a) (by omega)
  unfold litOkB litD
  simp only
  rw [h, Bool.true_and, inBv_of (by omega) (by omega), Bool.true_and]
  cases ho : (litO C p s).1
  · have hW := belowV_in C 10 (litK C p s).2 (by decide)
    have eW : (litW C p s).1 = (belowV C 10 (litK C p s).2).1 := by unfold litW; rw [ho]; rfl
    rw [← eW] at hW
    rw [if_neg (by decide)]
    generalize (litK C p s).1 = K at *
    generalize (litW C p s).1 = W at *
    refine ⟨?_, by simp [inB]; omega, by omega⟩
    unfold litAt
    simp only
    by_cases e0 : K = 0
    · subst e0
      rw [if_pos (by decide)]
      exact inBv_of (by omega) (by omega)
    · have : K = 1 := by omega
      subst this
      rw [if_neg (by decide), if_pos (by decide)]
      exact inBv_of (by omega) (by omega)
  · have hW := belowV_in C ((p.2.1.getD (litA C p s).1.toNat zAct).2.2.length : Int) (litK C p s).2 (by rw [ha]; have := hmo.1; simp only [Int.toNat_natCast]; omega)
    have eW : (litW C p s).1 = (belowV C ((p.2.1.getD (litA C p s).1.toNat zAct).2.2.length : Int) (litK C p s).2).1 := by unfold litW; rw [ho]; rfl
    rw [← eW] at hW
    have hm2 : ((p.2.1.getD (litA C p s).1.toNat zAct).2.2.length : Int) ≤ 3 := by rw [ha]; have := hmo.2; simp only [Int.toNat_natCast]; omega
    rw [if_pos rfl]
    generalize (litK C p s).1 = K at *
    generalize (litW C p s).1 = W at *
    generalize ((p.2.1.getD (litA C p s).1.toNat zAct).2.2.length : Int) = M at *
    refine ⟨?_, by simp [inB]; omega, by omega⟩
    unfold litAt
    simp only
    by_cases e0 : K = 0
    · subst e0
      rw [if_neg (by decide), if_neg (by decide), if_pos (by decide)]
      exact inBv_of (by omega) (by omega)
    · have : K = 1 := by omega
      subst this
      rw [if_neg (by decide), if_neg (by decide), if_neg (by decide), if_pos (by decide)]
      exact inBv_of (by omega) (by omega)
end Go.Proofs.Ytiaamddhocdhaaa
