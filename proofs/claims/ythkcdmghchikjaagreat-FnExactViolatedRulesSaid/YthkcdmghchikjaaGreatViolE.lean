/- satisfies, l10Fails, Violates. -/
import Derived.Test.YthkcdmghchikjaaGreatViolC
import Derived.Test.YthkcdmghchikjaaGreatViolD
namespace Go.Proofs.YthkcdmghchikjaaGreat
open Go.ChangeShapes Go.WideShapes Go.ChangeAt Go.RowKit
set_option linter.unusedVariables false

theorem ruleOk_cases {p : ProjT} {r : RuleT} (h : ruleOkB p r = true) :
    (∃ k : Nat, k < p.2.2.1.length ∧ r = (1, (k : Int), 0, 0)) ∨ (∃ k : Nat, k < p.2.1.length ∧ r = (2, (k : Int), 0, 0)) ∨
    (∃ a t : Nat, a < p.2.2.2.1.length ∧ t ≤ 60 ∧ r = (3, (a : Int), (t : Int), 0)) ∨
    (∃ a x y : Nat, a < p.2.2.2.1.length ∧ x ≤ y ∧ y ≤ 60 ∧ r = (4, (a : Int), (x : Int), (y : Int))) ∨
    (∃ a b c : Nat, a < p.2.2.2.1.length ∧ 0 < (p.2.2.2.1.getD a zRes).2.length ∧ b < p.2.1.length ∧ c < p.2.1.length ∧ r = (5, (a : Int), (b : Int), (c : Int))) ∨
    (∃ k : Nat, k < p.2.2.2.2.length ∧ r = (6, (k : Int), 0, 0)) := by
  obtain ⟨K, A, B, C⟩ := r
  unfold ruleOkB ruleAt at h
  simp only [Bool.and_eq_true] at h
  obtain ⟨-, h⟩ := h
  split at h
  · rename_i e
    subst e
    simp only [inBv, Bool.and_eq_true, decide_eq_true_eq] at h
    obtain ⟨⟨h1, h2⟩, rfl, rfl⟩ := h
    exact Or.inl ⟨A.toNat, by omega, by rw [Int.toNat_of_nonneg h1]⟩
  split at h
  · rename_i e
    subst e
    simp only [inBv, Bool.and_eq_true, decide_eq_true_eq] at h
    obtain ⟨⟨h1, h2⟩, rfl, rfl⟩ := h
    exact Or.inr (Or.inl ⟨A.toNat, by omega, by rw [Int.toNat_of_nonneg h1]⟩)
  split at h
  · rename_i e
    subst e
    simp only [inBv, Bool.and_eq_true, decide_eq_true_eq] at h
    obtain ⟨⟨h1, h2⟩, ⟨h3, h4⟩, rfl⟩ := h
    exact Or.inr (Or.inr (Or.inl ⟨A.toNat, B.toNat, by omega, by omega, by rw [Int.toNat_of_nonneg h1, Int.toNat_of_nonneg h3]⟩))
  split at h
  · rename_i e
    subst e
    simp only [inBv, Bool.and_eq_true, decide_eq_true_eq] at h
    obtain ⟨⟨h1, h2⟩, ⟨h3, h4⟩, ⟨h5, h6⟩, h7⟩ := h
    exact Or.inr (Or.inr (Or.inr (Or.inl ⟨A.toNat, B.toNat, C.toNat, by omega, by omega, by omega, by rw [Int.toNat_of_nonneg h1, Int.toNat_of_nonneg h3, Int.toNat_of_nonneg h5]⟩)))
  split at h
  · rename_i e
    subst e
    unfold machB at h
    simp only [inBv, Bool.and_eq_true, decide_eq_true_eq] at h
    obtain ⟨⟨⟨h1, h2⟩, hm⟩, ⟨h3, h4⟩, ⟨h5, h6⟩, h7⟩ := h
    exact Or.inr (Or.inr (Or.inr (Or.inr (Or.inl ⟨A.toNat, B.toNat, C.toNat, by omega, hm, by omega, by omega, by rw [Int.toNat_of_nonneg h1, Int.toNat_of_nonneg h3, Int.toNat_of_nonneg h5]⟩))))
  split at h
  · rename_i e
    subst e
    simp only [inBv, Bool.and_eq_true, decide_eq_true_eq] at h
    obtain ⟨⟨h1, h2⟩, rfl, rfl⟩ := h
    exact Or.inr (Or.inr (Or.inr (Or.inr (Or.inr ⟨A.toNat, by omega, by rw [Int.toNat_of_nonneg h1]⟩))))
  · cases h
theorem satB_work (p : ProjT) (s : SchT) (r x y : Nat) (h : x ≤ y) : satB p s (4, (r : Int), (x : Int), (y : Int)) = decide (workTo p s r x (y - x) ≤ totTo (p.2.2.2.1.getD r zRes).1 x (y - x)) := by
  have e : ((y : Int) - (x : Int)).toNat = y - x := by omega
  rw [← e]
  rfl

theorem satisfies_any (v : Value) (p : ProjT) (S : Nat → Prop) (v1 : Value) (s : SchT) (T : Nat → Prop) (r : RuleT) (w : World) (hx : aggR projR S w v p) (hS : ∀ b, S b → b < w.heap.size) (hs : aggR schR T w v1 s) (hT : ∀ b, T b → b < w.heap.size) (hn : bulkProject p ≤ 1048576) (hn1 : bulkSchedule s ≤ 1048576) (hf : schFormB p s = true) (hr : ruleOkB p r = true) :
    Calls Tryz.prog 58 #[v, v1, .agg #[.int .i64 r.1, .int .i64 r.2.1, .int .i64 r.2.2.1, .int .i64 r.2.2.2]] w fun e w' => e = .returned (.bool (satB p s r)) ∧ Bel w w' := by
  rcases ruleOk_cases hr with ⟨k, hk, rfl⟩ | ⟨k, hk, rfl⟩ | ⟨a, t, ha, ht, rfl⟩ | ⟨a, x, y, ha, hxy, hy, rfl⟩ | ⟨a, b, c, ha, hm, hb, hc, rfl⟩ | ⟨k, hk, rfl⟩
  · exact ((sat1_any v p S v1 s T k w hx hS hs hT hn hn1 hf hk).mono fun e w' h => ⟨h.1.trans (ret_bool rfl), h.2⟩)
  · exact ((sat2_any v p S v1 s T k w hx hS hs hT hn hn1 hf hk).mono fun e w' h => ⟨h.1.trans (ret_bool rfl), h.2⟩)
  · exact ((sat3_any v p S v1 s T a t w hx hS hs hT hn hn1 hf ha).mono fun e w' h => ⟨h.1.trans (ret_bool rfl), h.2⟩)
  · exact ((sat4_any v p S v1 s T a x y w hx hS hs hT hn hn1 hf ha hxy hy).mono fun e w' h => ⟨h.1.trans (ret_bool (by rw [satB_work _ _ _ _ _ hxy])), h.2⟩)
  · exact ((sat5_any v p S v1 s T a b c w hx hS hs hT hn hn1 hf ha hm hb hc).mono fun e w' h => ⟨h.1.trans (ret_bool rfl), h.2⟩)
  · exact ((sat6_any v p S v1 s T k w hx hS hs hT hn hn1 hf hk).mono fun e w' h => ⟨h.1.trans (ret_bool rfl), h.2⟩)

theorem l10Fails_any (v : Value) (p : ProjT) (S : Nat → Prop) (v1 : Value) (s : SchT) (T : Nat → Prop) (r : RuleT) (w : World) (hx : aggR projR S w v p) (hS : ∀ b, S b → b < w.heap.size) (hs : aggR schR T w v1 s) (hT : ∀ b, T b → b < w.heap.size) (hn : bulkProject p ≤ 1048576) (hn1 : bulkSchedule s ≤ 1048576) (hf : schFormB p s = true) (hr : ruleOkB p r = true) :
    Calls Tryz.prog 56 #[v, v1, .agg #[.int .i64 r.1, .int .i64 r.2.1, .int .i64 r.2.2.1, .int .i64 r.2.2.2]] w fun e w' => e = .returned (.bool (!satB p s r)) ∧ Bel w w' := by
  rcases ruleOk_cases hr with ⟨k, hk, rfl⟩ | ⟨k, hk, rfl⟩ | ⟨a, t, ha, ht, rfl⟩ | ⟨a, x, y, ha, hxy, hy, rfl⟩ | ⟨a, b, c, ha, hm, hb, hc, rfl⟩ | ⟨k, hk, rfl⟩
  · exact ((fail1_any v p S v1 s T k w hx hS hs hT hn hn1 hf hk).mono fun e w' h => ⟨h.1.trans (ret_bool rfl), h.2⟩)
  · exact ((fail2_any v p S v1 s T k w hx hS hs hT hn hn1 hf hk).mono fun e w' h => ⟨h.1.trans (ret_bool rfl), h.2⟩)
  · exact ((fail3_any v p S v1 s T a t w hx hS hs hT hn hn1 hf ha).mono fun e w' h => ⟨h.1.trans (ret_bool rfl), h.2⟩)
  · exact ((fail4_any v p S v1 s T a x y w hx hS hs hT hn hn1 hf ha hxy hy).mono fun e w' h => ⟨h.1.trans (ret_bool (by rw [satB_work _ _ _ _ _ hxy])), h.2⟩)
  · exact ((fail5_any v p S v1 s T a b c w hx hS hs hT hn hn1 hf ha hm hb hc).mono fun e w' h => ⟨h.1.trans (ret_bool rfl), h.2⟩)
  · exact ((fail6_any v p S v1 s T k w hx hS hs hT hn hn1 hf hk).mono fun e w' h => ⟨h.1.trans (ret_bool rfl), h.2⟩)



end Go.Proofs.YthkcdmghchikjaaGreat
