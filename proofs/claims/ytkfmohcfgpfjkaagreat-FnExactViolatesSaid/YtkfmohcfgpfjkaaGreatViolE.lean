/- satisfies, l10Fails, Violates. -/
import Derived.Test.YtkfmohcfgpfjkaaGreatViolC
import Derived.Test.YtkfmohcfgpfjkaaGreatViolD
namespace Go.Proofs.YtkfmohcfgpfjkaaGreat
open Go.ChangeShapes Go.WideShapes Go.ChangeAt Go.RowKit
set_option linter.unusedVariables false

theorem ruleOk_cases {p : ProjT} {r : RuleT} (h : ruleOkB p r = true) :
    (∃ k : Nat, k < p.2.2.1.length ∧ r = (1, (k : Int), 0, 0)) ∨ (∃ k : Nat, k < p.2.1.length ∧ r = (2, (k : Int), 0, 0)) ∨
    (∃ a t : Nat, a < p.2.2.2.1.length ∧ t ≤ 60 ∧ r = (3, (a : Int), (t : Int), 0)) ∨
    (∃ a x y : Nat, a < p.2.2.2.1.length ∧ x ≤ y ∧ y ≤ 60 ∧ r = (4, (a : Int), (x : Int), (y : Int))) ∨
    (∃ a b c : Nat, a < p.2.2.2.1.length ∧ 0 < (p.2.2.2.1.getD a zRes).2.length ∧ b < p.2.1.length ∧ c < p.2.1.length ∧ r = (5, (a : Int), (b : Int), (c : Int))) ∨
    (∃ k : Nat, k < p.2.2.2.2.length ∧ r = (6, (k : Int), 0, 0)) := by
  obtain ⟨K, A, B, C⟩ := r
  unfold ruleOkB ruleAt at h
  simp only [Bool.and_eq_true] at h
  obtain ⟨-, h⟩ := h
  split at h
  · rename_i e
    subst e
    simp only [inBv, Bool.and_eq_true, decide_eq_true_eq] at h
    obtain ⟨⟨h1, h2⟩, rfl, rfl⟩ := h
    exact Or.inl ⟨A.toNat, by omega, by rw [Int.toNat_of_nonneg h1]⟩
  split at h
  · rename_i e
    subst e
    simp only [inBv, Bool.and_eq_true, decide_eq_true_eq] at h
    obtain ⟨⟨h1, h2⟩, rfl, rfl⟩ := h
    exact Or.inr (Or.inl ⟨A.toNat, by omega, by rw [Int.toNat_of_nonneg h1]⟩)
  split at h
  · rename_i e
    subst e
    simp only [inBv, Bool.and_eq_true, decide_eq_true_eq] at h
    obtain ⟨⟨h1, h2⟩, ⟨h3, h4⟩, rfl⟩ := h
    exact Or.inr (Or.inr (Or.inl ⟨A.toNat, B.toNat, by omega, by omega, by rw [Int.toNat_of_nonneg h1, Int.toNat_of_nonneg h3]⟩))
  split at h
  · rename_i e
    subst e
    simp only [inBv, Bool.and_eq_true, decide_eq_true_eq] at h
    obtain ⟨⟨h1, h2⟩, ⟨h3, h4⟩, ⟨h5, h6⟩, h7⟩ := h
    exact Or.inr (Or.inr (Or.inr (Or.inl ⟨A.toNat, B.toNat, C.toNat, by omega, by omega, by omega, by rw [Int.toNat_of_nonneg h1, Int.toNat_of_nonneg h3, Int.toNat_of_nonneg h5]⟩)))
  split at h
  · rename_i e
    subst e
    unfold machB at h
    simp only [inBv, Bool.and_eq_true, decide_eq_true_eq] at h
    obtain ⟨⟨⟨h1, h2⟩, hm⟩, ⟨h3, h4⟩, ⟨h5, h6⟩, h7⟩ := h
    exact Or.inr (Or.inr (Or.inr (Or.inr (Or.inl ⟨A.toNat, B.toNat, C.toNat, by omega, hm, by omega, by omega, by rw [Int.toNat_of_nonneg h1, Int.toNat_of_nonneg h3, Int.toNat_of_nonneg h5]⟩))))
  split at h
  · rename_i e
    subst e
    simp only [inBv, Bool.and_eq_true, decide_eq_true_eq] at h
    obtain ⟨⟨h1, h2⟩, rfl, rfl⟩ := h
    exact Or.inr (Or.inr (Or.inr (Or.inr (Or.inr ⟨A.toNat, by omega, by rw [Int.toNat_of_nonneg h1]⟩))))
  · cases h
theorem satB_work (p : ProjT) (s : SchT) (r x y : Nat) (h : x ≤ y) : satB p s (4, (r : Int), (x : Int), (y : Int)) = decide (workTo p s r x (y - x) ≤ totTo (p.2.2.2.1.getD r zRes).1 x (y - x)) := by
  have e : ((y : Int) - (x : Int)).toNat = y - x := by omega
  rw [← e]
  rfl

theorem satisfies_any (v : Value) (p : ProjT) (S : Nat → Prop) (v1 : Value) (s : SchT) (T : Nat → Prop) (r : RuleT) (w : World) (hx : aggR projR S w v p) (hS : ∀ b, S b → b < w.heap.size) (hs : aggR schR T w v1 s) (hT : ∀ b, T b → b < w.heap.size) (hn : bulkProject p ≤ 1048576) (hn1 : bulkSchedule s ≤ 1048576) (hf : schFormB p s = true) (hr : ruleOkB p r = true) :
    Calls Tryz.prog 29 #[v, v1, .agg #[.int .i64 r.1, .int .i64 r.2.1, .int .i64 r.2.2.1, .int .i64 r.2.2.2]] w fun e w' => e = .returned (.bool (satB p s r)) ∧ Bel w w' := by
  rcases ruleOk_cases hr with ⟨k, hk, rfl⟩ | ⟨k, hk, rfl⟩ | ⟨a, t, ha, ht, rfl⟩ | ⟨a, x, y, ha, hxy, hy, rfl⟩ | ⟨a, b, c, ha, hm, hb, hc, rfl⟩ | ⟨k, hk, rfl⟩
  · exact ((sat1_any v p S v1 s T k w hx hS hs hT hn hn1 hf hk).mono fun e w' h => ⟨h.1.trans (ret_bool rfl), h.2⟩)
  · exact ((sat2_any v p S v1 s T k w hx hS hs hT hn hn1 hf hk).mono fun e w' h => ⟨h.1.trans (ret_bool rfl), h.2⟩)
  · exact ((sat3_any v p S v1 s T a t w hx hS hs hT hn hn1 hf ha).mono fun e w' h => ⟨h.1.trans (ret_bool rfl), h.2⟩)
  · exact ((sat4_any v p S v1 s T a x y w hx hS hs hT hn hn1 hf ha hxy hy).mono fun e w' h => ⟨h.1.trans (ret_bool (by rw [satB_work _ _ _ _ _ hxy])), h.2⟩)
  · exact ((sat5_any v p S v1 s T a b c w hx hS hs hT hn hn1 hf ha hm hb hc).mono fun e w' h => ⟨h.1.trans (ret_bool rfl), h.2⟩)
  · exact ((sat6_any v p S v1 s T k w hx hS hs hT hn hn1 hf hk).mono fun e w' h => ⟨h.1.trans (ret_bool rfl), h.2⟩)

theorem l10Fails_any (v : Value) (p : ProjT) (S : Nat → Prop) (v1 : Value) (s : SchT) (T : Nat → Prop) (r : RuleT) (w : World) (hx : aggR projR S w v p) (hS : ∀ b, S b → b < w.heap.size) (hs : aggR schR T w v1 s) (hT : ∀ b, T b → b < w.heap.size) (hn : bulkProject p ≤ 1048576) (hn1 : bulkSchedule s ≤ 1048576) (hf : schFormB p s = true) (hr : ruleOkB p r = true) :
    Calls Tryz.prog 22 #[v, v1, .agg #[.int .i64 r.1, .int .i64 r.2.1, .int .i64 r.2.2.1, .int .i64 r.2.2.2]] w fun e w' => e = .returned (.bool (!satB p s r)) ∧ Bel w w' := by
  rcases ruleOk_cases hr with ⟨k, hk, rfl⟩ | ⟨k, hk, rfl⟩ | ⟨a, t, ha, ht, rfl⟩ | ⟨a, x, y, ha, hxy, hy, rfl⟩ | ⟨a, b, c, ha, hm, hb, hc, rfl⟩ | ⟨k, hk, rfl⟩
  · exact ((fail1_any v p S v1 s T k w hx hS hs hT hn hn1 hf hk).mono fun e w' h => ⟨h.1.trans (ret_bool rfl), h.2⟩)
  · exact ((fail2_any v p S v1 s T k w hx hS hs hT hn hn1 hf hk).mono fun e w' h => ⟨h.1.trans (ret_bool rfl), h.2⟩)
  · exact ((fail3_any v p S v1 s T a t w hx hS hs hT hn hn1 hf ha).mono fun e w' h => ⟨h.1.trans (ret_bool rfl), h.2⟩)
  · exact ((fail4_any v p S v1 s T a x y w hx hS hs hT hn hn1 hf ha hxy hy).mono fun e w' h => ⟨h.1.trans (ret_bool (by rw [satB_work _ _ _ _ _ hxy])), h.2⟩)
  · exact ((fail5_any v p S v1 s T a b c w hx hS hs hT hn hn1 hf ha hm hb hc).mono fun e w' h => ⟨h.1.trans (ret_bool rfl), h.2⟩)
  · exact ((fail6_any v p S v1 s T k w hx hS hs hT hn hn1 hf hk).mono fun e w' h => ⟨h.1.trans (ret_bool rfl), h.2⟩)

set_option maxHeartbeats 1000000 in
theorem iViolates_any (v : Value) (p : ProjT) (S : Nat → Prop) (v1 : Value) (s : SchT) (T : Nat → Prop) (r : RuleT) (w : World) (hx : aggR projR S w v p) (hS : ∀ b, S b → b < w.heap.size) (_hn : bulkProject p ≤ 1048576) (hs : aggR schR T w v1 s) (hT : ∀ b, T b → b < w.heap.size) (_hn1 : bulkSchedule s ≤ 1048576) :
    Calls Tryz.prog 11 #[v, v1, .agg #[.int .i64 r.1, .int .i64 r.2.1, .int .i64 r.2.2.1, .int .i64 r.2.2.2]] w fun e w' => e = .returned (.bool (violB p s r)) ∧ Bel w w' := by
  obtain ⟨cs, rfl, hx⟩ := hx
  obtain ⟨c1, c2, c3, c4, rfl, q0, q1, q2, q3, q4⟩ := projR_open hx
  have Q1 := Lib.hid q1
  have Q2 := Lib.hid q2
  have Q3 := Lib.hid q3
  have Q4 := Lib.hid q4
  have HP := Lib.hid hx
  obtain ⟨p1, k1, rfl, l1, l1', -⟩ := sliceR_open q1
  obtain ⟨p2, k2, rfl, l2, l2', -⟩ := sliceR_open q2
  obtain ⟨p3, k3, rfl, l3, l3', -⟩ := sliceR_open q3
  obtain ⟨p4, k4, rfl, l4, l4', -⟩ := sliceR_open q4
  unfold maxLen at l1' l2' l3' l4'
  clear hx q0 q1 q2 q3 q4
  obtain ⟨zs, rfl, hs⟩ := hs
  have HZ := hs
  obtain ⟨z0, z1, rfl, zq0, zq1⟩ := schR_open hs
  have A0 := Lib.hid (fun i hi => intsR_at' zq0 (i := i) hi)
  have A1 := Lib.hid (fun i hi => intsR_at' zq1 (i := i) hi)
  obtain ⟨sp0, sk0, rfl, sl0, sl0', -⟩ := sliceR_open zq0
  obtain ⟨sp1, sk1, rfl, sl1, sl1', -⟩ := sliceR_open zq1
  unfold maxLen at sl0' sl1'
  have HT := Lib.hid hT
  have HQ1 := Lib.hid (show ∀ W, Bel w W → aggR schR T W (.agg #[.slice sp0 s.1.length sk0, .slice sp1 s.2.length sk1]) s from fun W hW => aggR_mk (schR_good.bel HZ hW HT.out))
  clear hs zq0 zq1 hT HZ
  have HS := Lib.hid hS
  have HN := Lib.hid _hn
  have HN1 := Lib.hid _hn1
  clear hS _hn _hn1
  have HP1 := Lib.hid (show ∀ W, Bel w W → aggR projR S W (.agg #[.int .i64 p.1, .slice p1 p.2.1.length k1, .slice p2 p.2.2.1.length k2, .slice p3 p.2.2.2.1.length k3, .slice p4 p.2.2.2.2.length k4]) p from fun W hW => aggR_mk (projR_good.bel HP.out hW HS.out))
  show Calls Tryz.prog 11 #[.agg #[.int .i64 p.1, .slice p1 p.2.1.length k1, .slice p2 p.2.2.1.length k2, .slice p3 p.2.2.2.1.length k3, .slice p4 p.2.2.2.2.length k4], .agg #[.slice sp0 s.1.length sk0, .slice sp1 s.2.length sk1], .agg #[.int .i64 r.1, .int .i64 r.2.1, .int .i64 r.2.2.1, .int .i64 r.2.2.2]] w _
  go_enter Tryz.func11, Tryz.ntmps11
  go_wp2_with fail
  refine (iScheduleForm_any _ p S _ s T _ (HP1.out _ (by (repeat (first | assumption | exact Bel.refl _ | apply Bel.drewN | apply Bel.drew | apply Bel.alloc | refine Bel.trans ?_ (by assumption))))) (fun b hb => Nat.lt_of_lt_of_le (HS.out b hb) (Bel.size (by (repeat (first | assumption | exact Bel.refl _ | apply Bel.drewN | apply Bel.drew | apply Bel.alloc | refine Bel.trans ?_ (by assumption)))))) HN.out (HQ1.out _ (by (repeat (first | assumption | exact Bel.refl _ | apply Bel.drewN | apply Bel.drew | apply Bel.alloc | refine Bel.trans ?_ (by assumption))))) (fun b hb => Nat.lt_of_lt_of_le (HT.out b hb) (Bel.size (by (repeat (first | assumption | exact Bel.refl _ | apply Bel.drewN | apply Bel.drew | apply Bel.alloc | refine Bel.trans ?_ (by assumption)))))) HN1.out).mono ?_
  rintro e w1 ⟨rfl, g1⟩
  have b0 := g1.cell (p := ⟨w.heap.size, 0, none⟩) (v := .int .i64 p.1) (by simp [go_sem])
  have b1 := g1.cell (p := ⟨w.heap.size, 1, none⟩) (v := .slice p1 p.2.1.length k1) (by simp [go_sem])
  have b2 := g1.cell (p := ⟨w.heap.size, 2, none⟩) (v := .slice p2 p.2.2.1.length k2) (by simp [go_sem])
  have b3 := g1.cell (p := ⟨w.heap.size, 3, none⟩) (v := .slice p3 p.2.2.2.1.length k3) (by simp [go_sem])
  have b4 := g1.cell (p := ⟨w.heap.size, 4, none⟩) (v := .slice p4 p.2.2.2.2.length k4) (by simp [go_sem])
  have c0 := g1.cell (p := ⟨w.heap.size + 1, 0, none⟩) (v := .slice sp0 s.1.length sk0) (by simp [go_sem])
  have c1 := g1.cell (p := ⟨w.heap.size + 1, 1, none⟩) (v := .slice sp1 s.2.length sk1) (by simp [go_sem])
  have d0 := g1.cell (p := ⟨w.heap.size + 1 + 1, 0, none⟩) (v := .int .i64 r.1) (by simp [go_sem])
  have d1 := g1.cell (p := ⟨w.heap.size + 1 + 1, 1, none⟩) (v := .int .i64 r.2.1) (by simp [go_sem])
  have d2 := g1.cell (p := ⟨w.heap.size + 1 + 1, 2, none⟩) (v := .int .i64 r.2.2.1) (by simp [go_sem])
  have d3 := g1.cell (p := ⟨w.heap.size + 1 + 1, 3, none⟩) (v := .int .i64 r.2.2.2) (by simp [go_sem])
  have G1 : Bel w w1 := by (repeat (first | assumption | exact Bel.refl _ | apply Bel.drewN | apply Bel.drew | apply Bel.alloc | refine Bel.trans ?_ (by assumption)))
  cases hf : schFormB p s
  · have HF := Lib.hid (show violB p s r = false from by unfold violB; rw [hf]; rfl)
    clear hf
    go_wp2
    go_ret
    exact ⟨ret_bool HF.out.symm, by (repeat (first | assumption | exact Bel.refl _ | apply Bel.drewN | apply Bel.drew | apply Bel.alloc | refine Bel.trans ?_ (by assumption)))⟩
  have HFO := Lib.hid hf; clear hf
  go_wp2_with fail
  refine (iRuleOk_any _ p S r _ (HP1.out _ (by (repeat (first | assumption | exact Bel.refl _ | apply Bel.drewN | apply Bel.drew | apply Bel.alloc | refine Bel.trans ?_ (by assumption))))) (fun b hb => Nat.lt_of_lt_of_le (HS.out b hb) (Bel.size (by (repeat (first | assumption | exact Bel.refl _ | apply Bel.drewN | apply Bel.drew | apply Bel.alloc | refine Bel.trans ?_ (by assumption)))))) HN.out).mono ?_
  rintro e w2 ⟨rfl, g2⟩
  have b0 := g2.cell b0
  have b1 := g2.cell b1
  have b2 := g2.cell b2
  have b3 := g2.cell b3
  have b4 := g2.cell b4
  have c0 := g2.cell c0
  have c1 := g2.cell c1
  have d0 := g2.cell d0
  have d1 := g2.cell d1
  have d2 := g2.cell d2
  have d3 := g2.cell d3
  have G2 : Bel w w2 := by (repeat (first | assumption | exact Bel.refl _ | apply Bel.drewN | apply Bel.drew | apply Bel.alloc | refine Bel.trans ?_ (by assumption)))
  cases hr : ruleOkB p r
  · have HF := Lib.hid (show violB p s r = false from by unfold violB; rw [HFO.out, hr]; rfl)
    clear hr
    go_wp2
    go_ret
    exact ⟨ret_bool HF.out.symm, by (repeat (first | assumption | exact Bel.refl _ | apply Bel.drewN | apply Bel.drew | apply Bel.alloc | refine Bel.trans ?_ (by assumption)))⟩
  have HF := Lib.hid (show violB p s r = !satB p s r from by unfold violB; rw [HFO.out, hr]; rfl)
  have HR := Lib.hid hr; clear hr
  go_wp2_with fail
  refine (satisfies_any _ p S _ s T r _ (HP1.out _ (by (repeat (first | assumption | exact Bel.refl _ | apply Bel.drewN | apply Bel.drew | apply Bel.alloc | refine Bel.trans ?_ (by assumption))))) (fun b hb => Nat.lt_of_lt_of_le (HS.out b hb) (Bel.size (by (repeat (first | assumption | exact Bel.refl _ | apply Bel.drewN | apply Bel.drew | apply Bel.alloc | refine Bel.trans ?_ (by assumption)))))) (HQ1.out _ (by (repeat (first | assumption | exact Bel.refl _ | apply Bel.drewN | apply Bel.drew | apply Bel.alloc | refine Bel.trans ?_ (by assumption))))) (fun b hb => Nat.lt_of_lt_of_le (HT.out b hb) (Bel.size (by (repeat (first | assumption | exact Bel.refl _ | apply Bel.drewN | apply Bel.drew | apply Bel.alloc | refine Bel.trans ?_ (by assumption)))))) HN.out HN1.out HFO.out HR.out).mono ?_
  rintro e w3 ⟨rfl, g3⟩
  go_wp2
  go_ret
  exact ⟨ret_bool HF.out.symm, by (repeat (first | assumption | exact Bel.refl _ | apply Bel.drewN | apply Bel.drew | apply Bel.alloc | refine Bel.trans ?_ (by assumption)))⟩

set_option maxHeartbeats 1000000 in
theorem sViolates_any (v : Value) (p : ProjT) (S : Nat → Prop) (v1 : Value) (s : SchT) (T : Nat → Prop) (r : RuleT) (w : World) (hx : aggR projR S w v p) (hS : ∀ b, S b → b < w.heap.size) (_hn : bulkProject p ≤ 1048576) (hs : aggR schR T w v1 s) (hT : ∀ b, T b → b < w.heap.size) (_hn1 : bulkSchedule s ≤ 1048576) :
    Calls Tryz.prog 7 #[v, v1, .agg #[.int .i64 r.1, .int .i64 r.2.1, .int .i64 r.2.2.1, .int .i64 r.2.2.2]] w fun e w' => e = .returned (.bool (violB p s r)) ∧ Bel w w' := by
  obtain ⟨cs, rfl, hx⟩ := hx
  obtain ⟨c1, c2, c3, c4, rfl, q0, q1, q2, q3, q4⟩ := projR_open hx
  have Q1 := Lib.hid q1
  have Q2 := Lib.hid q2
  have Q3 := Lib.hid q3
  have Q4 := Lib.hid q4
  have HP := Lib.hid hx
  obtain ⟨p1, k1, rfl, l1, l1', -⟩ := sliceR_open q1
  obtain ⟨p2, k2, rfl, l2, l2', -⟩ := sliceR_open q2
  obtain ⟨p3, k3, rfl, l3, l3', -⟩ := sliceR_open q3
  obtain ⟨p4, k4, rfl, l4, l4', -⟩ := sliceR_open q4
  unfold maxLen at l1' l2' l3' l4'
  clear hx q0 q1 q2 q3 q4
  obtain ⟨zs, rfl, hs⟩ := hs
  have HZ := hs
  obtain ⟨z0, z1, rfl, zq0, zq1⟩ := schR_open hs
  have A0 := Lib.hid (fun i hi => intsR_at' zq0 (i := i) hi)
  have A1 := Lib.hid (fun i hi => intsR_at' zq1 (i := i) hi)
  obtain ⟨sp0, sk0, rfl, sl0, sl0', -⟩ := sliceR_open zq0
  obtain ⟨sp1, sk1, rfl, sl1, sl1', -⟩ := sliceR_open zq1
  unfold maxLen at sl0' sl1'
  have HT := Lib.hid hT
  have HQ1 := Lib.hid (show ∀ W, Bel w W → aggR schR T W (.agg #[.slice sp0 s.1.length sk0, .slice sp1 s.2.length sk1]) s from fun W hW => aggR_mk (schR_good.bel HZ hW HT.out))
  clear hs zq0 zq1 hT HZ
  have HS := Lib.hid hS
  have HN := Lib.hid _hn
  have HN1 := Lib.hid _hn1
  clear hS _hn _hn1
  have HP1 := Lib.hid (show ∀ W, Bel w W → aggR projR S W (.agg #[.int .i64 p.1, .slice p1 p.2.1.length k1, .slice p2 p.2.2.1.length k2, .slice p3 p.2.2.2.1.length k3, .slice p4 p.2.2.2.2.length k4]) p from fun W hW => aggR_mk (projR_good.bel HP.out hW HS.out))
  show Calls Tryz.prog 7 #[.agg #[.int .i64 p.1, .slice p1 p.2.1.length k1, .slice p2 p.2.2.1.length k2, .slice p3 p.2.2.2.1.length k3, .slice p4 p.2.2.2.2.length k4], .agg #[.slice sp0 s.1.length sk0, .slice sp1 s.2.length sk1], .agg #[.int .i64 r.1, .int .i64 r.2.1, .int .i64 r.2.2.1, .int .i64 r.2.2.2]] w _
  go_enter Tryz.func7, Tryz.ntmps7
  go_wp2_with fail
  refine (sScheduleForm_any _ p S _ s T _ (HP1.out _ (by (repeat (first | assumption | exact Bel.refl _ | apply Bel.drewN | apply Bel.drew | apply Bel.alloc | refine Bel.trans ?_ (by assumption))))) (fun b hb => Nat.lt_of_lt_of_le (HS.out b hb) (Bel.size (by (repeat (first | assumption | exact Bel.refl _ | apply Bel.drewN | apply Bel.drew | apply Bel.alloc | refine Bel.trans ?_ (by assumption)))))) HN.out (HQ1.out _ (by (repeat (first | assumption | exact Bel.refl _ | apply Bel.drewN | apply Bel.drew | apply Bel.alloc | refine Bel.trans ?_ (by assumption))))) (fun b hb => Nat.lt_of_lt_of_le (HT.out b hb) (Bel.size (by (repeat (first | assumption | exact Bel.refl _ | apply Bel.drewN | apply Bel.drew | apply Bel.alloc | refine Bel.trans ?_ (by assumption)))))) HN1.out).mono ?_
  rintro e w1 ⟨rfl, g1⟩
  have b0 := g1.cell (p := ⟨w.heap.size, 0, none⟩) (v := .int .i64 p.1) (by simp [go_sem])
  have b1 := g1.cell (p := ⟨w.heap.size, 1, none⟩) (v := .slice p1 p.2.1.length k1) (by simp [go_sem])
  have b2 := g1.cell (p := ⟨w.heap.size, 2, none⟩) (v := .slice p2 p.2.2.1.length k2) (by simp [go_sem])
  have b3 := g1.cell (p := ⟨w.heap.size, 3, none⟩) (v := .slice p3 p.2.2.2.1.length k3) (by simp [go_sem])
  have b4 := g1.cell (p := ⟨w.heap.size, 4, none⟩) (v := .slice p4 p.2.2.2.2.length k4) (by simp [go_sem])
  have c0 := g1.cell (p := ⟨w.heap.size + 1, 0, none⟩) (v := .slice sp0 s.1.length sk0) (by simp [go_sem])
  have c1 := g1.cell (p := ⟨w.heap.size + 1, 1, none⟩) (v := .slice sp1 s.2.length sk1) (by simp [go_sem])
  have d0 := g1.cell (p := ⟨w.heap.size + 1 + 1, 0, none⟩) (v := .int .i64 r.1) (by simp [go_sem])
  have d1 := g1.cell (p := ⟨w.heap.size + 1 + 1, 1, none⟩) (v := .int .i64 r.2.1) (by simp [go_sem])
  have d2 := g1.cell (p := ⟨w.heap.size + 1 + 1, 2, none⟩) (v := .int .i64 r.2.2.1) (by simp [go_sem])
  have d3 := g1.cell (p := ⟨w.heap.size + 1 + 1, 3, none⟩) (v := .int .i64 r.2.2.2) (by simp [go_sem])
  have G1 : Bel w w1 := by (repeat (first | assumption | exact Bel.refl _ | apply Bel.drewN | apply Bel.drew | apply Bel.alloc | refine Bel.trans ?_ (by assumption)))
  cases hf : schFormB p s
  · have HF := Lib.hid (show violB p s r = false from by unfold violB; rw [hf]; rfl)
    clear hf
    go_wp2
    go_ret
    exact ⟨ret_bool HF.out.symm, by (repeat (first | assumption | exact Bel.refl _ | apply Bel.drewN | apply Bel.drew | apply Bel.alloc | refine Bel.trans ?_ (by assumption)))⟩
  have HFO := Lib.hid hf; clear hf
  go_wp2_with fail
  refine (sRuleOk_any _ p S r _ (HP1.out _ (by (repeat (first | assumption | exact Bel.refl _ | apply Bel.drewN | apply Bel.drew | apply Bel.alloc | refine Bel.trans ?_ (by assumption))))) (fun b hb => Nat.lt_of_lt_of_le (HS.out b hb) (Bel.size (by (repeat (first | assumption | exact Bel.refl _ | apply Bel.drewN | apply Bel.drew | apply Bel.alloc | refine Bel.trans ?_ (by assumption)))))) HN.out).mono ?_
  rintro e w2 ⟨rfl, g2⟩
  have b0 := g2.cell b0
  have b1 := g2.cell b1
  have b2 := g2.cell b2
  have b3 := g2.cell b3
  have b4 := g2.cell b4
  have c0 := g2.cell c0
  have c1 := g2.cell c1
  have d0 := g2.cell d0
  have d1 := g2.cell d1
  have d2 := g2.cell d2
  have d3 := g2.cell d3
  have G2 : Bel w w2 := by (repeat (first | assumption | exact Bel.refl _ | apply Bel.drewN | apply Bel.drew | apply Bel.alloc | refine Bel.trans ?_ (by assumption)))
  cases hr : ruleOkB p r
  · have HF := Lib.hid (show violB p s r = false from by unfold violB; rw [HFO.out, hr]; rfl)
    clear hr
    go_wp2
    go_ret
    exact ⟨ret_bool HF.out.symm, by (repeat (first | assumption | exact Bel.refl _ | apply Bel.drewN | apply Bel.drew | apply Bel.alloc | refine Bel.trans ?_ (by assumption)))⟩
  have HF := Lib.hid (show violB p s r = !satB p s r from by unfold violB; rw [HFO.out, hr]; rfl)
  have HR := Lib.hid hr; clear hr
  go_wp2_with fail
  refine (l10Fails_any _ p S _ s T r _ (HP1.out _ (by (repeat (first | assumption | exact Bel.refl _ | apply Bel.drewN | apply Bel.drew | apply Bel.alloc | refine Bel.trans ?_ (by assumption))))) (fun b hb => Nat.lt_of_lt_of_le (HS.out b hb) (Bel.size (by (repeat (first | assumption | exact Bel.refl _ | apply Bel.drewN | apply Bel.drew | apply Bel.alloc | refine Bel.trans ?_ (by assumption)))))) (HQ1.out _ (by (repeat (first | assumption | exact Bel.refl _ | apply Bel.drewN | apply Bel.drew | apply Bel.alloc | refine Bel.trans ?_ (by assumption))))) (fun b hb => Nat.lt_of_lt_of_le (HT.out b hb) (Bel.size (by (repeat (first | assumption | exact Bel.refl _ | apply Bel.drewN | apply Bel.drew | apply Bel.alloc | refine Bel.trans ?_ (by assumption)))))) HN.out HN1.out HFO.out HR.out).mono ?_
  rintro e w3 ⟨rfl, g3⟩
  go_wp2
  go_ret
  exact ⟨ret_bool HF.out.symm, by (repeat (first | assumption | exact Bel.refl _ | apply Bel.drewN | apply Bel.drew | apply Bel.alloc | refine Bel.trans ?_ (by assumption)))⟩

end Go.Proofs.YtkfmohcfgpfjkaaGreat
