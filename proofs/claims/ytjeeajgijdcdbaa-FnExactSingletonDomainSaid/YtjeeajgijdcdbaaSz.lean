/- Contracts of szT: what is left of the allowance behind an argument. -/
import Derived.Test.YtjeeajgijdcdbaaIn
import Derived.Test.YtjeeajgijdcdbaaShape
namespace Go.Proofs.Ytjeeajgijdcdbaa
open Go.ChangeShapes Go.WideShapes Go.ChangeAt Go.RowKit
set_option linter.unusedVariables false





theorem szIntS_any (v : Value) (xs : List (Int)) (S : Nat → Prop) (w : World) (left : Int) (hx : intsR S w [v] xs) (hS : ∀ b, S b → b < w.heap.size) (h0 : 0 ≤ left) (h1 : left ≤ 1048576) :
    Calls Try.prog 13 #[v, .int .i64 left] w fun e w' => e = .returned (.int .i64 (szN (bulkIntS xs) left)) ∧ Bel w w' := by
  obtain ⟨p, cap, rfl, h2, h3, _⟩ := sliceR_open hx
  unfold maxLen at h3
  unfold bulkIntS
  clear hx hS
  go_enter Try.func13, Try.ntmps13
  go_wp2
  all_goals go_ret
  all_goals exact ⟨ret_int (by unfold szN; split <;> omega), Bel.refl _⟩


theorem szSchedule_any (v : Value) (x : SchT) (S : Nat → Prop) (w : World) (left : Int) (hx : aggR schR S w v x) (hS : ∀ b, S b → b < w.heap.size) (h0 : 0 ≤ left) (h1 : left ≤ 1048576) :
    Calls Try.prog 4 #[v, .int .i64 left] w fun e w' => e = .returned (.int .i64 (szN (bulkSchedule x) left)) ∧ Bel w w' := by
  obtain ⟨cs, rfl, hx⟩ := hx
  obtain ⟨c0, c1, rfl, q0, q1⟩ := schR_open hx
  clear hx
  have HS := Lib.hid hS
  clear hS
  obtain ⟨m0, hm0⟩ : ∃ m, bulkIntS x.1 = m := ⟨_, rfl⟩
  obtain ⟨m1, hm1⟩ : ∃ m, bulkIntS x.2 = m := ⟨_, rfl⟩
  have HU := Lib.hid (show bulkSchedule x = m0 + m1 from by unfold bulkSchedule; rw [hm0, hm1])
  have HM0 := Lib.hid hm0; clear hm0
  have HM1 := Lib.hid hm1; clear hm1
  show Calls Try.prog 4 #[.agg #[c0, c1], .int .i64 left] w _
  go_enter Try.func4, Try.ntmps4
  go_wp2_with fail
  refine (szIntS_any _ x.1 S _ _ (intsR_good.bel q0 (by (repeat (first | exact Bel.refl _ | apply Bel.drew | apply Bel.alloc | refine Bel.trans ?_ (by assumption)))) HS.out) (fun b hb => Nat.lt_of_lt_of_le (HS.out b hb) (Bel.size (by (repeat (first | exact Bel.refl _ | apply Bel.drew | apply Bel.alloc | refine Bel.trans ?_ (by assumption)))))) (by omega) (by omega)).mono ?_
  rintro e w1 ⟨rfl, g⟩
  rw [HM0.out]
  have G1 : Bel w w1 := by (repeat (first | exact Bel.refl _ | apply Bel.drew | apply Bel.alloc | refine Bel.trans ?_ (by assumption)))
  obtain ⟨hc1, hf1⟩ := g.rules
  have hz1 : w.heap.size < w1.heap.size := by have := g.size; simp only [World.size_alloc] at this; omega
  clear g
  by_cases hfit0 : (m0 : Int) ≤ left
  · rw [szN_ok hfit0]
    go_wp2_with fail
    refine (szIntS_any _ x.2 S _ _ (intsR_good.bel q1 (by (repeat (first | exact Bel.refl _ | apply Bel.drew | apply Bel.alloc | refine Bel.trans ?_ (by assumption)))) HS.out) (fun b hb => Nat.lt_of_lt_of_le (HS.out b hb) (Bel.size (by (repeat (first | exact Bel.refl _ | apply Bel.drew | apply Bel.alloc | refine Bel.trans ?_ (by assumption)))))) (by omega) (by omega)).mono ?_
    rintro e w2 ⟨rfl, g⟩
    rw [HM1.out]
    have G2 : Bel w w2 := by (repeat (first | exact Bel.refl _ | apply Bel.drew | apply Bel.alloc | refine Bel.trans ?_ (by assumption)))
    obtain ⟨hc2, hf2⟩ := g.rules
    have hz2 : w.heap.size < w2.heap.size := by have := g.size; omega
    clear g
    by_cases hfit1 : (m1 : Int) ≤ left - m0
    · rw [szN_ok hfit1]
      go_wp2
      go_ret
      exact ⟨ret_int (by rw [HU.out, szN_ok (by omega)]; omega), by (repeat (first | exact Bel.refl _ | apply Bel.drew | apply Bel.alloc | refine Bel.trans ?_ (by assumption)))⟩
    · rw [szN_no (by omega)]
      go_wp2
      go_ret
      exact ⟨ret_int (by rw [HU.out, szN_no (by omega)]), by (repeat (first | exact Bel.refl _ | apply Bel.drew | apply Bel.alloc | refine Bel.trans ?_ (by assumption)))⟩
  · rw [szN_no (by omega)]
    go_wp2
    go_ret
    exact ⟨ret_int (by rw [HU.out, szN_no (by omega)]), by (repeat (first | exact Bel.refl _ | apply Bel.drew | apply Bel.alloc | refine Bel.trans ?_ (by assumption)))⟩









end Go.Proofs.Ytjeeajgijdcdbaa
