/- Contracts of ScheduleEqual. -/
import Derived.Test.YtlepgmkdclbkjaaSeq
namespace Go.Proofs.Ytlepgmkdclbkjaa
open Go.ChangeShapes Go.WideShapes Go.ChangeAt Go.RowKit
set_option linter.unusedVariables false

theorem sScheduleEqual_any (v0 : Value) (x0 : SchT) (S0 : Nat → Prop) (v1 : Value) (x1 : SchT) (S1 : Nat → Prop) (w : World) (h0 : aggR schR S0 w v0 x0) (hS0 : ∀ b, S0 b → b < w.heap.size) (_hn0 : bulkSchedule x0 ≤ 1048576) (h1 : aggR schR S1 w v1 x1) (hS1 : ∀ b, S1 b → b < w.heap.size) (_hn1 : bulkSchedule x1 ≤ 1048576) :
    Calls Try.prog 25 #[v0, v1] w fun e w' => e = .returned (.bool (decide (x0 = x1))) ∧ Bel w w' := by
  obtain ⟨cs, rfl, h0⟩ := h0
  obtain ⟨cs', rfl, h1⟩ := h1
  obtain ⟨c0, c1, rfl, q0, q1⟩ := schR_open h0
  obtain ⟨d0, d1, rfl, p0, p1⟩ := schR_open h1
  clear h0 h1 _hn0 _hn1
  have HS := Lib.hid hS0
  have HS' := Lib.hid hS1
  clear hS0 hS1
  show Calls Try.prog 25 #[.agg #[c0, c1], .agg #[d0, d1]] w _
  go_enter Try.func25, Try.ntmps25
  go_wp2_with fail
  refine (sSetEqual_any _ _ x0.1 x1.1 _ _ _ (intsR_good.bel q0 (by (repeat (first | exact Bel.refl _ | apply Bel.drew | apply Bel.alloc | refine Bel.trans ?_ (by assumption)))) HS.out) (intsR_good.bel p0 (by (repeat (first | exact Bel.refl _ | apply Bel.drew | apply Bel.alloc | refine Bel.trans ?_ (by assumption)))) HS'.out)).mono ?_
  rintro e w1 ⟨rfl, g⟩
  have G1 : Bel w w1 := by (repeat (first | exact Bel.refl _ | apply Bel.drew | apply Bel.alloc | refine Bel.trans ?_ (by assumption)))
  obtain ⟨hc1, hf1⟩ := g.rules
  have hz1 : w.heap.size + 1 < w1.heap.size := by have := g.size; simp only [World.size_alloc] at this; omega
  have hy1 : w.heap.size < w1.heap.size := by omega
  clear g
  by_cases c0e : x0.1 = x1.1
  · rw [decide_eq_true c0e]
    have C0 := Lib.hid c0e; clear c0e
    go_wp2_with fail
    refine (sSetEqual_any _ _ x0.2 x1.2 _ _ _ (intsR_good.bel q1 (by (repeat (first | exact Bel.refl _ | apply Bel.drew | apply Bel.alloc | refine Bel.trans ?_ (by assumption)))) HS.out) (intsR_good.bel p1 (by (repeat (first | exact Bel.refl _ | apply Bel.drew | apply Bel.alloc | refine Bel.trans ?_ (by assumption)))) HS'.out)).mono ?_
    rintro e w2 ⟨rfl, g⟩
    go_wp2
    go_ret
    refine ⟨ret_bool ?_, by (repeat (first | exact Bel.refl _ | apply Bel.drew | apply Bel.alloc | refine Bel.trans ?_ (by assumption)))⟩
    by_cases c1e : x0.2 = x1.2
    · rw [decide_eq_true c1e, decide_eq_true (Prod.ext C0.out c1e)]
    · rw [decide_eq_false c1e, decide_eq_false fun h => c1e (by rw [h])]
  · rw [decide_eq_false c0e]
    have C0 := Lib.hid c0e; clear c0e
    go_wp2
    go_ret
    exact ⟨ret_bool (decide_eq_false fun h => C0.out (by rw [h])).symm, by (repeat (first | exact Bel.refl _ | apply Bel.drew | apply Bel.alloc | refine Bel.trans ?_ (by assumption)))⟩

theorem iScheduleEqual_any (v0 : Value) (x0 : SchT) (S0 : Nat → Prop) (v1 : Value) (x1 : SchT) (S1 : Nat → Prop) (w : World) (h0 : aggR schR S0 w v0 x0) (hS0 : ∀ b, S0 b → b < w.heap.size) (_hn0 : bulkSchedule x0 ≤ 1048576) (h1 : aggR schR S1 w v1 x1) (hS1 : ∀ b, S1 b → b < w.heap.size) (_hn1 : bulkSchedule x1 ≤ 1048576) :
    Calls Try.prog 27 #[v0, v1] w fun e w' => e = .returned (.bool (decide (x0 = x1))) ∧ Bel w w' := by
  obtain ⟨cs, rfl, h0⟩ := h0
  obtain ⟨cs', rfl, h1⟩ := h1
  obtain ⟨c0, c1, rfl, q0, q1⟩ := schR_open h0
  obtain ⟨d0, d1, rfl, p0, p1⟩ := schR_open h1
  clear h0 h1 _hn0 _hn1
  have HS := Lib.hid hS0
  have HS' := Lib.hid hS1
  clear hS0 hS1
  show Calls Try.prog 27 #[.agg #[c0, c1], .agg #[d0, d1]] w _
  go_enter Try.func27, Try.ntmps27
  go_wp2_with fail
  refine (equalInts_any _ _ x0.1 x1.1 _ _ _ (intsR_good.bel q0 (by (repeat (first | exact Bel.refl _ | apply Bel.drew | apply Bel.alloc | refine Bel.trans ?_ (by assumption)))) HS.out) (intsR_good.bel p0 (by (repeat (first | exact Bel.refl _ | apply Bel.drew | apply Bel.alloc | refine Bel.trans ?_ (by assumption)))) HS'.out)).mono ?_
  rintro e w1 ⟨rfl, g⟩
  have G1 : Bel w w1 := by (repeat (first | exact Bel.refl _ | apply Bel.drew | apply Bel.alloc | refine Bel.trans ?_ (by assumption)))
  obtain ⟨hc1, hf1⟩ := g.rules
  have hz1 : w.heap.size + 1 < w1.heap.size := by have := g.size; simp only [World.size_alloc] at this; omega
  have hy1 : w.heap.size < w1.heap.size := by omega
  clear g
  by_cases c0e : x0.1 = x1.1
  · rw [decide_eq_true c0e]
    have C0 := Lib.hid c0e; clear c0e
    go_wp2_with fail
    refine (equalInts_any _ _ x0.2 x1.2 _ _ _ (intsR_good.bel q1 (by (repeat (first | exact Bel.refl _ | apply Bel.drew | apply Bel.alloc | refine Bel.trans ?_ (by assumption)))) HS.out) (intsR_good.bel p1 (by (repeat (first | exact Bel.refl _ | apply Bel.drew | apply Bel.alloc | refine Bel.trans ?_ (by assumption)))) HS'.out)).mono ?_
    rintro e w2 ⟨rfl, g⟩
    go_wp2
    go_ret
    refine ⟨ret_bool ?_, by (repeat (first | exact Bel.refl _ | apply Bel.drew | apply Bel.alloc | refine Bel.trans ?_ (by assumption)))⟩
    by_cases c1e : x0.2 = x1.2
    · rw [decide_eq_true c1e, decide_eq_true (Prod.ext C0.out c1e)]
    · rw [decide_eq_false c1e, decide_eq_false fun h => c1e (by rw [h])]
  · rw [decide_eq_false c0e]
    have C0 := Lib.hid c0e; clear c0e
    go_wp2
    go_ret
    exact ⟨ret_bool (decide_eq_false fun h => C0.out (by rw [h])).symm, by (repeat (first | exact Bel.refl _ | apply Bel.drew | apply Bel.alloc | refine Bel.trans ?_ (by assumption)))⟩

end Go.Proofs.Ytlepgmkdclbkjaa
