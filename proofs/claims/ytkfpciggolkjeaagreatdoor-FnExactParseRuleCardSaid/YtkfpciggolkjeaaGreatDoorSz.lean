/- Contracts of szT: what is left of the allowance behind an argument. -/
import Derived.Test.YtkfpciggolkjeaaGreatDoorIn
import Derived.Test.YtkfpciggolkjeaaGreatDoorShape
namespace Go.Proofs.YtkfpciggolkjeaaGreatDoor
open Go.ChangeShapes Go.WideShapes Go.ChangeAt Go.RowKit
set_option linter.unusedVariables false


theorem szStepS_any (v : Value) (xs : List (StepT)) (S : Nat → Prop) (w : World) (left : Int) (hx : stepsR S w [v] xs) (hS : ∀ b, S b → b < w.heap.size) (h0 : 0 ≤ left) (h1 : left ≤ 1048576) :
    Calls Tryz.prog 99 #[v, .int .i64 left] w fun e w' => e = .returned (.int .i64 (szN (bulkStepS xs) left)) ∧ Bel w w' := by
  obtain ⟨p, cap, rfl, h2, h3, _⟩ := sliceR_open hx
  unfold maxLen at h3
  unfold bulkStepS
  clear hx hS
  go_enter Tryz.func99, Tryz.ntmps99
  go_wp2
  all_goals go_ret
  all_goals exact ⟨ret_int (by unfold szN; split <;> omega), Bel.refl _⟩

theorem szLinkS_any (v : Value) (xs : List (LinkT)) (S : Nat → Prop) (w : World) (left : Int) (hx : linksR S w [v] xs) (hS : ∀ b, S b → b < w.heap.size) (h0 : 0 ≤ left) (h1 : left ≤ 1048576) :
    Calls Tryz.prog 26 #[v, .int .i64 left] w fun e w' => e = .returned (.int .i64 (szN (bulkLinkS xs) left)) ∧ Bel w w' := by
  obtain ⟨p, cap, rfl, h2, h3, _⟩ := sliceR_open hx
  unfold maxLen at h3
  unfold bulkLinkS
  clear hx hS
  go_enter Tryz.func26, Tryz.ntmps26
  go_wp2
  all_goals go_ret
  all_goals exact ⟨ret_int (by unfold szN; split <;> omega), Bel.refl _⟩


theorem szIntS_any (v : Value) (xs : List (Int)) (S : Nat → Prop) (w : World) (left : Int) (hx : intsR S w [v] xs) (hS : ∀ b, S b → b < w.heap.size) (h0 : 0 ≤ left) (h1 : left ≤ 1048576) :
    Calls Tryz.prog 28 #[v, .int .i64 left] w fun e w' => e = .returned (.int .i64 (szN (bulkIntS xs) left)) ∧ Bel w w' := by
  obtain ⟨p, cap, rfl, h2, h3, _⟩ := sliceR_open hx
  unfold maxLen at h3
  unfold bulkIntS
  clear hx hS
  go_enter Tryz.func28, Tryz.ntmps28
  go_wp2
  all_goals go_ret
  all_goals exact ⟨ret_int (by unfold szN; split <;> omega), Bel.refl _⟩

theorem szIntSS_any (v : Value) (xs : List (List Int)) (S : Nat → Prop) (w : World) (left : Int) (hx : rowsR S w [v] xs) (hS : ∀ b, S b → b < w.heap.size) (h0 : 0 ≤ left) (h1 : left ≤ 1048576) :
    Calls Tryz.prog 100 #[v, .int .i64 left] w fun e w' => e = .returned (.int .i64 (szN (bulkIntSS xs) left)) ∧ Bel w w' := by
  obtain ⟨p, cap, rfl, h2, h3, h4⟩ := sliceR_open hx
  unfold maxLen at h3
  have HS := Lib.hid hS
  clear hx hS
  by_cases hf : (xs.length : Int) ≤ left
  · go_enter Tryz.func100, Tryz.ntmps100
    go_wp2_with fail
    go_loopw [1, 5] (fun l i wr => ∃ (k : Nat) (c : Int), k ≤ xs.length ∧ i = .int .i64 k ∧ l = .int .i64 c ∧ 0 ≤ c ∧ c ≤ 1048576 ∧ c + xs.length + sumL ((xs.take k).map bulkIntS) = left ∧ Bel w wr) (fun _ i _ => xs.length - (intOf i).toNat)
    case atStart => exact ⟨0, left - xs.length, by omega, rfl, rfl, by omega, by omega, by simp [sumL], Bel.refl _⟩
    case round =>
      obtain ⟨k, c, hk, rfl, rfl, hc0, hc1, hsum, hB⟩ := hrel
      have HC := Lib.hid hsum; clear hsum
      by_cases hlt : k < xs.length
      · obtain ⟨b, off, ecs, rfl, hSb, hlen, hrow, hel⟩ := h4 k hlt
        have hel := intsR_good.bel hel hB HS.out
        obtain ⟨c0, rfl⟩ : ∃ c0, ecs = [c0] := by obtain ⟨p0, cap0, e0, _⟩ := hel; exact ⟨_, e0⟩
        have d0 := hB.cell (hrow 0 (by simp)).1
        simp only [List.getElem_cons_zero, Nat.mul_one, Nat.add_zero] at d0
        have HT := Lib.hid (sumL_take bulkIntS xs k hlt)
        have hSw : ∀ b, S b → b < wr.heap.size := fun b hb => Nat.lt_of_lt_of_le (HS.out b hb) hB.size
        generalize xs[k] = X at *
        clear hlen hrow h4
        go_wp2_with fail
        refine (szIntS_any _ X S _ c hel hSw hc0 hc1).mono ?_
        rintro e w1 ⟨rfl, g1⟩
        have G : Bel w w1 := by (repeat (first | exact Bel.refl _ | apply Bel.drew | apply Bel.alloc | refine Bel.trans ?_ (by assumption)))
        clear g1 hB
        by_cases hfit : (bulkIntS X : Int) ≤ c
        · rw [szN_ok hfit]
          generalize bulkIntS X = m at *
          go_wp2
          go_roundw
          case rel =>
            have h5 := HC.out
            have h6 := HT.out
            exact ⟨k + 1, c - m, by omega, by go_num, rfl, by omega, by omega, by rw [h6]; omega, G⟩
          case measure => simp [intOf]; omega
        · rw [szN_no (by omega)]
          go_wp2
          go_ret
          refine ⟨ret_int ?_, G⟩
          have h5 := HC.out
          have h6 := HT.out
          have h7 := sumL_take_le bulkIntS xs (k + 1)
          rw [szN_no (by unfold bulkIntSS; omega)]
      · go_wp2
        go_ret
        refine ⟨ret_int ?_, hB⟩
        have h5 := HC.out
        rw [List.take_of_length_le (by omega)] at h5
        rw [szN_ok (by unfold bulkIntSS; omega)]
        unfold bulkIntSS
        omega
  · go_enter Tryz.func100, Tryz.ntmps100
    go_wp2
    go_ret
    exact ⟨ret_int (by rw [szN_no (by unfold bulkIntSS; omega)]), Bel.refl _⟩



theorem szMode_any (v : Value) (x : ModeT) (S : Nat → Prop) (w : World) (left : Int) (hx : aggR modeR S w v x) (hS : ∀ b, S b → b < w.heap.size) (h0 : 0 ≤ left) (h1 : left ≤ 1048576) :
    Calls Tryz.prog 121 #[v, .int .i64 left] w fun e w' => e = .returned (.int .i64 (szN (bulkMode x) left)) ∧ Bel w w' := by
  obtain ⟨cs, rfl, hx⟩ := hx
  obtain ⟨c1, c2, rfl, q0, q1, q2⟩ := modeR_open hx
  clear hx
  have HS := Lib.hid hS
  clear hS
  obtain ⟨m0, hm0⟩ : ∃ m, bulkIntS x.2.1 = m := ⟨_, rfl⟩
  obtain ⟨m1, hm1⟩ : ∃ m, bulkIntS x.2.2 = m := ⟨_, rfl⟩
  have HU := Lib.hid (show bulkMode x = m0 + m1 from by unfold bulkMode; rw [hm0, hm1])
  have HM0 := Lib.hid hm0; clear hm0
  have HM1 := Lib.hid hm1; clear hm1
  show Calls Tryz.prog 121 #[.agg #[.int .i64 x.1, c1, c2], .int .i64 left] w _
  go_enter Tryz.func121, Tryz.ntmps121
  go_wp2_with fail
  refine (szIntS_any _ x.2.1 S _ _ (intsR_good.bel q1 (by (repeat (first | exact Bel.refl _ | apply Bel.drew | apply Bel.alloc | refine Bel.trans ?_ (by assumption)))) HS.out) (fun b hb => Nat.lt_of_lt_of_le (HS.out b hb) (Bel.size (by (repeat (first | exact Bel.refl _ | apply Bel.drew | apply Bel.alloc | refine Bel.trans ?_ (by assumption)))))) (by omega) (by omega)).mono ?_
  rintro e w1 ⟨rfl, g⟩
  rw [HM0.out]
  have G1 : Bel w w1 := by (repeat (first | exact Bel.refl _ | apply Bel.drew | apply Bel.alloc | refine Bel.trans ?_ (by assumption)))
  obtain ⟨hc1, hf1⟩ := g.rules
  have hz1 : w.heap.size < w1.heap.size := by have := g.size; simp only [World.size_alloc] at this; omega
  clear g
  by_cases hfit0 : (m0 : Int) ≤ left
  · rw [szN_ok hfit0]
    go_wp2_with fail
    refine (szIntS_any _ x.2.2 S _ _ (intsR_good.bel q2 (by (repeat (first | exact Bel.refl _ | apply Bel.drew | apply Bel.alloc | refine Bel.trans ?_ (by assumption)))) HS.out) (fun b hb => Nat.lt_of_lt_of_le (HS.out b hb) (Bel.size (by (repeat (first | exact Bel.refl _ | apply Bel.drew | apply Bel.alloc | refine Bel.trans ?_ (by assumption)))))) (by omega) (by omega)).mono ?_
    rintro e w2 ⟨rfl, g⟩
    rw [HM1.out]
    have G2 : Bel w w2 := by (repeat (first | exact Bel.refl _ | apply Bel.drew | apply Bel.alloc | refine Bel.trans ?_ (by assumption)))
    obtain ⟨hc2, hf2⟩ := g.rules
    have hz2 : w.heap.size < w2.heap.size := by have := g.size; omega
    clear g
    by_cases hfit1 : (m1 : Int) ≤ left - m0
    · rw [szN_ok hfit1]
      go_wp2
      go_ret
      exact ⟨ret_int (by rw [HU.out, szN_ok (by omega)]; omega), by (repeat (first | exact Bel.refl _ | apply Bel.drew | apply Bel.alloc | refine Bel.trans ?_ (by assumption)))⟩
    · rw [szN_no (by omega)]
      go_wp2
      go_ret
      exact ⟨ret_int (by rw [HU.out, szN_no (by omega)]), by (repeat (first | exact Bel.refl _ | apply Bel.drew | apply Bel.alloc | refine Bel.trans ?_ (by assumption)))⟩
  · rw [szN_no (by omega)]
    go_wp2
    go_ret
    exact ⟨ret_int (by rw [HU.out, szN_no (by omega)]), by (repeat (first | exact Bel.refl _ | apply Bel.drew | apply Bel.alloc | refine Bel.trans ?_ (by assumption)))⟩

theorem szModeS_any (v : Value) (xs : List (ModeT)) (S : Nat → Prop) (w : World) (left : Int) (hx : modesR S w [v] xs) (hS : ∀ b, S b → b < w.heap.size) (h0 : 0 ≤ left) (h1 : left ≤ 1048576) :
    Calls Tryz.prog 98 #[v, .int .i64 left] w fun e w' => e = .returned (.int .i64 (szN (bulkModeS xs) left)) ∧ Bel w w' := by
  obtain ⟨p, cap, rfl, h2, h3, h4⟩ := sliceR_open hx
  unfold maxLen at h3
  have HS := Lib.hid hS
  clear hx hS
  by_cases hf : (xs.length : Int) ≤ left
  · go_enter Tryz.func98, Tryz.ntmps98
    go_wp2_with fail
    go_loopw [1, 5] (fun l i wr => ∃ (k : Nat) (c : Int), k ≤ xs.length ∧ i = .int .i64 k ∧ l = .int .i64 c ∧ 0 ≤ c ∧ c ≤ 1048576 ∧ c + xs.length + sumL ((xs.take k).map bulkMode) = left ∧ Bel w wr) (fun _ i _ => xs.length - (intOf i).toNat)
    case atStart => exact ⟨0, left - xs.length, by omega, rfl, rfl, by omega, by omega, by simp [sumL], Bel.refl _⟩
    case round =>
      obtain ⟨k, c, hk, rfl, rfl, hc0, hc1, hsum, hB⟩ := hrel
      have HC := Lib.hid hsum; clear hsum
      by_cases hlt : k < xs.length
      · obtain ⟨b, off, ecs, rfl, hSb, hlen, hrow, hel⟩ := h4 k hlt
        have hel := modeR_good.bel hel hB HS.out
        obtain ⟨c1, c2, rfl, q0, q1, q2⟩ := modeR_open hel
        have d0 := hB.cell (hrow 0 (by simp)).1
        have d1 := hB.cell (hrow 1 (by simp)).1
        have d2 := hB.cell (hrow 2 (by simp)).1
        simp only [List.getElem_cons_zero, List.getElem_cons_succ, Nat.add_zero] at d0 d1 d2
        have HT := Lib.hid (sumL_take bulkMode xs k hlt)
        have hSw : ∀ b, S b → b < wr.heap.size := fun b hb => Nat.lt_of_lt_of_le (HS.out b hb) hB.size
        generalize xs[k] = X at *
        clear hlen hrow h4
        go_wp2_with fail
        refine (szMode_any _ X S _ c ⟨_, rfl, hel⟩ hSw hc0 hc1).mono ?_
        rintro e w1 ⟨rfl, g1⟩
        have G : Bel w w1 := by (repeat (first | exact Bel.refl _ | apply Bel.drew | apply Bel.alloc | refine Bel.trans ?_ (by assumption)))
        clear g1 hB
        by_cases hfit : (bulkMode X : Int) ≤ c
        · rw [szN_ok hfit]
          generalize bulkMode X = m at *
          go_wp2
          go_roundw
          case rel =>
            have h5 := HC.out
            have h6 := HT.out
            exact ⟨k + 1, c - m, by omega, by go_num, rfl, by omega, by omega, by rw [h6]; omega, G⟩
          case measure => simp [intOf]; omega
        · rw [szN_no (by omega)]
          go_wp2
          go_ret
          refine ⟨ret_int ?_, G⟩
          have h5 := HC.out
          have h6 := HT.out
          have h7 := sumL_take_le bulkMode xs (k + 1)
          rw [szN_no (by unfold bulkModeS; omega)]
      · go_wp2
        go_ret
        refine ⟨ret_int ?_, hB⟩
        have h5 := HC.out
        rw [List.take_of_length_le (by omega)] at h5
        rw [szN_ok (by unfold bulkModeS; omega)]
        unfold bulkModeS
        omega
  · go_enter Tryz.func98, Tryz.ntmps98
    go_wp2
    go_ret
    exact ⟨ret_int (by rw [szN_no (by unfold bulkModeS; omega)]), Bel.refl _⟩

theorem szActivity_any (v : Value) (x : ActT) (S : Nat → Prop) (w : World) (left : Int) (hx : aggR actR S w v x) (hS : ∀ b, S b → b < w.heap.size) (h0 : 0 ≤ left) (h1 : left ≤ 1048576) :
    Calls Tryz.prog 62 #[v, .int .i64 left] w fun e w' => e = .returned (.int .i64 (szN (bulkActivity x) left)) ∧ Bel w w' := by
  obtain ⟨cs, rfl, hx⟩ := hx
  obtain ⟨c2, rfl, q0, q1, q2⟩ := actR_open hx
  clear hx
  have HS := Lib.hid hS
  clear hS
  obtain ⟨m0, hm0⟩ : ∃ m, (x.1).size = m := ⟨_, rfl⟩
  obtain ⟨m1, hm1⟩ : ∃ m, bulkModeS x.2.2 = m := ⟨_, rfl⟩
  have HU := Lib.hid (show bulkActivity x = m0 + m1 from by unfold bulkActivity; rw [hm0, hm1])
  have HM0 := Lib.hid hm0; clear hm0
  have HM1 := Lib.hid hm1; clear hm1
  have hq : (x.1).size ≤ maxLen := q0
  unfold maxLen at hq
  show Calls Tryz.prog 62 #[.agg #[.string x.1, .int .i64 x.2.1, c2], .int .i64 left] w _
  have hq0 : (m0 : Int) ≤ 9223372036854775807 := by rw [← HM0.out]; omega
  by_cases hfit0 : (m0 : Int) ≤ left
  · have hlt : ((x.1).size : Int) ≤ left := by rw [HM0.out]; exact hfit0
    go_enter Tryz.func62, Tryz.ntmps62
    go_wp2_with fail
    refine (szModeS_any _ x.2.2 S _ _ (modesR_good.bel q2 (by (repeat (first | exact Bel.refl _ | apply Bel.drew | apply Bel.alloc | refine Bel.trans ?_ (by assumption)))) HS.out) (fun b hb => Nat.lt_of_lt_of_le (HS.out b hb) (Bel.size (by (repeat (first | exact Bel.refl _ | apply Bel.drew | apply Bel.alloc | refine Bel.trans ?_ (by assumption)))))) (by omega) (by omega)).mono ?_
    rintro e w1 ⟨rfl, g⟩
    rw [HM1.out]
    have G1 : Bel w w1 := by (repeat (first | exact Bel.refl _ | apply Bel.drew | apply Bel.alloc | refine Bel.trans ?_ (by assumption)))
    clear g
    have H0 := HM0.out
    by_cases hfit1 : (m1 : Int) ≤ left - (x.1).size
    · rw [szN_ok hfit1]
      have HZ := Lib.hid H0; clear H0
      go_wp2
      go_ret
      exact ⟨ret_int (by have := HZ.out; rw [HU.out, szN_ok (by omega)]; omega), G1⟩
    · rw [szN_no (by omega)]
      have HZ := Lib.hid H0; clear H0
      go_wp2
      go_ret
      exact ⟨ret_int (by have := HZ.out; rw [HU.out, szN_no (by omega)]), G1⟩
  · have hlt : left < ((x.1).size : Int) := by rw [HM0.out]; omega
    go_enter Tryz.func62, Tryz.ntmps62
    go_wp2
    go_ret
    exact ⟨ret_int (by rw [HU.out, szN_no (by omega)]), by (repeat (first | exact Bel.refl _ | apply Bel.drew | apply Bel.alloc | refine Bel.trans ?_ (by assumption)))⟩

theorem szActivityS_any (v : Value) (xs : List (ActT)) (S : Nat → Prop) (w : World) (left : Int) (hx : actsR S w [v] xs) (hS : ∀ b, S b → b < w.heap.size) (h0 : 0 ≤ left) (h1 : left ≤ 1048576) :
    Calls Tryz.prog 25 #[v, .int .i64 left] w fun e w' => e = .returned (.int .i64 (szN (bulkActivityS xs) left)) ∧ Bel w w' := by
  obtain ⟨p, cap, rfl, h2, h3, h4⟩ := sliceR_open hx
  unfold maxLen at h3
  have HS := Lib.hid hS
  clear hx hS
  by_cases hf : (xs.length : Int) ≤ left
  · go_enter Tryz.func25, Tryz.ntmps25
    go_wp2_with fail
    go_loopw [1, 5] (fun l i wr => ∃ (k : Nat) (c : Int), k ≤ xs.length ∧ i = .int .i64 k ∧ l = .int .i64 c ∧ 0 ≤ c ∧ c ≤ 1048576 ∧ c + xs.length + sumL ((xs.take k).map bulkActivity) = left ∧ Bel w wr) (fun _ i _ => xs.length - (intOf i).toNat)
    case atStart => exact ⟨0, left - xs.length, by omega, rfl, rfl, by omega, by omega, by simp [sumL], Bel.refl _⟩
    case round =>
      obtain ⟨k, c, hk, rfl, rfl, hc0, hc1, hsum, hB⟩ := hrel
      have HC := Lib.hid hsum; clear hsum
      by_cases hlt : k < xs.length
      · obtain ⟨b, off, ecs, rfl, hSb, hlen, hrow, hel⟩ := h4 k hlt
        have hel := actR_good.bel hel hB HS.out
        obtain ⟨c2, rfl, q0, q1, q2⟩ := actR_open hel
        have d0 := hB.cell (hrow 0 (by simp)).1
        have d1 := hB.cell (hrow 1 (by simp)).1
        have d2 := hB.cell (hrow 2 (by simp)).1
        simp only [List.getElem_cons_zero, List.getElem_cons_succ, Nat.add_zero] at d0 d1 d2
        have HT := Lib.hid (sumL_take bulkActivity xs k hlt)
        have hSw : ∀ b, S b → b < wr.heap.size := fun b hb => Nat.lt_of_lt_of_le (HS.out b hb) hB.size
        generalize xs[k] = X at *
        clear hlen hrow h4
        go_wp2_with fail
        refine (szActivity_any _ X S _ c ⟨_, rfl, hel⟩ hSw hc0 hc1).mono ?_
        rintro e w1 ⟨rfl, g1⟩
        have G : Bel w w1 := by (repeat (first | exact Bel.refl _ | apply Bel.drew | apply Bel.alloc | refine Bel.trans ?_ (by assumption)))
        clear g1 hB
        by_cases hfit : (bulkActivity X : Int) ≤ c
        · rw [szN_ok hfit]
          generalize bulkActivity X = m at *
          go_wp2
          go_roundw
          case rel =>
            have h5 := HC.out
            have h6 := HT.out
            exact ⟨k + 1, c - m, by omega, by go_num, rfl, by omega, by omega, by rw [h6]; omega, G⟩
          case measure => simp [intOf]; omega
        · rw [szN_no (by omega)]
          go_wp2
          go_ret
          refine ⟨ret_int ?_, G⟩
          have h5 := HC.out
          have h6 := HT.out
          have h7 := sumL_take_le bulkActivity xs (k + 1)
          rw [szN_no (by unfold bulkActivityS; omega)]
      · go_wp2
        go_ret
        refine ⟨ret_int ?_, hB⟩
        have h5 := HC.out
        rw [List.take_of_length_le (by omega)] at h5
        rw [szN_ok (by unfold bulkActivityS; omega)]
        unfold bulkActivityS
        omega
  · go_enter Tryz.func25, Tryz.ntmps25
    go_wp2
    go_ret
    exact ⟨ret_int (by rw [szN_no (by unfold bulkActivityS; omega)]), Bel.refl _⟩

theorem szResource_any (v : Value) (x : ResT) (S : Nat → Prop) (w : World) (left : Int) (hx : aggR resR S w v x) (hS : ∀ b, S b → b < w.heap.size) (h0 : 0 ≤ left) (h1 : left ≤ 1048576) :
    Calls Tryz.prog 63 #[v, .int .i64 left] w fun e w' => e = .returned (.int .i64 (szN (bulkResource x) left)) ∧ Bel w w' := by
  obtain ⟨cs, rfl, hx⟩ := hx
  obtain ⟨c0, c1, rfl, q0, q1⟩ := resR_open hx
  clear hx
  have HS := Lib.hid hS
  clear hS
  obtain ⟨m0, hm0⟩ : ∃ m, bulkStepS x.1 = m := ⟨_, rfl⟩
  obtain ⟨m1, hm1⟩ : ∃ m, bulkIntSS x.2 = m := ⟨_, rfl⟩
  have HU := Lib.hid (show bulkResource x = m0 + m1 from by unfold bulkResource; rw [hm0, hm1])
  have HM0 := Lib.hid hm0; clear hm0
  have HM1 := Lib.hid hm1; clear hm1
  show Calls Tryz.prog 63 #[.agg #[c0, c1], .int .i64 left] w _
  go_enter Tryz.func63, Tryz.ntmps63
  go_wp2_with fail
  refine (szStepS_any _ x.1 S _ _ (stepsR_good.bel q0 (by (repeat (first | exact Bel.refl _ | apply Bel.drew | apply Bel.alloc | refine Bel.trans ?_ (by assumption)))) HS.out) (fun b hb => Nat.lt_of_lt_of_le (HS.out b hb) (Bel.size (by (repeat (first | exact Bel.refl _ | apply Bel.drew | apply Bel.alloc | refine Bel.trans ?_ (by assumption)))))) (by omega) (by omega)).mono ?_
  rintro e w1 ⟨rfl, g⟩
  rw [HM0.out]
  have G1 : Bel w w1 := by (repeat (first | exact Bel.refl _ | apply Bel.drew | apply Bel.alloc | refine Bel.trans ?_ (by assumption)))
  obtain ⟨hc1, hf1⟩ := g.rules
  have hz1 : w.heap.size < w1.heap.size := by have := g.size; simp only [World.size_alloc] at this; omega
  clear g
  by_cases hfit0 : (m0 : Int) ≤ left
  · rw [szN_ok hfit0]
    go_wp2_with fail
    refine (szIntSS_any _ x.2 S _ _ (rowsR_good.bel q1 (by (repeat (first | exact Bel.refl _ | apply Bel.drew | apply Bel.alloc | refine Bel.trans ?_ (by assumption)))) HS.out) (fun b hb => Nat.lt_of_lt_of_le (HS.out b hb) (Bel.size (by (repeat (first | exact Bel.refl _ | apply Bel.drew | apply Bel.alloc | refine Bel.trans ?_ (by assumption)))))) (by omega) (by omega)).mono ?_
    rintro e w2 ⟨rfl, g⟩
    rw [HM1.out]
    have G2 : Bel w w2 := by (repeat (first | exact Bel.refl _ | apply Bel.drew | apply Bel.alloc | refine Bel.trans ?_ (by assumption)))
    obtain ⟨hc2, hf2⟩ := g.rules
    have hz2 : w.heap.size < w2.heap.size := by have := g.size; omega
    clear g
    by_cases hfit1 : (m1 : Int) ≤ left - m0
    · rw [szN_ok hfit1]
      go_wp2
      go_ret
      exact ⟨ret_int (by rw [HU.out, szN_ok (by omega)]; omega), by (repeat (first | exact Bel.refl _ | apply Bel.drew | apply Bel.alloc | refine Bel.trans ?_ (by assumption)))⟩
    · rw [szN_no (by omega)]
      go_wp2
      go_ret
      exact ⟨ret_int (by rw [HU.out, szN_no (by omega)]), by (repeat (first | exact Bel.refl _ | apply Bel.drew | apply Bel.alloc | refine Bel.trans ?_ (by assumption)))⟩
  · rw [szN_no (by omega)]
    go_wp2
    go_ret
    exact ⟨ret_int (by rw [HU.out, szN_no (by omega)]), by (repeat (first | exact Bel.refl _ | apply Bel.drew | apply Bel.alloc | refine Bel.trans ?_ (by assumption)))⟩

theorem szResourceS_any (v : Value) (xs : List (ResT)) (S : Nat → Prop) (w : World) (left : Int) (hx : ressR S w [v] xs) (hS : ∀ b, S b → b < w.heap.size) (h0 : 0 ≤ left) (h1 : left ≤ 1048576) :
    Calls Tryz.prog 27 #[v, .int .i64 left] w fun e w' => e = .returned (.int .i64 (szN (bulkResourceS xs) left)) ∧ Bel w w' := by
  obtain ⟨p, cap, rfl, h2, h3, h4⟩ := sliceR_open hx
  unfold maxLen at h3
  have HS := Lib.hid hS
  clear hx hS
  by_cases hf : (xs.length : Int) ≤ left
  · go_enter Tryz.func27, Tryz.ntmps27
    go_wp2_with fail
    go_loopw [1, 5] (fun l i wr => ∃ (k : Nat) (c : Int), k ≤ xs.length ∧ i = .int .i64 k ∧ l = .int .i64 c ∧ 0 ≤ c ∧ c ≤ 1048576 ∧ c + xs.length + sumL ((xs.take k).map bulkResource) = left ∧ Bel w wr) (fun _ i _ => xs.length - (intOf i).toNat)
    case atStart => exact ⟨0, left - xs.length, by omega, rfl, rfl, by omega, by omega, by simp [sumL], Bel.refl _⟩
    case round =>
      obtain ⟨k, c, hk, rfl, rfl, hc0, hc1, hsum, hB⟩ := hrel
      have HC := Lib.hid hsum; clear hsum
      by_cases hlt : k < xs.length
      · obtain ⟨b, off, ecs, rfl, hSb, hlen, hrow, hel⟩ := h4 k hlt
        have hel := resR_good.bel hel hB HS.out
        obtain ⟨c0, c1, rfl, q0, q1⟩ := resR_open hel
        have d0 := hB.cell (hrow 0 (by simp)).1
        have d1 := hB.cell (hrow 1 (by simp)).1
        simp only [List.getElem_cons_zero, List.getElem_cons_succ, Nat.add_zero] at d0 d1
        have HT := Lib.hid (sumL_take bulkResource xs k hlt)
        have hSw : ∀ b, S b → b < wr.heap.size := fun b hb => Nat.lt_of_lt_of_le (HS.out b hb) hB.size
        generalize xs[k] = X at *
        clear hlen hrow h4
        go_wp2_with fail
        refine (szResource_any _ X S _ c ⟨_, rfl, hel⟩ hSw hc0 hc1).mono ?_
        rintro e w1 ⟨rfl, g1⟩
        have G : Bel w w1 := by (repeat (first | exact Bel.refl _ | apply Bel.drew | apply Bel.alloc | refine Bel.trans ?_ (by assumption)))
        clear g1 hB
        by_cases hfit : (bulkResource X : Int) ≤ c
        · rw [szN_ok hfit]
          generalize bulkResource X = m at *
          go_wp2
          go_roundw
          case rel =>
            have h5 := HC.out
            have h6 := HT.out
            exact ⟨k + 1, c - m, by omega, by go_num, rfl, by omega, by omega, by rw [h6]; omega, G⟩
          case measure => simp [intOf]; omega
        · rw [szN_no (by omega)]
          go_wp2
          go_ret
          refine ⟨ret_int ?_, G⟩
          have h5 := HC.out
          have h6 := HT.out
          have h7 := sumL_take_le bulkResource xs (k + 1)
          rw [szN_no (by unfold bulkResourceS; omega)]
      · go_wp2
        go_ret
        refine ⟨ret_int ?_, hB⟩
        have h5 := HC.out
        rw [List.take_of_length_le (by omega)] at h5
        rw [szN_ok (by unfold bulkResourceS; omega)]
        unfold bulkResourceS
        omega
  · go_enter Tryz.func27, Tryz.ntmps27
    go_wp2
    go_ret
    exact ⟨ret_int (by rw [szN_no (by unfold bulkResourceS; omega)]), Bel.refl _⟩

theorem szProject_any (v : Value) (x : ProjT) (S : Nat → Prop) (w : World) (left : Int) (hx : aggR projR S w v x) (hS : ∀ b, S b → b < w.heap.size) (h0 : 0 ≤ left) (h1 : left ≤ 1048576) :
    Calls Tryz.prog 7 #[v, .int .i64 left] w fun e w' => e = .returned (.int .i64 (szN (bulkProject x) left)) ∧ Bel w w' := by
  obtain ⟨cs, rfl, hx⟩ := hx
  obtain ⟨c1, c2, c3, c4, rfl, q0, q1, q2, q3, q4⟩ := projR_open hx
  clear hx
  have HS := Lib.hid hS
  clear hS
  obtain ⟨m0, hm0⟩ : ∃ m, bulkActivityS x.2.1 = m := ⟨_, rfl⟩
  obtain ⟨m1, hm1⟩ : ∃ m, bulkLinkS x.2.2.1 = m := ⟨_, rfl⟩
  obtain ⟨m2, hm2⟩ : ∃ m, bulkResourceS x.2.2.2.1 = m := ⟨_, rfl⟩
  obtain ⟨m3, hm3⟩ : ∃ m, bulkIntS x.2.2.2.2 = m := ⟨_, rfl⟩
  have HU := Lib.hid (show bulkProject x = m0 + m1 + m2 + m3 from by unfold bulkProject; rw [hm0, hm1, hm2, hm3])
  have HM0 := Lib.hid hm0; clear hm0
  have HM1 := Lib.hid hm1; clear hm1
  have HM2 := Lib.hid hm2; clear hm2
  have HM3 := Lib.hid hm3; clear hm3
  show Calls Tryz.prog 7 #[.agg #[.int .i64 x.1, c1, c2, c3, c4], .int .i64 left] w _
  go_enter Tryz.func7, Tryz.ntmps7
  go_wp2_with fail
  refine (szActivityS_any _ x.2.1 S _ _ (actsR_good.bel q1 (by (repeat (first | exact Bel.refl _ | apply Bel.drew | apply Bel.alloc | refine Bel.trans ?_ (by assumption)))) HS.out) (fun b hb => Nat.lt_of_lt_of_le (HS.out b hb) (Bel.size (by (repeat (first | exact Bel.refl _ | apply Bel.drew | apply Bel.alloc | refine Bel.trans ?_ (by assumption)))))) (by omega) (by omega)).mono ?_
  rintro e w1 ⟨rfl, g⟩
  rw [HM0.out]
  have G1 : Bel w w1 := by (repeat (first | exact Bel.refl _ | apply Bel.drew | apply Bel.alloc | refine Bel.trans ?_ (by assumption)))
  obtain ⟨hc1, hf1⟩ := g.rules
  have hz1 : w.heap.size < w1.heap.size := by have := g.size; simp only [World.size_alloc] at this; omega
  clear g
  by_cases hfit0 : (m0 : Int) ≤ left
  · rw [szN_ok hfit0]
    go_wp2_with fail
    refine (szLinkS_any _ x.2.2.1 S _ _ (linksR_good.bel q2 (by (repeat (first | exact Bel.refl _ | apply Bel.drew | apply Bel.alloc | refine Bel.trans ?_ (by assumption)))) HS.out) (fun b hb => Nat.lt_of_lt_of_le (HS.out b hb) (Bel.size (by (repeat (first | exact Bel.refl _ | apply Bel.drew | apply Bel.alloc | refine Bel.trans ?_ (by assumption)))))) (by omega) (by omega)).mono ?_
    rintro e w2 ⟨rfl, g⟩
    rw [HM1.out]
    have G2 : Bel w w2 := by (repeat (first | exact Bel.refl _ | apply Bel.drew | apply Bel.alloc | refine Bel.trans ?_ (by assumption)))
    obtain ⟨hc2, hf2⟩ := g.rules
    have hz2 : w.heap.size < w2.heap.size := by have := g.size; omega
    clear g
    by_cases hfit1 : (m1 : Int) ≤ left - m0
    · rw [szN_ok hfit1]
      go_wp2_with fail
      refine (szResourceS_any _ x.2.2.2.1 S _ _ (ressR_good.bel q3 (by (repeat (first | exact Bel.refl _ | apply Bel.drew | apply Bel.alloc | refine Bel.trans ?_ (by assumption)))) HS.out) (fun b hb => Nat.lt_of_lt_of_le (HS.out b hb) (Bel.size (by (repeat (first | exact Bel.refl _ | apply Bel.drew | apply Bel.alloc | refine Bel.trans ?_ (by assumption)))))) (by omega) (by omega)).mono ?_
      rintro e w3 ⟨rfl, g⟩
      rw [HM2.out]
      have G3 : Bel w w3 := by (repeat (first | exact Bel.refl _ | apply Bel.drew | apply Bel.alloc | refine Bel.trans ?_ (by assumption)))
      obtain ⟨hc3, hf3⟩ := g.rules
      have hz3 : w.heap.size < w3.heap.size := by have := g.size; omega
      clear g
      by_cases hfit2 : (m2 : Int) ≤ left - m0 - m1
      · rw [szN_ok hfit2]
        go_wp2_with fail
        refine (szIntS_any _ x.2.2.2.2 S _ _ (intsR_good.bel q4 (by (repeat (first | exact Bel.refl _ | apply Bel.drew | apply Bel.alloc | refine Bel.trans ?_ (by assumption)))) HS.out) (fun b hb => Nat.lt_of_lt_of_le (HS.out b hb) (Bel.size (by (repeat (first | exact Bel.refl _ | apply Bel.drew | apply Bel.alloc | refine Bel.trans ?_ (by assumption)))))) (by omega) (by omega)).mono ?_
        rintro e w4 ⟨rfl, g⟩
        rw [HM3.out]
        have G4 : Bel w w4 := by (repeat (first | exact Bel.refl _ | apply Bel.drew | apply Bel.alloc | refine Bel.trans ?_ (by assumption)))
        obtain ⟨hc4, hf4⟩ := g.rules
        have hz4 : w.heap.size < w4.heap.size := by have := g.size; omega
        clear g
        by_cases hfit3 : (m3 : Int) ≤ left - m0 - m1 - m2
        · rw [szN_ok hfit3]
          go_wp2
          go_ret
          exact ⟨ret_int (by rw [HU.out, szN_ok (by omega)]; omega), by (repeat (first | exact Bel.refl _ | apply Bel.drew | apply Bel.alloc | refine Bel.trans ?_ (by assumption)))⟩
        · rw [szN_no (by omega)]
          go_wp2
          go_ret
          exact ⟨ret_int (by rw [HU.out, szN_no (by omega)]), by (repeat (first | exact Bel.refl _ | apply Bel.drew | apply Bel.alloc | refine Bel.trans ?_ (by assumption)))⟩
      · rw [szN_no (by omega)]
        go_wp2
        go_ret
        exact ⟨ret_int (by rw [HU.out, szN_no (by omega)]), by (repeat (first | exact Bel.refl _ | apply Bel.drew | apply Bel.alloc | refine Bel.trans ?_ (by assumption)))⟩
    · rw [szN_no (by omega)]
      go_wp2
      go_ret
      exact ⟨ret_int (by rw [HU.out, szN_no (by omega)]), by (repeat (first | exact Bel.refl _ | apply Bel.drew | apply Bel.alloc | refine Bel.trans ?_ (by assumption)))⟩
  · rw [szN_no (by omega)]
    go_wp2
    go_ret
    exact ⟨ret_int (by rw [HU.out, szN_no (by omega)]), by (repeat (first | exact Bel.refl _ | apply Bel.drew | apply Bel.alloc | refine Bel.trans ?_ (by assumption)))⟩

end Go.Proofs.YtkfpciggolkjeaaGreatDoor
