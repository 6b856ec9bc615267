/- Contracts: isTime, isAmount, areAmounts, l04Nums, ModeOk. -/
import Derived.Test.YtkfpciggolkjeaaGreatDoorProjF
import Derived.Test.YtkfpciggolkjeaaGreatDoorHas
namespace Go.Proofs.YtkfpciggolkjeaaGreatDoor
open Go.ChangeShapes Go.WideShapes Go.ChangeAt Go.RowKit
set_option linter.unusedVariables false

theorem inB_v (n lo hi : Int) : inB n lo hi = inBv n lo hi := rfl

theorem isTime_any (n : Int) (w : World) : Calls Tryz.prog 74 #[.int .i64 n] w fun e w' => e = .returned (.bool (inB n 0 60)) ∧ w = w' := by
  go_enter Tryz.func74, Tryz.ntmps74
  go_wp2_with (go_at_call 71; refine (within_any _ _ _ _).mono ?_; rintro e w' ⟨rfl, rfl⟩)
  go_ret
  exact ⟨rfl, rfl⟩

theorem isAmount_any (n : Int) (w : World) : Calls Tryz.prog 147 #[.int .i64 n] w fun e w' => e = .returned (.bool (inB n 0 20)) ∧ w = w' := by
  go_enter Tryz.func147, Tryz.ntmps147
  go_wp2_with (go_at_call 71; refine (within_any _ _ _ _).mono ?_; rintro e w' ⟨rfl, rfl⟩)
  go_ret
  exact ⟨rfl, rfl⟩

theorem iAmounts_any (v : Value) (xs : List Int) (n : Int) (S : Nat → Prop) (w : World) (hx : intsR S w [v] xs) :
    Calls Tryz.prog 146 #[v, .int .i64 n] w fun e w' => e = .returned (.bool (amountsB xs n)) ∧ w = w' := by
  have hx0 := Lib.hid (fun i hi => intsR_at' hx (i := i) hi)
  obtain ⟨p, cap, hv, h1, h2, hr⟩ := sliceR_open hx
  clear hr
  subst hv
  unfold maxLen at h2
  clear hx
  go_enter Tryz.func146, Tryz.ntmps146
  go_wp2_with fail
  go_loop [9] (fun i => ∃ k : Nat, k ≤ xs.length ∧ i = .int .i64 k ∧ ∀ j, j < k → inB (xs.getD j 0) 0 20 = true) (fun i => xs.length - (intOf i).toNat)
  case atStart => exact ⟨0, Nat.zero_le _, rfl, fun j hj => by omega⟩
  case round =>
    obtain ⟨k, hk, rfl, hall⟩ := hrel
    have HA := Lib.hid hall; clear hall
    by_cases hlt : k < xs.length
    · obtain ⟨b, off, rfl, d0⟩ := hx0.out k hlt
      generalize hX : xs.getD k 0 = X at *
      have HX := Lib.hid hX; clear hX
      cases hb : inB X 0 20
      · go_wp2_with (go_at_call 147; refine (isAmount_any _ _).mono ?_; rintro e w' ⟨rfl, rfl⟩)
        go_ret
        exact ⟨ret_bool (by unfold amountsB; rw [all_false hlt (by rw [HX.out]; exact hb)]; rfl), rfl⟩
      · go_wp2_with (go_at_call 147; refine (isAmount_any _ _).mono ?_; rintro e w' ⟨rfl, rfl⟩)
        go_round
        case rel =>
          refine ⟨k + 1, by omega, by go_num, fun j hj => ?_⟩
          by_cases e : j < k
          · exact HA.out j e
          · obtain rfl : j = k := by omega
            rw [HX.out]; exact hb
        case measure => simp [intOf]; omega
    · go_wp2
      go_ret
      refine ⟨ret_bool ?_, rfl⟩
      unfold amountsB
      rw [all_true (c := fun i => inBv (xs.getD i 0) 0 20) fun j hj => HA.out j (by omega), Bool.true_and, Bool.eq_iff_iff]
      simp

theorem sAmounts_any (v : Value) (xs : List Int) (n : Int) (S : Nat → Prop) (w : World) (hx : intsR S w [v] xs) :
    Calls Tryz.prog 145 #[v, .int .i64 n] w fun e w' => e = .returned (.bool (amountsB xs n)) ∧ w = w' := by
  have hx0 := Lib.hid (fun i hi => intsR_at' hx (i := i) hi)
  obtain ⟨p, cap, hv, h1, h2, hr⟩ := sliceR_open hx
  clear hr
  subst hv
  unfold maxLen at h2
  clear hx
  go_enter Tryz.func145, Tryz.ntmps145
  go_wp2_with fail
  go_loop [9] (fun i => ∃ k : Nat, k ≤ xs.length ∧ i = .int .i64 k ∧ ∀ j, j < k → inB (xs.getD j 0) 0 20 = true) (fun i => xs.length - (intOf i).toNat)
  case atStart => exact ⟨0, Nat.zero_le _, rfl, fun j hj => by omega⟩
  case round =>
    obtain ⟨k, hk, rfl, hall⟩ := hrel
    have HA := Lib.hid hall; clear hall
    by_cases hlt : k < xs.length
    · obtain ⟨b, off, rfl, d0⟩ := hx0.out k hlt
      generalize hX : xs.getD k 0 = X at *
      have HX := Lib.hid hX; clear hX
      cases hb : inB X 0 20
      · go_wp2_with (go_at_call 65; refine (l01In_any _ _ _ _).mono ?_; rintro e w' ⟨rfl, rfl⟩)
        go_ret
        exact ⟨ret_bool (by unfold amountsB; rw [all_false hlt (by rw [HX.out]; exact hb)]; rfl), rfl⟩
      · go_wp2_with (go_at_call 65; refine (l01In_any _ _ _ _).mono ?_; rintro e w' ⟨rfl, rfl⟩)
        go_round
        case rel =>
          refine ⟨k + 1, by omega, by go_num, fun j hj => ?_⟩
          by_cases e : j < k
          · exact HA.out j e
          · obtain rfl : j = k := by omega
            rw [HX.out]; exact hb
        case measure => simp [intOf]; omega
    · go_wp2
      go_ret
      refine ⟨ret_bool ?_, rfl⟩
      unfold amountsB
      rw [all_true (c := fun i => inBv (xs.getD i 0) 0 20) fun j hj => HA.out j (by omega), Bool.true_and, Bool.eq_iff_iff]
      simp

theorem iModeOk_any (v : Value) (x : ModeT) (r s : Int) (S : Nat → Prop) (w : World) (hx : aggR modeR S w v x) (hS : ∀ b, S b → b < w.heap.size) :
    Calls Tryz.prog 127 #[v, .int .i64 r, .int .i64 s] w fun e w' => e = .returned (.bool (modeOkB x r s)) ∧ Bel w w' := by
  obtain ⟨cs, rfl, hx⟩ := hx
  obtain ⟨c1, c2, rfl, q0, q1, q2⟩ := modeR_open hx
  clear hx q0
  have HS := Lib.hid hS
  clear hS
  show Calls Tryz.prog 127 #[.agg #[.int .i64 x.1, c1, c2], .int .i64 r, .int .i64 s] w _
  cases h1 : inB x.1 1 12
  · have HF := Lib.hid (show modeOkB x r s = false from by unfold modeOkB; rw [← inB_v, h1]; rfl)
    go_enter Tryz.func127, Tryz.ntmps127
    go_wp2_with (go_at_call 71; refine (within_any _ _ _ _).mono ?_; rintro e w' ⟨rfl, rfl⟩)
    go_ret
    exact ⟨ret_bool HF.out.symm, by (repeat (first | exact Bel.refl _ | apply Bel.drewN | apply Bel.drew | apply Bel.alloc | refine Bel.trans ?_ (by assumption)))⟩
  go_enter Tryz.func127, Tryz.ntmps127
  go_wp2_with (go_at_call 71; refine (within_any _ _ _ _).mono ?_; rintro e w' ⟨rfl, rfl⟩)
  refine (iAmounts_any _ x.2.1 _ S _ (intsR_good.bel q1 (by (repeat (first | exact Bel.refl _ | apply Bel.drewN | apply Bel.drew | apply Bel.alloc | refine Bel.trans ?_ (by assumption)))) HS.out)).mono ?_
  rintro e w' ⟨rfl, rfl⟩
  cases h2 : amountsB x.2.1 r
  · have HF := Lib.hid (show modeOkB x r s = false from by unfold modeOkB; rw [h2]; simp)
    go_wp2
    go_ret
    exact ⟨ret_bool HF.out.symm, by (repeat (first | exact Bel.refl _ | apply Bel.drewN | apply Bel.drew | apply Bel.alloc | refine Bel.trans ?_ (by assumption)))⟩
  go_wp2_with fail
  refine (iAmounts_any _ x.2.2 _ S _ (intsR_good.bel q2 (by (repeat (first | exact Bel.refl _ | apply Bel.drewN | apply Bel.drew | apply Bel.alloc | refine Bel.trans ?_ (by assumption)))) HS.out)).mono ?_
  rintro e w' ⟨rfl, rfl⟩
  have HF := Lib.hid (show modeOkB x r s = amountsB x.2.2 s from by unfold modeOkB; rw [← inB_v, h1, h2]; rfl)
  go_wp2
  go_ret
  exact ⟨ret_bool HF.out.symm, by (repeat (first | exact Bel.refl _ | apply Bel.drewN | apply Bel.drew | apply Bel.alloc | refine Bel.trans ?_ (by assumption)))⟩

theorem sModeOk_any (v : Value) (x : ModeT) (r s : Int) (S : Nat → Prop) (w : World) (hx : aggR modeR S w v x) (hS : ∀ b, S b → b < w.heap.size) :
    Calls Tryz.prog 122 #[v, .int .i64 r, .int .i64 s] w fun e w' => e = .returned (.bool (modeOkB x r s)) ∧ Bel w w' := by
  obtain ⟨cs, rfl, hx⟩ := hx
  obtain ⟨c1, c2, rfl, q0, q1, q2⟩ := modeR_open hx
  clear hx q0
  have HS := Lib.hid hS
  clear hS
  show Calls Tryz.prog 122 #[.agg #[.int .i64 x.1, c1, c2], .int .i64 r, .int .i64 s] w _
  cases h1 : inB x.1 1 12
  · have HF := Lib.hid (show modeOkB x r s = false from by unfold modeOkB; rw [← inB_v, h1]; rfl)
    go_enter Tryz.func122, Tryz.ntmps122
    go_wp2_with (go_at_call 65; refine (l01In_any _ _ _ _).mono ?_; rintro e w' ⟨rfl, rfl⟩)
    go_ret
    exact ⟨ret_bool HF.out.symm, by (repeat (first | exact Bel.refl _ | apply Bel.drewN | apply Bel.drew | apply Bel.alloc | refine Bel.trans ?_ (by assumption)))⟩
  go_enter Tryz.func122, Tryz.ntmps122
  go_wp2_with (go_at_call 65; refine (l01In_any _ _ _ _).mono ?_; rintro e w' ⟨rfl, rfl⟩)
  refine (sAmounts_any _ x.2.1 _ S _ (intsR_good.bel q1 (by (repeat (first | exact Bel.refl _ | apply Bel.drewN | apply Bel.drew | apply Bel.alloc | refine Bel.trans ?_ (by assumption)))) HS.out)).mono ?_
  rintro e w' ⟨rfl, rfl⟩
  cases h2 : amountsB x.2.1 r
  · have HF := Lib.hid (show modeOkB x r s = false from by unfold modeOkB; rw [h2]; simp)
    go_wp2
    go_ret
    exact ⟨ret_bool HF.out.symm, by (repeat (first | exact Bel.refl _ | apply Bel.drewN | apply Bel.drew | apply Bel.alloc | refine Bel.trans ?_ (by assumption)))⟩
  go_wp2_with fail
  refine (sAmounts_any _ x.2.2 _ S _ (intsR_good.bel q2 (by (repeat (first | exact Bel.refl _ | apply Bel.drewN | apply Bel.drew | apply Bel.alloc | refine Bel.trans ?_ (by assumption)))) HS.out)).mono ?_
  rintro e w' ⟨rfl, rfl⟩
  have HF := Lib.hid (show modeOkB x r s = amountsB x.2.2 s from by unfold modeOkB; rw [← inB_v, h1, h2]; rfl)
  go_wp2
  go_ret
  exact ⟨ret_bool HF.out.symm, by (repeat (first | exact Bel.refl _ | apply Bel.drewN | apply Bel.drew | apply Bel.alloc | refine Bel.trans ?_ (by assumption)))⟩

end Go.Proofs.YtkfpciggolkjeaaGreatDoor
