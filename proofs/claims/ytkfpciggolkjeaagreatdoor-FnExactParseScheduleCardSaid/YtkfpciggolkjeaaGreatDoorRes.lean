/- Contracts of ResourceOk. -/
import Derived.Test.YtkfpciggolkjeaaGreatDoorSteps
import Derived.Test.YtkfpciggolkjeaaGreatDoorHas
namespace Go.Proofs.YtkfpciggolkjeaaGreatDoor
open Go.ChangeShapes Go.WideShapes Go.ChangeAt Go.RowKit
set_option linter.unusedVariables false

set_option maxHeartbeats 800000 in
theorem iResourceOk_any (v : Value) (x : ResT) (S : Nat → Prop) (w : World) (hx : aggR resR S w v x) (hS : ∀ b, S b → b < w.heap.size) :
    Calls Tryz.prog 107 #[v] w fun e w' => e = .returned (.bool (resOkB x)) ∧ Bel w w' := by
  obtain ⟨cs, rfl, hx⟩ := hx
  obtain ⟨c0, c1, rfl, q0, q1⟩ := resR_open hx
  obtain ⟨st, ro⟩ := x
  simp only at q0 q1
  have HQ := Lib.hid q0
  have HR := Lib.hid (fun i hi => rowsR_at q1 (i := i) hi)
  obtain ⟨p0, k0, rfl, l0, l0', _⟩ := sliceR_open q0
  obtain ⟨p1, k1, rfl, l1, l1', _⟩ := sliceR_open q1
  unfold maxLen at l0' l1'
  have HS := Lib.hid hS
  clear hx q0 q1 hS
  show Calls Tryz.prog 107 #[.agg #[.slice p0 st.length k0, .slice p1 ro.length k1]] w _
  go_enter Tryz.func107, Tryz.ntmps107
  go_wp2_with fail
  go_loop [10] (fun i => ∃ k : Nat, k ≤ ro.length ∧ i = .int .i64 k ∧ ∀ j, j < k → rowOkB (ro.getD j []) = true) (fun i => ro.length - (intOf i).toNat)
  case atStart => exact ⟨0, Nat.zero_le _, rfl, fun j hj => by omega⟩
  case round =>
    obtain ⟨k, hk, rfl, hall⟩ := hrel
    have HA := Lib.hid hall; clear hall
    by_cases hlt : k < ro.length
    · obtain ⟨b, off, rp, rc, em, dm, rl, rl', hrow⟩ := HR.out k hlt
      obtain rfl : p1 = some ⟨b, off, none⟩ := em
      have dm := fun o => ((Bel.refl w).alloc o).cell dm
      have R0 := Lib.hid (fun i hi => intsR_at' hrow (i := i) hi)
      unfold maxLen at rl'
      clear hrow
      generalize hX : ro.getD k [] = X at *
      have HX := Lib.hid hX; clear hX
      by_cases h4 : X.length = 4
      rotate_left
      · have HF := Lib.hid (show resOkB (st, ro) = false from by unfold resOkB; rw [all_false (c := fun i => rowOkB (ro.getD i [])) hlt (show rowOkB (ro.getD k []) = false from by rw [HX.out]; unfold rowOkB; rw [decide_eq_false h4]; rfl)]; rfl)
        have hne : (((X.length : Nat) : Int) != 4) = true := by simp; omega
        clear h4
        go_wp2
        go_ret
        exact ⟨ret_bool HF.out.symm, by (repeat (first | exact Bel.refl _ | apply Bel.drewN | apply Bel.drew | apply Bel.alloc | refine Bel.trans ?_ (by assumption)))⟩
      have H4 := Lib.hid h4
      have hne : (((X.length : Nat) : Int) != 4) = false := by simp [h4]
      clear h4
      go_wp2_with fail
      go_loop [19] (fun i => ∃ k2 : Nat, k2 ≤ X.length ∧ i = .int .i64 k2 ∧ ∀ j, j < k2 → inB (X.getD j 0) 0 12 = true) (fun i => X.length - (intOf i).toNat)
      case atStart => exact ⟨0, Nat.zero_le _, rfl, fun j hj => by omega⟩
      case round =>
        obtain ⟨k2, hk2, rfl, hall2⟩ := hrel
        have HA2 := Lib.hid hall2; clear hall2
        by_cases hlt2 : k2 < X.length
        · obtain ⟨b2, off2, e2, d2⟩ := R0.out k2 hlt2
          obtain rfl : rp = some ⟨b2, off2, none⟩ := e2
          have d2 := fun o => ((Bel.refl w).alloc o).cell d2
          generalize hY : X.getD k2 0 = Y at *
          have HY := Lib.hid hY; clear hY
          cases hb : inB Y 0 12
          · have HF := Lib.hid (show resOkB (st, ro) = false from by
              unfold resOkB
              rw [all_false (c := fun i => rowOkB (ro.getD i [])) hlt (show rowOkB (ro.getD k []) = false from by rw [HX.out]; unfold rowOkB; rw [all_false (c := fun i => inBv (X.getD i 0) 0 12) hlt2 (show inBv (X.getD k2 0) 0 12 = false from by rw [HY.out]; exact hb)]; simp)]; rfl)
            go_wp2_with (go_at_call 71; refine (within_any _ _ _ _).mono ?_; rintro e w' ⟨rfl, rfl⟩)
            go_ret
            exact ⟨ret_bool HF.out.symm, by (repeat (first | exact Bel.refl _ | apply Bel.drewN | apply Bel.drew | apply Bel.alloc | refine Bel.trans ?_ (by assumption)))⟩
          · go_wp2_with (go_at_call 71; refine (within_any _ _ _ _).mono ?_; rintro e w' ⟨rfl, rfl⟩)
            go_round
            case rel =>
              refine ⟨k2 + 1, by omega, by go_num, fun j hj => ?_⟩
              by_cases e : j < k2
              · exact HA2.out j e
              · obtain rfl : j = k2 := by omega
                rw [HY.out]; exact hb
            case measure => simp [intOf]; omega
        · have HRK := Lib.hid (show rowOkB X = true from by unfold rowOkB; rw [decide_eq_true H4.out, all_true (c := fun i => inBv (X.getD i 0) 0 12) fun j hj => HA2.out j (by omega)]; rfl)
          go_wp2
          go_round
          case rel =>
            refine ⟨k + 1, by omega, by go_num, fun j hj => ?_⟩
            by_cases e : j < k
            · exact HA.out j e
            · obtain rfl : j = k := by omega
              rw [HX.out]; exact HRK.out
          case measure => simp [intOf]; omega
    · have HALL := Lib.hid (show (List.range ro.length).all (fun i => rowOkB (ro.getD i [])) = true from all_true (c := fun i => rowOkB (ro.getD i [])) fun j hj => HA.out j (by omega))
      go_wp2_with fail
      refine (iStepsOk_any _ st S _ (stepsR_good.bel HQ.out (by (repeat (first | exact Bel.refl _ | apply Bel.drewN | apply Bel.drew | apply Bel.alloc | refine Bel.trans ?_ (by assumption)))) HS.out)).mono ?_
      rintro e w1 ⟨rfl, g1⟩
      have b1 := g1.cell (p := ⟨w.heap.size, 1, none⟩) (v := .slice p1 ro.length k1) (by simp [go_sem])
      cases hs : stepsOkB st
      · have HF := Lib.hid (show resOkB (st, ro) = false from by unfold resOkB; rw [hs]; simp)
        have HSx := Lib.hid hs; clear hs
        go_wp2
        go_ret
        exact ⟨ret_bool HF.out.symm, by (repeat (first | exact Bel.refl _ | apply Bel.drewN | apply Bel.drew | apply Bel.alloc | refine Bel.trans ?_ (by assumption)))⟩
      · have HF := Lib.hid (show resOkB (st, ro) = (decide (ro.length = 0) || decide (ro.length = 4)) from by unfold resOkB; rw [hs, HALL.out]; rfl)
        have HSx := Lib.hid hs; clear hs
        by_cases z : ro.length = 0
        · have z1 : (((ro.length : Nat) : Int) == 0) = true := by simp [z]
          have HG := Lib.hid (show (decide (ro.length = 0) || decide (ro.length = 4)) = true from by rw [decide_eq_true z]; rfl)
          clear z
          go_wp2
          go_ret
          exact ⟨ret_bool (by rw [HF.out, HG.out]), by (repeat (first | exact Bel.refl _ | apply Bel.drewN | apply Bel.drew | apply Bel.alloc | refine Bel.trans ?_ (by assumption)))⟩
        · have z1 : (((ro.length : Nat) : Int) == 0) = false := beq_eq_false_iff_ne.2 (by omega)
          by_cases y : ro.length = 4
          · have y1 : (((ro.length : Nat) : Int) == 4) = true := by simp [y]
            have HG := Lib.hid (show (decide (ro.length = 0) || decide (ro.length = 4)) = true from by rw [decide_eq_true y]; simp)
            clear z y
            go_wp2
            go_ret
            exact ⟨ret_bool (by rw [HF.out, HG.out]), by (repeat (first | exact Bel.refl _ | apply Bel.drewN | apply Bel.drew | apply Bel.alloc | refine Bel.trans ?_ (by assumption)))⟩
          · have y1 : (((ro.length : Nat) : Int) == 4) = false := by simp; omega
            have HG := Lib.hid (show (decide (ro.length = 0) || decide (ro.length = 4)) = false from by rw [decide_eq_false y, decide_eq_false z]; rfl)
            clear z y
            go_wp2
            go_ret
            exact ⟨ret_bool (by rw [HF.out, HG.out]), by (repeat (first | exact Bel.refl _ | apply Bel.drewN | apply Bel.drew | apply Bel.alloc | refine Bel.trans ?_ (by assumption)))⟩

set_option maxHeartbeats 800000 in
theorem sResourceOk_any (v : Value) (x : ResT) (S : Nat → Prop) (w : World) (hx : aggR resR S w v x) (hS : ∀ b, S b → b < w.heap.size) :
    Calls Tryz.prog 102 #[v] w fun e w' => e = .returned (.bool (resOkB x)) ∧ Bel w w' := by
  obtain ⟨cs, rfl, hx⟩ := hx
  obtain ⟨c0, c1, rfl, q0, q1⟩ := resR_open hx
  obtain ⟨st, ro⟩ := x
  simp only at q0 q1
  have HQ := Lib.hid q0
  have HR := Lib.hid (fun i hi => rowsR_at q1 (i := i) hi)
  obtain ⟨p0, k0, rfl, l0, l0', _⟩ := sliceR_open q0
  obtain ⟨p1, k1, rfl, l1, l1', _⟩ := sliceR_open q1
  unfold maxLen at l0' l1'
  have HS := Lib.hid hS
  clear hx q0 q1 hS
  show Calls Tryz.prog 102 #[.agg #[.slice p0 st.length k0, .slice p1 ro.length k1]] w _
  go_enter Tryz.func102, Tryz.ntmps102
  go_wp2_with fail
  go_loop [10] (fun i => ∃ k : Nat, k ≤ ro.length ∧ i = .int .i64 k ∧ ∀ j, j < k → rowOkB (ro.getD j []) = true) (fun i => ro.length - (intOf i).toNat)
  case atStart => exact ⟨0, Nat.zero_le _, rfl, fun j hj => by omega⟩
  case round =>
    obtain ⟨k, hk, rfl, hall⟩ := hrel
    have HA := Lib.hid hall; clear hall
    by_cases hlt : k < ro.length
    · obtain ⟨b, off, rp, rc, em, dm, rl, rl', hrow⟩ := HR.out k hlt
      obtain rfl : p1 = some ⟨b, off, none⟩ := em
      have dm := fun o => ((Bel.refl w).alloc o).cell dm
      have R0 := Lib.hid (fun i hi => intsR_at' hrow (i := i) hi)
      unfold maxLen at rl'
      clear hrow
      generalize hX : ro.getD k [] = X at *
      have HX := Lib.hid hX; clear hX
      by_cases h4 : X.length = 4
      rotate_left
      · have HF := Lib.hid (show resOkB (st, ro) = false from by unfold resOkB; rw [all_false (c := fun i => rowOkB (ro.getD i [])) hlt (show rowOkB (ro.getD k []) = false from by rw [HX.out]; unfold rowOkB; rw [decide_eq_false h4]; rfl)]; rfl)
        have hne : (((X.length : Nat) : Int) != 4) = true := by simp; omega
        clear h4
        go_wp2
        go_ret
        exact ⟨ret_bool HF.out.symm, by (repeat (first | exact Bel.refl _ | apply Bel.drewN | apply Bel.drew | apply Bel.alloc | refine Bel.trans ?_ (by assumption)))⟩
      have H4 := Lib.hid h4
      have hne : (((X.length : Nat) : Int) != 4) = false := by simp [h4]
      clear h4
      go_wp2_with fail
      go_loop [19] (fun i => ∃ k2 : Nat, k2 ≤ X.length ∧ i = .int .i64 k2 ∧ ∀ j, j < k2 → inB (X.getD j 0) 0 12 = true) (fun i => X.length - (intOf i).toNat)
      case atStart => exact ⟨0, Nat.zero_le _, rfl, fun j hj => by omega⟩
      case round =>
        obtain ⟨k2, hk2, rfl, hall2⟩ := hrel
        have HA2 := Lib.hid hall2; clear hall2
        by_cases hlt2 : k2 < X.length
        · obtain ⟨b2, off2, e2, d2⟩ := R0.out k2 hlt2
          obtain rfl : rp = some ⟨b2, off2, none⟩ := e2
          have d2 := fun o => ((Bel.refl w).alloc o).cell d2
          generalize hY : X.getD k2 0 = Y at *
          have HY := Lib.hid hY; clear hY
          cases hb : inB Y 0 12
          · have HF := Lib.hid (show resOkB (st, ro) = false from by
              unfold resOkB
              rw [all_false (c := fun i => rowOkB (ro.getD i [])) hlt (show rowOkB (ro.getD k []) = false from by rw [HX.out]; unfold rowOkB; rw [all_false (c := fun i => inBv (X.getD i 0) 0 12) hlt2 (show inBv (X.getD k2 0) 0 12 = false from by rw [HY.out]; exact hb)]; simp)]; rfl)
            go_wp2_with (go_at_call 65; refine (l01In_any _ _ _ _).mono ?_; rintro e w' ⟨rfl, rfl⟩)
            go_ret
            exact ⟨ret_bool HF.out.symm, by (repeat (first | exact Bel.refl _ | apply Bel.drewN | apply Bel.drew | apply Bel.alloc | refine Bel.trans ?_ (by assumption)))⟩
          · go_wp2_with (go_at_call 65; refine (l01In_any _ _ _ _).mono ?_; rintro e w' ⟨rfl, rfl⟩)
            go_round
            case rel =>
              refine ⟨k2 + 1, by omega, by go_num, fun j hj => ?_⟩
              by_cases e : j < k2
              · exact HA2.out j e
              · obtain rfl : j = k2 := by omega
                rw [HY.out]; exact hb
            case measure => simp [intOf]; omega
        · have HRK := Lib.hid (show rowOkB X = true from by unfold rowOkB; rw [decide_eq_true H4.out, all_true (c := fun i => inBv (X.getD i 0) 0 12) fun j hj => HA2.out j (by omega)]; rfl)
          go_wp2
          go_round
          case rel =>
            refine ⟨k + 1, by omega, by go_num, fun j hj => ?_⟩
            by_cases e : j < k
            · exact HA.out j e
            · obtain rfl : j = k := by omega
              rw [HX.out]; exact HRK.out
          case measure => simp [intOf]; omega
    · have HALL := Lib.hid (show (List.range ro.length).all (fun i => rowOkB (ro.getD i [])) = true from all_true (c := fun i => rowOkB (ro.getD i [])) fun j hj => HA.out j (by omega))
      go_wp2_with fail
      refine (sStepsOk_any _ st S _ (stepsR_good.bel HQ.out (by (repeat (first | exact Bel.refl _ | apply Bel.drewN | apply Bel.drew | apply Bel.alloc | refine Bel.trans ?_ (by assumption)))) HS.out)).mono ?_
      rintro e w1 ⟨rfl, g1⟩
      have b1 := g1.cell (p := ⟨w.heap.size, 1, none⟩) (v := .slice p1 ro.length k1) (by simp [go_sem])
      cases hs : stepsOkB st
      · have HF := Lib.hid (show resOkB (st, ro) = false from by unfold resOkB; rw [hs]; simp)
        have HSx := Lib.hid hs; clear hs
        go_wp2
        go_ret
        exact ⟨ret_bool HF.out.symm, by (repeat (first | exact Bel.refl _ | apply Bel.drewN | apply Bel.drew | apply Bel.alloc | refine Bel.trans ?_ (by assumption)))⟩
      · have HF := Lib.hid (show resOkB (st, ro) = (decide (ro.length = 0) || decide (ro.length = 4)) from by unfold resOkB; rw [hs, HALL.out]; rfl)
        have HSx := Lib.hid hs; clear hs
        by_cases z : ro.length = 0
        · have z1 : (((ro.length : Nat) : Int) == 0) = true := by simp [z]
          have HG := Lib.hid (show (decide (ro.length = 0) || decide (ro.length = 4)) = true from by rw [decide_eq_true z]; rfl)
          clear z
          go_wp2
          go_ret
          exact ⟨ret_bool (by rw [HF.out, HG.out]), by (repeat (first | exact Bel.refl _ | apply Bel.drewN | apply Bel.drew | apply Bel.alloc | refine Bel.trans ?_ (by assumption)))⟩
        · have z1 : (((ro.length : Nat) : Int) == 0) = false := beq_eq_false_iff_ne.2 (by omega)
          by_cases y : ro.length = 4
          · have y1 : (((ro.length : Nat) : Int) == 4) = true := by simp [y]
            have HG := Lib.hid (show (decide (ro.length = 0) || decide (ro.length = 4)) = true from by rw [decide_eq_true y]; simp)
            clear z y
            go_wp2
            go_ret
            exact ⟨ret_bool (by rw [HF.out, HG.out]), by (repeat (first | exact Bel.refl _ | apply Bel.drewN | apply Bel.drew | apply Bel.alloc | refine Bel.trans ?_ (by assumption)))⟩
          · have y1 : (((ro.length : Nat) : Int) == 4) = false := by simp; omega
            have HG := Lib.hid (show (decide (ro.length = 0) || decide (ro.length = 4)) = false from by rw [decide_eq_false y, decide_eq_false z]; rfl)
            clear z y
            go_wp2
            go_ret
            exact ⟨ret_bool (by rw [HF.out, HG.out]), by (repeat (first | exact Bel.refl _ | apply Bel.drewN | apply Bel.drew | apply Bel.alloc | refine Bel.trans ?_ (by assumption)))⟩

end Go.Proofs.YtkfpciggolkjeaaGreatDoor
