/- Contracts of StepsOk. -/
import Derived.Test.YtkfpciggolkjeaaGreatDoorName
namespace Go.Proofs.YtkfpciggolkjeaaGreatDoor
open Go.ChangeShapes Go.WideShapes Go.ChangeAt Go.RowKit
set_option linter.unusedVariables false

theorem stepsOk_no {l : List StepT} {k : Nat} (hk : k < l.length) (h : stepAt l k = false) : stepsOkB l = false := by unfold stepsOkB; rw [all_false hk h]; rfl
theorem stepAt_first {l : List StepT} {a c : Int} (h : l.getD 0 zStep = (a, c)) : stepAt l 0 = (inBv a 0 60 && (inBv c 0 20 && true)) := by unfold stepAt; rw [h]; rfl
theorem stepAt_next {l : List StepT} {m : Nat} {a c p : Int} (h : l.getD (m + 1) zStep = (a, c)) (hp : (l.getD m zStep).1 = p) : stepAt l (m + 1) = (inBv a 0 60 && (inBv c 0 20 && decide (p < a))) := by
  unfold stepAt
  rw [h, show m + 1 - 1 = m from rfl, hp]
  simp

set_option maxHeartbeats 1600000 in
theorem iStepsOk_any (v : Value) (xs : List StepT) (S : Nat → Prop) (w : World) (hx : stepsR S w [v] xs) :
    Calls Tryz.prog 129 #[v] w fun e w' => e = .returned (.bool (stepsOkB xs)) ∧ Bel w w' := by
  have HX := Lib.hid (fun i hi => sliceR_at zStep hx (i := i) hi)
  obtain ⟨p, cap, hv, l1, l2, hr⟩ := sliceR_open hx
  clear hr
  subst hv
  unfold maxLen at l2
  clear hx
  go_enter Tryz.func129, Tryz.ntmps129
  go_wp2_with fail
  go_loopw [7] (fun i wr => ∃ (k : Nat), k ≤ xs.length ∧ i = .int .i64 k ∧ (∀ j, j < k → stepAt xs j = true) ∧ Bel w wr ∧ (0 < k → (xs.getD 0 zStep).1 = 0)) (fun i _ => xs.length - (intOf i).toNat)
  case atStart => exact ⟨0, Nat.zero_le _, rfl, fun j hj => by omega, by (repeat (first | exact Bel.refl _ | apply Bel.drewN | apply Bel.drew | apply Bel.alloc | refine Bel.trans ?_ (by assumption))), fun h => by omega⟩
  case round =>
    obtain ⟨k, hk, rfl, hall, hB, hz⟩ := hrel
    have HA := Lib.hid hall; clear hall
    have HZ := Lib.hid hz; clear hz
    by_cases hlt : k < xs.length
    · obtain ⟨b, off, ecs, ea, hrow, hel⟩ := HX.out k hlt
      obtain rfl : p = some ⟨b, off, none⟩ := ea
      obtain ⟨rfl, _, _⟩ := stepR_open hel
      have ed0 := hB.cell (hrow 0 (by simp)).1
      have ed1 := hB.cell (hrow 1 (by simp)).1
      simp only [List.getElem_cons_zero, List.getElem_cons_succ, Nat.add_zero] at ed0 ed1
      clear hrow hel
      obtain ⟨a, c, hX⟩ : ∃ a c, xs.getD k zStep = (a, c) := ⟨_, _, rfl⟩
      rw [hX] at ed0 ed1
      simp only at ed0 ed1
      have HXe := Lib.hid hX; clear hX
      cases k with
      | zero =>
        have hk0 : (((0 : Nat) : Int) == 0) = true := by simp
        simp only [Nat.zero_mul, Nat.add_zero] at ed0 ed1
        cases t1 : inB a 0 60
        · have HF := Lib.hid (show stepsOkB xs = false from stepsOk_no hlt (by rw [stepAt_first HXe.out, ← inB_v, t1]; rfl))
          go_wp2_with fail
          go_quiet ((first | (go_at_call 74; exact quiet_one (isTime_any _ _)) | (go_at_call 147; exact quiet_one (isAmount_any _ _))))
          go_wp2
          go_ret
          exact ⟨ret_bool HF.out.symm, by (repeat (first | exact Bel.refl _ | apply Bel.drewN | apply Bel.drew | apply Bel.alloc | refine Bel.trans ?_ (by assumption)))⟩
        cases t2 : inB c 0 20
        · have HF := Lib.hid (show stepsOkB xs = false from stepsOk_no hlt (by rw [stepAt_first HXe.out, ← inB_v c, t2]; simp))
          go_wp2_with fail
          go_quiet ((first | (go_at_call 74; exact quiet_one (isTime_any _ _)) | (go_at_call 147; exact quiet_one (isAmount_any _ _))))
          go_wp2
          go_ret
          exact ⟨ret_bool HF.out.symm, by (repeat (first | exact Bel.refl _ | apply Bel.drewN | apply Bel.drew | apply Bel.alloc | refine Bel.trans ?_ (by assumption)))⟩
        by_cases az : a = 0
        · have az1 : (a != 0) = false := by simp [az]
          have HAZ := Lib.hid az; clear az
          have HF := Lib.hid (show stepAt xs 0 = true from by rw [stepAt_first HXe.out, ← inB_v, ← inB_v, t1, t2]; rfl)
          go_wp2_with fail
          go_quiet ((first | (go_at_call 74; exact quiet_one (isTime_any _ _)) | (go_at_call 147; exact quiet_one (isAmount_any _ _))))
          go_wp2
          go_roundw
          case rel =>
            refine ⟨0 + 1, by omega, by go_num, fun j hj => ?_, (hB.alloc _).drewN _, fun _ => by rw [HXe.out]; exact HAZ.out⟩
            by_cases e : j < 0
            · exact HA.out j e
            · obtain rfl : j = 0 := by omega
              exact HF.out
          case measure => simp [intOf]; omega
        · have az1 : (a != 0) = true := by simp [az]
          have HAZ := Lib.hid az; clear az
          have HF := Lib.hid (show stepsOkB xs = false from by unfold stepsOkB; rw [HXe.out, decide_eq_false HAZ.out]; simp)
          go_wp2_with fail
          go_quiet ((first | (go_at_call 74; exact quiet_one (isTime_any _ _)) | (go_at_call 147; exact quiet_one (isAmount_any _ _))))
          go_wp2
          go_ret
          exact ⟨ret_bool HF.out.symm, by (repeat (first | exact Bel.refl _ | apply Bel.drewN | apply Bel.drew | apply Bel.alloc | refine Bel.trans ?_ (by assumption)))⟩
      | succ m =>
        obtain ⟨b', off', ecs', ea', hrow', hel'⟩ := HX.out m (by omega)
        obtain ⟨rfl, rfl⟩ : b = b' ∧ off = off' := by simpa [sliceAt] using ea'
        obtain ⟨rfl, _, _⟩ := stepR_open hel'
        have pd := hB.cell (hrow' 0 (by simp)).1
        simp only [List.getElem_cons_zero, Nat.add_zero] at pd
        clear hrow' hel' ea'
        obtain ⟨P, hP⟩ : ∃ P, (xs.getD m zStep).1 = P := ⟨_, rfl⟩
        rw [hP] at pd
        have HP := Lib.hid hP; clear hP
        have hk0 : (((m + 1 : Nat) : Int) == 0) = false := by simp; omega
        have hk1 : (0 : Int) < ((m + 1 : Nat) : Int) := by omega
        have hw1 : IntKind.i64.wrap (m : Int) = (m : Int) := IntWalk.i64_in _ (by omega)
        have hk2 : (((m : Int) + 1) == 0) = false := by simp; omega
        have hk3 : ¬ ((m : Int) + 1 = 0) := by omega
        have ap := fun o => ((Bel.refl wr).alloc o).cell pd
        have im : (m : Int) < (xs.length : Int) := by omega
        cases t1 : inB a 0 60
        · have HF := Lib.hid (show stepsOkB xs = false from stepsOk_no hlt (by rw [stepAt_next HXe.out HP.out, ← inB_v, t1]; rfl))
          go_wp2_with fail
          go_quiet ((first | (go_at_call 74; exact quiet_one (isTime_any _ _)) | (go_at_call 147; exact quiet_one (isAmount_any _ _))))
          go_wp2
          go_ret
          exact ⟨ret_bool HF.out.symm, by (repeat (first | exact Bel.refl _ | apply Bel.drewN | apply Bel.drew | apply Bel.alloc | refine Bel.trans ?_ (by assumption)))⟩
        cases t2 : inB c 0 20
        · have HF := Lib.hid (show stepsOkB xs = false from stepsOk_no hlt (by rw [stepAt_next HXe.out HP.out, ← inB_v c, t2]; simp))
          go_wp2_with fail
          go_quiet ((first | (go_at_call 74; exact quiet_one (isTime_any _ _)) | (go_at_call 147; exact quiet_one (isAmount_any _ _))))
          go_wp2
          go_ret
          exact ⟨ret_bool HF.out.symm, by (repeat (first | exact Bel.refl _ | apply Bel.drewN | apply Bel.drew | apply Bel.alloc | refine Bel.trans ?_ (by assumption)))⟩
        by_cases hp : P < a
        · have hp1 : decide (a ≤ P) = false := by simp; omega
          have HPa := Lib.hid hp
          have HF := Lib.hid (show stepAt xs (m + 1) = true from by rw [stepAt_next HXe.out HP.out, ← inB_v, ← inB_v, t1, t2, decide_eq_true HPa.out]; rfl)
          go_wp2_with fail
          go_quiet ((first | (go_at_call 74; exact quiet_one (isTime_any _ _)) | (go_at_call 147; exact quiet_one (isAmount_any _ _))))
          go_wp2
          go_roundw
          case rel =>
            refine ⟨m + 1 + 1, by omega, by go_num, fun j hj => ?_, (hB.alloc _).drewN _, fun _ => HZ.out (by omega)⟩
            by_cases e : j < m + 1
            · exact HA.out j e
            · obtain rfl : j = m + 1 := by omega
              exact HF.out
          case measure => simp [intOf]; omega
        · have hp1 : a ≤ P := by omega
          have HPa := Lib.hid hp
          have HF := Lib.hid (show stepsOkB xs = false from stepsOk_no hlt (by rw [stepAt_next HXe.out HP.out, decide_eq_false HPa.out]; simp))
          go_wp2_with fail
          go_quiet ((first | (go_at_call 74; exact quiet_one (isTime_any _ _)) | (go_at_call 147; exact quiet_one (isAmount_any _ _))))
          go_wp2
          go_ret
          exact ⟨ret_bool HF.out.symm, by (repeat (first | exact Bel.refl _ | apply Bel.drewN | apply Bel.drew | apply Bel.alloc | refine Bel.trans ?_ (by assumption)))⟩
    · have HALL := Lib.hid (show (List.range xs.length).all (stepAt xs) = true from all_true fun j hj => HA.out j (by omega))
      have HF := Lib.hid (show stepsOkB xs = inB xs.length 1 8 from by
        unfold stepsOkB
        rw [HALL.out, Bool.true_and, inB_v]
        cases hb : inBv xs.length 1 8
        · rfl
        · have h0 : 0 < k := by simp only [inBv, Bool.and_eq_true, decide_eq_true_eq] at hb; omega
          rw [decide_eq_true (HZ.out h0)]; rfl)
      go_wp2_with (go_at_call 71; refine (within_any _ _ _ _).mono ?_; rintro e w' ⟨rfl, rfl⟩)
      go_ret
      exact ⟨ret_bool HF.out.symm, by (repeat (first | exact Bel.refl _ | apply Bel.drewN | apply Bel.drew | apply Bel.alloc | refine Bel.trans ?_ (by assumption)))⟩

set_option maxHeartbeats 1600000 in
theorem sStepsOk_any (v : Value) (xs : List StepT) (S : Nat → Prop) (w : World) (hx : stepsR S w [v] xs) :
    Calls Tryz.prog 124 #[v] w fun e w' => e = .returned (.bool (stepsOkB xs)) ∧ Bel w w' := by
  have HX := Lib.hid (fun i hi => sliceR_at zStep hx (i := i) hi)
  obtain ⟨p, cap, hv, l1, l2, hr⟩ := sliceR_open hx
  clear hr
  subst hv
  unfold maxLen at l2
  clear hx
  go_enter Tryz.func124, Tryz.ntmps124
  go_wp2_with fail
  go_loopw [7] (fun i wr => ∃ (k : Nat), k ≤ xs.length ∧ i = .int .i64 k ∧ (∀ j, j < k → stepAt xs j = true) ∧ Bel w wr) (fun i _ => xs.length - (intOf i).toNat)
  case atStart => exact ⟨0, Nat.zero_le _, rfl, fun j hj => by omega, by (repeat (first | exact Bel.refl _ | apply Bel.drewN | apply Bel.drew | apply Bel.alloc | refine Bel.trans ?_ (by assumption)))⟩
  case round =>
    obtain ⟨k, hk, rfl, hall, hB⟩ := hrel
    have HA := Lib.hid hall; clear hall
    skip
    by_cases hlt : k < xs.length
    · obtain ⟨b, off, ecs, ea, hrow, hel⟩ := HX.out k hlt
      obtain rfl : p = some ⟨b, off, none⟩ := ea
      obtain ⟨rfl, _, _⟩ := stepR_open hel
      have ed0 := hB.cell (hrow 0 (by simp)).1
      have ed1 := hB.cell (hrow 1 (by simp)).1
      simp only [List.getElem_cons_zero, List.getElem_cons_succ, Nat.add_zero] at ed0 ed1
      clear hrow hel
      obtain ⟨a, c, hX⟩ : ∃ a c, xs.getD k zStep = (a, c) := ⟨_, _, rfl⟩
      rw [hX] at ed0 ed1
      simp only at ed0 ed1
      have HXe := Lib.hid hX; clear hX
      cases k with
      | zero =>
        have hk0 : (((0 : Nat) : Int) == 0) = true := by simp
        simp only [Nat.zero_mul, Nat.add_zero] at ed0 ed1
        cases t1 : inB a 0 60
        · have HF := Lib.hid (show stepsOkB xs = false from stepsOk_no hlt (by rw [stepAt_first HXe.out, ← inB_v, t1]; rfl))
          go_wp2_with fail
          go_quiet ((first | (go_at_call 65; exact quiet_one (l01In_any _ _ _ _))))
          go_wp2
          go_ret
          exact ⟨ret_bool HF.out.symm, by (repeat (first | exact Bel.refl _ | apply Bel.drewN | apply Bel.drew | apply Bel.alloc | refine Bel.trans ?_ (by assumption)))⟩
        cases t2 : inB c 0 20
        · have HF := Lib.hid (show stepsOkB xs = false from stepsOk_no hlt (by rw [stepAt_first HXe.out, ← inB_v c, t2]; simp))
          go_wp2_with fail
          go_quiet ((first | (go_at_call 65; exact quiet_one (l01In_any _ _ _ _))))
          go_wp2
          go_ret
          exact ⟨ret_bool HF.out.symm, by (repeat (first | exact Bel.refl _ | apply Bel.drewN | apply Bel.drew | apply Bel.alloc | refine Bel.trans ?_ (by assumption)))⟩
        have HF := Lib.hid (show stepAt xs 0 = true from by rw [stepAt_first HXe.out, ← inB_v, ← inB_v, t1, t2]; rfl)
        go_wp2_with fail
        go_quiet ((first | (go_at_call 65; exact quiet_one (l01In_any _ _ _ _))))
        go_wp2
        go_roundw
        case rel =>
          refine ⟨0 + 1, by omega, by go_num, fun j hj => ?_, (hB.alloc _).drewN _⟩
          by_cases e : j < 0
          · exact HA.out j e
          · obtain rfl : j = 0 := by omega
            exact HF.out
        case measure => simp [intOf]; omega
      | succ m =>
        obtain ⟨b', off', ecs', ea', hrow', hel'⟩ := HX.out m (by omega)
        obtain ⟨rfl, rfl⟩ : b = b' ∧ off = off' := by simpa [sliceAt] using ea'
        obtain ⟨rfl, _, _⟩ := stepR_open hel'
        have pd := hB.cell (hrow' 0 (by simp)).1
        simp only [List.getElem_cons_zero, Nat.add_zero] at pd
        clear hrow' hel' ea'
        obtain ⟨P, hP⟩ : ∃ P, (xs.getD m zStep).1 = P := ⟨_, rfl⟩
        rw [hP] at pd
        have HP := Lib.hid hP; clear hP
        have hk0 : (((m + 1 : Nat) : Int) == 0) = false := by simp; omega
        have hk1 : (0 : Int) < ((m + 1 : Nat) : Int) := by omega
        have hw1 : IntKind.i64.wrap (m : Int) = (m : Int) := IntWalk.i64_in _ (by omega)
        have hk2 : (((m : Int) + 1) == 0) = false := by simp; omega
        have hk3 : ¬ ((m : Int) + 1 = 0) := by omega
        have ap := fun o => ((Bel.refl wr).alloc o).cell pd
        have im : (m : Int) < (xs.length : Int) := by omega
        cases t1 : inB a 0 60
        · have HF := Lib.hid (show stepsOkB xs = false from stepsOk_no hlt (by rw [stepAt_next HXe.out HP.out, ← inB_v, t1]; rfl))
          go_wp2_with fail
          go_quiet ((first | (go_at_call 65; exact quiet_one (l01In_any _ _ _ _))))
          go_wp2
          go_ret
          exact ⟨ret_bool HF.out.symm, by (repeat (first | exact Bel.refl _ | apply Bel.drewN | apply Bel.drew | apply Bel.alloc | refine Bel.trans ?_ (by assumption)))⟩
        cases t2 : inB c 0 20
        · have HF := Lib.hid (show stepsOkB xs = false from stepsOk_no hlt (by rw [stepAt_next HXe.out HP.out, ← inB_v c, t2]; simp))
          go_wp2_with fail
          go_quiet ((first | (go_at_call 65; exact quiet_one (l01In_any _ _ _ _))))
          go_wp2
          go_ret
          exact ⟨ret_bool HF.out.symm, by (repeat (first | exact Bel.refl _ | apply Bel.drewN | apply Bel.drew | apply Bel.alloc | refine Bel.trans ?_ (by assumption)))⟩
        by_cases hp : P < a
        · have hp1 : decide (a ≤ P) = false := by simp; omega
          have HPa := Lib.hid hp
          have HF := Lib.hid (show stepAt xs (m + 1) = true from by rw [stepAt_next HXe.out HP.out, ← inB_v, ← inB_v, t1, t2, decide_eq_true HPa.out]; rfl)
          go_wp2_with fail
          go_quiet ((first | (go_at_call 65; exact quiet_one (l01In_any _ _ _ _))))
          go_wp2
          go_roundw
          case rel =>
            refine ⟨m + 1 + 1, by omega, by go_num, fun j hj => ?_, (hB.alloc _).drewN _⟩
            by_cases e : j < m + 1
            · exact HA.out j e
            · obtain rfl : j = m + 1 := by omega
              exact HF.out
          case measure => simp [intOf]; omega
        · have hp1 : a ≤ P := by omega
          have HPa := Lib.hid hp
          have HF := Lib.hid (show stepsOkB xs = false from stepsOk_no hlt (by rw [stepAt_next HXe.out HP.out, decide_eq_false HPa.out]; simp))
          go_wp2_with fail
          go_quiet ((first | (go_at_call 65; exact quiet_one (l01In_any _ _ _ _))))
          go_wp2
          go_ret
          exact ⟨ret_bool HF.out.symm, by (repeat (first | exact Bel.refl _ | apply Bel.drewN | apply Bel.drew | apply Bel.alloc | refine Bel.trans ?_ (by assumption)))⟩
    · have HALL := Lib.hid (show (List.range xs.length).all (stepAt xs) = true from all_true fun j hj => HA.out j (by omega))
      cases hb : inB xs.length 1 8
      · have HF := Lib.hid (show stepsOkB xs = false from by unfold stepsOkB; rw [← inB_v, hb]; simp)
        go_wp2_with (go_at_call 65; refine (l01In_any _ _ _ _).mono ?_; rintro e w' ⟨rfl, rfl⟩)
        go_ret
        exact ⟨ret_bool HF.out.symm, by (repeat (first | exact Bel.refl _ | apply Bel.drewN | apply Bel.drew | apply Bel.alloc | refine Bel.trans ?_ (by assumption)))⟩
      · have h0 : 0 < xs.length := by simp only [inB, Bool.and_eq_true, decide_eq_true_eq] at hb; omega
        obtain ⟨b, off, ecs, ea, hrow, hel⟩ := HX.out 0 h0
        obtain rfl : p = some ⟨b, off, none⟩ := ea
        obtain ⟨rfl, _, _⟩ := stepR_open hel
        have pd := hB.cell (hrow 0 (by simp)).1
        simp only [List.getElem_cons_zero, Nat.add_zero, Nat.zero_mul] at pd
        have iz : (0 : Int) < (xs.length : Int) := by omega
        clear hrow hel
        have HF := Lib.hid (show stepsOkB xs = decide ((xs.getD 0 zStep).1 = 0) from by unfold stepsOkB; rw [HALL.out, ← inB_v, hb]; rfl)
        generalize (xs.getD 0 zStep).1 = Z at *
        go_wp2_with (go_at_call 65; refine (l01In_any _ _ _ _).mono ?_; rintro e w' ⟨rfl, rfl⟩)
        go_ret
        refine ⟨ret_bool ?_, by (repeat (first | exact Bel.refl _ | apply Bel.drewN | apply Bel.drew | apply Bel.alloc | refine Bel.trans ?_ (by assumption)))⟩
        rw [HF.out, Bool.eq_iff_iff]
        simp

end Go.Proofs.YtkfpciggolkjeaaGreatDoor
