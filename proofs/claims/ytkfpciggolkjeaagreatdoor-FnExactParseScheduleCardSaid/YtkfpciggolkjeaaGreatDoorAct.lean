/- Contracts of ActivityOk. -/
import Derived.Test.YtkfpciggolkjeaaGreatDoorName
namespace Go.Proofs.YtkfpciggolkjeaaGreatDoor
open Go.ChangeShapes Go.WideShapes Go.ChangeAt Go.RowKit
set_option linter.unusedVariables false

set_option maxHeartbeats 800000 in
theorem iActivityOk_any (v : Value) (x : ActT) (r s : Int) (S : Nat → Prop) (w : World) (hx : aggR actR S w v x) (hS : ∀ b, S b → b < w.heap.size) :
    Calls Tryz.prog 106 #[v, .int .i64 r, .int .i64 s] w fun e w' => e = .returned (.bool (actOkB x r s)) ∧ Bel w w' := by
  obtain ⟨cs, rfl, hx⟩ := hx
  obtain ⟨c2, rfl, q0, q1, q2⟩ := actR_open hx
  have QS := Lib.hid q0
  have HM := Lib.hid q2
  obtain ⟨p2, k2, rfl, l2, l2', _⟩ := sliceR_open q2
  unfold maxLen at l2'
  have HS := Lib.hid hS
  clear hx q0 q1 q2 hS
  show Calls Tryz.prog 106 #[.agg #[.string x.1, .int .i64 x.2.1, .slice p2 x.2.2.length k2], .int .i64 r, .int .i64 s] w _
  go_enter Tryz.func106, Tryz.ntmps106
  go_wp2_with fail
  go_loopw [12] (fun i wr => ∃ (k : Nat), k ≤ x.2.2.length ∧ i = .int .i64 k ∧ (∀ j, j < k → modeOkB (x.2.2.getD j zMode) r s = true) ∧ Bel w wr ∧ wr.cell? ⟨w.heap.size, 0, none⟩ = some (.string x.1) ∧ wr.cell? ⟨w.heap.size, 1, none⟩ = some (.int .i64 x.2.1) ∧ wr.cell? ⟨w.heap.size, 2, none⟩ = some (.slice p2 x.2.2.length k2)) (fun i _ => x.2.2.length - (intOf i).toNat)
  case atStart => exact ⟨0, Nat.zero_le _, rfl, fun j hj => by omega, by (repeat (first | exact Bel.refl _ | apply Bel.drewN | apply Bel.drew | apply Bel.alloc | refine Bel.trans ?_ (by assumption))), by simp [go_sem], by simp [go_sem], by simp [go_sem]⟩
  case round =>
    obtain ⟨k, hk, rfl, hall, hB, B0, B1, B2⟩ := hrel
    have HA := Lib.hid hall; clear hall
    by_cases hlt : k < x.2.2.length
    · obtain ⟨b, off, ecs, ea, hrow, hel⟩ := sliceR_at zMode HM.out hlt
      obtain rfl : p2 = some ⟨b, off, none⟩ := ea
      have hel := modeR_good.bel hel hB HS.out
      have HSw := Lib.hid (show ∀ b, S b → b < wr.heap.size from fun b hb => Nat.lt_of_lt_of_le (HS.out b hb) hB.size)
      generalize hX : x.2.2.getD k zMode = X at *
      have HX := Lib.hid hX; clear hX
      have HEL := Lib.hid hel
      obtain ⟨ec1, ec2, rfl, eq0, eq1, eq2⟩ := modeR_open hel
      obtain ⟨ec1p, ec1k, rfl, _⟩ := sliceR_open eq1
      obtain ⟨ec2p, ec2k, rfl, _⟩ := sliceR_open eq2
      have ed0 := hB.cell (hrow 0 (by simp)).1
      have ed1 := hB.cell (hrow 1 (by simp)).1
      have ed2 := hB.cell (hrow 2 (by simp)).1
      simp only [List.getElem_cons_zero, List.getElem_cons_succ, Nat.add_zero] at ed0 ed1 ed2
      have aB0 := fun o => ((Bel.refl wr).alloc o).cell B0
      have aB1 := fun o => ((Bel.refl wr).alloc o).cell B1
      have aB2 := fun o => ((Bel.refl wr).alloc o).cell B2
      clear hrow hel
      go_wp2_with fail
      refine (iModeOk_any _ X r s S _ (aggR_mk (modeR_good.bel HEL.out (by (repeat (first | exact Bel.refl _ | apply Bel.drewN | apply Bel.drew | apply Bel.alloc | refine Bel.trans ?_ (by assumption)))) HSw.out)) (fun b hb => Nat.lt_of_lt_of_le (HSw.out b hb) (Bel.size (by (repeat (first | exact Bel.refl _ | apply Bel.drewN | apply Bel.drew | apply Bel.alloc | refine Bel.trans ?_ (by assumption))))))).mono ?_
      rintro e w1 ⟨rfl, g1⟩
      have G0 : Bel wr w1 := by (repeat (first | exact Bel.refl _ | apply Bel.drewN | apply Bel.drew | apply Bel.alloc | refine Bel.trans ?_ (by assumption)))
      have G : Bel w w1 := by (repeat (first | exact Bel.refl _ | apply Bel.drewN | apply Bel.drew | apply Bel.alloc | refine Bel.trans ?_ (by assumption)))
      have B0 := G0.cell B0
      have B1 := G0.cell B1
      have B2 := G0.cell B2
      clear aB0 aB1 aB2
      clear hB
      cases hb : modeOkB X r s
      · have HBk := Lib.hid hb; clear hb
        have HF := Lib.hid (show actOkB x r s = false from by unfold actOkB; rw [all_false (c := fun i => modeOkB (x.2.2.getD i zMode) r s) hlt (show modeOkB (x.2.2.getD k zMode) r s = false from by rw [HX.out]; exact HBk.out)]; rfl)
        go_wp2
        go_ret
        exact ⟨ret_bool HF.out.symm, by (repeat (first | exact Bel.refl _ | apply Bel.drewN | apply Bel.drew | apply Bel.alloc | refine Bel.trans ?_ (by assumption)))⟩
      · have HBk := Lib.hid hb; clear hb
        go_wp2
        go_roundw
        case rel =>
          refine ⟨k + 1, by omega, by go_num, fun j hj => ?_, G, B0, B1, B2⟩
          by_cases e : j < k
          · exact HA.out j e
          · obtain rfl : j = k := by omega
            rw [HX.out]; exact HBk.out
        case measure => simp [intOf]; omega
    · have HALL := Lib.hid (show ∀ j, j < x.2.2.length → modeOkB (x.2.2.getD j zMode) r s = true from fun j hj => HA.out j (by omega))
      have HF := Lib.hid (show actOkB x r s = (isNameB x.1 && (inB x.2.1 0 3 && inB x.2.2.length 1 3)) from by unfold actOkB; rw [all_true (c := fun i => modeOkB (x.2.2.getD i zMode) r s) HALL.out]; rfl)
      cases hn : isNameB x.1
      · have HG := Lib.hid (show (isNameB x.1 && (inB x.2.1 0 3 && inB x.2.2.length 1 3)) = false from by rw [hn]; rfl)
        go_wp2_with (first | (go_at_call 128; refine (iIsName_any x.1 _ QS.out).mono ?_; rintro e w' ⟨rfl, rfl⟩) | (go_at_call 71; refine (within_any _ _ _ _).mono ?_; rintro e w' ⟨rfl, rfl⟩))
        go_ret
        exact ⟨ret_bool (by rw [HF.out, HG.out]), by (repeat (first | exact Bel.refl _ | apply Bel.drewN | apply Bel.drew | apply Bel.alloc | refine Bel.trans ?_ (by assumption)))⟩
      cases hf : inB x.2.1 0 3
      · have HG := Lib.hid (show (isNameB x.1 && (inB x.2.1 0 3 && inB x.2.2.length 1 3)) = false from by rw [hf]; simp)
        go_wp2_with (first | (go_at_call 128; refine (iIsName_any x.1 _ QS.out).mono ?_; rintro e w' ⟨rfl, rfl⟩) | (go_at_call 71; refine (within_any _ _ _ _).mono ?_; rintro e w' ⟨rfl, rfl⟩))
        go_ret
        exact ⟨ret_bool (by rw [HF.out, HG.out]), by (repeat (first | exact Bel.refl _ | apply Bel.drewN | apply Bel.drew | apply Bel.alloc | refine Bel.trans ?_ (by assumption)))⟩
      have HG := Lib.hid (show (isNameB x.1 && (inB x.2.1 0 3 && inB x.2.2.length 1 3)) = inB x.2.2.length 1 3 from by rw [hn, hf]; rfl)
      go_wp2_with (first | (go_at_call 128; refine (iIsName_any x.1 _ QS.out).mono ?_; rintro e w' ⟨rfl, rfl⟩) | (go_at_call 71; refine (within_any _ _ _ _).mono ?_; rintro e w' ⟨rfl, rfl⟩))
      go_ret
      exact ⟨ret_bool (by rw [HF.out, HG.out]), by (repeat (first | exact Bel.refl _ | apply Bel.drewN | apply Bel.drew | apply Bel.alloc | refine Bel.trans ?_ (by assumption)))⟩

set_option maxHeartbeats 800000 in
theorem sActivityOk_any (v : Value) (x : ActT) (r s : Int) (S : Nat → Prop) (w : World) (hx : aggR actR S w v x) (hS : ∀ b, S b → b < w.heap.size) :
    Calls Tryz.prog 101 #[v, .int .i64 r, .int .i64 s] w fun e w' => e = .returned (.bool (actOkB x r s)) ∧ Bel w w' := by
  obtain ⟨cs, rfl, hx⟩ := hx
  obtain ⟨c2, rfl, q0, q1, q2⟩ := actR_open hx
  have QS := Lib.hid q0
  have HM := Lib.hid q2
  obtain ⟨p2, k2, rfl, l2, l2', _⟩ := sliceR_open q2
  unfold maxLen at l2'
  have HS := Lib.hid hS
  clear hx q0 q1 q2 hS
  show Calls Tryz.prog 101 #[.agg #[.string x.1, .int .i64 x.2.1, .slice p2 x.2.2.length k2], .int .i64 r, .int .i64 s] w _
  go_enter Tryz.func101, Tryz.ntmps101
  go_wp2_with fail
  go_loopw [12] (fun i wr => ∃ (k : Nat), k ≤ x.2.2.length ∧ i = .int .i64 k ∧ (∀ j, j < k → modeOkB (x.2.2.getD j zMode) r s = true) ∧ Bel w wr ∧ wr.cell? ⟨w.heap.size, 0, none⟩ = some (.string x.1) ∧ wr.cell? ⟨w.heap.size, 1, none⟩ = some (.int .i64 x.2.1) ∧ wr.cell? ⟨w.heap.size, 2, none⟩ = some (.slice p2 x.2.2.length k2)) (fun i _ => x.2.2.length - (intOf i).toNat)
  case atStart => exact ⟨0, Nat.zero_le _, rfl, fun j hj => by omega, by (repeat (first | exact Bel.refl _ | apply Bel.drewN | apply Bel.drew | apply Bel.alloc | refine Bel.trans ?_ (by assumption))), by simp [go_sem], by simp [go_sem], by simp [go_sem]⟩
  case round =>
    obtain ⟨k, hk, rfl, hall, hB, B0, B1, B2⟩ := hrel
    have HA := Lib.hid hall; clear hall
    by_cases hlt : k < x.2.2.length
    · obtain ⟨b, off, ecs, ea, hrow, hel⟩ := sliceR_at zMode HM.out hlt
      obtain rfl : p2 = some ⟨b, off, none⟩ := ea
      have hel := modeR_good.bel hel hB HS.out
      have HSw := Lib.hid (show ∀ b, S b → b < wr.heap.size from fun b hb => Nat.lt_of_lt_of_le (HS.out b hb) hB.size)
      generalize hX : x.2.2.getD k zMode = X at *
      have HX := Lib.hid hX; clear hX
      have HEL := Lib.hid hel
      obtain ⟨ec1, ec2, rfl, eq0, eq1, eq2⟩ := modeR_open hel
      obtain ⟨ec1p, ec1k, rfl, _⟩ := sliceR_open eq1
      obtain ⟨ec2p, ec2k, rfl, _⟩ := sliceR_open eq2
      have ed0 := hB.cell (hrow 0 (by simp)).1
      have ed1 := hB.cell (hrow 1 (by simp)).1
      have ed2 := hB.cell (hrow 2 (by simp)).1
      simp only [List.getElem_cons_zero, List.getElem_cons_succ, Nat.add_zero] at ed0 ed1 ed2
      have aB0 := fun o => ((Bel.refl wr).alloc o).cell B0
      have aB1 := fun o => ((Bel.refl wr).alloc o).cell B1
      have aB2 := fun o => ((Bel.refl wr).alloc o).cell B2
      clear hrow hel
      go_wp2_with fail
      refine (sModeOk_any _ X r s S _ (aggR_mk (modeR_good.bel HEL.out (by (repeat (first | exact Bel.refl _ | apply Bel.drewN | apply Bel.drew | apply Bel.alloc | refine Bel.trans ?_ (by assumption)))) HSw.out)) (fun b hb => Nat.lt_of_lt_of_le (HSw.out b hb) (Bel.size (by (repeat (first | exact Bel.refl _ | apply Bel.drewN | apply Bel.drew | apply Bel.alloc | refine Bel.trans ?_ (by assumption))))))).mono ?_
      rintro e w1 ⟨rfl, g1⟩
      have G0 : Bel wr w1 := by (repeat (first | exact Bel.refl _ | apply Bel.drewN | apply Bel.drew | apply Bel.alloc | refine Bel.trans ?_ (by assumption)))
      have G : Bel w w1 := by (repeat (first | exact Bel.refl _ | apply Bel.drewN | apply Bel.drew | apply Bel.alloc | refine Bel.trans ?_ (by assumption)))
      have B0 := G0.cell B0
      have B1 := G0.cell B1
      have B2 := G0.cell B2
      clear aB0 aB1 aB2
      clear hB
      cases hb : modeOkB X r s
      · have HBk := Lib.hid hb; clear hb
        have HF := Lib.hid (show actOkB x r s = false from by unfold actOkB; rw [all_false (c := fun i => modeOkB (x.2.2.getD i zMode) r s) hlt (show modeOkB (x.2.2.getD k zMode) r s = false from by rw [HX.out]; exact HBk.out)]; rfl)
        go_wp2
        go_ret
        exact ⟨ret_bool HF.out.symm, by (repeat (first | exact Bel.refl _ | apply Bel.drewN | apply Bel.drew | apply Bel.alloc | refine Bel.trans ?_ (by assumption)))⟩
      · have HBk := Lib.hid hb; clear hb
        go_wp2
        go_roundw
        case rel =>
          refine ⟨k + 1, by omega, by go_num, fun j hj => ?_, G, B0, B1, B2⟩
          by_cases e : j < k
          · exact HA.out j e
          · obtain rfl : j = k := by omega
            rw [HX.out]; exact HBk.out
        case measure => simp [intOf]; omega
    · have HALL := Lib.hid (show ∀ j, j < x.2.2.length → modeOkB (x.2.2.getD j zMode) r s = true from fun j hj => HA.out j (by omega))
      have HF := Lib.hid (show actOkB x r s = (isNameB x.1 && (inB x.2.1 0 3 && inB x.2.2.length 1 3)) from by unfold actOkB; rw [all_true (c := fun i => modeOkB (x.2.2.getD i zMode) r s) HALL.out]; rfl)
      cases hn : isNameB x.1
      · have HG := Lib.hid (show (isNameB x.1 && (inB x.2.1 0 3 && inB x.2.2.length 1 3)) = false from by rw [hn]; rfl)
        go_wp2_with (first | (go_at_call 123; refine (sIsName_any x.1 _ QS.out).mono ?_; rintro e w' ⟨rfl, rfl⟩) | (go_at_call 65; refine (l01In_any _ _ _ _).mono ?_; rintro e w' ⟨rfl, rfl⟩))
        go_ret
        exact ⟨ret_bool (by rw [HF.out, HG.out]), by (repeat (first | exact Bel.refl _ | apply Bel.drewN | apply Bel.drew | apply Bel.alloc | refine Bel.trans ?_ (by assumption)))⟩
      cases hf : inB x.2.1 0 3
      · have HG := Lib.hid (show (isNameB x.1 && (inB x.2.1 0 3 && inB x.2.2.length 1 3)) = false from by rw [hf]; simp)
        go_wp2_with (first | (go_at_call 123; refine (sIsName_any x.1 _ QS.out).mono ?_; rintro e w' ⟨rfl, rfl⟩) | (go_at_call 65; refine (l01In_any _ _ _ _).mono ?_; rintro e w' ⟨rfl, rfl⟩))
        go_ret
        exact ⟨ret_bool (by rw [HF.out, HG.out]), by (repeat (first | exact Bel.refl _ | apply Bel.drewN | apply Bel.drew | apply Bel.alloc | refine Bel.trans ?_ (by assumption)))⟩
      have HG := Lib.hid (show (isNameB x.1 && (inB x.2.1 0 3 && inB x.2.2.length 1 3)) = inB x.2.2.length 1 3 from by rw [hn, hf]; rfl)
      go_wp2_with (first | (go_at_call 123; refine (sIsName_any x.1 _ QS.out).mono ?_; rintro e w' ⟨rfl, rfl⟩) | (go_at_call 65; refine (l01In_any _ _ _ _).mono ?_; rintro e w' ⟨rfl, rfl⟩))
      go_ret
      exact ⟨ret_bool (by rw [HF.out, HG.out]), by (repeat (first | exact Bel.refl _ | apply Bel.drewN | apply Bel.drew | apply Bel.alloc | refine Bel.trans ?_ (by assumption)))⟩

end Go.Proofs.YtkfpciggolkjeaaGreatDoor
