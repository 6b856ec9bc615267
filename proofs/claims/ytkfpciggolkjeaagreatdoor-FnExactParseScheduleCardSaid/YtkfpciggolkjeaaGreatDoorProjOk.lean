/- Contracts of ProjectOk. -/
import Derived.Test.YtkfpciggolkjeaaGreatDoorAct
import Derived.Test.YtkfpciggolkjeaaGreatDoorRes
import Derived.Test.YtkfpciggolkjeaaGreatDoorLinkOk
namespace Go.Proofs.YtkfpciggolkjeaaGreatDoor
open Go.ChangeShapes Go.WideShapes Go.ChangeAt Go.RowKit
set_option linter.unusedVariables false

theorem headOk_no1 {p : ProjT} (h : inB p.1 1 60 = false) : projOk p = false := by unfold projOk headOkB; rw [← inB_v, h]; rfl
theorem headOk_no2 {p : ProjT} (h : inB (p.2.1.length : Int) 1 6 = false) : projOk p = false := by unfold projOk headOkB; rw [← inB_v (p.2.1.length : Int), h]; simp
theorem headOk_no3 {p : ProjT} (h : ¬ p.2.2.2.1.length ≤ 3) : projOk p = false := by unfold projOk headOkB; rw [decide_eq_false h]; simp
theorem headOk_no4 {p : ProjT} (h : ¬ p.2.2.2.2.length ≤ 2) : projOk p = false := by unfold projOk headOkB; rw [decide_eq_false h]; simp
theorem headOk_no5 {p : ProjT} (h : ¬ p.2.2.1.length ≤ 12) : projOk p = false := by unfold projOk headOkB; rw [decide_eq_false h]; simp
theorem headOk_yes {p : ProjT} (h1 : inB p.1 1 60 = true) (h2 : inB (p.2.1.length : Int) 1 6 = true) (h3 : p.2.2.2.1.length ≤ 3) (h4 : p.2.2.2.2.length ≤ 2) (h5 : p.2.2.1.length ≤ 12) : headOkB p = true := by
  unfold headOkB; rw [← inB_v, ← inB_v, h1, h2, decide_eq_true h3, decide_eq_true h4, decide_eq_true h5]; rfl
theorem projOk_acts {p : ProjT} {k : Nat} (hk : k < p.2.1.length) (h : actAtOk p k = false) : projOk p = false := by unfold projOk; rw [all_false hk h]; simp
theorem projOk_ress {p : ProjT} {k : Nat} (hk : k < p.2.2.2.1.length) (h : resOkB (p.2.2.2.1.getD k zRes) = false) : projOk p = false := by unfold projOk; rw [all_false (c := fun i => resOkB (p.2.2.2.1.getD i zRes)) hk h]; simp
theorem projOk_stocks {p : ProjT} {k : Nat} (hk : k < p.2.2.2.2.length) (h : inB (p.2.2.2.2.getD k 0) 0 100 = false) : projOk p = false := by unfold projOk; rw [all_false (c := fun i => inBv (p.2.2.2.2.getD i 0) 0 100) hk h]; simp
theorem projOk_links {p : ProjT} {k : Nat} (hk : k < p.2.2.1.length) (h : linkOkB p.2.1.length (p.2.2.1.getD k zLink) = false) : projOk p = false := by unfold projOk; rw [all_false (c := fun i => linkOkB p.2.1.length (p.2.2.1.getD i zLink)) hk h]; simp
theorem projOk_rest {p : ProjT} (h : headOkB p = true) (h1 : ∀ j, j < p.2.1.length → actAtOk p j = true) (h2 : ∀ j, j < p.2.2.2.1.length → resOkB (p.2.2.2.1.getD j zRes) = true) (h3 : ∀ j, j < p.2.2.2.2.length → inB (p.2.2.2.2.getD j 0) 0 100 = true) :
    projOk p = (List.range p.2.2.1.length).all (fun i => linkOkB p.2.1.length (p.2.2.1.getD i zLink)) := by
  unfold projOk
  rw [h, all_true h1, all_true (c := fun i => resOkB (p.2.2.2.1.getD i zRes)) h2, all_true (c := fun i => inBv (p.2.2.2.2.getD i 0) 0 100) h3]
  rfl

set_option maxRecDepth 100000 in
set_option maxHeartbeats 4000000 in
theorem iProjectOk_any (v : Value) (p : ProjT) (S : Nat → Prop) (w : World) (hx : aggR projR S w v p) (hS : ∀ b, S b → b < w.heap.size) :
    Calls Tryz.prog 70 #[v] w fun e w' => e = .returned (.bool (projOk p)) ∧ Bel w w' := by
  obtain ⟨cs, rfl, hx⟩ := hx
  obtain ⟨c1, c2, c3, c4, rfl, q0, q1, q2, q3, q4⟩ := projR_open hx
  have Q1 := Lib.hid q1
  have Q2 := Lib.hid q2
  have Q3 := Lib.hid q3
  have Q4 := Lib.hid q4
  have HP := Lib.hid hx
  obtain ⟨p1, k1, rfl, l1, l1', -⟩ := sliceR_open q1
  obtain ⟨p2, k2, rfl, l2, l2', -⟩ := sliceR_open q2
  obtain ⟨p3, k3, rfl, l3, l3', -⟩ := sliceR_open q3
  obtain ⟨p4, k4, rfl, l4, l4', -⟩ := sliceR_open q4
  unfold maxLen at l1' l2' l3' l4'
  clear hx q0 q1 q2 q3 q4
  have HS := Lib.hid hS
  clear hS
  show Calls Tryz.prog 70 #[.agg #[.int .i64 p.1, .slice p1 p.2.1.length k1, .slice p2 p.2.2.1.length k2, .slice p3 p.2.2.2.1.length k3, .slice p4 p.2.2.2.2.length k4]] w _
  cases h1 : inB p.1 1 60
  · have HF := Lib.hid (headOk_no1 h1)
    go_enter Tryz.func70, Tryz.ntmps70
    go_wp2_with (go_at_call 71; refine (within_any _ _ _ _).mono ?_; rintro e w' ⟨rfl, rfl⟩)
    go_ret
    exact ⟨ret_bool HF.out.symm, by (repeat (first | exact Bel.refl _ | apply Bel.drewN | apply Bel.drew | apply Bel.alloc | refine Bel.trans ?_ (by assumption)))⟩
  cases h2 : inB (p.2.1.length : Int) 1 6
  · have HF := Lib.hid (headOk_no2 h2)
    go_enter Tryz.func70, Tryz.ntmps70
    go_wp2_with (go_at_call 71; refine (within_any _ _ _ _).mono ?_; rintro e w' ⟨rfl, rfl⟩)
    go_ret
    exact ⟨ret_bool HF.out.symm, by (repeat (first | exact Bel.refl _ | apply Bel.drewN | apply Bel.drew | apply Bel.alloc | refine Bel.trans ?_ (by assumption)))⟩
  by_cases h3 : p.2.2.2.1.length ≤ 3
  rotate_left
  · have HF := Lib.hid (headOk_no3 h3)
    go_enter Tryz.func70, Tryz.ntmps70
    go_wp2_with (go_at_call 71; refine (within_any _ _ _ _).mono ?_; rintro e w' ⟨rfl, rfl⟩)
    go_ret
    exact ⟨ret_bool HF.out.symm, by (repeat (first | exact Bel.refl _ | apply Bel.drewN | apply Bel.drew | apply Bel.alloc | refine Bel.trans ?_ (by assumption)))⟩
  by_cases h4 : p.2.2.2.2.length ≤ 2
  rotate_left
  · have HF := Lib.hid (headOk_no4 h4)
    go_enter Tryz.func70, Tryz.ntmps70
    go_wp2_with (go_at_call 71; refine (within_any _ _ _ _).mono ?_; rintro e w' ⟨rfl, rfl⟩)
    go_ret
    exact ⟨ret_bool HF.out.symm, by (repeat (first | exact Bel.refl _ | apply Bel.drewN | apply Bel.drew | apply Bel.alloc | refine Bel.trans ?_ (by assumption)))⟩
  by_cases h5 : p.2.2.1.length ≤ 12
  rotate_left
  · have HF := Lib.hid (headOk_no5 h5)
    go_enter Tryz.func70, Tryz.ntmps70
    go_wp2_with (go_at_call 71; refine (within_any _ _ _ _).mono ?_; rintro e w' ⟨rfl, rfl⟩)
    go_ret
    exact ⟨ret_bool HF.out.symm, by (repeat (first | exact Bel.refl _ | apply Bel.drewN | apply Bel.drew | apply Bel.alloc | refine Bel.trans ?_ (by assumption)))⟩
  have HH := Lib.hid (headOk_yes h1 h2 h3 h4 h5)
  have hn : p.2.1.length ≤ 6 := by simp only [inB, Bool.and_eq_true, decide_eq_true_eq] at h2; omega
  have hn1 : 1 ≤ p.2.1.length := by simp only [inB, Bool.and_eq_true, decide_eq_true_eq] at h2; omega
  have HP1 := Lib.hid (show ∀ W, Bel w W → aggR projR S W (.agg #[.int .i64 p.1, .slice p1 p.2.1.length k1, .slice p2 p.2.2.1.length k2, .slice p3 p.2.2.2.1.length k3, .slice p4 p.2.2.2.2.length k4]) p from fun W hW => aggR_mk (projR_good.bel HP.out hW HS.out))
  go_enter Tryz.func70, Tryz.ntmps70
  go_wp2_with (go_at_call 71; refine (within_any _ _ _ _).mono ?_; rintro e w' ⟨rfl, rfl⟩)
  go_loopw [41] (fun i wr => ∃ (k : Nat), k ≤ p.2.1.length ∧ i = .int .i64 k ∧ (∀ j, j < k → actAtOk p j = true) ∧ Bel w wr ∧ wr.cell? ⟨w.heap.size, 0, none⟩ = some (.int .i64 p.1) ∧ wr.cell? ⟨w.heap.size, 1, none⟩ = some (.slice p1 p.2.1.length k1) ∧ wr.cell? ⟨w.heap.size, 2, none⟩ = some (.slice p2 p.2.2.1.length k2) ∧ wr.cell? ⟨w.heap.size, 3, none⟩ = some (.slice p3 p.2.2.2.1.length k3) ∧ wr.cell? ⟨w.heap.size, 4, none⟩ = some (.slice p4 p.2.2.2.2.length k4)) (fun i _ => p.2.1.length - (intOf i).toNat)
  case atStart => exact ⟨0, Nat.zero_le _, rfl, fun j hj => by omega, by (repeat (first | exact Bel.refl _ | apply Bel.drewN | apply Bel.drew | apply Bel.alloc | refine Bel.trans ?_ (by assumption))), by simp [go_sem], by simp [go_sem], by simp [go_sem], by simp [go_sem], by simp [go_sem]⟩
  case round =>
    obtain ⟨k, hk, rfl, hall, hB, b0, b1, b2, b3, b4⟩ := hrel
    have HA := Lib.hid hall; clear hall
    by_cases hlt : k < p.2.1.length
    · obtain ⟨b, off, ecs, ea, hrow, hel⟩ := sliceR_at zAct Q1.out hlt
      obtain rfl : p1 = some ⟨b, off, none⟩ := ea
      have hel := actR_good.bel hel hB HS.out
      have HSw := Lib.hid (show ∀ b, S b → b < wr.heap.size from fun b hb => Nat.lt_of_lt_of_le (HS.out b hb) hB.size)
      generalize hX : p.2.1.getD k zAct = X at *
      have HX := Lib.hid hX; clear hX
      have HEL := Lib.hid hel
      obtain ⟨ec2, rfl, eq0, eq1, eq2⟩ := actR_open hel
      obtain ⟨ec2p, ec2k, rfl, _⟩ := sliceR_open eq2
      have ed0 := hB.cell (hrow 0 (by simp)).1
      have ed1 := hB.cell (hrow 1 (by simp)).1
      have ed2 := hB.cell (hrow 2 (by simp)).1
      simp only [List.getElem_cons_zero, List.getElem_cons_succ, Nat.add_zero] at ed0 ed1 ed2
      have a0 := fun o => ((Bel.refl wr).alloc o).cell b0
      have a1 := fun o => ((Bel.refl wr).alloc o).cell b1
      have a2 := fun o => ((Bel.refl wr).alloc o).cell b2
      have a3 := fun o => ((Bel.refl wr).alloc o).cell b3
      have a4 := fun o => ((Bel.refl wr).alloc o).cell b4
      clear hrow hel eq0 eq1 eq2
      go_wp2_with fail
      refine (iActivityOk_any _ X _ _ S _ (aggR_mk (actR_good.bel HEL.out (by (repeat (first | exact Bel.refl _ | apply Bel.drewN | apply Bel.drew | apply Bel.alloc | refine Bel.trans ?_ (by assumption)))) HSw.out)) (fun b hb => Nat.lt_of_lt_of_le (HSw.out b hb) (Bel.size (by (repeat (first | exact Bel.refl _ | apply Bel.drewN | apply Bel.drew | apply Bel.alloc | refine Bel.trans ?_ (by assumption))))))).mono ?_
      rintro e w1 ⟨rfl, g1⟩
      have x0 := g1.cell (p := ⟨wr.heap.size, 0, none⟩) (v := .string X.1) (by simp [go_sem])
      have G0 : Bel wr w1 := by (repeat (first | exact Bel.refl _ | apply Bel.drewN | apply Bel.drew | apply Bel.alloc | refine Bel.trans ?_ (by assumption)))
      have G : Bel w w1 := by (repeat (first | exact Bel.refl _ | apply Bel.drewN | apply Bel.drew | apply Bel.alloc | refine Bel.trans ?_ (by assumption)))
      have b0 := G0.cell b0
      have b1 := G0.cell b1
      have b2 := G0.cell b2
      have b3 := G0.cell b3
      have b4 := G0.cell b4
      clear a0 a1 a2 a3 a4 hB
      cases hb : actOkB X p.2.2.2.1.length p.2.2.2.2.length
      · have HF := Lib.hid (show projOk p = false from projOk_acts hlt (by unfold actAtOk; rw [HX.out, hb]; rfl))
        have HBk := Lib.hid hb; clear hb
        go_wp2
        go_ret
        exact ⟨ret_bool HF.out.symm, by (repeat (first | exact Bel.refl _ | apply Bel.drewN | apply Bel.drew | apply Bel.alloc | refine Bel.trans ?_ (by assumption)))⟩
      have HBk := Lib.hid hb; clear hb
      go_wp2_with fail
      refine (iActivityIndex_any _ p X.1 S _ (HP1.out _ G) (fun b hb => Nat.lt_of_lt_of_le (HS.out b hb) G.size)).mono ?_
      rintro e w2 ⟨rfl, g2⟩
      have G0 : Bel w1 w2 := g2
      have G : Bel w w2 := by (repeat (first | exact Bel.refl _ | apply Bel.drewN | apply Bel.drew | apply Bel.alloc | refine Bel.trans ?_ (by assumption)))
      have b0 := G0.cell b0
      have b1 := G0.cell b1
      have b2 := G0.cell b2
      have b3 := G0.cell b3
      have b4 := G0.cell b4
      by_cases he : actIndex p.2.1 X.1 = k
      · have he1 : (actIndex p.2.1 X.1 != (k : Int)) = false := by simp [he]
        have HE := Lib.hid (show actAtOk p k = true from by unfold actAtOk; rw [HX.out, HBk.out, decide_eq_true he]; rfl)
        clear he
        go_wp2
        go_roundw
        case rel =>
          refine ⟨k + 1, by omega, by go_num, fun j hj => ?_, G, b0, b1, b2, b3, b4⟩
          by_cases e : j < k
          · exact HA.out j e
          · obtain rfl : j = k := by omega
            exact HE.out
        case measure => simp [intOf]; omega
      · have he1 : (actIndex p.2.1 X.1 != (k : Int)) = true := by simp [he]
        have HF := Lib.hid (show projOk p = false from projOk_acts hlt (by unfold actAtOk; rw [HX.out, decide_eq_false he]; simp))
        clear he
        go_wp2
        go_ret
        exact ⟨ret_bool HF.out.symm, by (repeat (first | exact Bel.refl _ | apply Bel.drewN | apply Bel.drew | apply Bel.alloc | refine Bel.trans ?_ (by assumption)))⟩
    · have HALL1 := Lib.hid (show ∀ j, j < p.2.1.length → actAtOk p j = true from fun j hj => HA.out j (by omega))
      clear HA
      go_wp2_with fail
      clear hk hlt
      go_loopw [67] (fun i wr => ∃ (k : Nat), k ≤ p.2.2.2.1.length ∧ i = .int .i64 k ∧ (∀ j, j < k → resOkB (p.2.2.2.1.getD j zRes) = true) ∧ Bel w wr ∧ wr.cell? ⟨w.heap.size, 0, none⟩ = some (.int .i64 p.1) ∧ wr.cell? ⟨w.heap.size, 1, none⟩ = some (.slice p1 p.2.1.length k1) ∧ wr.cell? ⟨w.heap.size, 2, none⟩ = some (.slice p2 p.2.2.1.length k2) ∧ wr.cell? ⟨w.heap.size, 3, none⟩ = some (.slice p3 p.2.2.2.1.length k3) ∧ wr.cell? ⟨w.heap.size, 4, none⟩ = some (.slice p4 p.2.2.2.2.length k4)) (fun i _ => p.2.2.2.1.length - (intOf i).toNat)
      case atStart => exact ⟨0, Nat.zero_le _, rfl, fun j hj => by omega, hB, b0, b1, b2, b3, b4⟩
      case round =>
        clear b0 b1 b2 b3 b4 hB
        obtain ⟨k, hk, rfl, hall, hB, b0, b1, b2, b3, b4⟩ := hrel
        have HA := Lib.hid hall; clear hall
        by_cases hlt : k < p.2.2.2.1.length
        · obtain ⟨b, off, ecs, ea, hrow, hel⟩ := sliceR_at zRes Q3.out hlt
          obtain rfl : p3 = some ⟨b, off, none⟩ := ea
          have hel := resR_good.bel hel hB HS.out
          have HSw := Lib.hid (show ∀ b, S b → b < wr.heap.size from fun b hb => Nat.lt_of_lt_of_le (HS.out b hb) hB.size)
          generalize hX : p.2.2.2.1.getD k zRes = X at *
          have HX := Lib.hid hX; clear hX
          have HEL := Lib.hid hel
          obtain ⟨ec0, ec1, rfl, eq0, eq1⟩ := resR_open hel
          obtain ⟨ec0p, ec0k, rfl, _⟩ := sliceR_open eq0
          obtain ⟨ec1p, ec1k, rfl, _⟩ := sliceR_open eq1
          have ed0 := hB.cell (hrow 0 (by simp)).1
          have ed1 := hB.cell (hrow 1 (by simp)).1
          simp only [List.getElem_cons_zero, List.getElem_cons_succ, Nat.add_zero] at ed0 ed1
          have ab0 := fun o => ((Bel.refl wr).alloc o).cell b0
          have ab1 := fun o => ((Bel.refl wr).alloc o).cell b1
          have ab2 := fun o => ((Bel.refl wr).alloc o).cell b2
          have ab3 := fun o => ((Bel.refl wr).alloc o).cell b3
          have ab4 := fun o => ((Bel.refl wr).alloc o).cell b4
          clear hrow hel
          go_wp2_with fail
          refine (iResourceOk_any _ X S _ (aggR_mk (resR_good.bel HEL.out (by (repeat (first | exact Bel.refl _ | apply Bel.drewN | apply Bel.drew | apply Bel.alloc | refine Bel.trans ?_ (by assumption)))) HSw.out)) (fun b hb => Nat.lt_of_lt_of_le (HSw.out b hb) (Bel.size (by (repeat (first | exact Bel.refl _ | apply Bel.drewN | apply Bel.drew | apply Bel.alloc | refine Bel.trans ?_ (by assumption))))))).mono ?_
          rintro e w1 ⟨rfl, g1⟩
          have G0 : Bel wr w1 := by (repeat (first | exact Bel.refl _ | apply Bel.drewN | apply Bel.drew | apply Bel.alloc | refine Bel.trans ?_ (by assumption)))
          have G : Bel w w1 := by (repeat (first | exact Bel.refl _ | apply Bel.drewN | apply Bel.drew | apply Bel.alloc | refine Bel.trans ?_ (by assumption)))
          have b0 := G0.cell b0
          have b1 := G0.cell b1
          have b2 := G0.cell b2
          have b3 := G0.cell b3
          have b4 := G0.cell b4
          clear ab0 ab1 ab2 ab3 ab4
          clear hB
          cases hb : resOkB X
          · have HBk := Lib.hid hb; clear hb
            have HF := Lib.hid (show projOk p = false from projOk_ress hlt (by rw [HX.out]; exact HBk.out))
            go_wp2
            go_ret
            exact ⟨ret_bool HF.out.symm, by (repeat (first | exact Bel.refl _ | apply Bel.drewN | apply Bel.drew | apply Bel.alloc | refine Bel.trans ?_ (by assumption)))⟩
          · have HBk := Lib.hid hb; clear hb
            go_wp2
            go_roundw
            case rel =>
              refine ⟨k + 1, by omega, by go_num, fun j hj => ?_, G, b0, b1, b2, b3, b4⟩
              by_cases e : j < k
              · exact HA.out j e
              · obtain rfl : j = k := by omega
                rw [HX.out]; exact HBk.out
            case measure => simp [intOf]; omega
        · have HALL := Lib.hid (show ∀ j, j < p.2.2.2.1.length → resOkB (p.2.2.2.1.getD j zRes) = true from fun j hj => HA.out j (by omega))
          have HALL2 := HALL
          clear HALL HA
          go_wp2_with fail
          clear hk hlt
          go_loopw [78] (fun i wr => ∃ (k : Nat), k ≤ p.2.2.2.2.length ∧ i = .int .i64 k ∧ (∀ j, j < k → inB (p.2.2.2.2.getD j 0) 0 100 = true) ∧ Bel w wr ∧ wr.cell? ⟨w.heap.size, 0, none⟩ = some (.int .i64 p.1) ∧ wr.cell? ⟨w.heap.size, 1, none⟩ = some (.slice p1 p.2.1.length k1) ∧ wr.cell? ⟨w.heap.size, 2, none⟩ = some (.slice p2 p.2.2.1.length k2) ∧ wr.cell? ⟨w.heap.size, 3, none⟩ = some (.slice p3 p.2.2.2.1.length k3) ∧ wr.cell? ⟨w.heap.size, 4, none⟩ = some (.slice p4 p.2.2.2.2.length k4)) (fun i _ => p.2.2.2.2.length - (intOf i).toNat)
          case atStart => exact ⟨0, Nat.zero_le _, rfl, fun j hj => by omega, hB, b0, b1, b2, b3, b4⟩
          case round =>
            clear b0 b1 b2 b3 b4 hB
            obtain ⟨k, hk, rfl, hall, hB, b0, b1, b2, b3, b4⟩ := hrel
            have HA := Lib.hid hall; clear hall
            by_cases hlt : k < p.2.2.2.2.length
            · obtain ⟨b, off, e1, d1⟩ := intsR_at' Q4.out hlt
              obtain rfl : p4 = some ⟨b, off, none⟩ := e1
              have d1 := hB.cell d1
              generalize hX : p.2.2.2.2.getD k 0 = X at *
              have HX := Lib.hid hX; clear hX
              cases hb : inB X 0 100
              · have HF := Lib.hid (show projOk p = false from projOk_stocks hlt (by rw [HX.out]; exact hb))
                go_wp2_with (go_at_call 71; refine (within_any _ _ _ _).mono ?_; rintro e w' ⟨rfl, rfl⟩)
                go_ret
                exact ⟨ret_bool HF.out.symm, by (repeat (first | exact Bel.refl _ | apply Bel.drewN | apply Bel.drew | apply Bel.alloc | refine Bel.trans ?_ (by assumption)))⟩
              · have HE := Lib.hid hb
                go_wp2_with (go_at_call 71; refine (within_any _ _ _ _).mono ?_; rintro e w' ⟨rfl, rfl⟩)
                go_roundw
                case rel =>
                  refine ⟨k + 1, by omega, by go_num, fun j hj => ?_, by (repeat (first | exact Bel.refl _ | apply Bel.drewN | apply Bel.drew | apply Bel.alloc | refine Bel.trans ?_ (by assumption))), b0, b1, b2, b3, b4⟩
                  by_cases e : j < k
                  · exact HA.out j e
                  · obtain rfl : j = k := by omega
                    rw [HX.out]; exact HE.out
                case measure => simp [intOf]; omega
            · have HALL3 := Lib.hid (show ∀ j, j < p.2.2.2.2.length → inB (p.2.2.2.2.getD j 0) 0 100 = true from fun j hj => HA.out j (by omega))
              have HF := Lib.hid (projOk_rest HH.out HALL1.out HALL2.out HALL3.out)
              clear HA
              go_wp2_with fail
              refine (containsLink_any p.1 p1 p.2.1.length k1 _ _ _ (by omega) _ p.2.2.1 S w.heap.size _ (linksR_good.bel Q2.out hB HS.out) (fun b hb => Nat.lt_of_lt_of_le (HS.out b hb) hB.size) b0 b1 b2 b3 b4).mono ?_
              rintro e w1 ⟨rfl, g1⟩
              generalize hz : (List.range p.2.2.1.length).all (fun i => linkOkB p.2.1.length (p.2.2.1.getD i zLink)) = z at *
              have HZ := Lib.hid hz; clear hz
              go_wp2
              go_ret
              exact ⟨ret_bool (by first | exact HF.out.symm | (rw [HF.out, HZ.out]; simp)), by (repeat (first | exact Bel.refl _ | apply Bel.drewN | apply Bel.drew | apply Bel.alloc | refine Bel.trans ?_ (by assumption)))⟩

set_option maxRecDepth 100000 in
set_option maxHeartbeats 4000000 in
theorem sProjectOk_any (v : Value) (p : ProjT) (S : Nat → Prop) (w : World) (hx : aggR projR S w v p) (hS : ∀ b, S b → b < w.heap.size) :
    Calls Tryz.prog 64 #[v] w fun e w' => e = .returned (.bool (projOk p)) ∧ Bel w w' := by
  obtain ⟨cs, rfl, hx⟩ := hx
  obtain ⟨c1, c2, c3, c4, rfl, q0, q1, q2, q3, q4⟩ := projR_open hx
  have Q1 := Lib.hid q1
  have Q2 := Lib.hid q2
  have Q3 := Lib.hid q3
  have Q4 := Lib.hid q4
  have HP := Lib.hid hx
  obtain ⟨p1, k1, rfl, l1, l1', -⟩ := sliceR_open q1
  obtain ⟨p2, k2, rfl, l2, l2', -⟩ := sliceR_open q2
  obtain ⟨p3, k3, rfl, l3, l3', -⟩ := sliceR_open q3
  obtain ⟨p4, k4, rfl, l4, l4', -⟩ := sliceR_open q4
  unfold maxLen at l1' l2' l3' l4'
  clear hx q0 q1 q2 q3 q4
  have HS := Lib.hid hS
  clear hS
  show Calls Tryz.prog 64 #[.agg #[.int .i64 p.1, .slice p1 p.2.1.length k1, .slice p2 p.2.2.1.length k2, .slice p3 p.2.2.2.1.length k3, .slice p4 p.2.2.2.2.length k4]] w _
  cases h1 : inB p.1 1 60
  · have HF := Lib.hid (headOk_no1 h1)
    go_enter Tryz.func64, Tryz.ntmps64
    go_wp2_with (go_at_call 65; refine (l01In_any _ _ _ _).mono ?_; rintro e w' ⟨rfl, rfl⟩)
    go_ret
    exact ⟨ret_bool HF.out.symm, by (repeat (first | exact Bel.refl _ | apply Bel.drewN | apply Bel.drew | apply Bel.alloc | refine Bel.trans ?_ (by assumption)))⟩
  cases h2 : inB (p.2.1.length : Int) 1 6
  · have HF := Lib.hid (headOk_no2 h2)
    go_enter Tryz.func64, Tryz.ntmps64
    go_wp2_with (go_at_call 65; refine (l01In_any _ _ _ _).mono ?_; rintro e w' ⟨rfl, rfl⟩)
    go_ret
    exact ⟨ret_bool HF.out.symm, by (repeat (first | exact Bel.refl _ | apply Bel.drewN | apply Bel.drew | apply Bel.alloc | refine Bel.trans ?_ (by assumption)))⟩
  by_cases h3 : p.2.2.2.1.length ≤ 3
  rotate_left
  · have HF := Lib.hid (headOk_no3 h3)
    go_enter Tryz.func64, Tryz.ntmps64
    go_wp2_with (go_at_call 65; refine (l01In_any _ _ _ _).mono ?_; rintro e w' ⟨rfl, rfl⟩)
    go_ret
    exact ⟨ret_bool HF.out.symm, by (repeat (first | exact Bel.refl _ | apply Bel.drewN | apply Bel.drew | apply Bel.alloc | refine Bel.trans ?_ (by assumption)))⟩
  by_cases h4 : p.2.2.2.2.length ≤ 2
  rotate_left
  · have HF := Lib.hid (headOk_no4 h4)
    go_enter Tryz.func64, Tryz.ntmps64
    go_wp2_with (go_at_call 65; refine (l01In_any _ _ _ _).mono ?_; rintro e w' ⟨rfl, rfl⟩)
    go_ret
    exact ⟨ret_bool HF.out.symm, by (repeat (first | exact Bel.refl _ | apply Bel.drewN | apply Bel.drew | apply Bel.alloc | refine Bel.trans ?_ (by assumption)))⟩
  by_cases h5 : p.2.2.1.length ≤ 12
  rotate_left
  · have HF := Lib.hid (headOk_no5 h5)
    go_enter Tryz.func64, Tryz.ntmps64
    go_wp2_with (go_at_call 65; refine (l01In_any _ _ _ _).mono ?_; rintro e w' ⟨rfl, rfl⟩)
    go_ret
    exact ⟨ret_bool HF.out.symm, by (repeat (first | exact Bel.refl _ | apply Bel.drewN | apply Bel.drew | apply Bel.alloc | refine Bel.trans ?_ (by assumption)))⟩
  have HH := Lib.hid (headOk_yes h1 h2 h3 h4 h5)
  have hn : p.2.1.length ≤ 6 := by simp only [inB, Bool.and_eq_true, decide_eq_true_eq] at h2; omega
  have hn1 : 1 ≤ p.2.1.length := by simp only [inB, Bool.and_eq_true, decide_eq_true_eq] at h2; omega
  have HP1 := Lib.hid (show ∀ W, Bel w W → aggR projR S W (.agg #[.int .i64 p.1, .slice p1 p.2.1.length k1, .slice p2 p.2.2.1.length k2, .slice p3 p.2.2.2.1.length k3, .slice p4 p.2.2.2.2.length k4]) p from fun W hW => aggR_mk (projR_good.bel HP.out hW HS.out))
  go_enter Tryz.func64, Tryz.ntmps64
  go_wp2_with (go_at_call 65; refine (l01In_any _ _ _ _).mono ?_; rintro e w' ⟨rfl, rfl⟩)
  go_loopw [45] (fun i wr => ∃ (k : Nat), k ≤ p.2.1.length ∧ i = .int .i64 k ∧ (∀ j, j < k → actAtOk p j = true) ∧ Bel w wr ∧ wr.cell? ⟨w.heap.size, 0, none⟩ = some (.int .i64 p.1) ∧ wr.cell? ⟨w.heap.size, 1, none⟩ = some (.slice p1 p.2.1.length k1) ∧ wr.cell? ⟨w.heap.size, 2, none⟩ = some (.slice p2 p.2.2.1.length k2) ∧ wr.cell? ⟨w.heap.size, 3, none⟩ = some (.slice p3 p.2.2.2.1.length k3) ∧ wr.cell? ⟨w.heap.size, 4, none⟩ = some (.slice p4 p.2.2.2.2.length k4)) (fun i _ => p.2.1.length - (intOf i).toNat)
  case atStart => exact ⟨0, Nat.zero_le _, rfl, fun j hj => by omega, by (repeat (first | exact Bel.refl _ | apply Bel.drewN | apply Bel.drew | apply Bel.alloc | refine Bel.trans ?_ (by assumption))), by simp [go_sem], by simp [go_sem], by simp [go_sem], by simp [go_sem], by simp [go_sem]⟩
  case round =>
    obtain ⟨k, hk, rfl, hall, hB, b0, b1, b2, b3, b4⟩ := hrel
    have HA := Lib.hid hall; clear hall
    by_cases hlt : k < p.2.1.length
    · obtain ⟨b, off, ecs, ea, hrow, hel⟩ := sliceR_at zAct Q1.out hlt
      obtain rfl : p1 = some ⟨b, off, none⟩ := ea
      have hel := actR_good.bel hel hB HS.out
      have HSw := Lib.hid (show ∀ b, S b → b < wr.heap.size from fun b hb => Nat.lt_of_lt_of_le (HS.out b hb) hB.size)
      generalize hX : p.2.1.getD k zAct = X at *
      have HX := Lib.hid hX; clear hX
      have HEL := Lib.hid hel
      obtain ⟨ec2, rfl, eq0, eq1, eq2⟩ := actR_open hel
      obtain ⟨ec2p, ec2k, rfl, _⟩ := sliceR_open eq2
      have ed0 := hB.cell (hrow 0 (by simp)).1
      have ed1 := hB.cell (hrow 1 (by simp)).1
      have ed2 := hB.cell (hrow 2 (by simp)).1
      simp only [List.getElem_cons_zero, List.getElem_cons_succ, Nat.add_zero] at ed0 ed1 ed2
      have a0 := fun o => ((Bel.refl wr).alloc o).cell b0
      have a1 := fun o => ((Bel.refl wr).alloc o).cell b1
      have a2 := fun o => ((Bel.refl wr).alloc o).cell b2
      have a3 := fun o => ((Bel.refl wr).alloc o).cell b3
      have a4 := fun o => ((Bel.refl wr).alloc o).cell b4
      clear hrow hel eq0 eq1 eq2
      go_wp2_with fail
      refine (sActivityOk_any _ X _ _ S _ (aggR_mk (actR_good.bel HEL.out (by (repeat (first | exact Bel.refl _ | apply Bel.drewN | apply Bel.drew | apply Bel.alloc | refine Bel.trans ?_ (by assumption)))) HSw.out)) (fun b hb => Nat.lt_of_lt_of_le (HSw.out b hb) (Bel.size (by (repeat (first | exact Bel.refl _ | apply Bel.drewN | apply Bel.drew | apply Bel.alloc | refine Bel.trans ?_ (by assumption))))))).mono ?_
      rintro e w1 ⟨rfl, g1⟩
      have x0 := g1.cell (p := ⟨wr.heap.size, 0, none⟩) (v := .string X.1) (by simp [go_sem])
      have G0 : Bel wr w1 := by (repeat (first | exact Bel.refl _ | apply Bel.drewN | apply Bel.drew | apply Bel.alloc | refine Bel.trans ?_ (by assumption)))
      have G : Bel w w1 := by (repeat (first | exact Bel.refl _ | apply Bel.drewN | apply Bel.drew | apply Bel.alloc | refine Bel.trans ?_ (by assumption)))
      have b0 := G0.cell b0
      have b1 := G0.cell b1
      have b2 := G0.cell b2
      have b3 := G0.cell b3
      have b4 := G0.cell b4
      clear a0 a1 a2 a3 a4 hB
      cases hb : actOkB X p.2.2.2.1.length p.2.2.2.2.length
      · have HF := Lib.hid (show projOk p = false from projOk_acts hlt (by unfold actAtOk; rw [HX.out, hb]; rfl))
        have HBk := Lib.hid hb; clear hb
        go_wp2
        go_ret
        exact ⟨ret_bool HF.out.symm, by (repeat (first | exact Bel.refl _ | apply Bel.drewN | apply Bel.drew | apply Bel.alloc | refine Bel.trans ?_ (by assumption)))⟩
      have HBk := Lib.hid hb; clear hb
      go_wp2_with fail
      refine (sActivityIndex_any _ p X.1 S _ (HP1.out _ G) (fun b hb => Nat.lt_of_lt_of_le (HS.out b hb) G.size)).mono ?_
      rintro e w2 ⟨rfl, g2⟩
      have G0 : Bel w1 w2 := g2
      have G : Bel w w2 := by (repeat (first | exact Bel.refl _ | apply Bel.drewN | apply Bel.drew | apply Bel.alloc | refine Bel.trans ?_ (by assumption)))
      have b0 := G0.cell b0
      have b1 := G0.cell b1
      have b2 := G0.cell b2
      have b3 := G0.cell b3
      have b4 := G0.cell b4
      by_cases he : actIndex p.2.1 X.1 = k
      · have he1 : (actIndex p.2.1 X.1 != (k : Int)) = false := by simp [he]
        have HE := Lib.hid (show actAtOk p k = true from by unfold actAtOk; rw [HX.out, HBk.out, decide_eq_true he]; rfl)
        clear he
        go_wp2
        go_roundw
        case rel =>
          refine ⟨k + 1, by omega, by go_num, fun j hj => ?_, G, b0, b1, b2, b3, b4⟩
          by_cases e : j < k
          · exact HA.out j e
          · obtain rfl : j = k := by omega
            exact HE.out
        case measure => simp [intOf]; omega
      · have he1 : (actIndex p.2.1 X.1 != (k : Int)) = true := by simp [he]
        have HF := Lib.hid (show projOk p = false from projOk_acts hlt (by unfold actAtOk; rw [HX.out, decide_eq_false he]; simp))
        clear he
        go_wp2
        go_ret
        exact ⟨ret_bool HF.out.symm, by (repeat (first | exact Bel.refl _ | apply Bel.drewN | apply Bel.drew | apply Bel.alloc | refine Bel.trans ?_ (by assumption)))⟩
    · have HALL1 := Lib.hid (show ∀ j, j < p.2.1.length → actAtOk p j = true from fun j hj => HA.out j (by omega))
      clear HA
      go_wp2_with fail
      clear hk hlt
      go_loopw [71] (fun i wr => ∃ (k : Nat), k ≤ p.2.2.2.1.length ∧ i = .int .i64 k ∧ (∀ j, j < k → resOkB (p.2.2.2.1.getD j zRes) = true) ∧ Bel w wr ∧ wr.cell? ⟨w.heap.size, 0, none⟩ = some (.int .i64 p.1) ∧ wr.cell? ⟨w.heap.size, 1, none⟩ = some (.slice p1 p.2.1.length k1) ∧ wr.cell? ⟨w.heap.size, 2, none⟩ = some (.slice p2 p.2.2.1.length k2) ∧ wr.cell? ⟨w.heap.size, 3, none⟩ = some (.slice p3 p.2.2.2.1.length k3) ∧ wr.cell? ⟨w.heap.size, 4, none⟩ = some (.slice p4 p.2.2.2.2.length k4)) (fun i _ => p.2.2.2.1.length - (intOf i).toNat)
      case atStart => exact ⟨0, Nat.zero_le _, rfl, fun j hj => by omega, hB, b0, b1, b2, b3, b4⟩
      case round =>
        clear b0 b1 b2 b3 b4 hB
        obtain ⟨k, hk, rfl, hall, hB, b0, b1, b2, b3, b4⟩ := hrel
        have HA := Lib.hid hall; clear hall
        by_cases hlt : k < p.2.2.2.1.length
        · obtain ⟨b, off, ecs, ea, hrow, hel⟩ := sliceR_at zRes Q3.out hlt
          obtain rfl : p3 = some ⟨b, off, none⟩ := ea
          have hel := resR_good.bel hel hB HS.out
          have HSw := Lib.hid (show ∀ b, S b → b < wr.heap.size from fun b hb => Nat.lt_of_lt_of_le (HS.out b hb) hB.size)
          generalize hX : p.2.2.2.1.getD k zRes = X at *
          have HX := Lib.hid hX; clear hX
          have HEL := Lib.hid hel
          obtain ⟨ec0, ec1, rfl, eq0, eq1⟩ := resR_open hel
          obtain ⟨ec0p, ec0k, rfl, _⟩ := sliceR_open eq0
          obtain ⟨ec1p, ec1k, rfl, _⟩ := sliceR_open eq1
          have ed0 := hB.cell (hrow 0 (by simp)).1
          have ed1 := hB.cell (hrow 1 (by simp)).1
          simp only [List.getElem_cons_zero, List.getElem_cons_succ, Nat.add_zero] at ed0 ed1
          have ab0 := fun o => ((Bel.refl wr).alloc o).cell b0
          have ab1 := fun o => ((Bel.refl wr).alloc o).cell b1
          have ab2 := fun o => ((Bel.refl wr).alloc o).cell b2
          have ab3 := fun o => ((Bel.refl wr).alloc o).cell b3
          have ab4 := fun o => ((Bel.refl wr).alloc o).cell b4
          clear hrow hel
          go_wp2_with fail
          refine (sResourceOk_any _ X S _ (aggR_mk (resR_good.bel HEL.out (by (repeat (first | exact Bel.refl _ | apply Bel.drewN | apply Bel.drew | apply Bel.alloc | refine Bel.trans ?_ (by assumption)))) HSw.out)) (fun b hb => Nat.lt_of_lt_of_le (HSw.out b hb) (Bel.size (by (repeat (first | exact Bel.refl _ | apply Bel.drewN | apply Bel.drew | apply Bel.alloc | refine Bel.trans ?_ (by assumption))))))).mono ?_
          rintro e w1 ⟨rfl, g1⟩
          have G0 : Bel wr w1 := by (repeat (first | exact Bel.refl _ | apply Bel.drewN | apply Bel.drew | apply Bel.alloc | refine Bel.trans ?_ (by assumption)))
          have G : Bel w w1 := by (repeat (first | exact Bel.refl _ | apply Bel.drewN | apply Bel.drew | apply Bel.alloc | refine Bel.trans ?_ (by assumption)))
          have b0 := G0.cell b0
          have b1 := G0.cell b1
          have b2 := G0.cell b2
          have b3 := G0.cell b3
          have b4 := G0.cell b4
          clear ab0 ab1 ab2 ab3 ab4
          clear hB
          cases hb : resOkB X
          · have HBk := Lib.hid hb; clear hb
            have HF := Lib.hid (show projOk p = false from projOk_ress hlt (by rw [HX.out]; exact HBk.out))
            go_wp2
            go_ret
            exact ⟨ret_bool HF.out.symm, by (repeat (first | exact Bel.refl _ | apply Bel.drewN | apply Bel.drew | apply Bel.alloc | refine Bel.trans ?_ (by assumption)))⟩
          · have HBk := Lib.hid hb; clear hb
            go_wp2
            go_roundw
            case rel =>
              refine ⟨k + 1, by omega, by go_num, fun j hj => ?_, G, b0, b1, b2, b3, b4⟩
              by_cases e : j < k
              · exact HA.out j e
              · obtain rfl : j = k := by omega
                rw [HX.out]; exact HBk.out
            case measure => simp [intOf]; omega
        · have HALL := Lib.hid (show ∀ j, j < p.2.2.2.1.length → resOkB (p.2.2.2.1.getD j zRes) = true from fun j hj => HA.out j (by omega))
          have HALL2 := HALL
          clear HALL HA
          go_wp2_with fail
          clear hk hlt
          go_loopw [82] (fun i wr => ∃ (k : Nat), k ≤ p.2.2.2.2.length ∧ i = .int .i64 k ∧ (∀ j, j < k → inB (p.2.2.2.2.getD j 0) 0 100 = true) ∧ Bel w wr ∧ wr.cell? ⟨w.heap.size, 0, none⟩ = some (.int .i64 p.1) ∧ wr.cell? ⟨w.heap.size, 1, none⟩ = some (.slice p1 p.2.1.length k1) ∧ wr.cell? ⟨w.heap.size, 2, none⟩ = some (.slice p2 p.2.2.1.length k2) ∧ wr.cell? ⟨w.heap.size, 3, none⟩ = some (.slice p3 p.2.2.2.1.length k3) ∧ wr.cell? ⟨w.heap.size, 4, none⟩ = some (.slice p4 p.2.2.2.2.length k4)) (fun i _ => p.2.2.2.2.length - (intOf i).toNat)
          case atStart => exact ⟨0, Nat.zero_le _, rfl, fun j hj => by omega, hB, b0, b1, b2, b3, b4⟩
          case round =>
            clear b0 b1 b2 b3 b4 hB
            obtain ⟨k, hk, rfl, hall, hB, b0, b1, b2, b3, b4⟩ := hrel
            have HA := Lib.hid hall; clear hall
            by_cases hlt : k < p.2.2.2.2.length
            · obtain ⟨b, off, e1, d1⟩ := intsR_at' Q4.out hlt
              obtain rfl : p4 = some ⟨b, off, none⟩ := e1
              have d1 := hB.cell d1
              generalize hX : p.2.2.2.2.getD k 0 = X at *
              have HX := Lib.hid hX; clear hX
              cases hb : inB X 0 100
              · have HF := Lib.hid (show projOk p = false from projOk_stocks hlt (by rw [HX.out]; exact hb))
                go_wp2_with (go_at_call 65; refine (l01In_any _ _ _ _).mono ?_; rintro e w' ⟨rfl, rfl⟩)
                go_ret
                exact ⟨ret_bool HF.out.symm, by (repeat (first | exact Bel.refl _ | apply Bel.drewN | apply Bel.drew | apply Bel.alloc | refine Bel.trans ?_ (by assumption)))⟩
              · have HE := Lib.hid hb
                go_wp2_with (go_at_call 65; refine (l01In_any _ _ _ _).mono ?_; rintro e w' ⟨rfl, rfl⟩)
                go_roundw
                case rel =>
                  refine ⟨k + 1, by omega, by go_num, fun j hj => ?_, by (repeat (first | exact Bel.refl _ | apply Bel.drewN | apply Bel.drew | apply Bel.alloc | refine Bel.trans ?_ (by assumption))), b0, b1, b2, b3, b4⟩
                  by_cases e : j < k
                  · exact HA.out j e
                  · obtain rfl : j = k := by omega
                    rw [HX.out]; exact HE.out
                case measure => simp [intOf]; omega
            · have HALL3 := Lib.hid (show ∀ j, j < p.2.2.2.2.length → inB (p.2.2.2.2.getD j 0) 0 100 = true from fun j hj => HA.out j (by omega))
              clear HA
              go_wp2_with fail
              clear hk hlt
              go_loopw [93] (fun i wr => ∃ (k : Nat), k ≤ p.2.2.1.length ∧ i = .int .i64 k ∧ (∀ j, j < k → linkOkB p.2.1.length (p.2.2.1.getD j zLink) = true) ∧ Bel w wr) (fun i _ => p.2.2.1.length - (intOf i).toNat)
              case atStart => exact ⟨0, Nat.zero_le _, rfl, fun j hj => by omega, hB⟩
              case round =>
                clear b0 b1 b2 b3 b4 hB
                obtain ⟨k, hk, rfl, hall, hB⟩ := hrel
                have HA := Lib.hid hall; clear hall
                by_cases hlt : k < p.2.2.1.length
                · obtain ⟨b, off, ecs, ea, hrow, hel⟩ := sliceR_at zLink Q2.out hlt
                  obtain rfl : p2 = some ⟨b, off, none⟩ := ea
                  generalize hX : p.2.2.1.getD k zLink = X at *
                  have HX := Lib.hid hX; clear hX
                  obtain ⟨rfl, eq0, eq1, eq3⟩ := linkR_open hel
                  obtain ⟨xa, xb, xf, xl⟩ := X
                  have ed0 := hB.cell (hrow 0 (by simp)).1
                  have ed1 := hB.cell (hrow 1 (by simp)).1
                  have ed2 := hB.cell (hrow 2 (by simp)).1
                  have ed3 := hB.cell (hrow 3 (by simp)).1
                  simp only [List.getElem_cons_zero, List.getElem_cons_succ, Nat.add_zero] at ed0 ed1 ed2 ed3
                  clear hrow hel eq0 eq1 eq3
                  cases t1 : inB xa 0 (p.2.1.length - 1)
                  · have HF := Lib.hid (show projOk p = false from projOk_links hlt (by rw [HX.out]; show (inB xa 0 (p.2.1.length - 1) && (inB xb 0 (p.2.1.length - 1) && (!decide (xa = xb) && inB xl (-60) 60))) = false; rw [t1]; rfl))
                    go_wp2_with (go_at_call 65; refine (l01In_any _ _ _ _).mono ?_; rintro e w' ⟨rfl, rfl⟩)
                    go_ret
                    exact ⟨ret_bool HF.out.symm, by (repeat (first | exact Bel.refl _ | apply Bel.drewN | apply Bel.drew | apply Bel.alloc | refine Bel.trans ?_ (by assumption)))⟩
                  cases t2 : inB xb 0 (p.2.1.length - 1)
                  · have HF := Lib.hid (show projOk p = false from projOk_links hlt (by rw [HX.out]; show (inB xa 0 (p.2.1.length - 1) && (inB xb 0 (p.2.1.length - 1) && (!decide (xa = xb) && inB xl (-60) 60))) = false; rw [t2]; simp))
                    go_wp2_with (go_at_call 65; refine (l01In_any _ _ _ _).mono ?_; rintro e w' ⟨rfl, rfl⟩)
                    go_ret
                    exact ⟨ret_bool HF.out.symm, by (repeat (first | exact Bel.refl _ | apply Bel.drewN | apply Bel.drew | apply Bel.alloc | refine Bel.trans ?_ (by assumption)))⟩
                  by_cases t3 : xa = xb
                  · have z3 : (xa == xb) = true := by simp [t3]
                    have T3 := Lib.hid t3; clear t3
                    have HF := Lib.hid (show projOk p = false from projOk_links hlt (by rw [HX.out]; show (inB xa 0 (p.2.1.length - 1) && (inB xb 0 (p.2.1.length - 1) && (!decide (xa = xb) && inB xl (-60) 60))) = false; rw [decide_eq_true T3.out]; simp))
                    go_wp2_with (go_at_call 65; refine (l01In_any _ _ _ _).mono ?_; rintro e w' ⟨rfl, rfl⟩)
                    go_ret
                    exact ⟨ret_bool HF.out.symm, by (repeat (first | exact Bel.refl _ | apply Bel.drewN | apply Bel.drew | apply Bel.alloc | refine Bel.trans ?_ (by assumption)))⟩
                  have z3 : (xa == xb) = false := by simp [t3]
                  have T3 := Lib.hid t3; clear t3
                  cases t4 : inB xl (-60) 60
                  · have HF := Lib.hid (show projOk p = false from projOk_links hlt (by rw [HX.out]; show (inB xa 0 (p.2.1.length - 1) && (inB xb 0 (p.2.1.length - 1) && (!decide (xa = xb) && inB xl (-60) 60))) = false; rw [t4]; simp))
                    go_wp2_with (go_at_call 65; refine (l01In_any _ _ _ _).mono ?_; rintro e w' ⟨rfl, rfl⟩)
                    go_ret
                    exact ⟨ret_bool HF.out.symm, by (repeat (first | exact Bel.refl _ | apply Bel.drewN | apply Bel.drew | apply Bel.alloc | refine Bel.trans ?_ (by assumption)))⟩
                  have HE := Lib.hid (show (inB xa 0 (p.2.1.length - 1) && (inB xb 0 (p.2.1.length - 1) && (!decide (xa = xb) && inB xl (-60) 60))) = true from by rw [t1, t2, decide_eq_false T3.out, t4]; rfl)
                  go_wp2_with (go_at_call 65; refine (l01In_any _ _ _ _).mono ?_; rintro e w' ⟨rfl, rfl⟩)
                  go_roundw
                  case rel =>
                    refine ⟨k + 1, by omega, by go_num, fun j hj => ?_, by (repeat (first | exact Bel.refl _ | apply Bel.drewN | apply Bel.drew | apply Bel.alloc | refine Bel.trans ?_ (by assumption)))⟩
                    by_cases e : j < k
                    · exact HA.out j e
                    · obtain rfl : j = k := by omega
                      rw [HX.out]; exact HE.out
                  case measure => simp [intOf]; omega
                · have HF := Lib.hid (show projOk p = true from (projOk_rest HH.out HALL1.out HALL2.out HALL3.out).trans (all_true (c := fun i => linkOkB p.2.1.length (p.2.2.1.getD i zLink)) fun j hj => HA.out j (by omega)))
                  go_wp2
                  go_ret
                  exact ⟨ret_bool HF.out.symm, by (repeat (first | exact Bel.refl _ | apply Bel.drewN | apply Bel.drew | apply Bel.alloc | refine Bel.trans ?_ (by assumption)))⟩

end Go.Proofs.YtkfpciggolkjeaaGreatDoor
