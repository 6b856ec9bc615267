/- Contracts of ActivityIndex. -/
import Derived.Test.YtkfpciggolkjeaaGreatDoorName
import Derived.Test.YtkfpciggolkjeaaGreatDoorEq
namespace Go.Proofs.YtkfpciggolkjeaaGreatDoor
open Go.ChangeShapes Go.WideShapes Go.ChangeAt Go.RowKit
set_option linter.unusedVariables false

theorem closName_any (x : ActT) (c2 : Value) (B : Nat) (n : ByteArray) (w : World) (hB : w.cell? ⟨B, 0, none⟩ = some (.string n)) :
    Calls Tryz.prog 88 #[.agg #[.string x.1, .int .i64 x.2.1, c2], .pointer (some ⟨B, 0, none⟩)] w fun e w' => e = .returned (.bool (decide (x.1 = n))) ∧ Bel w w' := by
  have a0 := fun o => ((Bel.refl w).alloc o).cell hB
  clear hB
  by_cases h : x.1 = n
  · have b1 : (x.1.toList == n.toList) = true := by rw [h]; exact beq_self_eq_true _
    have H := Lib.hid h; clear h
    go_enter Tryz.func88, Tryz.ntmps88
    go_wp2
    go_ret
    exact ⟨ret_bool (decide_eq_true H.out).symm, by (repeat (first | exact Bel.refl _ | apply Bel.drewN | apply Bel.drew | apply Bel.alloc | refine Bel.trans ?_ (by assumption)))⟩
  · have b1 : (x.1.toList == n.toList) = false := beq_eq_false_iff_ne.2 fun e => h (toList_inj e)
    have H := Lib.hid h; clear h
    go_enter Tryz.func88, Tryz.ntmps88
    go_wp2
    go_ret
    exact ⟨ret_bool (decide_eq_false H.out).symm, by (repeat (first | exact Bel.refl _ | apply Bel.drewN | apply Bel.drew | apply Bel.alloc | refine Bel.trans ?_ (by assumption)))⟩

set_option maxHeartbeats 400000 in
theorem indexName_any (v : Value) (xs : List ActT) (S : Nat → Prop) (B : Nat) (n : ByteArray) (w : World) (hx : actsR S w [v] xs) (hS : ∀ b, S b → b < w.heap.size) (hB : w.cell? ⟨B, 0, none⟩ = some (.string n)) :
    Calls Tryz.prog 87 #[v, .func (.func 88) #[] #[.pointer (some ⟨B, 0, none⟩)]] w fun e w' => e = .returned (.int .i64 (actIndex xs n)) ∧ Bel w w' := by
  have HM := Lib.hid hx
  have HS := Lib.hid hS
  have HBn := Lib.hid hB
  obtain ⟨p2, k2, hv, l2, l2', hr⟩ := sliceR_open hx
  clear hr
  subst hv
  unfold maxLen at l2'
  clear hx hS hB
  go_enter Tryz.func87, Tryz.ntmps87
  go_wp2_with fail
  go_loopw [8] (fun i wr => ∃ (k : Nat), k ≤ xs.length ∧ i = .int .i64 k ∧ (∀ j, j < k → (xs.getD j zAct).1 ≠ n) ∧ Bel w wr) (fun i _ => xs.length - (intOf i).toNat)
  case atStart => exact ⟨0, Nat.zero_le _, rfl, fun j hj => by omega, by (repeat (first | exact Bel.refl _ | apply Bel.drewN | apply Bel.drew | apply Bel.alloc | refine Bel.trans ?_ (by assumption)))⟩
  case round =>
    obtain ⟨k, hk, rfl, hall, hB⟩ := hrel
    have HA := Lib.hid hall; clear hall
    by_cases hlt : k < xs.length
    · obtain ⟨b, off, ecs, ea, hrow, hel⟩ := sliceR_at zAct HM.out hlt
      obtain rfl : p2 = some ⟨b, off, none⟩ := ea
      generalize hX : xs.getD k zAct = X at *
      have HX := Lib.hid hX; clear hX
      obtain ⟨ec2, rfl, eq0, eq1, eq2⟩ := actR_open hel
      obtain ⟨ep, ek, rfl, _⟩ := sliceR_open eq2
      have ed0 := hB.cell (hrow 0 (by simp)).1
      have ed1 := hB.cell (hrow 1 (by simp)).1
      have ed2 := hB.cell (hrow 2 (by simp)).1
      simp only [List.getElem_cons_zero, List.getElem_cons_succ, Nat.add_zero] at ed0 ed1 ed2
      clear hrow hel eq0 eq1 eq2
      by_cases h : X.1 = n
      · have b1 : decide (X.1 = n) = true := decide_eq_true h
        have H := Lib.hid h; clear h
        have HE := Lib.hid (show actIndex xs n = k from actIndex_yes hlt (by rw [HX.out]; exact H.out) HA.out)
        go_wp2_with fail
        refine (closName_any X _ B n _ (hB.cell HBn.out)).mono ?_
        rintro e w1 ⟨rfl, g1⟩
        rw [b1]
        have G : Bel w w1 := by (repeat (first | exact Bel.refl _ | apply Bel.drewN | apply Bel.drew | apply Bel.alloc | refine Bel.trans ?_ (by assumption)))
        go_wp2
        go_ret
        exact ⟨ret_int HE.out.symm, G⟩
      · have b1 : decide (X.1 = n) = false := decide_eq_false h
        have H := Lib.hid h; clear h
        go_wp2_with fail
        refine (closName_any X _ B n _ (hB.cell HBn.out)).mono ?_
        rintro e w1 ⟨rfl, g1⟩
        rw [b1]
        have G : Bel w w1 := by (repeat (first | exact Bel.refl _ | apply Bel.drewN | apply Bel.drew | apply Bel.alloc | refine Bel.trans ?_ (by assumption)))
        go_wp2
        go_roundw
        case rel =>
          refine ⟨k + 1, by omega, by go_num, fun j hj => ?_, G⟩
          by_cases e : j < k
          · exact HA.out j e
          · obtain rfl : j = k := by omega
            rw [HX.out]; exact H.out
        case measure => simp [intOf]; omega
    · have HE := Lib.hid (show actIndex xs n = -1 from actIndex_no fun j hj => HA.out j (by omega))
      go_wp2
      go_ret
      exact ⟨ret_int HE.out.symm, hB⟩

theorem iActivityIndex_any (v : Value) (p : ProjT) (n : ByteArray) (S : Nat → Prop) (w : World) (hx : aggR projR S w v p) (hS : ∀ b, S b → b < w.heap.size) :
    Calls Tryz.prog 51 #[v, .string n] w fun e w' => e = .returned (.int .i64 (actIndex p.2.1 n)) ∧ Bel w w' := by
  obtain ⟨cs, rfl, hx⟩ := hx
  obtain ⟨c1, c2, c3, c4, rfl, q0, q1, q2, q3, q4⟩ := projR_open hx
  have Q1 := Lib.hid q1
  have Q2 := Lib.hid q2
  have Q3 := Lib.hid q3
  have Q4 := Lib.hid q4
  have HP := Lib.hid hx
  obtain ⟨p1, k1, rfl, l1, l1', _⟩ := sliceR_open q1
  obtain ⟨p2, k2, rfl, l2, l2', _⟩ := sliceR_open q2
  obtain ⟨p3, k3, rfl, l3, l3', _⟩ := sliceR_open q3
  obtain ⟨p4, k4, rfl, l4, l4', _⟩ := sliceR_open q4
  unfold maxLen at l1' l2' l3' l4'
  clear hx q0 q1 q2 q3 q4
  have HS := Lib.hid hS
  clear hS
  show Calls Tryz.prog 51 #[.agg #[.int .i64 p.1, .slice p1 p.2.1.length k1, .slice p2 p.2.2.1.length k2, .slice p3 p.2.2.2.1.length k3, .slice p4 p.2.2.2.2.length k4], .string n] w _
  go_enter Tryz.func51, Tryz.ntmps51
  go_wp2_with fail
  refine (indexName_any _ p.2.1 S (w.heap.size + 1) n _ (actsR_good.bel Q1.out (by (repeat (first | exact Bel.refl _ | apply Bel.drewN | apply Bel.drew | apply Bel.alloc | refine Bel.trans ?_ (by assumption)))) HS.out) (fun b hb => Nat.lt_of_lt_of_le (HS.out b hb) (Bel.size (by (repeat (first | exact Bel.refl _ | apply Bel.drewN | apply Bel.drew | apply Bel.alloc | refine Bel.trans ?_ (by assumption)))))) (by simp [go_sem])).mono ?_
  rintro e w1 ⟨rfl, g1⟩
  go_wp2
  go_ret
  exact ⟨rfl, by (repeat (first | exact Bel.refl _ | apply Bel.drewN | apply Bel.drew | apply Bel.alloc | refine Bel.trans ?_ (by assumption)))⟩

set_option maxHeartbeats 400000 in
theorem sActivityIndex_any (v : Value) (p : ProjT) (n : ByteArray) (S : Nat → Prop) (w : World) (hx : aggR projR S w v p) (hS : ∀ b, S b → b < w.heap.size) :
    Calls Tryz.prog 47 #[v, .string n] w fun e w' => e = .returned (.int .i64 (actIndex p.2.1 n)) ∧ Bel w w' := by
  obtain ⟨cs, rfl, hx⟩ := hx
  obtain ⟨c1, c2, c3, c4, rfl, q0, q1, q2, q3, q4⟩ := projR_open hx
  have Q1 := Lib.hid q1
  have Q2 := Lib.hid q2
  have Q3 := Lib.hid q3
  have Q4 := Lib.hid q4
  have HP := Lib.hid hx
  obtain ⟨p1, k1, rfl, l1, l1', _⟩ := sliceR_open q1
  obtain ⟨p2, k2, rfl, l2, l2', _⟩ := sliceR_open q2
  obtain ⟨p3, k3, rfl, l3, l3', _⟩ := sliceR_open q3
  obtain ⟨p4, k4, rfl, l4, l4', _⟩ := sliceR_open q4
  unfold maxLen at l1' l2' l3' l4'
  clear hx q0 q1 q2 q3 q4
  clear hS
  show Calls Tryz.prog 47 #[.agg #[.int .i64 p.1, .slice p1 p.2.1.length k1, .slice p2 p.2.2.1.length k2, .slice p3 p.2.2.2.1.length k3, .slice p4 p.2.2.2.2.length k4], .string n] w _
  go_enter Tryz.func47, Tryz.ntmps47
  go_wp2_with fail
  go_loopw [10] (fun i wr => ∃ (k : Nat), k ≤ p.2.1.length ∧ i = .int .i64 k ∧ (∀ j, j < k → (p.2.1.getD j zAct).1 ≠ n) ∧ Bel w wr) (fun i _ => p.2.1.length - (intOf i).toNat)
  case atStart => exact ⟨0, Nat.zero_le _, rfl, fun j hj => by omega, by (repeat (first | exact Bel.refl _ | apply Bel.drewN | apply Bel.drew | apply Bel.alloc | refine Bel.trans ?_ (by assumption)))⟩
  case round =>
    obtain ⟨k, hk, rfl, hall, hB⟩ := hrel
    have HA := Lib.hid hall; clear hall
    by_cases hlt : k < p.2.1.length
    · obtain ⟨b, off, ecs, ea, hrow, hel⟩ := sliceR_at zAct Q1.out hlt
      obtain rfl : p1 = some ⟨b, off, none⟩ := ea
      generalize hX : p.2.1.getD k zAct = X at *
      have HX := Lib.hid hX; clear hX
      obtain ⟨ec2, rfl, eq0, eq1, eq2⟩ := actR_open hel
      obtain ⟨ep, ek, rfl, _⟩ := sliceR_open eq2
      have ed0 := hB.cell (hrow 0 (by simp)).1
      have ed1 := hB.cell (hrow 1 (by simp)).1
      have ed2 := hB.cell (hrow 2 (by simp)).1
      simp only [List.getElem_cons_zero, List.getElem_cons_succ, Nat.add_zero] at ed0 ed1 ed2
      clear hrow hel eq0 eq1 eq2
      by_cases h : X.1 = n
      · have b1 : (X.1.toList == n.toList) = true := by rw [h]; exact beq_self_eq_true _
        have H := Lib.hid h; clear h
        have HE := Lib.hid (show actIndex p.2.1 n = k from actIndex_yes hlt (by rw [HX.out]; exact H.out) HA.out)
        go_wp2
        go_ret
        exact ⟨ret_int HE.out.symm, by (repeat (first | exact Bel.refl _ | apply Bel.drewN | apply Bel.drew | apply Bel.alloc | refine Bel.trans ?_ (by assumption)))⟩
      · have b1 : (X.1.toList == n.toList) = false := beq_eq_false_iff_ne.2 fun e => h (toList_inj e)
        have H := Lib.hid h; clear h
        go_wp2
        go_roundw
        case rel =>
          refine ⟨k + 1, by omega, by go_num, fun j hj => ?_, hB.alloc _⟩
          by_cases e : j < k
          · exact HA.out j e
          · obtain rfl : j = k := by omega
            rw [HX.out]; exact H.out
        case measure => simp [intOf]; omega
    · have HE := Lib.hid (show actIndex p.2.1 n = -1 from actIndex_no fun j hj => HA.out j (by omega))
      go_wp2
      go_ret
      exact ⟨ret_int HE.out.symm, hB⟩

end Go.Proofs.YtkfpciggolkjeaaGreatDoor
