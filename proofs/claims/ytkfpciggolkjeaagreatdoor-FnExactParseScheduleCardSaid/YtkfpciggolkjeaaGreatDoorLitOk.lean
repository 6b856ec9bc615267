/- Contracts of LiteralOk. -/
import Derived.Test.YtkfpciggolkjeaaGreatDoorProjOk
import Derived.Test.YtkfpciggolkjeaaGreatDoorHolds
namespace Go.Proofs.YtkfpciggolkjeaaGreatDoor
open Go.ChangeShapes Go.WideShapes Go.ChangeAt Go.RowKit
set_option linter.unusedVariables false

def litAt (l : LitT) (m : Int) : Bool := if l.1 = 1 then inBv l.2.2 (-1) 61 else if l.1 = 2 then inBv l.2.2 (-1) 61 else if l.1 = 3 then inBv l.2.2 0 (m - 1) else if l.1 = 4 then inBv l.2.2 0 (m - 1) else false
def litOkB (p : ProjT) (l : LitT) : Bool := projOk p && (inBv l.2.1 0 ((p.2.1.length : Int) - 1) && litAt l (p.2.1.getD l.2.1.toNat zAct).2.2.length)

set_option maxHeartbeats 1000000 in
theorem iLiteralOk_any (v : Value) (p : ProjT) (S : Nat → Prop) (l : LitT) (w : World) (hx : aggR projR S w v p) (hS : ∀ b, S b → b < w.heap.size) (_hn : bulkProject p ≤ 1048576) :
    Calls Tryz.prog 89 #[v, .agg #[.int .i64 l.1, .int .i64 l.2.1, .int .i64 l.2.2]] w fun e w' => e = .returned (.bool (litOkB p l)) ∧ Bel w w' := by
  obtain ⟨cs, rfl, hx⟩ := hx
  obtain ⟨c1, c2, c3, c4, rfl, q0, q1, q2, q3, q4⟩ := projR_open hx
  have Q1 := Lib.hid q1
  have Q2 := Lib.hid q2
  have Q3 := Lib.hid q3
  have Q4 := Lib.hid q4
  have HP := Lib.hid hx
  obtain ⟨p1, k1, rfl, l1, l1', -⟩ := sliceR_open q1
  obtain ⟨p2, k2, rfl, l2, l2', -⟩ := sliceR_open q2
  obtain ⟨p3, k3, rfl, l3, l3', -⟩ := sliceR_open q3
  obtain ⟨p4, k4, rfl, l4, l4', -⟩ := sliceR_open q4
  unfold maxLen at l1' l2' l3' l4'
  clear hx q0 q1 q2 q3 q4
  have HS := Lib.hid hS
  clear hS _hn
  obtain ⟨lk, la, lv⟩ := l
  have HP1 := Lib.hid (show ∀ W, Bel w W → aggR projR S W (.agg #[.int .i64 p.1, .slice p1 p.2.1.length k1, .slice p2 p.2.2.1.length k2, .slice p3 p.2.2.2.1.length k3, .slice p4 p.2.2.2.2.length k4]) p from fun W hW => aggR_mk (projR_good.bel HP.out hW HS.out))
  show Calls Tryz.prog 89 #[.agg #[.int .i64 p.1, .slice p1 p.2.1.length k1, .slice p2 p.2.2.1.length k2, .slice p3 p.2.2.2.1.length k3, .slice p4 p.2.2.2.2.length k4], .agg #[.int .i64 lk, .int .i64 la, .int .i64 lv]] w _
  go_enter Tryz.func89, Tryz.ntmps89
  go_wp2_with fail
  refine (iProjectOk_any _ p S _ (HP1.out _ (by (repeat (first | exact Bel.refl _ | apply Bel.drewN | apply Bel.drew | apply Bel.alloc | refine Bel.trans ?_ (by assumption))))) (fun b hb => Nat.lt_of_lt_of_le (HS.out b hb) (Bel.size (by (repeat (first | exact Bel.refl _ | apply Bel.drewN | apply Bel.drew | apply Bel.alloc | refine Bel.trans ?_ (by assumption))))))).mono ?_
  rintro e w1 ⟨rfl, g1⟩
  have b0 := g1.cell (p := ⟨w.heap.size, 0, none⟩) (v := .int .i64 p.1) (by simp [go_sem])
  have b1 := g1.cell (p := ⟨w.heap.size, 1, none⟩) (v := .slice p1 p.2.1.length k1) (by simp [go_sem])
  have b2 := g1.cell (p := ⟨w.heap.size, 2, none⟩) (v := .slice p2 p.2.2.1.length k2) (by simp [go_sem])
  have b3 := g1.cell (p := ⟨w.heap.size, 3, none⟩) (v := .slice p3 p.2.2.2.1.length k3) (by simp [go_sem])
  have b4 := g1.cell (p := ⟨w.heap.size, 4, none⟩) (v := .slice p4 p.2.2.2.2.length k4) (by simp [go_sem])
  have e0 := g1.cell (p := ⟨w.heap.size + 1, 0, none⟩) (v := .int .i64 lk) (by simp [go_sem])
  have e1 := g1.cell (p := ⟨w.heap.size + 1, 1, none⟩) (v := .int .i64 la) (by simp [go_sem])
  have e2 := g1.cell (p := ⟨w.heap.size + 1, 2, none⟩) (v := .int .i64 lv) (by simp [go_sem])
  have G : Bel w w1 := by (repeat (first | exact Bel.refl _ | apply Bel.drewN | apply Bel.drew | apply Bel.alloc | refine Bel.trans ?_ (by assumption)))
  cases hp : projOk p
  · have HF := Lib.hid (show litOkB p (lk, la, lv) = false from by unfold litOkB; rw [hp]; rfl)
    clear hp
    go_wp2
    go_ret
    exact ⟨ret_bool HF.out.symm, by (repeat (first | exact Bel.refl _ | apply Bel.drewN | apply Bel.drew | apply Bel.alloc | refine Bel.trans ?_ (by assumption)))⟩
  have HPO := Lib.hid hp; clear hp
  go_wp2_with fail
  refine (hasActivity_any _ _ _ _ _ _ _ (by omega) _ _).mono ?_
  rintro e w2 ⟨rfl, g2⟩
  have b0 := g2.cell b0
  have b1 := g2.cell b1
  have b2 := g2.cell b2
  have b3 := g2.cell b3
  have b4 := g2.cell b4
  have e0 := g2.cell e0
  have e1 := g2.cell e1
  have e2 := g2.cell e2
  have G : Bel w w2 := by (repeat (first | exact Bel.refl _ | apply Bel.drewN | apply Bel.drew | apply Bel.alloc | refine Bel.trans ?_ (by assumption)))
  cases ha : inB la 0 ((p.2.1.length : Int) - 1)
  · have HF := Lib.hid (show litOkB p (lk, la, lv) = false from by unfold litOkB; rw [show inBv (lk, la, lv).2.1 0 ((p.2.1.length : Int) - 1) = false from ha]; simp)
    clear ha
    go_wp2
    go_ret
    exact ⟨ret_bool HF.out.symm, by (repeat (first | exact Bel.refl _ | apply Bel.drewN | apply Bel.drew | apply Bel.alloc | refine Bel.trans ?_ (by assumption)))⟩
  obtain ⟨k, rfl, hlt⟩ := inB_idx ha
  have HF0 := Lib.hid (show litOkB p (lk, (k : Int), lv) = litAt (lk, (k : Int), lv) (p.2.1.getD k zAct).2.2.length from by unfold litOkB; rw [HPO.out, show inBv (lk, ((k : Nat) : Int), lv).2.1 0 ((p.2.1.length : Int) - 1) = true from ha]; rfl)
  clear ha
  obtain ⟨ab, ao, acs, aea, arow, ael⟩ := sliceR_at zAct Q1.out hlt
  obtain rfl : p1 = some ⟨ab, ao, none⟩ := aea
  obtain ⟨ac2, rfl, aq0, aq1, aq2⟩ := actR_open ael
  have HMea := Lib.hid aq2
  obtain ⟨am, amk, rfl, aml, aml', -⟩ := sliceR_open aq2
  unfold maxLen at aml'
  have ea0 := G.cell (arow 0 (by simp)).1
  have ea1 := G.cell (arow 1 (by simp)).1
  have ea2 := G.cell (arow 2 (by simp)).1
  simp only [List.getElem_cons_zero, List.getElem_cons_succ, Nat.add_zero] at ea0 ea1 ea2
  clear arow ael aq0 aq1 aq2
  generalize p.2.1.getD k zAct = X at *
  have hki : (k : Int) < (p.2.1.length : Int) := by omega
  by_cases c1 : lk = 1
  · subst c1
    have HF := Lib.hid (show litOkB p (1, (k : Int), lv) = inBv lv (-1) 61 from by rw [HF0.out]; rfl)
    go_wp2_with (go_at_call 71; refine (within_any _ _ _ _).mono ?_; rintro e w' ⟨rfl, rfl⟩)
    all_goals go_ret
    all_goals exact ⟨ret_bool HF.out.symm, by (repeat (first | exact Bel.refl _ | apply Bel.drewN | apply Bel.drew | apply Bel.alloc | refine Bel.trans ?_ (by assumption)))⟩
  by_cases c2 : lk = 2
  · subst c2
    have HF := Lib.hid (show litOkB p (2, (k : Int), lv) = inBv lv (-1) 61 from by rw [HF0.out]; rfl)
    go_wp2_with (go_at_call 71; refine (within_any _ _ _ _).mono ?_; rintro e w' ⟨rfl, rfl⟩)
    all_goals go_ret
    all_goals exact ⟨ret_bool HF.out.symm, by (repeat (first | exact Bel.refl _ | apply Bel.drewN | apply Bel.drew | apply Bel.alloc | refine Bel.trans ?_ (by assumption)))⟩
  by_cases c3 : lk = 3
  · subst c3
    have HF := Lib.hid (show litOkB p (3, (k : Int), lv) = inBv lv 0 ((X.2.2.length : Int) - 1) from by rw [HF0.out]; rfl)
    go_wp2_with (go_at_call 71; refine (within_any _ _ _ _).mono ?_; rintro e w' ⟨rfl, rfl⟩)
    go_quiet ((go_at_call 71; exact quiet_one (within_any _ _ _ _)))
    go_wp2
    all_goals go_ret
    all_goals exact ⟨ret_bool HF.out.symm, by (repeat (first | exact Bel.refl _ | apply Bel.drewN | apply Bel.drew | apply Bel.alloc | refine Bel.trans ?_ (by assumption)))⟩
  by_cases c4 : lk = 4
  · subst c4
    have HF := Lib.hid (show litOkB p (4, (k : Int), lv) = inBv lv 0 ((X.2.2.length : Int) - 1) from by rw [HF0.out]; rfl)
    go_wp2_with (go_at_call 71; refine (within_any _ _ _ _).mono ?_; rintro e w' ⟨rfl, rfl⟩)
    go_quiet ((go_at_call 71; exact quiet_one (within_any _ _ _ _)))
    go_wp2
    all_goals go_ret
    all_goals exact ⟨ret_bool HF.out.symm, by (repeat (first | exact Bel.refl _ | apply Bel.drewN | apply Bel.drew | apply Bel.alloc | refine Bel.trans ?_ (by assumption)))⟩
  have e1 : (lk == 1) = false := by simpa using c1
  have e2 : (lk == 2) = false := by simpa using c2
  have e3 : (lk == 3) = false := by simpa using c3
  have e4 : (lk == 4) = false := by simpa using c4
  have HF := Lib.hid (show litOkB p (lk, (k : Int), lv) = false from by rw [HF0.out]; simp [litAt, c1, c2, c3, c4])
  clear c1 c2 c3 c4
  go_wp2_with (go_at_call 71; refine (within_any _ _ _ _).mono ?_; rintro e w' ⟨rfl, rfl⟩)
  go_ret
  exact ⟨ret_bool HF.out.symm, by (repeat (first | exact Bel.refl _ | apply Bel.drewN | apply Bel.drew | apply Bel.alloc | refine Bel.trans ?_ (by assumption)))⟩

set_option maxHeartbeats 1000000 in
theorem sLiteralOk_any (v : Value) (p : ProjT) (S : Nat → Prop) (l : LitT) (w : World) (hx : aggR projR S w v p) (hS : ∀ b, S b → b < w.heap.size) (_hn : bulkProject p ≤ 1048576) :
    Calls Tryz.prog 84 #[v, .agg #[.int .i64 l.1, .int .i64 l.2.1, .int .i64 l.2.2]] w fun e w' => e = .returned (.bool (litOkB p l)) ∧ Bel w w' := by
  obtain ⟨cs, rfl, hx⟩ := hx
  obtain ⟨c1, c2, c3, c4, rfl, q0, q1, q2, q3, q4⟩ := projR_open hx
  have Q1 := Lib.hid q1
  have Q2 := Lib.hid q2
  have Q3 := Lib.hid q3
  have Q4 := Lib.hid q4
  have HP := Lib.hid hx
  obtain ⟨p1, k1, rfl, l1, l1', -⟩ := sliceR_open q1
  obtain ⟨p2, k2, rfl, l2, l2', -⟩ := sliceR_open q2
  obtain ⟨p3, k3, rfl, l3, l3', -⟩ := sliceR_open q3
  obtain ⟨p4, k4, rfl, l4, l4', -⟩ := sliceR_open q4
  unfold maxLen at l1' l2' l3' l4'
  clear hx q0 q1 q2 q3 q4
  have HS := Lib.hid hS
  clear hS _hn
  obtain ⟨lk, la, lv⟩ := l
  have HP1 := Lib.hid (show ∀ W, Bel w W → aggR projR S W (.agg #[.int .i64 p.1, .slice p1 p.2.1.length k1, .slice p2 p.2.2.1.length k2, .slice p3 p.2.2.2.1.length k3, .slice p4 p.2.2.2.2.length k4]) p from fun W hW => aggR_mk (projR_good.bel HP.out hW HS.out))
  show Calls Tryz.prog 84 #[.agg #[.int .i64 p.1, .slice p1 p.2.1.length k1, .slice p2 p.2.2.1.length k2, .slice p3 p.2.2.2.1.length k3, .slice p4 p.2.2.2.2.length k4], .agg #[.int .i64 lk, .int .i64 la, .int .i64 lv]] w _
  go_enter Tryz.func84, Tryz.ntmps84
  go_wp2_with fail
  refine (sProjectOk_any _ p S _ (HP1.out _ (by (repeat (first | exact Bel.refl _ | apply Bel.drewN | apply Bel.drew | apply Bel.alloc | refine Bel.trans ?_ (by assumption))))) (fun b hb => Nat.lt_of_lt_of_le (HS.out b hb) (Bel.size (by (repeat (first | exact Bel.refl _ | apply Bel.drewN | apply Bel.drew | apply Bel.alloc | refine Bel.trans ?_ (by assumption))))))).mono ?_
  rintro e w1 ⟨rfl, g1⟩
  have b0 := g1.cell (p := ⟨w.heap.size, 0, none⟩) (v := .int .i64 p.1) (by simp [go_sem])
  have b1 := g1.cell (p := ⟨w.heap.size, 1, none⟩) (v := .slice p1 p.2.1.length k1) (by simp [go_sem])
  have b2 := g1.cell (p := ⟨w.heap.size, 2, none⟩) (v := .slice p2 p.2.2.1.length k2) (by simp [go_sem])
  have b3 := g1.cell (p := ⟨w.heap.size, 3, none⟩) (v := .slice p3 p.2.2.2.1.length k3) (by simp [go_sem])
  have b4 := g1.cell (p := ⟨w.heap.size, 4, none⟩) (v := .slice p4 p.2.2.2.2.length k4) (by simp [go_sem])
  have e0 := g1.cell (p := ⟨w.heap.size + 1, 0, none⟩) (v := .int .i64 lk) (by simp [go_sem])
  have e1 := g1.cell (p := ⟨w.heap.size + 1, 1, none⟩) (v := .int .i64 la) (by simp [go_sem])
  have e2 := g1.cell (p := ⟨w.heap.size + 1, 2, none⟩) (v := .int .i64 lv) (by simp [go_sem])
  have G : Bel w w1 := by (repeat (first | exact Bel.refl _ | apply Bel.drewN | apply Bel.drew | apply Bel.alloc | refine Bel.trans ?_ (by assumption)))
  cases hp : projOk p
  · have HF := Lib.hid (show litOkB p (lk, la, lv) = false from by unfold litOkB; rw [hp]; rfl)
    clear hp
    go_wp2
    go_ret
    exact ⟨ret_bool HF.out.symm, by (repeat (first | exact Bel.refl _ | apply Bel.drewN | apply Bel.drew | apply Bel.alloc | refine Bel.trans ?_ (by assumption)))⟩
  have HPO := Lib.hid hp; clear hp
  have G : Bel w w1 := by (repeat (first | exact Bel.refl _ | apply Bel.drewN | apply Bel.drew | apply Bel.alloc | refine Bel.trans ?_ (by assumption)))
  cases ha : inB la 0 ((p.2.1.length : Int) - 1)
  · have HF := Lib.hid (show litOkB p (lk, la, lv) = false from by unfold litOkB; rw [show inBv (lk, la, lv).2.1 0 ((p.2.1.length : Int) - 1) = false from ha]; simp)
    skip
    go_wp2_with (go_at_call 65; refine (l01In_any _ _ _ _).mono ?_; rintro e w' ⟨rfl, rfl⟩)
    go_ret
    exact ⟨ret_bool HF.out.symm, by (repeat (first | exact Bel.refl _ | apply Bel.drewN | apply Bel.drew | apply Bel.alloc | refine Bel.trans ?_ (by assumption)))⟩
  obtain ⟨k, rfl, hlt⟩ := inB_idx ha
  have HF0 := Lib.hid (show litOkB p (lk, (k : Int), lv) = litAt (lk, (k : Int), lv) (p.2.1.getD k zAct).2.2.length from by unfold litOkB; rw [HPO.out, show inBv (lk, ((k : Nat) : Int), lv).2.1 0 ((p.2.1.length : Int) - 1) = true from ha]; rfl)
  skip
  obtain ⟨ab, ao, acs, aea, arow, ael⟩ := sliceR_at zAct Q1.out hlt
  obtain rfl : p1 = some ⟨ab, ao, none⟩ := aea
  obtain ⟨ac2, rfl, aq0, aq1, aq2⟩ := actR_open ael
  have HMea := Lib.hid aq2
  obtain ⟨am, amk, rfl, aml, aml', -⟩ := sliceR_open aq2
  unfold maxLen at aml'
  have ea0 := G.cell (arow 0 (by simp)).1
  have ea1 := G.cell (arow 1 (by simp)).1
  have ea2 := G.cell (arow 2 (by simp)).1
  simp only [List.getElem_cons_zero, List.getElem_cons_succ, Nat.add_zero] at ea0 ea1 ea2
  clear arow ael aq0 aq1 aq2
  generalize p.2.1.getD k zAct = X at *
  have hki : (k : Int) < (p.2.1.length : Int) := by omega
  by_cases c1 : lk = 1
  · subst c1
    have HF := Lib.hid (show litOkB p (1, (k : Int), lv) = inBv lv (-1) 61 from by rw [HF0.out]; rfl)
    go_wp2_with (go_at_call 65; refine (l01In_any _ _ _ _).mono ?_; rintro e w' ⟨rfl, rfl⟩)
    all_goals go_ret
    all_goals exact ⟨ret_bool HF.out.symm, by (repeat (first | exact Bel.refl _ | apply Bel.drewN | apply Bel.drew | apply Bel.alloc | refine Bel.trans ?_ (by assumption)))⟩
  by_cases c2 : lk = 2
  · subst c2
    have HF := Lib.hid (show litOkB p (2, (k : Int), lv) = inBv lv (-1) 61 from by rw [HF0.out]; rfl)
    go_wp2_with (go_at_call 65; refine (l01In_any _ _ _ _).mono ?_; rintro e w' ⟨rfl, rfl⟩)
    all_goals go_ret
    all_goals exact ⟨ret_bool HF.out.symm, by (repeat (first | exact Bel.refl _ | apply Bel.drewN | apply Bel.drew | apply Bel.alloc | refine Bel.trans ?_ (by assumption)))⟩
  by_cases c3 : lk = 3
  · subst c3
    have HF := Lib.hid (show litOkB p (3, (k : Int), lv) = inBv lv 0 ((X.2.2.length : Int) - 1) from by rw [HF0.out]; rfl)
    go_wp2_with (go_at_call 65; refine (l01In_any _ _ _ _).mono ?_; rintro e w' ⟨rfl, rfl⟩)
    go_quiet ((go_at_call 65; exact quiet_one (l01In_any _ _ _ _)))
    go_wp2
    all_goals go_ret
    all_goals exact ⟨ret_bool HF.out.symm, by (repeat (first | exact Bel.refl _ | apply Bel.drewN | apply Bel.drew | apply Bel.alloc | refine Bel.trans ?_ (by assumption)))⟩
  by_cases c4 : lk = 4
  · subst c4
    have HF := Lib.hid (show litOkB p (4, (k : Int), lv) = inBv lv 0 ((X.2.2.length : Int) - 1) from by rw [HF0.out]; rfl)
    go_wp2_with (go_at_call 65; refine (l01In_any _ _ _ _).mono ?_; rintro e w' ⟨rfl, rfl⟩)
    go_quiet ((go_at_call 65; exact quiet_one (l01In_any _ _ _ _)))
    go_wp2
    all_goals go_ret
    all_goals exact ⟨ret_bool HF.out.symm, by (repeat (first | exact Bel.refl _ | apply Bel.drewN | apply Bel.drew | apply Bel.alloc | refine Bel.trans ?_ (by assumption)))⟩
  have e1 : (lk == 1) = false := by simpa using c1
  have e2 : (lk == 2) = false := by simpa using c2
  have e3 : (lk == 3) = false := by simpa using c3
  have e4 : (lk == 4) = false := by simpa using c4
  have HF := Lib.hid (show litOkB p (lk, (k : Int), lv) = false from by rw [HF0.out]; simp [litAt, c1, c2, c3, c4])
  clear c1 c2 c3 c4
  go_wp2_with (go_at_call 65; refine (l01In_any _ _ _ _).mono ?_; rintro e w' ⟨rfl, rfl⟩)
  go_ret
  exact ⟨ret_bool HF.out.symm, by (repeat (first | exact Bel.refl _ | apply Bel.drewN | apply Bel.drew | apply Bel.alloc | refine Bel.trans ?_ (by assumption)))⟩

end Go.Proofs.YtkfpciggolkjeaaGreatDoor
