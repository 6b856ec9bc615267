/- Contracts of hasResource, hasStock, IsMachine, RuleOk. -/
import Derived.Test.YtkfpciggolkjeaaGreatDoorProjOk
import Derived.Test.YtkfpciggolkjeaaGreatDoorHolds
namespace Go.Proofs.YtkfpciggolkjeaaGreatDoor
open Go.ChangeShapes Go.WideShapes Go.ChangeAt Go.RowKit
set_option linter.unusedVariables false

theorem hasResource_any (d : Int) (c1 c2 : Value) (p3 : Option Addr) (n3 k3 : Nat) (c4 : Value) (hn : n3 ≤ 9223372036854775807) (a : Int) (w : World) :
    Calls Tryz.prog 73 #[.agg #[.int .i64 d, c1, c2, .slice p3 n3 k3, c4], .int .i64 a] w fun e w' => e = .returned (.bool (inB a 0 (n3 - 1))) ∧ Bel w w' := by
  go_enter Tryz.func73, Tryz.ntmps73
  have hw : IntKind.i64.wrap ((n3 : Int) - 1) = (n3 : Int) - 1 := IntWalk.i64_in _ (by omega)
  clear hn
  go_wp2_with (go_at_call 71; refine (within_any _ _ _ _).mono ?_; rintro e w' ⟨rfl, rfl⟩)
  go_ret
  exact ⟨rfl, by (repeat (first | exact Bel.refl _ | apply Bel.drewN | apply Bel.drew | apply Bel.alloc | refine Bel.trans ?_ (by assumption)))⟩

theorem hasStock_any (d : Int) (c1 c2 c3 : Value) (p4 : Option Addr) (n4 k4 : Nat) (hn : n4 ≤ 9223372036854775807) (a : Int) (w : World) :
    Calls Tryz.prog 76 #[.agg #[.int .i64 d, c1, c2, c3, .slice p4 n4 k4], .int .i64 a] w fun e w' => e = .returned (.bool (inB a 0 (n4 - 1))) ∧ Bel w w' := by
  go_enter Tryz.func76, Tryz.ntmps76
  have hw : IntKind.i64.wrap ((n4 : Int) - 1) = (n4 : Int) - 1 := IntWalk.i64_in _ (by omega)
  clear hn
  go_wp2_with (go_at_call 71; refine (within_any _ _ _ _).mono ?_; rintro e w' ⟨rfl, rfl⟩)
  go_ret
  exact ⟨rfl, by (repeat (first | exact Bel.refl _ | apply Bel.drewN | apply Bel.drew | apply Bel.alloc | refine Bel.trans ?_ (by assumption)))⟩

def machB (p : ProjT) (a : Int) : Bool := inBv a 0 ((p.2.2.2.1.length : Int) - 1) && decide (0 < (p.2.2.2.1.getD a.toNat zRes).2.length)
/-- What is asked of a rule of a well formed project. -/
def ruleAt (p : ProjT) (k a b c : Int) : Bool :=
  if k = 1 then inBv a 0 ((p.2.2.1.length : Int) - 1) && (decide (b = 0) && decide (c = 0))
  else if k = 2 then inBv a 0 ((p.2.1.length : Int) - 1) && (decide (b = 0) && decide (c = 0))
  else if k = 3 then inBv a 0 ((p.2.2.2.1.length : Int) - 1) && (inBv b 0 60 && decide (c = 0))
  else if k = 4 then inBv a 0 ((p.2.2.2.1.length : Int) - 1) && (inBv b 0 60 && (inBv c 0 60 && decide (b < c)))
  else if k = 5 then machB p a && (inBv b 0 ((p.2.1.length : Int) - 1) && (inBv c 0 ((p.2.1.length : Int) - 1) && decide (b < c)))
  else if k = 6 then inBv a 0 ((p.2.2.2.2.length : Int) - 1) && (decide (b = 0) && decide (c = 0))
  else false
def ruleOkB (p : ProjT) (r : RuleT) : Bool := projOk p && ruleAt p r.1 r.2.1 r.2.2.1 r.2.2.2

set_option maxHeartbeats 400000 in
theorem iIsMachine_any (v : Value) (p : ProjT) (S : Nat → Prop) (a : Int) (w : World) (hx : aggR projR S w v p) (hS : ∀ b, S b → b < w.heap.size) (_hn : bulkProject p ≤ 1048576) :
    Calls Tryz.prog 75 #[v, .int .i64 a] w fun e w' => e = .returned (.bool (machB p a)) ∧ Bel w w' := by
  obtain ⟨cs, rfl, hx⟩ := hx
  obtain ⟨c1, c2, c3, c4, rfl, q0, q1, q2, q3, q4⟩ := projR_open hx
  have Q1 := Lib.hid q1
  have Q2 := Lib.hid q2
  have Q3 := Lib.hid q3
  have Q4 := Lib.hid q4
  have HP := Lib.hid hx
  obtain ⟨p1, k1, rfl, l1, l1', -⟩ := sliceR_open q1
  obtain ⟨p2, k2, rfl, l2, l2', -⟩ := sliceR_open q2
  obtain ⟨p3, k3, rfl, l3, l3', -⟩ := sliceR_open q3
  obtain ⟨p4, k4, rfl, l4, l4', -⟩ := sliceR_open q4
  unfold maxLen at l1' l2' l3' l4'
  clear hx q0 q1 q2 q3 q4
  have HS := Lib.hid hS
  clear hS _hn
  show Calls Tryz.prog 75 #[.agg #[.int .i64 p.1, .slice p1 p.2.1.length k1, .slice p2 p.2.2.1.length k2, .slice p3 p.2.2.2.1.length k3, .slice p4 p.2.2.2.2.length k4], .int .i64 a] w _
  go_enter Tryz.func75, Tryz.ntmps75
  go_wp2_with fail
  refine (hasResource_any _ _ _ _ _ _ _ (by omega) _ _).mono ?_
  rintro e w1 ⟨rfl, g1⟩
  have b0 := g1.cell (p := ⟨w.heap.size, 0, none⟩) (v := .int .i64 p.1) (by simp [go_sem])
  have b1 := g1.cell (p := ⟨w.heap.size, 1, none⟩) (v := .slice p1 p.2.1.length k1) (by simp [go_sem])
  have b2 := g1.cell (p := ⟨w.heap.size, 2, none⟩) (v := .slice p2 p.2.2.1.length k2) (by simp [go_sem])
  have b3 := g1.cell (p := ⟨w.heap.size, 3, none⟩) (v := .slice p3 p.2.2.2.1.length k3) (by simp [go_sem])
  have b4 := g1.cell (p := ⟨w.heap.size, 4, none⟩) (v := .slice p4 p.2.2.2.2.length k4) (by simp [go_sem])
  have G : Bel w w1 := by (repeat (first | exact Bel.refl _ | apply Bel.drewN | apply Bel.drew | apply Bel.alloc | refine Bel.trans ?_ (by assumption)))
  cases ha : inB a 0 ((p.2.2.2.1.length : Int) - 1)
  · have HF := Lib.hid (show machB p a = false from by unfold machB; rw [← inB_v a, ha]; rfl)
    clear ha
    go_wp2
    go_ret
    exact ⟨ret_bool HF.out.symm, by (repeat (first | exact Bel.refl _ | apply Bel.drewN | apply Bel.drew | apply Bel.alloc | refine Bel.trans ?_ (by assumption)))⟩
  obtain ⟨k, rfl, hlt⟩ := inB_idx ha
  have HF := Lib.hid (show machB p (k : Int) = decide (0 < (p.2.2.2.1.getD k zRes).2.length) from by unfold machB; rw [← inB_v (k : Int), ha]; rfl)
  clear ha
  obtain ⟨rb, ro, rcs, rea, rrow, rel⟩ := sliceR_at zRes Q3.out hlt
  obtain rfl : p3 = some ⟨rb, ro, none⟩ := rea
  obtain ⟨rc0, rc1, rfl, rq0, rq1⟩ := resR_open rel
  obtain ⟨rm, rmk, rfl, rml, rml', -⟩ := sliceR_open rq1
  unfold maxLen at rml'
  have rr := G.cell (rrow 1 (by simp)).1
  simp only [List.getElem_cons_zero, List.getElem_cons_succ] at rr
  clear rrow rel rq0 rq1
  generalize p.2.2.2.1.getD k zRes = X at *
  have hki : (k : Int) < (p.2.2.2.1.length : Int) := by omega
  by_cases hz : 0 < X.2.length
  · have hz1 : decide ((0 : Int) < (X.2.length : Int)) = true := by simpa using hz
    have HG := Lib.hid (decide_eq_true hz)
    go_wp2
    go_ret
    exact ⟨ret_bool (by rw [HF.out, HG.out]), by (repeat (first | exact Bel.refl _ | apply Bel.drewN | apply Bel.drew | apply Bel.alloc | refine Bel.trans ?_ (by assumption)))⟩
  · have hz1 : decide ((0 : Int) < (X.2.length : Int)) = false := by simpa using hz
    have HG := Lib.hid (decide_eq_false hz)
    go_wp2
    go_ret
    exact ⟨ret_bool (by rw [HF.out, HG.out]), by (repeat (first | exact Bel.refl _ | apply Bel.drewN | apply Bel.drew | apply Bel.alloc | refine Bel.trans ?_ (by assumption)))⟩

set_option maxHeartbeats 400000 in
theorem sIsMachine_any (v : Value) (p : ProjT) (S : Nat → Prop) (a : Int) (w : World) (hx : aggR projR S w v p) (hS : ∀ b, S b → b < w.heap.size) (_hn : bulkProject p ≤ 1048576) :
    Calls Tryz.prog 66 #[v, .int .i64 a] w fun e w' => e = .returned (.bool (machB p a)) ∧ Bel w w' := by
  obtain ⟨cs, rfl, hx⟩ := hx
  obtain ⟨c1, c2, c3, c4, rfl, q0, q1, q2, q3, q4⟩ := projR_open hx
  have Q1 := Lib.hid q1
  have Q2 := Lib.hid q2
  have Q3 := Lib.hid q3
  have Q4 := Lib.hid q4
  have HP := Lib.hid hx
  obtain ⟨p1, k1, rfl, l1, l1', -⟩ := sliceR_open q1
  obtain ⟨p2, k2, rfl, l2, l2', -⟩ := sliceR_open q2
  obtain ⟨p3, k3, rfl, l3, l3', -⟩ := sliceR_open q3
  obtain ⟨p4, k4, rfl, l4, l4', -⟩ := sliceR_open q4
  unfold maxLen at l1' l2' l3' l4'
  clear hx q0 q1 q2 q3 q4
  have HS := Lib.hid hS
  clear hS _hn
  show Calls Tryz.prog 66 #[.agg #[.int .i64 p.1, .slice p1 p.2.1.length k1, .slice p2 p.2.2.1.length k2, .slice p3 p.2.2.2.1.length k3, .slice p4 p.2.2.2.2.length k4], .int .i64 a] w _
  go_enter Tryz.func66, Tryz.ntmps66
  have G := Bel.refl w
  cases ha : inB a 0 ((p.2.2.2.1.length : Int) - 1)
  · have HF := Lib.hid (show machB p a = false from by unfold machB; rw [← inB_v a, ha]; rfl)
    skip
    go_wp2_with (go_at_call 65; refine (l01In_any _ _ _ _).mono ?_; rintro e w' ⟨rfl, rfl⟩)
    go_ret
    exact ⟨ret_bool HF.out.symm, by (repeat (first | exact Bel.refl _ | apply Bel.drewN | apply Bel.drew | apply Bel.alloc | refine Bel.trans ?_ (by assumption)))⟩
  obtain ⟨k, rfl, hlt⟩ := inB_idx ha
  have HF := Lib.hid (show machB p (k : Int) = decide (0 < (p.2.2.2.1.getD k zRes).2.length) from by unfold machB; rw [← inB_v (k : Int), ha]; rfl)
  skip
  obtain ⟨rb, ro, rcs, rea, rrow, rel⟩ := sliceR_at zRes Q3.out hlt
  obtain rfl : p3 = some ⟨rb, ro, none⟩ := rea
  obtain ⟨rc0, rc1, rfl, rq0, rq1⟩ := resR_open rel
  obtain ⟨rm, rmk, rfl, rml, rml', -⟩ := sliceR_open rq1
  unfold maxLen at rml'
  have rr := G.cell (rrow 1 (by simp)).1
  simp only [List.getElem_cons_zero, List.getElem_cons_succ] at rr
  clear rrow rel rq0 rq1
  generalize p.2.2.2.1.getD k zRes = X at *
  have hki : (k : Int) < (p.2.2.2.1.length : Int) := by omega
  have rr := fun o => ((Bel.refl w).alloc o).cell rr
  by_cases hz : 0 < X.2.length
  · have hz1 : decide ((0 : Int) < (X.2.length : Int)) = true := by simpa using hz
    have HG := Lib.hid (decide_eq_true hz)
    go_wp2_with (go_at_call 65; refine (l01In_any _ _ _ _).mono ?_; rintro e w' ⟨rfl, rfl⟩)
    go_ret
    exact ⟨ret_bool (by rw [HF.out, HG.out]), by (repeat (first | exact Bel.refl _ | apply Bel.drewN | apply Bel.drew | apply Bel.alloc | refine Bel.trans ?_ (by assumption)))⟩
  · have hz1 : decide ((0 : Int) < (X.2.length : Int)) = false := by simpa using hz
    have HG := Lib.hid (decide_eq_false hz)
    go_wp2_with (go_at_call 65; refine (l01In_any _ _ _ _).mono ?_; rintro e w' ⟨rfl, rfl⟩)
    go_ret
    exact ⟨ret_bool (by rw [HF.out, HG.out]), by (repeat (first | exact Bel.refl _ | apply Bel.drewN | apply Bel.drew | apply Bel.alloc | refine Bel.trans ?_ (by assumption)))⟩

set_option maxRecDepth 100000 in
set_option maxHeartbeats 4000000 in
theorem iRuleOk_any (v : Value) (p : ProjT) (S : Nat → Prop) (r : RuleT) (w : World) (hx : aggR projR S w v p) (hS : ∀ b, S b → b < w.heap.size) (_hn : bulkProject p ≤ 1048576) :
    Calls Tryz.prog 37 #[v, .agg #[.int .i64 r.1, .int .i64 r.2.1, .int .i64 r.2.2.1, .int .i64 r.2.2.2]] w fun e w' => e = .returned (.bool (ruleOkB p r)) ∧ Bel w w' := by
  obtain ⟨cs, rfl, hx⟩ := hx
  obtain ⟨c1, c2, c3, c4, rfl, q0, q1, q2, q3, q4⟩ := projR_open hx
  have Q1 := Lib.hid q1
  have Q2 := Lib.hid q2
  have Q3 := Lib.hid q3
  have Q4 := Lib.hid q4
  have HP := Lib.hid hx
  obtain ⟨p1, k1, rfl, l1, l1', -⟩ := sliceR_open q1
  obtain ⟨p2, k2, rfl, l2, l2', -⟩ := sliceR_open q2
  obtain ⟨p3, k3, rfl, l3, l3', -⟩ := sliceR_open q3
  obtain ⟨p4, k4, rfl, l4, l4', -⟩ := sliceR_open q4
  unfold maxLen at l1' l2' l3' l4'
  clear hx q0 q1 q2 q3 q4
  have HS := Lib.hid hS
  have HN := Lib.hid _hn
  clear hS _hn
  obtain ⟨rk, ra, rb, rc⟩ := r
  have HP1 := Lib.hid (show ∀ W, Bel w W → aggR projR S W (.agg #[.int .i64 p.1, .slice p1 p.2.1.length k1, .slice p2 p.2.2.1.length k2, .slice p3 p.2.2.2.1.length k3, .slice p4 p.2.2.2.2.length k4]) p from fun W hW => aggR_mk (projR_good.bel HP.out hW HS.out))
  show Calls Tryz.prog 37 #[.agg #[.int .i64 p.1, .slice p1 p.2.1.length k1, .slice p2 p.2.2.1.length k2, .slice p3 p.2.2.2.1.length k3, .slice p4 p.2.2.2.2.length k4], .agg #[.int .i64 rk, .int .i64 ra, .int .i64 rb, .int .i64 rc]] w _
  go_enter Tryz.func37, Tryz.ntmps37
  go_wp2_with fail
  refine (iProjectOk_any _ p S _ (HP1.out _ (by (repeat (first | exact Bel.refl _ | apply Bel.drewN | apply Bel.drew | apply Bel.alloc | refine Bel.trans ?_ (by assumption))))) (fun b hb => Nat.lt_of_lt_of_le (HS.out b hb) (Bel.size (by (repeat (first | exact Bel.refl _ | apply Bel.drewN | apply Bel.drew | apply Bel.alloc | refine Bel.trans ?_ (by assumption))))))).mono ?_
  rintro e w1 ⟨rfl, g1⟩
  have b0 := g1.cell (p := ⟨w.heap.size, 0, none⟩) (v := .int .i64 p.1) (by simp [go_sem])
  have b1 := g1.cell (p := ⟨w.heap.size, 1, none⟩) (v := .slice p1 p.2.1.length k1) (by simp [go_sem])
  have b2 := g1.cell (p := ⟨w.heap.size, 2, none⟩) (v := .slice p2 p.2.2.1.length k2) (by simp [go_sem])
  have b3 := g1.cell (p := ⟨w.heap.size, 3, none⟩) (v := .slice p3 p.2.2.2.1.length k3) (by simp [go_sem])
  have b4 := g1.cell (p := ⟨w.heap.size, 4, none⟩) (v := .slice p4 p.2.2.2.2.length k4) (by simp [go_sem])
  have e0 := g1.cell (p := ⟨w.heap.size + 1, 0, none⟩) (v := .int .i64 rk) (by simp [go_sem])
  have e1 := g1.cell (p := ⟨w.heap.size + 1, 1, none⟩) (v := .int .i64 ra) (by simp [go_sem])
  have e2 := g1.cell (p := ⟨w.heap.size + 1, 2, none⟩) (v := .int .i64 rb) (by simp [go_sem])
  have e3 := g1.cell (p := ⟨w.heap.size + 1, 3, none⟩) (v := .int .i64 rc) (by simp [go_sem])
  have G : Bel w w1 := by (repeat (first | exact Bel.refl _ | apply Bel.drewN | apply Bel.drew | apply Bel.alloc | refine Bel.trans ?_ (by assumption)))
  cases hp : projOk p
  · have HF := Lib.hid (show ruleOkB p (rk, ra, rb, rc) = false from by unfold ruleOkB; rw [hp]; rfl)
    clear hp
    go_wp2
    go_ret
    exact ⟨ret_bool HF.out.symm, by (repeat (first | exact Bel.refl _ | apply Bel.drewN | apply Bel.drew | apply Bel.alloc | refine Bel.trans ?_ (by assumption)))⟩
  have HF0 := Lib.hid (show ruleOkB p (rk, ra, rb, rc) = ruleAt p rk ra rb rc from by unfold ruleOkB; rw [hp]; rfl)
  clear hp
  by_cases c1 : rk = 1
  · subst c1
    have HV := Lib.hid (show ruleOkB p (1, ra, rb, rc) = (inBv ra 0 ((p.2.2.1.length : Int) - 1) && (decide (rb = 0) && (decide (rc = 0)))) from by rw [HF0.out]; rfl)
    cases t0 : inB ra 0 ((p.2.2.1.length : Int) - 1)
    · have HF := Lib.hid (show ruleOkB p (1, ra, rb, rc) = false from by rw [HV.out, show inBv ra 0 ((p.2.2.1.length : Int) - 1) = false from t0]; simp)
      go_wp2_with (first | (go_at_call 74; refine (isTime_any _ _).mono ?_; rintro e w' ⟨rfl, rfl⟩) | (go_at_call 71; refine (within_any _ _ _ _).mono ?_; rintro e w' ⟨rfl, rfl⟩))
      go_ret
      exact ⟨ret_bool HF.out.symm, by (repeat (first | exact Bel.refl _ | apply Bel.drewN | apply Bel.drew | apply Bel.alloc | refine Bel.trans ?_ (by assumption)))⟩
    have T0 := Lib.hid (show inBv ra 0 ((p.2.2.1.length : Int) - 1) = true from t0)
    by_cases t1 : rb = 0
    rotate_left
    · have z1 : (rb == 0) = false := by simpa using t1
      have HF := Lib.hid (show ruleOkB p (1, ra, rb, rc) = false from by rw [HV.out, decide_eq_false t1]; simp)
      clear t1
      go_wp2_with (first | (go_at_call 74; refine (isTime_any _ _).mono ?_; rintro e w' ⟨rfl, rfl⟩) | (go_at_call 71; refine (within_any _ _ _ _).mono ?_; rintro e w' ⟨rfl, rfl⟩))
      go_ret
      exact ⟨ret_bool HF.out.symm, by (repeat (first | exact Bel.refl _ | apply Bel.drewN | apply Bel.drew | apply Bel.alloc | refine Bel.trans ?_ (by assumption)))⟩
    have z1 : (rb == 0) = true := by simpa using t1
    have T1 := Lib.hid (show decide (rb = 0) = true from decide_eq_true t1)
    clear t1
    by_cases t2 : rc = 0
    rotate_left
    · have z2 : (rc == 0) = false := by simpa using t2
      have HF := Lib.hid (show ruleOkB p (1, ra, rb, rc) = false from by rw [HV.out, decide_eq_false t2]; simp)
      clear t2
      go_wp2_with (first | (go_at_call 74; refine (isTime_any _ _).mono ?_; rintro e w' ⟨rfl, rfl⟩) | (go_at_call 71; refine (within_any _ _ _ _).mono ?_; rintro e w' ⟨rfl, rfl⟩))
      go_ret
      exact ⟨ret_bool HF.out.symm, by (repeat (first | exact Bel.refl _ | apply Bel.drewN | apply Bel.drew | apply Bel.alloc | refine Bel.trans ?_ (by assumption)))⟩
    have z2 : (rc == 0) = true := by simpa using t2
    have T2 := Lib.hid (show decide (rc = 0) = true from decide_eq_true t2)
    clear t2
    have HF := Lib.hid (show ruleOkB p (1, ra, rb, rc) = true from by rw [HV.out, T0.out, T1.out, T2.out]; rfl)
    go_wp2_with (first | (go_at_call 74; refine (isTime_any _ _).mono ?_; rintro e w' ⟨rfl, rfl⟩) | (go_at_call 71; refine (within_any _ _ _ _).mono ?_; rintro e w' ⟨rfl, rfl⟩))
    go_ret
    exact ⟨ret_bool HF.out.symm, by (repeat (first | exact Bel.refl _ | apply Bel.drewN | apply Bel.drew | apply Bel.alloc | refine Bel.trans ?_ (by assumption)))⟩
  by_cases c2 : rk = 2
  · subst c2
    have HV := Lib.hid (show ruleOkB p (2, ra, rb, rc) = (inBv ra 0 ((p.2.1.length : Int) - 1) && (decide (rb = 0) && (decide (rc = 0)))) from by rw [HF0.out]; rfl)
    go_wp2_with fail
    refine (hasActivity_any _ _ _ _ _ _ _ (by omega) _ _).mono ?_
    rintro e w2 ⟨rfl, gw2⟩
    have b0 := gw2.cell b0
    have b1 := gw2.cell b1
    have b2 := gw2.cell b2
    have b3 := gw2.cell b3
    have b4 := gw2.cell b4
    have e0 := gw2.cell e0
    have e1 := gw2.cell e1
    have e2 := gw2.cell e2
    have e3 := gw2.cell e3
    cases t0 : inB ra 0 ((p.2.1.length : Int) - 1)
    · have HF := Lib.hid (show ruleOkB p (2, ra, rb, rc) = false from by rw [HV.out, show inBv ra 0 ((p.2.1.length : Int) - 1) = false from t0]; simp)
      clear t0
      go_wp2_with (first | (go_at_call 74; refine (isTime_any _ _).mono ?_; rintro e w' ⟨rfl, rfl⟩) | (go_at_call 71; refine (within_any _ _ _ _).mono ?_; rintro e w' ⟨rfl, rfl⟩))
      go_ret
      exact ⟨ret_bool HF.out.symm, by (repeat (first | exact Bel.refl _ | apply Bel.drewN | apply Bel.drew | apply Bel.alloc | refine Bel.trans ?_ (by assumption)))⟩
    have T0 := Lib.hid (show inBv ra 0 ((p.2.1.length : Int) - 1) = true from t0)
    clear t0
    by_cases t1 : rb = 0
    rotate_left
    · have z1 : (rb == 0) = false := by simpa using t1
      have HF := Lib.hid (show ruleOkB p (2, ra, rb, rc) = false from by rw [HV.out, decide_eq_false t1]; simp)
      clear t1
      go_wp2_with (first | (go_at_call 74; refine (isTime_any _ _).mono ?_; rintro e w' ⟨rfl, rfl⟩) | (go_at_call 71; refine (within_any _ _ _ _).mono ?_; rintro e w' ⟨rfl, rfl⟩))
      go_ret
      exact ⟨ret_bool HF.out.symm, by (repeat (first | exact Bel.refl _ | apply Bel.drewN | apply Bel.drew | apply Bel.alloc | refine Bel.trans ?_ (by assumption)))⟩
    have z1 : (rb == 0) = true := by simpa using t1
    have T1 := Lib.hid (show decide (rb = 0) = true from decide_eq_true t1)
    clear t1
    by_cases t2 : rc = 0
    rotate_left
    · have z2 : (rc == 0) = false := by simpa using t2
      have HF := Lib.hid (show ruleOkB p (2, ra, rb, rc) = false from by rw [HV.out, decide_eq_false t2]; simp)
      clear t2
      go_wp2_with (first | (go_at_call 74; refine (isTime_any _ _).mono ?_; rintro e w' ⟨rfl, rfl⟩) | (go_at_call 71; refine (within_any _ _ _ _).mono ?_; rintro e w' ⟨rfl, rfl⟩))
      go_ret
      exact ⟨ret_bool HF.out.symm, by (repeat (first | exact Bel.refl _ | apply Bel.drewN | apply Bel.drew | apply Bel.alloc | refine Bel.trans ?_ (by assumption)))⟩
    have z2 : (rc == 0) = true := by simpa using t2
    have T2 := Lib.hid (show decide (rc = 0) = true from decide_eq_true t2)
    clear t2
    have HF := Lib.hid (show ruleOkB p (2, ra, rb, rc) = true from by rw [HV.out, T0.out, T1.out, T2.out]; rfl)
    go_wp2_with (first | (go_at_call 74; refine (isTime_any _ _).mono ?_; rintro e w' ⟨rfl, rfl⟩) | (go_at_call 71; refine (within_any _ _ _ _).mono ?_; rintro e w' ⟨rfl, rfl⟩))
    go_ret
    exact ⟨ret_bool HF.out.symm, by (repeat (first | exact Bel.refl _ | apply Bel.drewN | apply Bel.drew | apply Bel.alloc | refine Bel.trans ?_ (by assumption)))⟩
  by_cases c3 : rk = 3
  · subst c3
    have HV := Lib.hid (show ruleOkB p (3, ra, rb, rc) = (inBv ra 0 ((p.2.2.2.1.length : Int) - 1) && (inBv rb 0 60 && (decide (rc = 0)))) from by rw [HF0.out]; rfl)
    go_wp2_with fail
    refine (hasResource_any _ _ _ _ _ _ _ (by omega) _ _).mono ?_
    rintro e w2 ⟨rfl, gw2⟩
    have b0 := gw2.cell b0
    have b1 := gw2.cell b1
    have b2 := gw2.cell b2
    have b3 := gw2.cell b3
    have b4 := gw2.cell b4
    have e0 := gw2.cell e0
    have e1 := gw2.cell e1
    have e2 := gw2.cell e2
    have e3 := gw2.cell e3
    cases t0 : inB ra 0 ((p.2.2.2.1.length : Int) - 1)
    · have HF := Lib.hid (show ruleOkB p (3, ra, rb, rc) = false from by rw [HV.out, show inBv ra 0 ((p.2.2.2.1.length : Int) - 1) = false from t0]; simp)
      clear t0
      go_wp2_with (first | (go_at_call 74; refine (isTime_any _ _).mono ?_; rintro e w' ⟨rfl, rfl⟩) | (go_at_call 71; refine (within_any _ _ _ _).mono ?_; rintro e w' ⟨rfl, rfl⟩))
      go_ret
      exact ⟨ret_bool HF.out.symm, by (repeat (first | exact Bel.refl _ | apply Bel.drewN | apply Bel.drew | apply Bel.alloc | refine Bel.trans ?_ (by assumption)))⟩
    have T0 := Lib.hid (show inBv ra 0 ((p.2.2.2.1.length : Int) - 1) = true from t0)
    clear t0
    cases t1 : inB rb 0 60
    · have HF := Lib.hid (show ruleOkB p (3, ra, rb, rc) = false from by rw [HV.out, show inBv rb 0 60 = false from t1]; simp)
      go_wp2_with (first | (go_at_call 74; refine (isTime_any _ _).mono ?_; rintro e w' ⟨rfl, rfl⟩) | (go_at_call 71; refine (within_any _ _ _ _).mono ?_; rintro e w' ⟨rfl, rfl⟩))
      go_ret
      exact ⟨ret_bool HF.out.symm, by (repeat (first | exact Bel.refl _ | apply Bel.drewN | apply Bel.drew | apply Bel.alloc | refine Bel.trans ?_ (by assumption)))⟩
    have T1 := Lib.hid (show inBv rb 0 60 = true from t1)
    by_cases t2 : rc = 0
    rotate_left
    · have z2 : (rc == 0) = false := by simpa using t2
      have HF := Lib.hid (show ruleOkB p (3, ra, rb, rc) = false from by rw [HV.out, decide_eq_false t2]; simp)
      clear t2
      go_wp2_with (first | (go_at_call 74; refine (isTime_any _ _).mono ?_; rintro e w' ⟨rfl, rfl⟩) | (go_at_call 71; refine (within_any _ _ _ _).mono ?_; rintro e w' ⟨rfl, rfl⟩))
      go_ret
      exact ⟨ret_bool HF.out.symm, by (repeat (first | exact Bel.refl _ | apply Bel.drewN | apply Bel.drew | apply Bel.alloc | refine Bel.trans ?_ (by assumption)))⟩
    have z2 : (rc == 0) = true := by simpa using t2
    have T2 := Lib.hid (show decide (rc = 0) = true from decide_eq_true t2)
    clear t2
    have HF := Lib.hid (show ruleOkB p (3, ra, rb, rc) = true from by rw [HV.out, T0.out, T1.out, T2.out]; rfl)
    go_wp2_with (first | (go_at_call 74; refine (isTime_any _ _).mono ?_; rintro e w' ⟨rfl, rfl⟩) | (go_at_call 71; refine (within_any _ _ _ _).mono ?_; rintro e w' ⟨rfl, rfl⟩))
    go_ret
    exact ⟨ret_bool HF.out.symm, by (repeat (first | exact Bel.refl _ | apply Bel.drewN | apply Bel.drew | apply Bel.alloc | refine Bel.trans ?_ (by assumption)))⟩
  by_cases c4 : rk = 4
  · subst c4
    have HV := Lib.hid (show ruleOkB p (4, ra, rb, rc) = (inBv ra 0 ((p.2.2.2.1.length : Int) - 1) && (inBv rb 0 60 && (inBv rc 0 60 && (decide (rb < rc))))) from by rw [HF0.out]; rfl)
    go_wp2_with fail
    refine (hasResource_any _ _ _ _ _ _ _ (by omega) _ _).mono ?_
    rintro e w2 ⟨rfl, gw2⟩
    have b0 := gw2.cell b0
    have b1 := gw2.cell b1
    have b2 := gw2.cell b2
    have b3 := gw2.cell b3
    have b4 := gw2.cell b4
    have e0 := gw2.cell e0
    have e1 := gw2.cell e1
    have e2 := gw2.cell e2
    have e3 := gw2.cell e3
    cases t0 : inB ra 0 ((p.2.2.2.1.length : Int) - 1)
    · have HF := Lib.hid (show ruleOkB p (4, ra, rb, rc) = false from by rw [HV.out, show inBv ra 0 ((p.2.2.2.1.length : Int) - 1) = false from t0]; simp)
      clear t0
      go_wp2_with (first | (go_at_call 74; refine (isTime_any _ _).mono ?_; rintro e w' ⟨rfl, rfl⟩) | (go_at_call 71; refine (within_any _ _ _ _).mono ?_; rintro e w' ⟨rfl, rfl⟩))
      go_ret
      exact ⟨ret_bool HF.out.symm, by (repeat (first | exact Bel.refl _ | apply Bel.drewN | apply Bel.drew | apply Bel.alloc | refine Bel.trans ?_ (by assumption)))⟩
    have T0 := Lib.hid (show inBv ra 0 ((p.2.2.2.1.length : Int) - 1) = true from t0)
    clear t0
    cases t1 : inB rb 0 60
    · have HF := Lib.hid (show ruleOkB p (4, ra, rb, rc) = false from by rw [HV.out, show inBv rb 0 60 = false from t1]; simp)
      go_wp2_with (first | (go_at_call 74; refine (isTime_any _ _).mono ?_; rintro e w' ⟨rfl, rfl⟩) | (go_at_call 71; refine (within_any _ _ _ _).mono ?_; rintro e w' ⟨rfl, rfl⟩))
      go_ret
      exact ⟨ret_bool HF.out.symm, by (repeat (first | exact Bel.refl _ | apply Bel.drewN | apply Bel.drew | apply Bel.alloc | refine Bel.trans ?_ (by assumption)))⟩
    have T1 := Lib.hid (show inBv rb 0 60 = true from t1)
    cases t2 : inB rc 0 60
    · have HF := Lib.hid (show ruleOkB p (4, ra, rb, rc) = false from by rw [HV.out, show inBv rc 0 60 = false from t2]; simp)
      go_wp2_with (first | (go_at_call 74; refine (isTime_any _ _).mono ?_; rintro e w' ⟨rfl, rfl⟩) | (go_at_call 71; refine (within_any _ _ _ _).mono ?_; rintro e w' ⟨rfl, rfl⟩))
      go_ret
      exact ⟨ret_bool HF.out.symm, by (repeat (first | exact Bel.refl _ | apply Bel.drewN | apply Bel.drew | apply Bel.alloc | refine Bel.trans ?_ (by assumption)))⟩
    have T2 := Lib.hid (show inBv rc 0 60 = true from t2)
    by_cases t3 : rb < rc
    rotate_left
    · have z3 : decide (rb < rc) = false := decide_eq_false t3
      have HF := Lib.hid (show ruleOkB p (4, ra, rb, rc) = false from by rw [HV.out, decide_eq_false t3]; simp)
      clear t3
      go_wp2_with (first | (go_at_call 74; refine (isTime_any _ _).mono ?_; rintro e w' ⟨rfl, rfl⟩) | (go_at_call 71; refine (within_any _ _ _ _).mono ?_; rintro e w' ⟨rfl, rfl⟩))
      go_ret
      exact ⟨ret_bool HF.out.symm, by (repeat (first | exact Bel.refl _ | apply Bel.drewN | apply Bel.drew | apply Bel.alloc | refine Bel.trans ?_ (by assumption)))⟩
    have T3 := Lib.hid (show decide (rb < rc) = true from decide_eq_true t3)
    have HF := Lib.hid (show ruleOkB p (4, ra, rb, rc) = true from by rw [HV.out, T0.out, T1.out, T2.out, T3.out]; rfl)
    go_wp2_with (first | (go_at_call 74; refine (isTime_any _ _).mono ?_; rintro e w' ⟨rfl, rfl⟩) | (go_at_call 71; refine (within_any _ _ _ _).mono ?_; rintro e w' ⟨rfl, rfl⟩))
    go_ret
    exact ⟨ret_bool HF.out.symm, by (repeat (first | exact Bel.refl _ | apply Bel.drewN | apply Bel.drew | apply Bel.alloc | refine Bel.trans ?_ (by assumption)))⟩
  by_cases c5 : rk = 5
  · subst c5
    have HV := Lib.hid (show ruleOkB p (5, ra, rb, rc) = (machB p ra && (inBv rb 0 ((p.2.1.length : Int) - 1) && (inBv rc 0 ((p.2.1.length : Int) - 1) && (decide (rb < rc))))) from by rw [HF0.out]; rfl)
    go_wp2_with fail
    refine (iIsMachine_any _ p S _ _ (HP1.out _ (by (repeat (first | exact Bel.refl _ | apply Bel.drewN | apply Bel.drew | apply Bel.alloc | refine Bel.trans ?_ (by assumption))))) (fun b hb => Nat.lt_of_lt_of_le (HS.out b hb) (Bel.size (by (repeat (first | exact Bel.refl _ | apply Bel.drewN | apply Bel.drew | apply Bel.alloc | refine Bel.trans ?_ (by assumption)))))) HN.out).mono ?_
    rintro e w2 ⟨rfl, gw2⟩
    have b0 := gw2.cell b0
    have b1 := gw2.cell b1
    have b2 := gw2.cell b2
    have b3 := gw2.cell b3
    have b4 := gw2.cell b4
    have e0 := gw2.cell e0
    have e1 := gw2.cell e1
    have e2 := gw2.cell e2
    have e3 := gw2.cell e3
    cases t0 : machB p ra
    · have HF := Lib.hid (show ruleOkB p (5, ra, rb, rc) = false from by rw [HV.out, show machB p ra = false from t0]; simp)
      clear t0
      go_wp2_with (first | (go_at_call 74; refine (isTime_any _ _).mono ?_; rintro e w' ⟨rfl, rfl⟩) | (go_at_call 71; refine (within_any _ _ _ _).mono ?_; rintro e w' ⟨rfl, rfl⟩))
      go_ret
      exact ⟨ret_bool HF.out.symm, by (repeat (first | exact Bel.refl _ | apply Bel.drewN | apply Bel.drew | apply Bel.alloc | refine Bel.trans ?_ (by assumption)))⟩
    have T0 := Lib.hid (show machB p ra = true from t0)
    clear t0
    go_wp2_with fail
    refine (hasActivity_any _ _ _ _ _ _ _ (by omega) _ _).mono ?_
    rintro e w3 ⟨rfl, gw3⟩
    have b0 := gw3.cell b0
    have b1 := gw3.cell b1
    have b2 := gw3.cell b2
    have b3 := gw3.cell b3
    have b4 := gw3.cell b4
    have e0 := gw3.cell e0
    have e1 := gw3.cell e1
    have e2 := gw3.cell e2
    have e3 := gw3.cell e3
    cases t1 : inB rb 0 ((p.2.1.length : Int) - 1)
    · have HF := Lib.hid (show ruleOkB p (5, ra, rb, rc) = false from by rw [HV.out, show inBv rb 0 ((p.2.1.length : Int) - 1) = false from t1]; simp)
      clear t1
      go_wp2_with (first | (go_at_call 74; refine (isTime_any _ _).mono ?_; rintro e w' ⟨rfl, rfl⟩) | (go_at_call 71; refine (within_any _ _ _ _).mono ?_; rintro e w' ⟨rfl, rfl⟩))
      go_ret
      exact ⟨ret_bool HF.out.symm, by (repeat (first | exact Bel.refl _ | apply Bel.drewN | apply Bel.drew | apply Bel.alloc | refine Bel.trans ?_ (by assumption)))⟩
    have T1 := Lib.hid (show inBv rb 0 ((p.2.1.length : Int) - 1) = true from t1)
    clear t1
    go_wp2_with fail
    refine (hasActivity_any _ _ _ _ _ _ _ (by omega) _ _).mono ?_
    rintro e w4 ⟨rfl, gw4⟩
    have b0 := gw4.cell b0
    have b1 := gw4.cell b1
    have b2 := gw4.cell b2
    have b3 := gw4.cell b3
    have b4 := gw4.cell b4
    have e0 := gw4.cell e0
    have e1 := gw4.cell e1
    have e2 := gw4.cell e2
    have e3 := gw4.cell e3
    cases t2 : inB rc 0 ((p.2.1.length : Int) - 1)
    · have HF := Lib.hid (show ruleOkB p (5, ra, rb, rc) = false from by rw [HV.out, show inBv rc 0 ((p.2.1.length : Int) - 1) = false from t2]; simp)
      clear t2
      go_wp2_with (first | (go_at_call 74; refine (isTime_any _ _).mono ?_; rintro e w' ⟨rfl, rfl⟩) | (go_at_call 71; refine (within_any _ _ _ _).mono ?_; rintro e w' ⟨rfl, rfl⟩))
      go_ret
      exact ⟨ret_bool HF.out.symm, by (repeat (first | exact Bel.refl _ | apply Bel.drewN | apply Bel.drew | apply Bel.alloc | refine Bel.trans ?_ (by assumption)))⟩
    have T2 := Lib.hid (show inBv rc 0 ((p.2.1.length : Int) - 1) = true from t2)
    clear t2
    by_cases t3 : rb < rc
    rotate_left
    · have z3 : decide (rb < rc) = false := decide_eq_false t3
      have HF := Lib.hid (show ruleOkB p (5, ra, rb, rc) = false from by rw [HV.out, decide_eq_false t3]; simp)
      clear t3
      go_wp2_with (first | (go_at_call 74; refine (isTime_any _ _).mono ?_; rintro e w' ⟨rfl, rfl⟩) | (go_at_call 71; refine (within_any _ _ _ _).mono ?_; rintro e w' ⟨rfl, rfl⟩))
      go_ret
      exact ⟨ret_bool HF.out.symm, by (repeat (first | exact Bel.refl _ | apply Bel.drewN | apply Bel.drew | apply Bel.alloc | refine Bel.trans ?_ (by assumption)))⟩
    have T3 := Lib.hid (show decide (rb < rc) = true from decide_eq_true t3)
    have HF := Lib.hid (show ruleOkB p (5, ra, rb, rc) = true from by rw [HV.out, T0.out, T1.out, T2.out, T3.out]; rfl)
    go_wp2_with (first | (go_at_call 74; refine (isTime_any _ _).mono ?_; rintro e w' ⟨rfl, rfl⟩) | (go_at_call 71; refine (within_any _ _ _ _).mono ?_; rintro e w' ⟨rfl, rfl⟩))
    go_ret
    exact ⟨ret_bool HF.out.symm, by (repeat (first | exact Bel.refl _ | apply Bel.drewN | apply Bel.drew | apply Bel.alloc | refine Bel.trans ?_ (by assumption)))⟩
  by_cases c6 : rk = 6
  · subst c6
    have HV := Lib.hid (show ruleOkB p (6, ra, rb, rc) = (inBv ra 0 ((p.2.2.2.2.length : Int) - 1) && (decide (rb = 0) && (decide (rc = 0)))) from by rw [HF0.out]; rfl)
    go_wp2_with fail
    refine (hasStock_any _ _ _ _ _ _ _ (by omega) _ _).mono ?_
    rintro e w2 ⟨rfl, gw2⟩
    have b0 := gw2.cell b0
    have b1 := gw2.cell b1
    have b2 := gw2.cell b2
    have b3 := gw2.cell b3
    have b4 := gw2.cell b4
    have e0 := gw2.cell e0
    have e1 := gw2.cell e1
    have e2 := gw2.cell e2
    have e3 := gw2.cell e3
    cases t0 : inB ra 0 ((p.2.2.2.2.length : Int) - 1)
    · have HF := Lib.hid (show ruleOkB p (6, ra, rb, rc) = false from by rw [HV.out, show inBv ra 0 ((p.2.2.2.2.length : Int) - 1) = false from t0]; simp)
      clear t0
      go_wp2_with (first | (go_at_call 74; refine (isTime_any _ _).mono ?_; rintro e w' ⟨rfl, rfl⟩) | (go_at_call 71; refine (within_any _ _ _ _).mono ?_; rintro e w' ⟨rfl, rfl⟩))
      go_ret
      exact ⟨ret_bool HF.out.symm, by (repeat (first | exact Bel.refl _ | apply Bel.drewN | apply Bel.drew | apply Bel.alloc | refine Bel.trans ?_ (by assumption)))⟩
    have T0 := Lib.hid (show inBv ra 0 ((p.2.2.2.2.length : Int) - 1) = true from t0)
    clear t0
    by_cases t1 : rb = 0
    rotate_left
    · have z1 : (rb == 0) = false := by simpa using t1
      have HF := Lib.hid (show ruleOkB p (6, ra, rb, rc) = false from by rw [HV.out, decide_eq_false t1]; simp)
      clear t1
      go_wp2_with (first | (go_at_call 74; refine (isTime_any _ _).mono ?_; rintro e w' ⟨rfl, rfl⟩) | (go_at_call 71; refine (within_any _ _ _ _).mono ?_; rintro e w' ⟨rfl, rfl⟩))
      go_ret
      exact ⟨ret_bool HF.out.symm, by (repeat (first | exact Bel.refl _ | apply Bel.drewN | apply Bel.drew | apply Bel.alloc | refine Bel.trans ?_ (by assumption)))⟩
    have z1 : (rb == 0) = true := by simpa using t1
    have T1 := Lib.hid (show decide (rb = 0) = true from decide_eq_true t1)
    clear t1
    by_cases t2 : rc = 0
    rotate_left
    · have z2 : (rc == 0) = false := by simpa using t2
      have HF := Lib.hid (show ruleOkB p (6, ra, rb, rc) = false from by rw [HV.out, decide_eq_false t2]; simp)
      clear t2
      go_wp2_with (first | (go_at_call 74; refine (isTime_any _ _).mono ?_; rintro e w' ⟨rfl, rfl⟩) | (go_at_call 71; refine (within_any _ _ _ _).mono ?_; rintro e w' ⟨rfl, rfl⟩))
      go_ret
      exact ⟨ret_bool HF.out.symm, by (repeat (first | exact Bel.refl _ | apply Bel.drewN | apply Bel.drew | apply Bel.alloc | refine Bel.trans ?_ (by assumption)))⟩
    have z2 : (rc == 0) = true := by simpa using t2
    have T2 := Lib.hid (show decide (rc = 0) = true from decide_eq_true t2)
    clear t2
    have HF := Lib.hid (show ruleOkB p (6, ra, rb, rc) = true from by rw [HV.out, T0.out, T1.out, T2.out]; rfl)
    go_wp2_with (first | (go_at_call 74; refine (isTime_any _ _).mono ?_; rintro e w' ⟨rfl, rfl⟩) | (go_at_call 71; refine (within_any _ _ _ _).mono ?_; rintro e w' ⟨rfl, rfl⟩))
    go_ret
    exact ⟨ret_bool HF.out.symm, by (repeat (first | exact Bel.refl _ | apply Bel.drewN | apply Bel.drew | apply Bel.alloc | refine Bel.trans ?_ (by assumption)))⟩
  have y1 : (rk == 1) = false := by simpa using c1
  have y2 : (rk == 2) = false := by simpa using c2
  have y3 : (rk == 3) = false := by simpa using c3
  have y4 : (rk == 4) = false := by simpa using c4
  have y5 : (rk == 5) = false := by simpa using c5
  have y6 : (rk == 6) = false := by simpa using c6
  have HF := Lib.hid (show ruleOkB p (rk, ra, rb, rc) = false from by rw [HF0.out]; unfold ruleAt; rw [if_neg c1, if_neg c2, if_neg c3, if_neg c4, if_neg c5, if_neg c6])
  clear c1 c2 c3 c4 c5 c6
  go_wp2
  go_ret
  exact ⟨ret_bool HF.out.symm, by (repeat (first | exact Bel.refl _ | apply Bel.drewN | apply Bel.drew | apply Bel.alloc | refine Bel.trans ?_ (by assumption)))⟩

set_option maxRecDepth 100000 in
set_option maxHeartbeats 4000000 in
theorem sRuleOk_any (v : Value) (p : ProjT) (S : Nat → Prop) (r : RuleT) (w : World) (hx : aggR projR S w v p) (hS : ∀ b, S b → b < w.heap.size) (_hn : bulkProject p ≤ 1048576) :
    Calls Tryz.prog 29 #[v, .agg #[.int .i64 r.1, .int .i64 r.2.1, .int .i64 r.2.2.1, .int .i64 r.2.2.2]] w fun e w' => e = .returned (.bool (ruleOkB p r)) ∧ Bel w w' := by
  obtain ⟨cs, rfl, hx⟩ := hx
  obtain ⟨c1, c2, c3, c4, rfl, q0, q1, q2, q3, q4⟩ := projR_open hx
  have Q1 := Lib.hid q1
  have Q2 := Lib.hid q2
  have Q3 := Lib.hid q3
  have Q4 := Lib.hid q4
  have HP := Lib.hid hx
  obtain ⟨p1, k1, rfl, l1, l1', -⟩ := sliceR_open q1
  obtain ⟨p2, k2, rfl, l2, l2', -⟩ := sliceR_open q2
  obtain ⟨p3, k3, rfl, l3, l3', -⟩ := sliceR_open q3
  obtain ⟨p4, k4, rfl, l4, l4', -⟩ := sliceR_open q4
  unfold maxLen at l1' l2' l3' l4'
  clear hx q0 q1 q2 q3 q4
  have HS := Lib.hid hS
  have HN := Lib.hid _hn
  clear hS _hn
  obtain ⟨rk, ra, rb, rc⟩ := r
  have HP1 := Lib.hid (show ∀ W, Bel w W → aggR projR S W (.agg #[.int .i64 p.1, .slice p1 p.2.1.length k1, .slice p2 p.2.2.1.length k2, .slice p3 p.2.2.2.1.length k3, .slice p4 p.2.2.2.2.length k4]) p from fun W hW => aggR_mk (projR_good.bel HP.out hW HS.out))
  show Calls Tryz.prog 29 #[.agg #[.int .i64 p.1, .slice p1 p.2.1.length k1, .slice p2 p.2.2.1.length k2, .slice p3 p.2.2.2.1.length k3, .slice p4 p.2.2.2.2.length k4], .agg #[.int .i64 rk, .int .i64 ra, .int .i64 rb, .int .i64 rc]] w _
  go_enter Tryz.func29, Tryz.ntmps29
  go_wp2_with fail
  refine (sProjectOk_any _ p S _ (HP1.out _ (by (repeat (first | exact Bel.refl _ | apply Bel.drewN | apply Bel.drew | apply Bel.alloc | refine Bel.trans ?_ (by assumption))))) (fun b hb => Nat.lt_of_lt_of_le (HS.out b hb) (Bel.size (by (repeat (first | exact Bel.refl _ | apply Bel.drewN | apply Bel.drew | apply Bel.alloc | refine Bel.trans ?_ (by assumption))))))).mono ?_
  rintro e w1 ⟨rfl, g1⟩
  have b0 := g1.cell (p := ⟨w.heap.size, 0, none⟩) (v := .int .i64 p.1) (by simp [go_sem])
  have b1 := g1.cell (p := ⟨w.heap.size, 1, none⟩) (v := .slice p1 p.2.1.length k1) (by simp [go_sem])
  have b2 := g1.cell (p := ⟨w.heap.size, 2, none⟩) (v := .slice p2 p.2.2.1.length k2) (by simp [go_sem])
  have b3 := g1.cell (p := ⟨w.heap.size, 3, none⟩) (v := .slice p3 p.2.2.2.1.length k3) (by simp [go_sem])
  have b4 := g1.cell (p := ⟨w.heap.size, 4, none⟩) (v := .slice p4 p.2.2.2.2.length k4) (by simp [go_sem])
  have e0 := g1.cell (p := ⟨w.heap.size + 1, 0, none⟩) (v := .int .i64 rk) (by simp [go_sem])
  have e1 := g1.cell (p := ⟨w.heap.size + 1, 1, none⟩) (v := .int .i64 ra) (by simp [go_sem])
  have e2 := g1.cell (p := ⟨w.heap.size + 1, 2, none⟩) (v := .int .i64 rb) (by simp [go_sem])
  have e3 := g1.cell (p := ⟨w.heap.size + 1, 3, none⟩) (v := .int .i64 rc) (by simp [go_sem])
  have G : Bel w w1 := by (repeat (first | exact Bel.refl _ | apply Bel.drewN | apply Bel.drew | apply Bel.alloc | refine Bel.trans ?_ (by assumption)))
  cases hp : projOk p
  · have HF := Lib.hid (show ruleOkB p (rk, ra, rb, rc) = false from by unfold ruleOkB; rw [hp]; rfl)
    clear hp
    go_wp2
    go_ret
    exact ⟨ret_bool HF.out.symm, by (repeat (first | exact Bel.refl _ | apply Bel.drewN | apply Bel.drew | apply Bel.alloc | refine Bel.trans ?_ (by assumption)))⟩
  have HF0 := Lib.hid (show ruleOkB p (rk, ra, rb, rc) = ruleAt p rk ra rb rc from by unfold ruleOkB; rw [hp]; rfl)
  clear hp
  by_cases c1 : rk = 1
  · subst c1
    have HV := Lib.hid (show ruleOkB p (1, ra, rb, rc) = (inBv ra 0 ((p.2.2.1.length : Int) - 1) && (decide (rb = 0) && (decide (rc = 0)))) from by rw [HF0.out]; rfl)
    cases t0 : inB ra 0 ((p.2.2.1.length : Int) - 1)
    · have HF := Lib.hid (show ruleOkB p (1, ra, rb, rc) = false from by rw [HV.out, show inBv ra 0 ((p.2.2.1.length : Int) - 1) = false from t0]; simp)
      go_wp2_with (go_at_call 65; refine (l01In_any _ _ _ _).mono ?_; rintro e w' ⟨rfl, rfl⟩)
      go_ret
      exact ⟨ret_bool HF.out.symm, by (repeat (first | exact Bel.refl _ | apply Bel.drewN | apply Bel.drew | apply Bel.alloc | refine Bel.trans ?_ (by assumption)))⟩
    have T0 := Lib.hid (show inBv ra 0 ((p.2.2.1.length : Int) - 1) = true from t0)
    by_cases t1 : rb = 0
    rotate_left
    · have z1 : (rb == 0) = false := by simpa using t1
      have HF := Lib.hid (show ruleOkB p (1, ra, rb, rc) = false from by rw [HV.out, decide_eq_false t1]; simp)
      clear t1
      go_wp2_with (go_at_call 65; refine (l01In_any _ _ _ _).mono ?_; rintro e w' ⟨rfl, rfl⟩)
      go_ret
      exact ⟨ret_bool HF.out.symm, by (repeat (first | exact Bel.refl _ | apply Bel.drewN | apply Bel.drew | apply Bel.alloc | refine Bel.trans ?_ (by assumption)))⟩
    have z1 : (rb == 0) = true := by simpa using t1
    have T1 := Lib.hid (show decide (rb = 0) = true from decide_eq_true t1)
    clear t1
    by_cases t2 : rc = 0
    rotate_left
    · have z2 : (rc == 0) = false := by simpa using t2
      have HF := Lib.hid (show ruleOkB p (1, ra, rb, rc) = false from by rw [HV.out, decide_eq_false t2]; simp)
      clear t2
      go_wp2_with (go_at_call 65; refine (l01In_any _ _ _ _).mono ?_; rintro e w' ⟨rfl, rfl⟩)
      go_ret
      exact ⟨ret_bool HF.out.symm, by (repeat (first | exact Bel.refl _ | apply Bel.drewN | apply Bel.drew | apply Bel.alloc | refine Bel.trans ?_ (by assumption)))⟩
    have z2 : (rc == 0) = true := by simpa using t2
    have T2 := Lib.hid (show decide (rc = 0) = true from decide_eq_true t2)
    clear t2
    have HF := Lib.hid (show ruleOkB p (1, ra, rb, rc) = true from by rw [HV.out, T0.out, T1.out, T2.out]; rfl)
    go_wp2_with (go_at_call 65; refine (l01In_any _ _ _ _).mono ?_; rintro e w' ⟨rfl, rfl⟩)
    go_ret
    exact ⟨ret_bool HF.out.symm, by (repeat (first | exact Bel.refl _ | apply Bel.drewN | apply Bel.drew | apply Bel.alloc | refine Bel.trans ?_ (by assumption)))⟩
  by_cases c2 : rk = 2
  · subst c2
    have HV := Lib.hid (show ruleOkB p (2, ra, rb, rc) = (inBv ra 0 ((p.2.1.length : Int) - 1) && (decide (rb = 0) && (decide (rc = 0)))) from by rw [HF0.out]; rfl)
    cases t0 : inB ra 0 ((p.2.1.length : Int) - 1)
    · have HF := Lib.hid (show ruleOkB p (2, ra, rb, rc) = false from by rw [HV.out, show inBv ra 0 ((p.2.1.length : Int) - 1) = false from t0]; simp)
      go_wp2_with (go_at_call 65; refine (l01In_any _ _ _ _).mono ?_; rintro e w' ⟨rfl, rfl⟩)
      go_ret
      exact ⟨ret_bool HF.out.symm, by (repeat (first | exact Bel.refl _ | apply Bel.drewN | apply Bel.drew | apply Bel.alloc | refine Bel.trans ?_ (by assumption)))⟩
    have T0 := Lib.hid (show inBv ra 0 ((p.2.1.length : Int) - 1) = true from t0)
    by_cases t1 : rb = 0
    rotate_left
    · have z1 : (rb == 0) = false := by simpa using t1
      have HF := Lib.hid (show ruleOkB p (2, ra, rb, rc) = false from by rw [HV.out, decide_eq_false t1]; simp)
      clear t1
      go_wp2_with (go_at_call 65; refine (l01In_any _ _ _ _).mono ?_; rintro e w' ⟨rfl, rfl⟩)
      go_ret
      exact ⟨ret_bool HF.out.symm, by (repeat (first | exact Bel.refl _ | apply Bel.drewN | apply Bel.drew | apply Bel.alloc | refine Bel.trans ?_ (by assumption)))⟩
    have z1 : (rb == 0) = true := by simpa using t1
    have T1 := Lib.hid (show decide (rb = 0) = true from decide_eq_true t1)
    clear t1
    by_cases t2 : rc = 0
    rotate_left
    · have z2 : (rc == 0) = false := by simpa using t2
      have HF := Lib.hid (show ruleOkB p (2, ra, rb, rc) = false from by rw [HV.out, decide_eq_false t2]; simp)
      clear t2
      go_wp2_with (go_at_call 65; refine (l01In_any _ _ _ _).mono ?_; rintro e w' ⟨rfl, rfl⟩)
      go_ret
      exact ⟨ret_bool HF.out.symm, by (repeat (first | exact Bel.refl _ | apply Bel.drewN | apply Bel.drew | apply Bel.alloc | refine Bel.trans ?_ (by assumption)))⟩
    have z2 : (rc == 0) = true := by simpa using t2
    have T2 := Lib.hid (show decide (rc = 0) = true from decide_eq_true t2)
    clear t2
    have HF := Lib.hid (show ruleOkB p (2, ra, rb, rc) = true from by rw [HV.out, T0.out, T1.out, T2.out]; rfl)
    go_wp2_with (go_at_call 65; refine (l01In_any _ _ _ _).mono ?_; rintro e w' ⟨rfl, rfl⟩)
    go_ret
    exact ⟨ret_bool HF.out.symm, by (repeat (first | exact Bel.refl _ | apply Bel.drewN | apply Bel.drew | apply Bel.alloc | refine Bel.trans ?_ (by assumption)))⟩
  by_cases c3 : rk = 3
  · subst c3
    have HV := Lib.hid (show ruleOkB p (3, ra, rb, rc) = (inBv ra 0 ((p.2.2.2.1.length : Int) - 1) && (inBv rb 0 60 && (decide (rc = 0)))) from by rw [HF0.out]; rfl)
    cases t0 : inB ra 0 ((p.2.2.2.1.length : Int) - 1)
    · have HF := Lib.hid (show ruleOkB p (3, ra, rb, rc) = false from by rw [HV.out, show inBv ra 0 ((p.2.2.2.1.length : Int) - 1) = false from t0]; simp)
      go_wp2_with (go_at_call 65; refine (l01In_any _ _ _ _).mono ?_; rintro e w' ⟨rfl, rfl⟩)
      go_ret
      exact ⟨ret_bool HF.out.symm, by (repeat (first | exact Bel.refl _ | apply Bel.drewN | apply Bel.drew | apply Bel.alloc | refine Bel.trans ?_ (by assumption)))⟩
    have T0 := Lib.hid (show inBv ra 0 ((p.2.2.2.1.length : Int) - 1) = true from t0)
    cases t1 : inB rb 0 60
    · have HF := Lib.hid (show ruleOkB p (3, ra, rb, rc) = false from by rw [HV.out, show inBv rb 0 60 = false from t1]; simp)
      go_wp2_with (go_at_call 65; refine (l01In_any _ _ _ _).mono ?_; rintro e w' ⟨rfl, rfl⟩)
      go_ret
      exact ⟨ret_bool HF.out.symm, by (repeat (first | exact Bel.refl _ | apply Bel.drewN | apply Bel.drew | apply Bel.alloc | refine Bel.trans ?_ (by assumption)))⟩
    have T1 := Lib.hid (show inBv rb 0 60 = true from t1)
    by_cases t2 : rc = 0
    rotate_left
    · have z2 : (rc == 0) = false := by simpa using t2
      have HF := Lib.hid (show ruleOkB p (3, ra, rb, rc) = false from by rw [HV.out, decide_eq_false t2]; simp)
      clear t2
      go_wp2_with (go_at_call 65; refine (l01In_any _ _ _ _).mono ?_; rintro e w' ⟨rfl, rfl⟩)
      go_ret
      exact ⟨ret_bool HF.out.symm, by (repeat (first | exact Bel.refl _ | apply Bel.drewN | apply Bel.drew | apply Bel.alloc | refine Bel.trans ?_ (by assumption)))⟩
    have z2 : (rc == 0) = true := by simpa using t2
    have T2 := Lib.hid (show decide (rc = 0) = true from decide_eq_true t2)
    clear t2
    have HF := Lib.hid (show ruleOkB p (3, ra, rb, rc) = true from by rw [HV.out, T0.out, T1.out, T2.out]; rfl)
    go_wp2_with (go_at_call 65; refine (l01In_any _ _ _ _).mono ?_; rintro e w' ⟨rfl, rfl⟩)
    go_ret
    exact ⟨ret_bool HF.out.symm, by (repeat (first | exact Bel.refl _ | apply Bel.drewN | apply Bel.drew | apply Bel.alloc | refine Bel.trans ?_ (by assumption)))⟩
  by_cases c4 : rk = 4
  · subst c4
    have HV := Lib.hid (show ruleOkB p (4, ra, rb, rc) = (inBv ra 0 ((p.2.2.2.1.length : Int) - 1) && (inBv rb 0 60 && (inBv rc 0 60 && (decide (rb < rc))))) from by rw [HF0.out]; rfl)
    cases t0 : inB ra 0 ((p.2.2.2.1.length : Int) - 1)
    · have HF := Lib.hid (show ruleOkB p (4, ra, rb, rc) = false from by rw [HV.out, show inBv ra 0 ((p.2.2.2.1.length : Int) - 1) = false from t0]; simp)
      go_wp2_with (go_at_call 65; refine (l01In_any _ _ _ _).mono ?_; rintro e w' ⟨rfl, rfl⟩)
      go_ret
      exact ⟨ret_bool HF.out.symm, by (repeat (first | exact Bel.refl _ | apply Bel.drewN | apply Bel.drew | apply Bel.alloc | refine Bel.trans ?_ (by assumption)))⟩
    have T0 := Lib.hid (show inBv ra 0 ((p.2.2.2.1.length : Int) - 1) = true from t0)
    cases t1 : inB rb 0 60
    · have HF := Lib.hid (show ruleOkB p (4, ra, rb, rc) = false from by rw [HV.out, show inBv rb 0 60 = false from t1]; simp)
      go_wp2_with (go_at_call 65; refine (l01In_any _ _ _ _).mono ?_; rintro e w' ⟨rfl, rfl⟩)
      go_ret
      exact ⟨ret_bool HF.out.symm, by (repeat (first | exact Bel.refl _ | apply Bel.drewN | apply Bel.drew | apply Bel.alloc | refine Bel.trans ?_ (by assumption)))⟩
    have T1 := Lib.hid (show inBv rb 0 60 = true from t1)
    cases t2 : inB rc 0 60
    · have HF := Lib.hid (show ruleOkB p (4, ra, rb, rc) = false from by rw [HV.out, show inBv rc 0 60 = false from t2]; simp)
      go_wp2_with (go_at_call 65; refine (l01In_any _ _ _ _).mono ?_; rintro e w' ⟨rfl, rfl⟩)
      go_ret
      exact ⟨ret_bool HF.out.symm, by (repeat (first | exact Bel.refl _ | apply Bel.drewN | apply Bel.drew | apply Bel.alloc | refine Bel.trans ?_ (by assumption)))⟩
    have T2 := Lib.hid (show inBv rc 0 60 = true from t2)
    by_cases t3 : rb < rc
    rotate_left
    · have z3 : decide (rb < rc) = false := decide_eq_false t3
      have HF := Lib.hid (show ruleOkB p (4, ra, rb, rc) = false from by rw [HV.out, decide_eq_false t3]; simp)
      clear t3
      go_wp2_with (go_at_call 65; refine (l01In_any _ _ _ _).mono ?_; rintro e w' ⟨rfl, rfl⟩)
      go_ret
      exact ⟨ret_bool HF.out.symm, by (repeat (first | exact Bel.refl _ | apply Bel.drewN | apply Bel.drew | apply Bel.alloc | refine Bel.trans ?_ (by assumption)))⟩
    have T3 := Lib.hid (show decide (rb < rc) = true from decide_eq_true t3)
    have HF := Lib.hid (show ruleOkB p (4, ra, rb, rc) = true from by rw [HV.out, T0.out, T1.out, T2.out, T3.out]; rfl)
    go_wp2_with (go_at_call 65; refine (l01In_any _ _ _ _).mono ?_; rintro e w' ⟨rfl, rfl⟩)
    go_ret
    exact ⟨ret_bool HF.out.symm, by (repeat (first | exact Bel.refl _ | apply Bel.drewN | apply Bel.drew | apply Bel.alloc | refine Bel.trans ?_ (by assumption)))⟩
  by_cases c5 : rk = 5
  · subst c5
    have HV := Lib.hid (show ruleOkB p (5, ra, rb, rc) = (machB p ra && (inBv rb 0 ((p.2.1.length : Int) - 1) && (inBv rc 0 ((p.2.1.length : Int) - 1) && (decide (rb < rc))))) from by rw [HF0.out]; rfl)
    go_wp2_with fail
    refine (sIsMachine_any _ p S _ _ (HP1.out _ (by (repeat (first | exact Bel.refl _ | apply Bel.drewN | apply Bel.drew | apply Bel.alloc | refine Bel.trans ?_ (by assumption))))) (fun b hb => Nat.lt_of_lt_of_le (HS.out b hb) (Bel.size (by (repeat (first | exact Bel.refl _ | apply Bel.drewN | apply Bel.drew | apply Bel.alloc | refine Bel.trans ?_ (by assumption)))))) HN.out).mono ?_
    rintro e w2 ⟨rfl, gw2⟩
    have b0 := gw2.cell b0
    have b1 := gw2.cell b1
    have b2 := gw2.cell b2
    have b3 := gw2.cell b3
    have b4 := gw2.cell b4
    have e0 := gw2.cell e0
    have e1 := gw2.cell e1
    have e2 := gw2.cell e2
    have e3 := gw2.cell e3
    cases t0 : machB p ra
    · have HF := Lib.hid (show ruleOkB p (5, ra, rb, rc) = false from by rw [HV.out, show machB p ra = false from t0]; simp)
      clear t0
      go_wp2_with (go_at_call 65; refine (l01In_any _ _ _ _).mono ?_; rintro e w' ⟨rfl, rfl⟩)
      go_ret
      exact ⟨ret_bool HF.out.symm, by (repeat (first | exact Bel.refl _ | apply Bel.drewN | apply Bel.drew | apply Bel.alloc | refine Bel.trans ?_ (by assumption)))⟩
    have T0 := Lib.hid (show machB p ra = true from t0)
    clear t0
    cases t1 : inB rb 0 ((p.2.1.length : Int) - 1)
    · have HF := Lib.hid (show ruleOkB p (5, ra, rb, rc) = false from by rw [HV.out, show inBv rb 0 ((p.2.1.length : Int) - 1) = false from t1]; simp)
      go_wp2_with (go_at_call 65; refine (l01In_any _ _ _ _).mono ?_; rintro e w' ⟨rfl, rfl⟩)
      go_ret
      exact ⟨ret_bool HF.out.symm, by (repeat (first | exact Bel.refl _ | apply Bel.drewN | apply Bel.drew | apply Bel.alloc | refine Bel.trans ?_ (by assumption)))⟩
    have T1 := Lib.hid (show inBv rb 0 ((p.2.1.length : Int) - 1) = true from t1)
    cases t2 : inB rc 0 ((p.2.1.length : Int) - 1)
    · have HF := Lib.hid (show ruleOkB p (5, ra, rb, rc) = false from by rw [HV.out, show inBv rc 0 ((p.2.1.length : Int) - 1) = false from t2]; simp)
      go_wp2_with (go_at_call 65; refine (l01In_any _ _ _ _).mono ?_; rintro e w' ⟨rfl, rfl⟩)
      go_ret
      exact ⟨ret_bool HF.out.symm, by (repeat (first | exact Bel.refl _ | apply Bel.drewN | apply Bel.drew | apply Bel.alloc | refine Bel.trans ?_ (by assumption)))⟩
    have T2 := Lib.hid (show inBv rc 0 ((p.2.1.length : Int) - 1) = true from t2)
    by_cases t3 : rb < rc
    rotate_left
    · have z3 : decide (rb < rc) = false := decide_eq_false t3
      have HF := Lib.hid (show ruleOkB p (5, ra, rb, rc) = false from by rw [HV.out, decide_eq_false t3]; simp)
      clear t3
      go_wp2_with (go_at_call 65; refine (l01In_any _ _ _ _).mono ?_; rintro e w' ⟨rfl, rfl⟩)
      go_ret
      exact ⟨ret_bool HF.out.symm, by (repeat (first | exact Bel.refl _ | apply Bel.drewN | apply Bel.drew | apply Bel.alloc | refine Bel.trans ?_ (by assumption)))⟩
    have T3 := Lib.hid (show decide (rb < rc) = true from decide_eq_true t3)
    have HF := Lib.hid (show ruleOkB p (5, ra, rb, rc) = true from by rw [HV.out, T0.out, T1.out, T2.out, T3.out]; rfl)
    go_wp2_with (go_at_call 65; refine (l01In_any _ _ _ _).mono ?_; rintro e w' ⟨rfl, rfl⟩)
    go_ret
    exact ⟨ret_bool HF.out.symm, by (repeat (first | exact Bel.refl _ | apply Bel.drewN | apply Bel.drew | apply Bel.alloc | refine Bel.trans ?_ (by assumption)))⟩
  by_cases c6 : rk = 6
  · subst c6
    have HV := Lib.hid (show ruleOkB p (6, ra, rb, rc) = (inBv ra 0 ((p.2.2.2.2.length : Int) - 1) && (decide (rb = 0) && (decide (rc = 0)))) from by rw [HF0.out]; rfl)
    cases t0 : inB ra 0 ((p.2.2.2.2.length : Int) - 1)
    · have HF := Lib.hid (show ruleOkB p (6, ra, rb, rc) = false from by rw [HV.out, show inBv ra 0 ((p.2.2.2.2.length : Int) - 1) = false from t0]; simp)
      go_wp2_with (go_at_call 65; refine (l01In_any _ _ _ _).mono ?_; rintro e w' ⟨rfl, rfl⟩)
      go_ret
      exact ⟨ret_bool HF.out.symm, by (repeat (first | exact Bel.refl _ | apply Bel.drewN | apply Bel.drew | apply Bel.alloc | refine Bel.trans ?_ (by assumption)))⟩
    have T0 := Lib.hid (show inBv ra 0 ((p.2.2.2.2.length : Int) - 1) = true from t0)
    by_cases t1 : rb = 0
    rotate_left
    · have z1 : (rb == 0) = false := by simpa using t1
      have HF := Lib.hid (show ruleOkB p (6, ra, rb, rc) = false from by rw [HV.out, decide_eq_false t1]; simp)
      clear t1
      go_wp2_with (go_at_call 65; refine (l01In_any _ _ _ _).mono ?_; rintro e w' ⟨rfl, rfl⟩)
      go_ret
      exact ⟨ret_bool HF.out.symm, by (repeat (first | exact Bel.refl _ | apply Bel.drewN | apply Bel.drew | apply Bel.alloc | refine Bel.trans ?_ (by assumption)))⟩
    have z1 : (rb == 0) = true := by simpa using t1
    have T1 := Lib.hid (show decide (rb = 0) = true from decide_eq_true t1)
    clear t1
    by_cases t2 : rc = 0
    rotate_left
    · have z2 : (rc == 0) = false := by simpa using t2
      have HF := Lib.hid (show ruleOkB p (6, ra, rb, rc) = false from by rw [HV.out, decide_eq_false t2]; simp)
      clear t2
      go_wp2_with (go_at_call 65; refine (l01In_any _ _ _ _).mono ?_; rintro e w' ⟨rfl, rfl⟩)
      go_ret
      exact ⟨ret_bool HF.out.symm, by (repeat (first | exact Bel.refl _ | apply Bel.drewN | apply Bel.drew | apply Bel.alloc | refine Bel.trans ?_ (by assumption)))⟩
    have z2 : (rc == 0) = true := by simpa using t2
    have T2 := Lib.hid (show decide (rc = 0) = true from decide_eq_true t2)
    clear t2
    have HF := Lib.hid (show ruleOkB p (6, ra, rb, rc) = true from by rw [HV.out, T0.out, T1.out, T2.out]; rfl)
    go_wp2_with (go_at_call 65; refine (l01In_any _ _ _ _).mono ?_; rintro e w' ⟨rfl, rfl⟩)
    go_ret
    exact ⟨ret_bool HF.out.symm, by (repeat (first | exact Bel.refl _ | apply Bel.drewN | apply Bel.drew | apply Bel.alloc | refine Bel.trans ?_ (by assumption)))⟩
  have y1 : (rk == 1) = false := by simpa using c1
  have y2 : (rk == 2) = false := by simpa using c2
  have y3 : (rk == 3) = false := by simpa using c3
  have y4 : (rk == 4) = false := by simpa using c4
  have y5 : (rk == 5) = false := by simpa using c5
  have y6 : (rk == 6) = false := by simpa using c6
  have HF := Lib.hid (show ruleOkB p (rk, ra, rb, rc) = false from by rw [HF0.out]; unfold ruleAt; rw [if_neg c1, if_neg c2, if_neg c3, if_neg c4, if_neg c5, if_neg c6])
  clear c1 c2 c3 c4 c5 c6
  go_wp2
  go_ret
  exact ⟨ret_bool HF.out.symm, by (repeat (first | exact Bel.refl _ | apply Bel.drewN | apply Bel.drew | apply Bel.alloc | refine Bel.trans ?_ (by assumption)))⟩

end Go.Proofs.YtkfpciggolkjeaaGreatDoor
