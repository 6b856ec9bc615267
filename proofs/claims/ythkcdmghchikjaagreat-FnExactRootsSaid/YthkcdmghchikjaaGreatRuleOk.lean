/- Contracts of hasResource, hasStock, IsMachine, RuleOk. -/
import Derived.Test.YthkcdmghchikjaaGreatProjOk
import Derived.Test.YthkcdmghchikjaaGreatHolds
namespace Go.Proofs.YthkcdmghchikjaaGreat
open Go.ChangeShapes Go.WideShapes Go.ChangeAt Go.RowKit
set_option linter.unusedVariables false

theorem hasResource_any (d : Int) (c1 c2 : Value) (p3 : Option Addr) (n3 k3 : Nat) (c4 : Value) (hn : n3 ≤ 9223372036854775807) (a : Int) (w : World) :
    Calls Tryz.prog 144 #[.agg #[.int .i64 d, c1, c2, .slice p3 n3 k3, c4], .int .i64 a] w fun e w' => e = .returned (.bool (inB a 0 (n3 - 1))) ∧ Bel w w' := by
  go_enter Tryz.func144, Tryz.ntmps144
  have hw : IntKind.i64.wrap ((n3 : Int) - 1) = (n3 : Int) - 1 := IntWalk.i64_in _ (by omega)
  clear hn
  go_wp2_with (go_at_call 89; refine (within_any _ _ _ _).mono ?_; rintro e w' ⟨rfl, rfl⟩)
  go_ret
  exact ⟨rfl, by (repeat (first | exact Bel.refl _ | apply Bel.drewN | apply Bel.drew | apply Bel.alloc | refine Bel.trans ?_ (by assumption)))⟩

theorem hasStock_any (d : Int) (c1 c2 c3 : Value) (p4 : Option Addr) (n4 k4 : Nat) (hn : n4 ≤ 9223372036854775807) (a : Int) (w : World) :
    Calls Tryz.prog 149 #[.agg #[.int .i64 d, c1, c2, c3, .slice p4 n4 k4], .int .i64 a] w fun e w' => e = .returned (.bool (inB a 0 (n4 - 1))) ∧ Bel w w' := by
  go_enter Tryz.func149, Tryz.ntmps149
  have hw : IntKind.i64.wrap ((n4 : Int) - 1) = (n4 : Int) - 1 := IntWalk.i64_in _ (by omega)
  clear hn
  go_wp2_with (go_at_call 89; refine (within_any _ _ _ _).mono ?_; rintro e w' ⟨rfl, rfl⟩)
  go_ret
  exact ⟨rfl, by (repeat (first | exact Bel.refl _ | apply Bel.drewN | apply Bel.drew | apply Bel.alloc | refine Bel.trans ?_ (by assumption)))⟩

def machB (p : ProjT) (a : Int) : Bool := inBv a 0 ((p.2.2.2.1.length : Int) - 1) && decide (0 < (p.2.2.2.1.getD a.toNat zRes).2.length)
/-- What is asked of a rule of a well formed project. -/
def ruleAt (p : ProjT) (k a b c : Int) : Bool :=
  if k = 1 then inBv a 0 ((p.2.2.1.length : Int) - 1) && (decide (b = 0) && decide (c = 0))
  else if k = 2 then inBv a 0 ((p.2.1.length : Int) - 1) && (decide (b = 0) && decide (c = 0))
  else if k = 3 then inBv a 0 ((p.2.2.2.1.length : Int) - 1) && (inBv b 0 60 && decide (c = 0))
  else if k = 4 then inBv a 0 ((p.2.2.2.1.length : Int) - 1) && (inBv b 0 60 && (inBv c 0 60 && decide (b < c)))
  else if k = 5 then machB p a && (inBv b 0 ((p.2.1.length : Int) - 1) && (inBv c 0 ((p.2.1.length : Int) - 1) && decide (b < c)))
  else if k = 6 then inBv a 0 ((p.2.2.2.2.length : Int) - 1) && (decide (b = 0) && decide (c = 0))
  else false
def ruleOkB (p : ProjT) (r : RuleT) : Bool := projOk p && ruleAt p r.1 r.2.1 r.2.2.1 r.2.2.2

set_option maxHeartbeats 400000 in
theorem iIsMachine_any (v : Value) (p : ProjT) (S : Nat → Prop) (a : Int) (w : World) (hx : aggR projR S w v p) (hS : ∀ b, S b → b < w.heap.size) (_hn : bulkProject p ≤ 1048576) :
    Calls Tryz.prog 100 #[v, .int .i64 a] w fun e w' => e = .returned (.bool (machB p a)) ∧ Bel w w' := by
  obtain ⟨cs, rfl, hx⟩ := hx
  obtain ⟨c1, c2, c3, c4, rfl, q0, q1, q2, q3, q4⟩ := projR_open hx
  have Q1 := Lib.hid q1
  have Q2 := Lib.hid q2
  have Q3 := Lib.hid q3
  have Q4 := Lib.hid q4
  have HP := Lib.hid hx
  obtain ⟨p1, k1, rfl, l1, l1', -⟩ := sliceR_open q1
  obtain ⟨p2, k2, rfl, l2, l2', -⟩ := sliceR_open q2
  obtain ⟨p3, k3, rfl, l3, l3', -⟩ := sliceR_open q3
  obtain ⟨p4, k4, rfl, l4, l4', -⟩ := sliceR_open q4
  unfold maxLen at l1' l2' l3' l4'
  clear hx q0 q1 q2 q3 q4
  have HS := Lib.hid hS
  clear hS _hn
  show Calls Tryz.prog 100 #[.agg #[.int .i64 p.1, .slice p1 p.2.1.length k1, .slice p2 p.2.2.1.length k2, .slice p3 p.2.2.2.1.length k3, .slice p4 p.2.2.2.2.length k4], .int .i64 a] w _
  go_enter Tryz.func100, Tryz.ntmps100
  go_wp2_with fail
  refine (hasResource_any _ _ _ _ _ _ _ (by omega) _ _).mono ?_
  rintro e w1 ⟨rfl, g1⟩
  have b0 := g1.cell (p := ⟨w.heap.size, 0, none⟩) (v := .int .i64 p.1) (by simp [go_sem])
  have b1 := g1.cell (p := ⟨w.heap.size, 1, none⟩) (v := .slice p1 p.2.1.length k1) (by simp [go_sem])
  have b2 := g1.cell (p := ⟨w.heap.size, 2, none⟩) (v := .slice p2 p.2.2.1.length k2) (by simp [go_sem])
  have b3 := g1.cell (p := ⟨w.heap.size, 3, none⟩) (v := .slice p3 p.2.2.2.1.length k3) (by simp [go_sem])
  have b4 := g1.cell (p := ⟨w.heap.size, 4, none⟩) (v := .slice p4 p.2.2.2.2.length k4) (by simp [go_sem])
  have G : Bel w w1 := by (repeat (first | exact Bel.refl _ | apply Bel.drewN | apply Bel.drew | apply Bel.alloc | refine Bel.trans ?_ (by assumption)))
  cases ha : inB a 0 ((p.2.2.2.1.length : Int) - 1)
  · have HF := Lib.hid (show machB p a = false from by unfold machB; rw [← inB_v a, ha]; rfl)
    clear ha
    go_wp2
    go_ret
    exact ⟨ret_bool HF.out.symm, by (repeat (first | exact Bel.refl _ | apply Bel.drewN | apply Bel.drew | apply Bel.alloc | refine Bel.trans ?_ (by assumption)))⟩
  obtain ⟨k, rfl, hlt⟩ := inB_idx ha
  have HF := Lib.hid (show machB p (k : Int) = decide (0 < (p.2.2.2.1.getD k zRes).2.length) from by unfold machB; rw [← inB_v (k : Int), ha]; rfl)
  clear ha
  obtain ⟨rb, ro, rcs, rea, rrow, rel⟩ := sliceR_at zRes Q3.out hlt
  obtain rfl : p3 = some ⟨rb, ro, none⟩ := rea
  obtain ⟨rc0, rc1, rfl, rq0, rq1⟩ := resR_open rel
  obtain ⟨rm, rmk, rfl, rml, rml', -⟩ := sliceR_open rq1
  unfold maxLen at rml'
  have rr := G.cell (rrow 1 (by simp)).1
  simp only [List.getElem_cons_zero, List.getElem_cons_succ] at rr
  clear rrow rel rq0 rq1
  generalize p.2.2.2.1.getD k zRes = X at *
  have hki : (k : Int) < (p.2.2.2.1.length : Int) := by omega
  by_cases hz : 0 < X.2.length
  · have hz1 : decide ((0 : Int) < (X.2.length : Int)) = true := by simpa using hz
    have HG := Lib.hid (decide_eq_true hz)
    go_wp2
    go_ret
    exact ⟨ret_bool (by rw [HF.out, HG.out]), by (repeat (first | exact Bel.refl _ | apply Bel.drewN | apply Bel.drew | apply Bel.alloc | refine Bel.trans ?_ (by assumption)))⟩
  · have hz1 : decide ((0 : Int) < (X.2.length : Int)) = false := by simpa using hz
    have HG := Lib.hid (decide_eq_false hz)
    go_wp2
    go_ret
    exact ⟨ret_bool (by rw [HF.out, HG.out]), by (repeat (first | exact Bel.refl _ | apply Bel.drewN | apply Bel.drew | apply Bel.alloc | refine Bel.trans ?_ (by assumption)))⟩

set_option maxHeartbeats 400000 in
theorem sIsMachine_any (v : Value) (p : ProjT) (S : Nat → Prop) (a : Int) (w : World) (hx : aggR projR S w v p) (hS : ∀ b, S b → b < w.heap.size) (_hn : bulkProject p ≤ 1048576) :
    Calls Tryz.prog 93 #[v, .int .i64 a] w fun e w' => e = .returned (.bool (machB p a)) ∧ Bel w w' := by
  obtain ⟨cs, rfl, hx⟩ := hx
  obtain ⟨c1, c2, c3, c4, rfl, q0, q1, q2, q3, q4⟩ := projR_open hx
  have Q1 := Lib.hid q1
  have Q2 := Lib.hid q2
  have Q3 := Lib.hid q3
  have Q4 := Lib.hid q4
  have HP := Lib.hid hx
  obtain ⟨p1, k1, rfl, l1, l1', -⟩ := sliceR_open q1
  obtain ⟨p2, k2, rfl, l2, l2', -⟩ := sliceR_open q2
  obtain ⟨p3, k3, rfl, l3, l3', -⟩ := sliceR_open q3
  obtain ⟨p4, k4, rfl, l4, l4', -⟩ := sliceR_open q4
  unfold maxLen at l1' l2' l3' l4'
  clear hx q0 q1 q2 q3 q4
  have HS := Lib.hid hS
  clear hS _hn
  show Calls Tryz.prog 93 #[.agg #[.int .i64 p.1, .slice p1 p.2.1.length k1, .slice p2 p.2.2.1.length k2, .slice p3 p.2.2.2.1.length k3, .slice p4 p.2.2.2.2.length k4], .int .i64 a] w _
  go_enter Tryz.func93, Tryz.ntmps93
  have G := Bel.refl w
  cases ha : inB a 0 ((p.2.2.2.1.length : Int) - 1)
  · have HF := Lib.hid (show machB p a = false from by unfold machB; rw [← inB_v a, ha]; rfl)
    skip
    go_wp2_with (go_at_call 75; refine (l01In_any _ _ _ _).mono ?_; rintro e w' ⟨rfl, rfl⟩)
    go_ret
    exact ⟨ret_bool HF.out.symm, by (repeat (first | exact Bel.refl _ | apply Bel.drewN | apply Bel.drew | apply Bel.alloc | refine Bel.trans ?_ (by assumption)))⟩
  obtain ⟨k, rfl, hlt⟩ := inB_idx ha
  have HF := Lib.hid (show machB p (k : Int) = decide (0 < (p.2.2.2.1.getD k zRes).2.length) from by unfold machB; rw [← inB_v (k : Int), ha]; rfl)
  skip
  obtain ⟨rb, ro, rcs, rea, rrow, rel⟩ := sliceR_at zRes Q3.out hlt
  obtain rfl : p3 = some ⟨rb, ro, none⟩ := rea
  obtain ⟨rc0, rc1, rfl, rq0, rq1⟩ := resR_open rel
  obtain ⟨rm, rmk, rfl, rml, rml', -⟩ := sliceR_open rq1
  unfold maxLen at rml'
  have rr := G.cell (rrow 1 (by simp)).1
  simp only [List.getElem_cons_zero, List.getElem_cons_succ] at rr
  clear rrow rel rq0 rq1
  generalize p.2.2.2.1.getD k zRes = X at *
  have hki : (k : Int) < (p.2.2.2.1.length : Int) := by omega
  have rr := fun o => ((Bel.refl w).alloc o).cell rr
  by_cases hz : 0 < X.2.length
  · have hz1 : decide ((0 : Int) < (X.2.length : Int)) = true := by simpa using hz
    have HG := Lib.hid (decide_eq_true hz)
    go_wp2_with (go_at_call 75; refine (l01In_any _ _ _ _).mono ?_; rintro e w' ⟨rfl, rfl⟩)
    go_ret
    exact ⟨ret_bool (by rw [HF.out, HG.out]), by (repeat (first | exact Bel.refl _ | apply Bel.drewN | apply Bel.drew | apply Bel.alloc | refine Bel.trans ?_ (by assumption)))⟩
  · have hz1 : decide ((0 : Int) < (X.2.length : Int)) = false := by simpa using hz
    have HG := Lib.hid (decide_eq_false hz)
    go_wp2_with (go_at_call 75; refine (l01In_any _ _ _ _).mono ?_; rintro e w' ⟨rfl, rfl⟩)
    go_ret
    exact ⟨ret_bool (by rw [HF.out, HG.out]), by (repeat (first | exact Bel.refl _ | apply Bel.drewN | apply Bel.drew | apply Bel.alloc | refine Bel.trans ?_ (by assumption)))⟩



end Go.Proofs.YthkcdmghchikjaaGreat
