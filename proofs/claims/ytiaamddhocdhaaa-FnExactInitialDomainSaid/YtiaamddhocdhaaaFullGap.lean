/- Contracts of the full gap of a link. -/
import Derived.Test.YtiaamddhocdhaaaGap
import Derived.Test.YtiaamddhocdhaaaRange
import Derived.Test.YtiaamddhocdhaaaKeep
namespace Go.Proofs.Ytiaamddhocdhaaa
open Go.ChangeShapes Go.WideShapes Go.ChangeAt Go.RowKit
set_option linter.unusedVariables false

/-- The gap of a link for all modes. -/
def fullGapV (p : ProjT) (k : LinkT) : Int := gapV p k (rangeL (p.2.1.getD k.1.toNat zAct).2.2.length)
theorem fullGapV_bd {p : ProjT} (h : projOk p = true) {k : LinkT} (hk : linkOkB p.2.1.length k = true) : -60 ≤ fullGapV p k ∧ fullGapV p k ≤ 72 := gapV_bd h hk _

set_option maxHeartbeats 1000000 in
theorem fullGap_any (v : Value) (p : ProjT) (S : Nat → Prop) (k : LinkT) (w : World) (hx : aggR projR S w v p) (hS : ∀ b, S b → b < w.heap.size) (hp : projOk p = true) (hk : linkOkB p.2.1.length k = true) :
    Calls Try.prog 97 #[v, .agg #[.int .i64 k.1, .int .i64 k.2.1, .bool k.2.2.1, .int .i64 k.2.2.2]] w fun e w' => e = .returned (.int .i64 (fullGapV p k)) ∧ Bel w w' := by
  obtain ⟨cs, rfl, hx⟩ := hx
  obtain ⟨c1, c2, c3, c4, rfl, q0, q1, q2, q3, q4⟩ := projR_open hx
  have Q1 := Lib.hid q1
  have Q2 := Lib.hid q2
  have Q3 := Lib.hid q3
  have Q4 := Lib.hid q4
  have HP := Lib.hid hx
  obtain ⟨p1, k1, rfl, l1, l1', -⟩ := sliceR_open q1
  obtain ⟨p2, k2, rfl, l2, l2', -⟩ := sliceR_open q2
  obtain ⟨p3, k3, rfl, l3, l3', -⟩ := sliceR_open q3
  obtain ⟨p4, k4, rfl, l4, l4', -⟩ := sliceR_open q4
  unfold maxLen at l1' l2' l3' l4'
  clear hx q0 q1 q2 q3 q4
  have HS := Lib.hid hS
  have HPO := Lib.hid hp
  clear hS
  have HP1 := Lib.hid (show ∀ W, Bel w W → aggR projR S W (.agg #[.int .i64 p.1, .slice p1 p.2.1.length k1, .slice p2 p.2.2.1.length k2, .slice p3 p.2.2.2.1.length k3, .slice p4 p.2.2.2.2.length k4]) p from fun W hW => aggR_mk (projR_good.bel HP.out hW HS.out))
  have HK := Lib.hid hk
  obtain ⟨⟨a, haa, ha⟩, -, -, hl0, hl1⟩ := linkOk_bd hk
  have hml := (projOk_modes hp ha).2
  clear hk hp
  obtain ⟨fa, tb, fe, lag⟩ := k
  obtain rfl : fa = (a : Int) := haa
  have HV := Lib.hid (show fullGapV p ((a : Int), tb, fe, lag) = gapV p ((a : Int), tb, fe, lag) (rangeL (p.2.1.getD a zAct).2.2.length) from rfl)
  show Calls Try.prog 97 #[.agg #[.int .i64 p.1, .slice p1 p.2.1.length k1, .slice p2 p.2.2.1.length k2, .slice p3 p.2.2.2.1.length k3, .slice p4 p.2.2.2.2.length k4], .agg #[.int .i64 (a : Int), .int .i64 tb, .bool fe, .int .i64 lag]] w _
  obtain ⟨ab, ao, acs, aea, arow, ael⟩ := sliceR_at zAct Q1.out ha
  obtain rfl : p1 = some ⟨ab, ao, none⟩ := aea
  generalize p.2.1.getD a zAct = X at *
  obtain ⟨ac2, rfl, aq0, aq1, aq2⟩ := actR_open ael
  have HEL := Lib.hid ael
  obtain ⟨am, amk, rfl, aml, aml', -⟩ := sliceR_open aq2
  unfold maxLen at aml'
  have ea0 := (arow 0 (by simp)).1
  have ea1 := (arow 1 (by simp)).1
  have ea2 := (arow 2 (by simp)).1
  simp only [List.getElem_cons_zero, List.getElem_cons_succ, Nat.add_zero] at ea0 ea1 ea2
  have hai : (a : Int) < (p.2.1.length : Int) := by omega
  clear arow ael aq0 aq1 aq2 ha
  have ea0 := fun o0 o1 => (((Bel.refl w).alloc o0).alloc o1).cell ea0
  have ea1 := fun o0 o1 => (((Bel.refl w).alloc o0).alloc o1).cell ea1
  have ea2 := fun o0 o1 => (((Bel.refl w).alloc o0).alloc o1).cell ea2
  go_enter Try.func97, Try.ntmps97
  go_wp2_with fail
  go_region_held3 (fun W => W.cell? ⟨w.heap.size, 0, none⟩ = some (.int .i64 p.1) ∧ W.cell? ⟨w.heap.size, 1, none⟩ = some (.slice (some ⟨ab, ao, none⟩) p.2.1.length k1) ∧ W.cell? ⟨w.heap.size, 2, none⟩ = some (.slice p2 p.2.2.1.length k2) ∧ W.cell? ⟨w.heap.size, 3, none⟩ = some (.slice p3 p.2.2.2.1.length k3) ∧ W.cell? ⟨w.heap.size, 4, none⟩ = some (.slice p4 p.2.2.2.2.length k4) ∧ W.cell? ⟨w.heap.size + 1, 0, none⟩ = some (.int .i64 (a : Int)) ∧ W.cell? ⟨w.heap.size + 1, 1, none⟩ = some (.int .i64 tb) ∧ W.cell? ⟨w.heap.size + 1, 2, none⟩ = some (.bool fe) ∧ W.cell? ⟨w.heap.size + 1, 3, none⟩ = some (.int .i64 lag) ∧ W.cell? ⟨ab, ao + a * 3, none⟩ = some (.string X.1) ∧ W.cell? ⟨ab, ao + a * 3 + 1, none⟩ = some (.int .i64 X.2.1) ∧ W.cell? ⟨ab, ao + a * 3 + 2, none⟩ = some (.slice am X.2.2.length amk)) (first | exact keep12 (by assumption) (by assumption) | go_keep)
    (first | (go_at_call 37; (with_reducible refine (iModeIndexes_any _ X S _ (aggR_mk (actR_good.bel HEL.out (by (repeat (first | assumption | exact Bel.refl _ | apply Bel.drewN | apply Bel.drew | apply Bel.alloc | refine Bel.trans ?_ (by assumption)))) HS.out)) (by omega)).mono ?_); rintro e wt ⟨vm, rfl, hr, gt⟩; have HRG := Lib.hid (stays_one intsR_good hr); obtain ⟨rp, rk, rfl, -⟩ := sliceR_open hr; clear hr) | (go_at_call 103; (with_reducible refine (gap_any _ p S _ _ (rangeL X.2.2.length) _ _ (HP1.out _ (by (repeat (first | assumption | exact Bel.refl _ | apply Bel.drewN | apply Bel.drew | apply Bel.alloc | refine Bel.trans ?_ (by assumption))))) (fun b hb => Nat.lt_of_lt_of_le (HS.out b hb) (Bel.size (by (repeat (first | assumption | exact Bel.refl _ | apply Bel.drewN | apply Bel.drew | apply Bel.alloc | refine Bel.trans ?_ (by assumption)))))) HPO.out HK.out (HRG.out _ (by (repeat (first | assumption | exact Bel.refl _ | apply Bel.drewN | apply Bel.drew | apply Bel.alloc | refine Bel.trans ?_ (by assumption))))).1 (HRG.out _ (by (repeat (first | assumption | exact Bel.refl _ | apply Bel.drewN | apply Bel.drew | apply Bel.alloc | refine Bel.trans ?_ (by assumption))))).2).mono ?_); rintro e wt ⟨rfl, gt⟩))
  go_wp2
  go_ret
  exact ⟨ret_int HV.out.symm, by (repeat (first | assumption | exact Bel.refl _ | apply Bel.drewN | apply Bel.drew | apply Bel.alloc | refine Bel.trans ?_ (by assumption)))⟩


end Go.Proofs.Ytiaamddhocdhaaa
