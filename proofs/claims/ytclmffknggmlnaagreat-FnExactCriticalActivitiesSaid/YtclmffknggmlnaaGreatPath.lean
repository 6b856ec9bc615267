/- The shortest duration of an activity; PathBound: both sides. -/
import Derived.Test.YtclmffknggmlnaaGreatEarl
import Derived.Deep.RegionHeld3
namespace Go.Proofs.YtclmffknggmlnaaGreat
open Go.ChangeShapes Go.WideShapes Go.ChangeAt Go.RowKit
set_option linter.unusedVariables false

def shortV (p : ProjT) (a : Nat) : Int := minDur (p.2.1.getD a zAct).2.2 (rangeL (p.2.1.getD a zAct).2.2.length)
theorem shortV_bd {p : ProjT} (h : projOk p = true) {a : Nat} (ha : a < p.2.1.length) : 0 ≤ shortV p a ∧ shortV p a ≤ 12 := projOk_mindur h ha _
set_option maxHeartbeats 1000000 in
theorem sShort_any (v : Value) (p : ProjT) (S : Nat → Prop) (w : World) (hx : aggR projR S w v p) (hS : ∀ b, S b → b < w.heap.size) (a : Nat) (hp : projOk p = true) (ha : a < p.2.1.length) :
    Calls Tryz.prog 39 #[v, .int .i64 (a : Int)] w fun e w' => e = .returned (.int .i64 (shortV p a)) ∧ Bel w w' := by
  obtain ⟨cs, rfl, hx⟩ := hx
  obtain ⟨c1, c2, c3, c4, rfl, q0, q1, q2, q3, q4⟩ := projR_open hx
  have Q1 := Lib.hid q1
  have Q2 := Lib.hid q2
  have Q3 := Lib.hid q3
  have Q4 := Lib.hid q4
  have HP := Lib.hid hx
  obtain ⟨p1, k1, rfl, l1, l1', -⟩ := sliceR_open q1
  obtain ⟨p2, k2, rfl, l2, l2', -⟩ := sliceR_open q2
  obtain ⟨p3, k3, rfl, l3, l3', -⟩ := sliceR_open q3
  obtain ⟨p4, k4, rfl, l4, l4', -⟩ := sliceR_open q4
  unfold maxLen at l1' l2' l3' l4'
  clear hx q0 q1 q2 q3 q4
  have HS := Lib.hid hS
  clear hS
  have HP1 := Lib.hid (show ∀ W, Bel w W → aggR projR S W (.agg #[.int .i64 p.1, .slice p1 p.2.1.length k1, .slice p2 p.2.2.1.length k2, .slice p3 p.2.2.2.1.length k3, .slice p4 p.2.2.2.2.length k4]) p from fun W hW => aggR_mk (projR_good.bel HP.out hW HS.out))
  have hml := (projOk_modes hp ha).2
  clear hp
  have HV := Lib.hid (show shortV p a = minDur (p.2.1.getD a zAct).2.2 (rangeL (p.2.1.getD a zAct).2.2.length) from rfl)
  show Calls Tryz.prog 39 #[.agg #[.int .i64 p.1, .slice p1 p.2.1.length k1, .slice p2 p.2.2.1.length k2, .slice p3 p.2.2.2.1.length k3, .slice p4 p.2.2.2.2.length k4], .int .i64 (a : Int)] w _
  obtain ⟨ab, ao, acs, aea, arow, ael⟩ := sliceR_at zAct Q1.out ha
  obtain rfl : p1 = some ⟨ab, ao, none⟩ := aea
  generalize p.2.1.getD a zAct = X at *
  obtain ⟨ac2, rfl, aq0, aq1, aq2⟩ := actR_open ael
  have HEL := Lib.hid ael
  obtain ⟨am, amk, rfl, aml, aml', -⟩ := sliceR_open aq2
  unfold maxLen at aml'
  have ea0 := (arow 0 (by simp)).1
  have ea1 := (arow 1 (by simp)).1
  have ea2 := (arow 2 (by simp)).1
  simp only [List.getElem_cons_zero, List.getElem_cons_succ, Nat.add_zero] at ea0 ea1 ea2
  have hai : (a : Int) < (p.2.1.length : Int) := by omega
  clear arow ael aq0 aq1 aq2 ha
  have ea0 := fun o0 => ((Bel.refl w).alloc o0).cell ea0
  have ea1 := fun o0 => ((Bel.refl w).alloc o0).cell ea1
  have ea2 := fun o0 => ((Bel.refl w).alloc o0).cell ea2
  go_enter Tryz.func39, Tryz.ntmps39
  go_wp2_with fail
  go_region_held3 (fun W => W.cell? ⟨w.heap.size, 0, none⟩ = some (.int .i64 p.1) ∧ W.cell? ⟨w.heap.size, 1, none⟩ = some (.slice (some ⟨ab, ao, none⟩) p.2.1.length k1) ∧ W.cell? ⟨w.heap.size, 2, none⟩ = some (.slice p2 p.2.2.1.length k2) ∧ W.cell? ⟨w.heap.size, 3, none⟩ = some (.slice p3 p.2.2.2.1.length k3) ∧ W.cell? ⟨w.heap.size, 4, none⟩ = some (.slice p4 p.2.2.2.2.length k4) ∧ W.cell? ⟨ab, ao + a * 3, none⟩ = some (.string X.1) ∧ W.cell? ⟨ab, ao + a * 3 + 1, none⟩ = some (.int .i64 X.2.1) ∧ W.cell? ⟨ab, ao + a * 3 + 2, none⟩ = some (.slice am X.2.2.length amk)) (first | exact keep8 (by assumption) (by assumption) | go_keep)
    (first | (go_at_call 64; (with_reducible refine (sModeIndexes_any _ X S _ (aggR_mk (actR_good.bel HEL.out (by (repeat (first | assumption | exact Bel.refl _ | apply Bel.drewN | apply Bel.drew | apply Bel.alloc | refine Bel.trans ?_ (by assumption)))) HS.out)) (by omega)).mono ?_); rintro e wt ⟨vm, rfl, hr, gt⟩; have HRG := Lib.hid (stays_one intsR_good hr); obtain ⟨rp, rk, rfl, -⟩ := sliceR_open hr; clear hr) | (go_at_call 63; (with_reducible refine (sMinDuration_any _ X S _ (rangeL X.2.2.length) _ _ (aggR_mk (actR_good.bel HEL.out (by (repeat (first | assumption | exact Bel.refl _ | apply Bel.drewN | apply Bel.drew | apply Bel.alloc | refine Bel.trans ?_ (by assumption)))) HS.out)) (fun b hb => Nat.lt_of_lt_of_le (HS.out b hb) (Bel.size (by (repeat (first | assumption | exact Bel.refl _ | apply Bel.drewN | apply Bel.drew | apply Bel.alloc | refine Bel.trans ?_ (by assumption)))))) (HRG.out _ (by (repeat (first | assumption | exact Bel.refl _ | apply Bel.drewN | apply Bel.drew | apply Bel.alloc | refine Bel.trans ?_ (by assumption))))).1 (HRG.out _ (by (repeat (first | assumption | exact Bel.refl _ | apply Bel.drewN | apply Bel.drew | apply Bel.alloc | refine Bel.trans ?_ (by assumption))))).2 (by omega)).mono ?_); rintro e wt ⟨rfl, gt⟩) | fail)
  all_goals (go_wp2; go_ret; exact ⟨ret_int HV.out.symm, by (repeat (first | assumption | exact Bel.refl _ | apply Bel.drewN | apply Bel.drew | apply Bel.alloc | refine Bel.trans ?_ (by assumption)))⟩)

set_option maxHeartbeats 1000000 in
theorem iShort_any (v : Value) (p : ProjT) (S : Nat → Prop) (w : World) (hx : aggR projR S w v p) (hS : ∀ b, S b → b < w.heap.size) (a : Nat) (hp : projOk p = true) (ha : a < p.2.1.length) :
    Calls Tryz.prog 41 #[v, .int .i64 (a : Int)] w fun e w' => e = .returned (.int .i64 (shortV p a)) ∧ Bel w w' := by
  obtain ⟨cs, rfl, hx⟩ := hx
  obtain ⟨c1, c2, c3, c4, rfl, q0, q1, q2, q3, q4⟩ := projR_open hx
  have Q1 := Lib.hid q1
  have Q2 := Lib.hid q2
  have Q3 := Lib.hid q3
  have Q4 := Lib.hid q4
  have HP := Lib.hid hx
  obtain ⟨p1, k1, rfl, l1, l1', -⟩ := sliceR_open q1
  obtain ⟨p2, k2, rfl, l2, l2', -⟩ := sliceR_open q2
  obtain ⟨p3, k3, rfl, l3, l3', -⟩ := sliceR_open q3
  obtain ⟨p4, k4, rfl, l4, l4', -⟩ := sliceR_open q4
  unfold maxLen at l1' l2' l3' l4'
  clear hx q0 q1 q2 q3 q4
  have HS := Lib.hid hS
  clear hS
  have HP1 := Lib.hid (show ∀ W, Bel w W → aggR projR S W (.agg #[.int .i64 p.1, .slice p1 p.2.1.length k1, .slice p2 p.2.2.1.length k2, .slice p3 p.2.2.2.1.length k3, .slice p4 p.2.2.2.2.length k4]) p from fun W hW => aggR_mk (projR_good.bel HP.out hW HS.out))
  have hml := (projOk_modes hp ha).2
  clear hp
  have HV := Lib.hid (show shortV p a = minDur (p.2.1.getD a zAct).2.2 (rangeL (p.2.1.getD a zAct).2.2.length) from rfl)
  show Calls Tryz.prog 41 #[.agg #[.int .i64 p.1, .slice p1 p.2.1.length k1, .slice p2 p.2.2.1.length k2, .slice p3 p.2.2.2.1.length k3, .slice p4 p.2.2.2.2.length k4], .int .i64 (a : Int)] w _
  obtain ⟨ab, ao, acs, aea, arow, ael⟩ := sliceR_at zAct Q1.out ha
  obtain rfl : p1 = some ⟨ab, ao, none⟩ := aea
  generalize p.2.1.getD a zAct = X at *
  obtain ⟨ac2, rfl, aq0, aq1, aq2⟩ := actR_open ael
  have HEL := Lib.hid ael
  obtain ⟨am, amk, rfl, aml, aml', -⟩ := sliceR_open aq2
  unfold maxLen at aml'
  have ea0 := (arow 0 (by simp)).1
  have ea1 := (arow 1 (by simp)).1
  have ea2 := (arow 2 (by simp)).1
  simp only [List.getElem_cons_zero, List.getElem_cons_succ, Nat.add_zero] at ea0 ea1 ea2
  have hai : (a : Int) < (p.2.1.length : Int) := by omega
  clear arow ael aq0 aq1 aq2 ha
  have ea0 := fun o0 => ((Bel.refl w).alloc o0).cell ea0
  have ea1 := fun o0 => ((Bel.refl w).alloc o0).cell ea1
  have ea2 := fun o0 => ((Bel.refl w).alloc o0).cell ea2
  go_enter Tryz.func41, Tryz.ntmps41
  go_wp2_with fail
  go_region_held3 (fun W => W.cell? ⟨w.heap.size, 0, none⟩ = some (.int .i64 p.1) ∧ W.cell? ⟨w.heap.size, 1, none⟩ = some (.slice (some ⟨ab, ao, none⟩) p.2.1.length k1) ∧ W.cell? ⟨w.heap.size, 2, none⟩ = some (.slice p2 p.2.2.1.length k2) ∧ W.cell? ⟨w.heap.size, 3, none⟩ = some (.slice p3 p.2.2.2.1.length k3) ∧ W.cell? ⟨w.heap.size, 4, none⟩ = some (.slice p4 p.2.2.2.2.length k4) ∧ W.cell? ⟨ab, ao + a * 3, none⟩ = some (.string X.1) ∧ W.cell? ⟨ab, ao + a * 3 + 1, none⟩ = some (.int .i64 X.2.1) ∧ W.cell? ⟨ab, ao + a * 3 + 2, none⟩ = some (.slice am X.2.2.length amk)) (first | exact keep8 (by assumption) (by assumption) | go_keep)
    (first | (go_at_call 66; (with_reducible refine (iModeIndexes_any _ X S _ (aggR_mk (actR_good.bel HEL.out (by (repeat (first | assumption | exact Bel.refl _ | apply Bel.drewN | apply Bel.drew | apply Bel.alloc | refine Bel.trans ?_ (by assumption)))) HS.out)) (by omega)).mono ?_); rintro e wt ⟨vm, rfl, hr, gt⟩; have HRG := Lib.hid (stays_one intsR_good hr); obtain ⟨rp, rk, rfl, -⟩ := sliceR_open hr; clear hr) | (go_at_call 65; (with_reducible refine (iMinDuration_any _ X S _ (rangeL X.2.2.length) _ _ (aggR_mk (actR_good.bel HEL.out (by (repeat (first | assumption | exact Bel.refl _ | apply Bel.drewN | apply Bel.drew | apply Bel.alloc | refine Bel.trans ?_ (by assumption)))) HS.out)) (fun b hb => Nat.lt_of_lt_of_le (HS.out b hb) (Bel.size (by (repeat (first | assumption | exact Bel.refl _ | apply Bel.drewN | apply Bel.drew | apply Bel.alloc | refine Bel.trans ?_ (by assumption)))))) (HRG.out _ (by (repeat (first | assumption | exact Bel.refl _ | apply Bel.drewN | apply Bel.drew | apply Bel.alloc | refine Bel.trans ?_ (by assumption))))).1 (HRG.out _ (by (repeat (first | assumption | exact Bel.refl _ | apply Bel.drewN | apply Bel.drew | apply Bel.alloc | refine Bel.trans ?_ (by assumption))))).2 (by omega)).mono ?_); rintro e wt ⟨rfl, gt⟩) | fail)
  all_goals (go_wp2; go_ret; exact ⟨ret_int HV.out.symm, by (repeat (first | assumption | exact Bel.refl _ | apply Bel.drewN | apply Bel.drew | apply Bel.alloc | refine Bel.trans ?_ (by assumption)))⟩)

/-- The greatest end of a shortest activity at its earliest start. -/
def pathTo (p : ProjT) (E : List Int) : Nat → Int
  | 0 => 0
  | i + 1 => maxI (pathTo p E i) (E.getD i 0 + shortV p i)
def pathV (p : ProjT) : Int := pathTo p (earlV p) (earlV p).length
theorem earlV_at (p : ProjT) {i : Nat} (hi : i < (earlV p).length) : (0 ≤ (earlV p).getD i 0 ∧ (earlV p).getD i 0 ≤ 4608) ∧ projOk p = true ∧ i < p.2.1.length := by
  have hi' : i < (distV p).length := by unfold earlV at hi; rw [earlM_length] at hi; exact hi
  refine ⟨?_, ?_⟩
  · rw [getD_get _ 0 hi]
    have := earlTo_bd (distV_sq p) hi' (distV p).length (Nat.le_refl _)
    simpa [earlV, earlM] using this
  · unfold distV at hi'
    split at hi'
    · next h => exact ⟨h.1, by rw [rowsOf_length] at hi'; exact hi'⟩
    · simp at hi'
theorem pathTo_bd (p : ProjT) : ∀ i, i ≤ (earlV p).length → 0 ≤ pathTo p (earlV p) i ∧ pathTo p (earlV p) i ≤ 4620 := by
  intro i
  induction i with
  | zero => intro _; simp [pathTo]
  | succ i ih =>
    intro hi
    have h1 := ih (by omega)
    obtain ⟨h2, h3, h4⟩ := earlV_at p (i := i) (by omega)
    have h5 := shortV_bd h3 h4
    simp only [pathTo, maxI_lt]
    split <;> omega
set_option maxRecDepth 100000 in
set_option maxHeartbeats 1000000 in
theorem sPathBound_any (v : Value) (p : ProjT) (S : Nat → Prop) (w : World) (hx : aggR projR S w v p) (hS : ∀ b, S b → b < w.heap.size) (_hn : bulkProject p ≤ 1048576) : Calls Tryz.prog 42 #[v] w (fun e w' => e = .returned (.int .i64 (pathV p)) ∧ Bel w w') := by
  obtain ⟨cs, rfl, hx⟩ := hx
  obtain ⟨c1, c2, c3, c4, rfl, q0, q1, q2, q3, q4⟩ := projR_open hx
  have Q1 := Lib.hid q1
  have Q2 := Lib.hid q2
  have Q3 := Lib.hid q3
  have Q4 := Lib.hid q4
  have HP := Lib.hid hx
  obtain ⟨p1, k1, rfl, l1, l1', -⟩ := sliceR_open q1
  obtain ⟨p2, k2, rfl, l2, l2', -⟩ := sliceR_open q2
  obtain ⟨p3, k3, rfl, l3, l3', -⟩ := sliceR_open q3
  obtain ⟨p4, k4, rfl, l4, l4', -⟩ := sliceR_open q4
  unfold maxLen at l1' l2' l3' l4'
  clear hx q0 q1 q2 q3 q4
  have HS := Lib.hid hS
  have HNB := Lib.hid _hn
  clear hS _hn
  have HP1 := Lib.hid (show ∀ W, Bel w W → aggR projR S W (.agg #[.int .i64 p.1, .slice p1 p.2.1.length k1, .slice p2 p.2.2.1.length k2, .slice p3 p.2.2.2.1.length k3, .slice p4 p.2.2.2.2.length k4]) p from fun W hW => aggR_mk (projR_good.bel HP.out hW HS.out))
  show Calls Tryz.prog 42 #[.agg #[.int .i64 p.1, .slice p1 p.2.1.length k1, .slice p2 p.2.2.1.length k2, .slice p3 p.2.2.2.1.length k3, .slice p4 p.2.2.2.2.length k4]] w _
  go_enter Tryz.func42, Tryz.ntmps42
  obtain ⟨W0, hW0, hwW, hsz0, hbx⟩ : ∃ W0, W0 = w.alloc (.cells #[.int .i64 p.1, .slice p1 p.2.1.length k1, .slice p2 p.2.2.1.length k2, .slice p3 p.2.2.2.1.length k3, .slice p4 p.2.2.2.2.length k4] 34) ∧ Bel w W0 ∧ W0.heap.size = w.heap.size + 1 ∧ W0.cell? ⟨w.heap.size, 0, none⟩ = some (.int .i64 p.1) ∧ W0.cell? ⟨w.heap.size, 1, none⟩ = some (.slice p1 p.2.1.length k1) ∧ W0.cell? ⟨w.heap.size, 2, none⟩ = some (.slice p2 p.2.2.1.length k2) ∧ W0.cell? ⟨w.heap.size, 3, none⟩ = some (.slice p3 p.2.2.2.1.length k3) ∧ W0.cell? ⟨w.heap.size, 4, none⟩ = some (.slice p4 p.2.2.2.2.length k4) := ⟨_, rfl, by (repeat (first | assumption | exact Bel.refl _ | apply Bel.drewN | apply Bel.drew | apply Bel.alloc | refine Bel.trans ?_ (by assumption))), by simp, by simp [go_sem], by simp [go_sem], by simp [go_sem], by simp [go_sem], by simp [go_sem]⟩
  have HBX := Lib.hid (show ∀ W, Bel W0 W → W.cell? ⟨w.heap.size, 0, none⟩ = some (.int .i64 p.1) ∧ W.cell? ⟨w.heap.size, 1, none⟩ = some (.slice p1 p.2.1.length k1) ∧ W.cell? ⟨w.heap.size, 2, none⟩ = some (.slice p2 p.2.2.1.length k2) ∧ W.cell? ⟨w.heap.size, 3, none⟩ = some (.slice p3 p.2.2.2.1.length k3) ∧ W.cell? ⟨w.heap.size, 4, none⟩ = some (.slice p4 p.2.2.2.2.length k4) from fun W hW => keep5 hbx hW)
  clear hbx
  have HSZ0 := Lib.hid hsz0
  clear hsz0
  go_wp2_with fail
  rw [← hW0]
  clear hW0
  refine (sEarliestStarts_any _ p S _ (HP1.out _ (by (repeat (first | assumption | exact Bel.refl _ | apply Bel.drewN | apply Bel.drew | apply Bel.alloc | refine Bel.trans ?_ (by assumption))))) (fun b hb => Nat.lt_of_lt_of_le (HS.out b hb) (Bel.size (by (repeat (first | assumption | exact Bel.refl _ | apply Bel.drewN | apply Bel.drew | apply Bel.alloc | refine Bel.trans ?_ (by assumption)))))) HNB.out).mono ?_
  rintro e w1 ⟨vr, rfl, hr, g1⟩
  have G1 : Bel W0 w1 := by (repeat (first | assumption | exact Bel.refl _ | apply Bel.drewN | apply Bel.drew | apply Bel.alloc | refine Bel.trans ?_ (by assumption)))
  have HAT := Lib.hid (fun i hi => intsR_at' hr (i := i) hi)
  obtain ⟨q, c, rfl, hqc, hqm, -⟩ := sliceR_open hr
  unfold maxLen at hqm
  have HRG := Lib.hid hr
  clear hr
  have hEl : (earlV p).length ≤ 6 := by unfold earlV; rw [earlM_length]; exact (distV_sq p).1
  have HV := Lib.hid (show pathV p = pathTo p (earlV p) (earlV p).length from rfl)
  have HPB := Lib.hid (pathTo_bd p)
  have HEA := Lib.hid (fun i hi => earlV_at p (i := i) hi)
  generalize earlV p = E at *
  go_wp2_with fail
  go_loopw [3, 9] (fun m i wr => ∃ j : Nat, j ≤ E.length ∧ i = .int .i64 j ∧ m = .int .i64 (pathTo p E j) ∧ Bel w1 wr) (fun _ i _ => E.length - (intOf i).toNat)
  case atStart => exact ⟨0, Nat.zero_le _, rfl, rfl, Bel.refl _⟩
  case round =>
    obtain ⟨j, hj, rfl, rfl, hB⟩ := hrel
    have G2 : Bel W0 wr := G1.trans hB
    have G3 : Bel w wr := hwW.trans G2
    by_cases hlt : j < E.length
    · obtain ⟨⟨e1, e2⟩, hpo, hja⟩ := HEA.out j hlt
      have hsb := shortV_bd hpo hja
      have hpb := HPB.out j hj
      have HPO := Lib.hid hpo
      have HJA := Lib.hid hja
      obtain ⟨b, off, rfl, hc⟩ : ∃ b off, q = some ⟨b, off, none⟩ ∧ w1.cell? ⟨b, off + j, none⟩ = some (.int .i64 (E.getD j 0)) := by
        obtain ⟨b, off, h1, h2⟩ := HAT.out j hlt
        exact ⟨b, off, by simpa [sliceAddr] using h1, h2⟩
      have hc := hB.cell hc
      obtain ⟨b0, b1, b2, b3, b4⟩ := HBX.out wr G2
      have hji : (j : Int) < (E.length : Int) := by omega
      have HE := Lib.hid (show maxI (pathTo p E j) (E.getD j 0 + shortV p j) = pathTo p E (j + 1) from rfl)
      have hsum : IntKind.i64.wrap (E.getD j 0 + shortV p j) = E.getD j 0 + shortV p j := IntWalk.i64_in _ (by omega)
      clear hpo hja
      generalize E.getD j 0 = EJ at *
      go_wp2_with fail
      refine (sShort_any _ p S _ (HP1.out _ (by (repeat (first | assumption | exact Bel.refl _ | apply Bel.drewN | apply Bel.drew | apply Bel.alloc | refine Bel.trans ?_ (by assumption))))) (fun b hb => Nat.lt_of_lt_of_le (HS.out b hb) (Bel.size (by (repeat (first | assumption | exact Bel.refl _ | apply Bel.drewN | apply Bel.drew | apply Bel.alloc | refine Bel.trans ?_ (by assumption)))))) j HPO.out HJA.out).mono ?_
      rintro e wt ⟨rfl, gt⟩
      clear b0 b1 b2 b3 b4 hc
      have hBt := hB.trans gt
      generalize shortV p j = SJ at *
      go_wp2_with fail
      refine (l02Max_any _ _ _).mono ?_
      rintro e wm ⟨rfl, rfl⟩
      rw [HE.out]
      go_wp2_with fail
      go_roundw
      case rel => exact ⟨j + 1, by omega, by go_num, rfl, by (repeat (first | assumption | exact Bel.refl _ | apply Bel.drewN | apply Bel.drew | apply Bel.alloc | refine Bel.trans ?_ (by assumption)))⟩
      case measure => simp [intOf]; omega
    · obtain rfl : j = E.length := by omega
      go_wp2
      go_ret
      exact ⟨by rw [HV.out]; rfl, G3⟩

set_option maxRecDepth 100000 in
set_option maxHeartbeats 1000000 in
theorem iPathBound_any (v : Value) (p : ProjT) (S : Nat → Prop) (w : World) (hx : aggR projR S w v p) (hS : ∀ b, S b → b < w.heap.size) (_hn : bulkProject p ≤ 1048576) : Calls Tryz.prog 43 #[v] w (fun e w' => e = .returned (.int .i64 (pathV p)) ∧ Bel w w') := by
  obtain ⟨cs, rfl, hx⟩ := hx
  obtain ⟨c1, c2, c3, c4, rfl, q0, q1, q2, q3, q4⟩ := projR_open hx
  have Q1 := Lib.hid q1
  have Q2 := Lib.hid q2
  have Q3 := Lib.hid q3
  have Q4 := Lib.hid q4
  have HP := Lib.hid hx
  obtain ⟨p1, k1, rfl, l1, l1', -⟩ := sliceR_open q1
  obtain ⟨p2, k2, rfl, l2, l2', -⟩ := sliceR_open q2
  obtain ⟨p3, k3, rfl, l3, l3', -⟩ := sliceR_open q3
  obtain ⟨p4, k4, rfl, l4, l4', -⟩ := sliceR_open q4
  unfold maxLen at l1' l2' l3' l4'
  clear hx q0 q1 q2 q3 q4
  have HS := Lib.hid hS
  have HNB := Lib.hid _hn
  clear hS _hn
  have HP1 := Lib.hid (show ∀ W, Bel w W → aggR projR S W (.agg #[.int .i64 p.1, .slice p1 p.2.1.length k1, .slice p2 p.2.2.1.length k2, .slice p3 p.2.2.2.1.length k3, .slice p4 p.2.2.2.2.length k4]) p from fun W hW => aggR_mk (projR_good.bel HP.out hW HS.out))
  show Calls Tryz.prog 43 #[.agg #[.int .i64 p.1, .slice p1 p.2.1.length k1, .slice p2 p.2.2.1.length k2, .slice p3 p.2.2.2.1.length k3, .slice p4 p.2.2.2.2.length k4]] w _
  go_enter Tryz.func43, Tryz.ntmps43
  obtain ⟨W0, hW0, hwW, hsz0, hbx⟩ : ∃ W0, W0 = w.alloc (.cells #[.int .i64 p.1, .slice p1 p.2.1.length k1, .slice p2 p.2.2.1.length k2, .slice p3 p.2.2.2.1.length k3, .slice p4 p.2.2.2.2.length k4] 34) ∧ Bel w W0 ∧ W0.heap.size = w.heap.size + 1 ∧ W0.cell? ⟨w.heap.size, 0, none⟩ = some (.int .i64 p.1) ∧ W0.cell? ⟨w.heap.size, 1, none⟩ = some (.slice p1 p.2.1.length k1) ∧ W0.cell? ⟨w.heap.size, 2, none⟩ = some (.slice p2 p.2.2.1.length k2) ∧ W0.cell? ⟨w.heap.size, 3, none⟩ = some (.slice p3 p.2.2.2.1.length k3) ∧ W0.cell? ⟨w.heap.size, 4, none⟩ = some (.slice p4 p.2.2.2.2.length k4) := ⟨_, rfl, by (repeat (first | assumption | exact Bel.refl _ | apply Bel.drewN | apply Bel.drew | apply Bel.alloc | refine Bel.trans ?_ (by assumption))), by simp, by simp [go_sem], by simp [go_sem], by simp [go_sem], by simp [go_sem], by simp [go_sem]⟩
  have HBX := Lib.hid (show ∀ W, Bel W0 W → W.cell? ⟨w.heap.size, 0, none⟩ = some (.int .i64 p.1) ∧ W.cell? ⟨w.heap.size, 1, none⟩ = some (.slice p1 p.2.1.length k1) ∧ W.cell? ⟨w.heap.size, 2, none⟩ = some (.slice p2 p.2.2.1.length k2) ∧ W.cell? ⟨w.heap.size, 3, none⟩ = some (.slice p3 p.2.2.2.1.length k3) ∧ W.cell? ⟨w.heap.size, 4, none⟩ = some (.slice p4 p.2.2.2.2.length k4) from fun W hW => keep5 hbx hW)
  clear hbx
  have HSZ0 := Lib.hid hsz0
  clear hsz0
  go_wp2_with fail
  rw [← hW0]
  clear hW0
  refine (iEarliestStarts_any _ p S _ (HP1.out _ (by (repeat (first | assumption | exact Bel.refl _ | apply Bel.drewN | apply Bel.drew | apply Bel.alloc | refine Bel.trans ?_ (by assumption))))) (fun b hb => Nat.lt_of_lt_of_le (HS.out b hb) (Bel.size (by (repeat (first | assumption | exact Bel.refl _ | apply Bel.drewN | apply Bel.drew | apply Bel.alloc | refine Bel.trans ?_ (by assumption)))))) HNB.out).mono ?_
  rintro e w1 ⟨vr, rfl, hr, g1⟩
  have G1 : Bel W0 w1 := by (repeat (first | assumption | exact Bel.refl _ | apply Bel.drewN | apply Bel.drew | apply Bel.alloc | refine Bel.trans ?_ (by assumption)))
  have HAT := Lib.hid (fun i hi => intsR_at' hr (i := i) hi)
  obtain ⟨q, c, rfl, hqc, hqm, -⟩ := sliceR_open hr
  unfold maxLen at hqm
  have HRG := Lib.hid hr
  clear hr
  have hEl : (earlV p).length ≤ 6 := by unfold earlV; rw [earlM_length]; exact (distV_sq p).1
  have HV := Lib.hid (show pathV p = pathTo p (earlV p) (earlV p).length from rfl)
  have HPB := Lib.hid (pathTo_bd p)
  have HEA := Lib.hid (fun i hi => earlV_at p (i := i) hi)
  generalize earlV p = E at *
  go_wp2_with fail
  go_loopw [3, 9] (fun m i wr => ∃ j : Nat, j ≤ E.length ∧ i = .int .i64 j ∧ m = .int .i64 (pathTo p E j) ∧ Bel w1 wr) (fun _ i _ => E.length - (intOf i).toNat)
  case atStart => exact ⟨0, Nat.zero_le _, rfl, rfl, Bel.refl _⟩
  case round =>
    obtain ⟨j, hj, rfl, rfl, hB⟩ := hrel
    have G2 : Bel W0 wr := G1.trans hB
    have G3 : Bel w wr := hwW.trans G2
    by_cases hlt : j < E.length
    · obtain ⟨⟨e1, e2⟩, hpo, hja⟩ := HEA.out j hlt
      have hsb := shortV_bd hpo hja
      have hpb := HPB.out j hj
      have HPO := Lib.hid hpo
      have HJA := Lib.hid hja
      obtain ⟨b, off, rfl, hc⟩ : ∃ b off, q = some ⟨b, off, none⟩ ∧ w1.cell? ⟨b, off + j, none⟩ = some (.int .i64 (E.getD j 0)) := by
        obtain ⟨b, off, h1, h2⟩ := HAT.out j hlt
        exact ⟨b, off, by simpa [sliceAddr] using h1, h2⟩
      have hc := hB.cell hc
      obtain ⟨b0, b1, b2, b3, b4⟩ := HBX.out wr G2
      have hji : (j : Int) < (E.length : Int) := by omega
      have HE := Lib.hid (show maxI (pathTo p E j) (E.getD j 0 + shortV p j) = pathTo p E (j + 1) from rfl)
      have hsum : IntKind.i64.wrap (E.getD j 0 + shortV p j) = E.getD j 0 + shortV p j := IntWalk.i64_in _ (by omega)
      clear hpo hja
      generalize E.getD j 0 = EJ at *
      go_wp2_with fail
      refine (iShort_any _ p S _ (HP1.out _ (by (repeat (first | assumption | exact Bel.refl _ | apply Bel.drewN | apply Bel.drew | apply Bel.alloc | refine Bel.trans ?_ (by assumption))))) (fun b hb => Nat.lt_of_lt_of_le (HS.out b hb) (Bel.size (by (repeat (first | assumption | exact Bel.refl _ | apply Bel.drewN | apply Bel.drew | apply Bel.alloc | refine Bel.trans ?_ (by assumption)))))) j HPO.out HJA.out).mono ?_
      rintro e wt ⟨rfl, gt⟩
      clear b0 b1 b2 b3 b4 hc
      have hBt := hB.trans gt
      generalize shortV p j = SJ at *
      go_wp2
      refine ⟨⟨j + 1, by omega, by go_num, by rw [← HE.out, maxI_lt], by (repeat (first | assumption | exact Bel.refl _ | apply Bel.drewN | apply Bel.drew | apply Bel.alloc | refine Bel.trans ?_ (by assumption)))⟩, by simp [intOf]; omega⟩
    · obtain rfl : j = E.length := by omega
      go_wp2
      go_ret
      exact ⟨by rw [HV.out]; rfl, G3⟩

end Go.Proofs.YtclmffknggmlnaaGreat
