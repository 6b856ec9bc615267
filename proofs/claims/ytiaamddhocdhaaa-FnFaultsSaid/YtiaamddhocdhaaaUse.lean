/- Contracts of UsageAt, the capacity at a time, IdleCapacity. -/
import Derived.Test.YtiaamddhocdhaaaRun
namespace Go.Proofs.Ytiaamddhocdhaaa
open Go.ChangeShapes Go.WideShapes Go.ChangeAt Go.RowKit
set_option linter.unusedVariables false

def capTo (l : List StepT) (t : Int) : Nat → Int
  | 0 => 0
  | k + 1 => if (l.getD k zStep).1 ≤ t then (l.getD k zStep).2 else capTo l t k
/-- The capacity of steps at a time. -/
def capV (l : List StepT) (t : Int) : Int := capTo l t l.length
theorem capTo_bd {l : List StepT} (h : stepsOkB l = true) (t : Int) : ∀ k, k ≤ l.length → 0 ≤ capTo l t k ∧ capTo l t k ≤ 20 := by
  intro k
  induction k with
  | zero => intro _; simp [capTo]
  | succ k ih =>
    intro hk
    unfold stepsOkB at h
    simp only [Bool.and_eq_true] at h
    have h1 := List.all_eq_true.1 h.1 k (List.mem_range.2 (by omega))
    unfold stepAt at h1
    simp only [inBv, Bool.and_eq_true, decide_eq_true_eq] at h1
    have h2 := ih (by omega)
    simp only [capTo]
    split <;> omega
theorem projOk_steps {p : ProjT} (h : projOk p = true) {r : Nat} (hr : r < p.2.2.2.1.length) : stepsOkB (p.2.2.2.1.getD r zRes).1 = true := by
  unfold projOk at h
  simp only [Bool.and_eq_true] at h
  have h1 := List.all_eq_true.1 h.2.2.1 r (List.mem_range.2 hr)
  unfold resOkB at h1
  simp only [Bool.and_eq_true] at h1
  exact h1.2.1
theorem stepsOk_len {l : List StepT} (h : stepsOkB l = true) : l.length ≤ 8 := by
  unfold stepsOkB at h
  simp only [inBv, Bool.and_eq_true, decide_eq_true_eq] at h
  omega
def idleTo (p : ProjT) (s : SchT) (r : Nat) : Nat → Int
  | 0 => 0
  | k + 1 => idleTo p s r k + maxI 0 (capV (p.2.2.2.1.getD r zRes).1 k - usageV p s r k)
def idleV (p : ProjT) (s : SchT) (r : Int) : Int := if schFormB p s && inBv r 0 ((p.2.2.2.1.length : Int) - 1) then idleTo p s r.toNat (minI (endMax p s p.2.1.length) 60).toNat else 0
theorem idleTo_bd {p : ProjT} {s : SchT} {r : Nat} (h : schFormB p s = true) (hr : r < p.2.2.2.1.length) : ∀ k, 0 ≤ idleTo p s r k ∧ idleTo p s r k ≤ 20 * k := by
  intro k
  induction k with
  | zero => simp [idleTo]
  | succ k ih =>
    have h1 := usageV_bd (t := (k : Int)) h hr
    have h2 := capTo_bd (projOk_steps (projOk_form h) hr) (k : Int) _ (Nat.le_refl _)
    simp only [idleTo, maxI]
    unfold capV
    split <;> omega

set_option maxHeartbeats 1000000 in
theorem iUsageAt_any (v : Value) (p : ProjT) (S : Nat → Prop) (v1 : Value) (s : SchT) (T : Nat → Prop) (a t : Int) (w : World) (hx : aggR projR S w v p) (hS : ∀ b, S b → b < w.heap.size) (_hn : bulkProject p ≤ 1048576) (hs : aggR schR T w v1 s) (hT : ∀ b, T b → b < w.heap.size) (_hn1 : bulkSchedule s ≤ 1048576) :
    Calls Try.prog 30 #[v, v1, .int .i64 a, .int .i64 t] w fun e w' => e = .returned (.int .i64 (usageAtV p s a t)) ∧ Bel w w' := by
  obtain ⟨cs, rfl, hx⟩ := hx
  obtain ⟨c1, c2, c3, c4, rfl, q0, q1, q2, q3, q4⟩ := projR_open hx
  have Q1 := Lib.hid q1
  have Q2 := Lib.hid q2
  have Q3 := Lib.hid q3
  have Q4 := Lib.hid q4
  have HP := Lib.hid hx
  obtain ⟨p1, k1, rfl, l1, l1', -⟩ := sliceR_open q1
  obtain ⟨p2, k2, rfl, l2, l2', -⟩ := sliceR_open q2
  obtain ⟨p3, k3, rfl, l3, l3', -⟩ := sliceR_open q3
  obtain ⟨p4, k4, rfl, l4, l4', -⟩ := sliceR_open q4
  unfold maxLen at l1' l2' l3' l4'
  clear hx q0 q1 q2 q3 q4
  obtain ⟨zs, rfl, hs⟩ := hs
  have HZ := hs
  obtain ⟨z0, z1, rfl, zq0, zq1⟩ := schR_open hs
  have A0 := Lib.hid (fun i hi => intsR_at' zq0 (i := i) hi)
  have A1 := Lib.hid (fun i hi => intsR_at' zq1 (i := i) hi)
  obtain ⟨sp0, sk0, rfl, sl0, sl0', -⟩ := sliceR_open zq0
  obtain ⟨sp1, sk1, rfl, sl1, sl1', -⟩ := sliceR_open zq1
  unfold maxLen at sl0' sl1'
  have HT := Lib.hid hT
  have HQ1 := Lib.hid (show ∀ W, Bel w W → aggR schR T W (.agg #[.slice sp0 s.1.length sk0, .slice sp1 s.2.length sk1]) s from fun W hW => aggR_mk (schR_good.bel HZ hW HT.out))
  clear hs zq0 zq1 hT HZ
  have HS := Lib.hid hS
  have HN := Lib.hid _hn
  have HN1 := Lib.hid _hn1
  clear hS _hn _hn1
  have HP1 := Lib.hid (show ∀ W, Bel w W → aggR projR S W (.agg #[.int .i64 p.1, .slice p1 p.2.1.length k1, .slice p2 p.2.2.1.length k2, .slice p3 p.2.2.2.1.length k3, .slice p4 p.2.2.2.2.length k4]) p from fun W hW => aggR_mk (projR_good.bel HP.out hW HS.out))
  show Calls Try.prog 30 #[.agg #[.int .i64 p.1, .slice p1 p.2.1.length k1, .slice p2 p.2.2.1.length k2, .slice p3 p.2.2.2.1.length k3, .slice p4 p.2.2.2.2.length k4], .agg #[.slice sp0 s.1.length sk0, .slice sp1 s.2.length sk1], .int .i64 a, .int .i64 t] w _
  go_enter Try.func30, Try.ntmps30
  go_wp2_with fail
  refine (iScheduleForm_any _ p S _ s T _ (HP1.out _ (by (repeat (first | assumption | exact Bel.refl _ | apply Bel.drewN | apply Bel.drew | apply Bel.alloc | refine Bel.trans ?_ (by assumption))))) (fun b hb => Nat.lt_of_lt_of_le (HS.out b hb) (Bel.size (by (repeat (first | assumption | exact Bel.refl _ | apply Bel.drewN | apply Bel.drew | apply Bel.alloc | refine Bel.trans ?_ (by assumption)))))) HN.out (HQ1.out _ (by (repeat (first | assumption | exact Bel.refl _ | apply Bel.drewN | apply Bel.drew | apply Bel.alloc | refine Bel.trans ?_ (by assumption))))) (fun b hb => Nat.lt_of_lt_of_le (HT.out b hb) (Bel.size (by (repeat (first | assumption | exact Bel.refl _ | apply Bel.drewN | apply Bel.drew | apply Bel.alloc | refine Bel.trans ?_ (by assumption)))))) HN1.out).mono ?_
  rintro e w1 ⟨rfl, g1⟩
  have b0 := g1.cell (p := ⟨w.heap.size, 0, none⟩) (v := .int .i64 p.1) (by simp [go_sem])
  have b1 := g1.cell (p := ⟨w.heap.size, 1, none⟩) (v := .slice p1 p.2.1.length k1) (by simp [go_sem])
  have b2 := g1.cell (p := ⟨w.heap.size, 2, none⟩) (v := .slice p2 p.2.2.1.length k2) (by simp [go_sem])
  have b3 := g1.cell (p := ⟨w.heap.size, 3, none⟩) (v := .slice p3 p.2.2.2.1.length k3) (by simp [go_sem])
  have b4 := g1.cell (p := ⟨w.heap.size, 4, none⟩) (v := .slice p4 p.2.2.2.2.length k4) (by simp [go_sem])
  have c0 := g1.cell (p := ⟨w.heap.size + 1, 0, none⟩) (v := .slice sp0 s.1.length sk0) (by simp [go_sem])
  have c1 := g1.cell (p := ⟨w.heap.size + 1, 1, none⟩) (v := .slice sp1 s.2.length sk1) (by simp [go_sem])
  have G : Bel w w1 := by (repeat (first | assumption | exact Bel.refl _ | apply Bel.drewN | apply Bel.drew | apply Bel.alloc | refine Bel.trans ?_ (by assumption)))
  cases hf : schFormB p s
  · have HF := Lib.hid (show usageAtV p s a t = 0 from by unfold usageAtV; rw [hf]; rfl)
    clear hf
    go_wp2
    go_ret
    exact ⟨ret_int HF.out.symm, by (repeat (first | assumption | exact Bel.refl _ | apply Bel.drewN | apply Bel.drew | apply Bel.alloc | refine Bel.trans ?_ (by assumption)))⟩
  have HFO := Lib.hid hf; clear hf
  go_wp2_with fail
  refine (hasResource_any _ _ _ _ _ _ _ (by omega) _ _).mono ?_
  rintro e w2 ⟨rfl, g2⟩
  have b0 := g2.cell b0
  have b1 := g2.cell b1
  have b2 := g2.cell b2
  have b3 := g2.cell b3
  have b4 := g2.cell b4
  have c0 := g2.cell c0
  have c1 := g2.cell c1
  have G : Bel w w2 := by (repeat (first | assumption | exact Bel.refl _ | apply Bel.drewN | apply Bel.drew | apply Bel.alloc | refine Bel.trans ?_ (by assumption)))
  cases ha : inB a 0 ((p.2.2.2.1.length : Int) - 1)
  · have HF := Lib.hid (show usageAtV p s a t = 0 from by unfold usageAtV; rw [← inB_v a, ha]; simp)
    clear ha
    go_wp2
    go_ret
    exact ⟨ret_int HF.out.symm, by (repeat (first | assumption | exact Bel.refl _ | apply Bel.drewN | apply Bel.drew | apply Bel.alloc | refine Bel.trans ?_ (by assumption)))⟩
  obtain ⟨j, rfl, hj⟩ := inB_idx ha
  have HV := Lib.hid (show usageAtV p s (j : Int) t = usageV p s j t from by unfold usageAtV; rw [HFO.out, ← inB_v (j : Int), ha]; rfl)
  clear ha
  go_wp2_with fail
  refine (usage_any _ p S _ s T j t _ (HP1.out _ (by (repeat (first | assumption | exact Bel.refl _ | apply Bel.drewN | apply Bel.drew | apply Bel.alloc | refine Bel.trans ?_ (by assumption))))) (fun b hb => Nat.lt_of_lt_of_le (HS.out b hb) (Bel.size (by (repeat (first | assumption | exact Bel.refl _ | apply Bel.drewN | apply Bel.drew | apply Bel.alloc | refine Bel.trans ?_ (by assumption)))))) (HQ1.out _ (by (repeat (first | assumption | exact Bel.refl _ | apply Bel.drewN | apply Bel.drew | apply Bel.alloc | refine Bel.trans ?_ (by assumption))))) (fun b hb => Nat.lt_of_lt_of_le (HT.out b hb) (Bel.size (by (repeat (first | assumption | exact Bel.refl _ | apply Bel.drewN | apply Bel.drew | apply Bel.alloc | refine Bel.trans ?_ (by assumption)))))) HFO.out hj).mono ?_
  rintro e w3 ⟨rfl, g3⟩
  go_wp2
  go_ret
  exact ⟨ret_int HV.out.symm, by (repeat (first | assumption | exact Bel.refl _ | apply Bel.drewN | apply Bel.drew | apply Bel.alloc | refine Bel.trans ?_ (by assumption)))⟩


end Go.Proofs.Ytiaamddhocdhaaa
