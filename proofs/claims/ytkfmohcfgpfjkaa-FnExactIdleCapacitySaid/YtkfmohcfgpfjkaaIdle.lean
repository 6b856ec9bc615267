/- Contracts of the capacity at a time, IdleCapacity. -/
import Derived.Test.YtkfmohcfgpfjkaaUse
import Derived.Deep.RegionHeld3
namespace Go.Proofs.Ytkfmohcfgpfjkaa
open Go.ChangeShapes Go.WideShapes Go.ChangeAt Go.RowKit
set_option linter.unusedVariables false

set_option maxHeartbeats 400000 in
theorem capacityAt_any (v : Value) (l : List StepT) (t : Int) (S : Nat → Prop) (w : World) (hx : stepsR S w [v] l) :
    Calls Try.prog 87 #[v, .int .i64 t] w fun e w' => e = .returned (.int .i64 (capV l t)) ∧ Bel w w' := by
  have HX := Lib.hid (fun i hi => sliceR_at zStep hx (i := i) hi)
  obtain ⟨p, cap, rfl, l1, l2, -⟩ := sliceR_open hx
  unfold maxLen at l2
  clear hx
  go_enter Try.func87, Try.ntmps87
  go_wp2_with fail
  go_loopw [5, 10] (fun n i wr => ∃ (k : Nat) (c : Int), k ≤ l.length ∧ i = .int .i64 k ∧ n = .int .i64 c ∧ c = capTo l t k ∧ Bel w wr) (fun _ i _ => l.length - (intOf i).toNat)
  case atStart => exact ⟨0, 0, Nat.zero_le _, rfl, rfl, rfl, by (repeat (first | assumption | exact Bel.refl _ | apply Bel.drewN | apply Bel.drew | apply Bel.alloc | refine Bel.trans ?_ (by assumption)))⟩
  case round =>
    obtain ⟨k, c, hk, rfl, rfl, hc, hB⟩ := hrel
    have HC := Lib.hid hc; clear hc
    by_cases hlt : k < l.length
    · obtain ⟨b, off, ecs, ea, hrow, hel⟩ := HX.out k hlt
      obtain rfl : p = some ⟨b, off, none⟩ := ea
      obtain ⟨rfl, _, _⟩ := stepR_open hel
      have ed0 := hB.cell (hrow 0 (by simp)).1
      have ed1 := hB.cell (hrow 1 (by simp)).1
      simp only [List.getElem_cons_zero, List.getElem_cons_succ, Nat.add_zero] at ed0 ed1
      clear hrow hel
      obtain ⟨a, d, hX⟩ : ∃ a d, l.getD k zStep = (a, d) := ⟨_, _, rfl⟩
      rw [hX] at ed0 ed1
      simp only at ed0 ed1
      have HXe := Lib.hid hX; clear hX
      by_cases hat : a ≤ t
      · have HAT := Lib.hid hat
        go_wp2
        go_roundw
        case rel => exact ⟨k + 1, d, by omega, by go_num, rfl, by simp only [capTo]; rw [HXe.out, if_pos HAT.out], by (repeat (first | assumption | exact Bel.refl _ | apply Bel.drewN | apply Bel.drew | apply Bel.alloc | refine Bel.trans ?_ (by assumption)))⟩
        case measure => simp [intOf]; omega
      · have HAT := Lib.hid (show ¬ (a, d).1 ≤ t from hat)
        go_wp2
        go_roundw
        case rel => exact ⟨k + 1, c, by omega, by go_num, rfl, by simp only [capTo]; rw [HXe.out, if_neg HAT.out]; exact HC.out, by (repeat (first | assumption | exact Bel.refl _ | apply Bel.drewN | apply Bel.drew | apply Bel.alloc | refine Bel.trans ?_ (by assumption)))⟩
        case measure => simp [intOf]; omega
    · have hkn : k = l.length := by omega
      have HD := Lib.hid (show c = capV l t from by rw [HC.out, hkn]; rfl)
      clear hkn
      go_wp2
      go_ret
      exact ⟨ret_int HD.out, by (repeat (first | assumption | exact Bel.refl _ | apply Bel.drewN | apply Bel.drew | apply Bel.alloc | refine Bel.trans ?_ (by assumption)))⟩

set_option maxHeartbeats 400000 in
theorem l03At_any (v : Value) (l : List StepT) (t : Int) (S : Nat → Prop) (w : World) (hx : stepsR S w [v] l) :
    Calls Try.prog 113 #[v, .int .i64 t] w fun e w' => e = .returned (.int .i64 (capV l t)) ∧ Bel w w' := by
  have HX := Lib.hid (fun i hi => sliceR_at zStep hx (i := i) hi)
  obtain ⟨p, cap, rfl, l1, l2, -⟩ := sliceR_open hx
  unfold maxLen at l2
  clear hx
  go_enter Try.func113, Try.ntmps113
  go_wp2_with fail
  go_loopw [5, 10] (fun n i wr => ∃ (k : Nat) (c : Int), k ≤ l.length ∧ i = .int .i64 k ∧ n = .int .i64 c ∧ c = capTo l t k ∧ Bel w wr) (fun _ i _ => l.length - (intOf i).toNat)
  case atStart => exact ⟨0, 0, Nat.zero_le _, rfl, rfl, rfl, by (repeat (first | assumption | exact Bel.refl _ | apply Bel.drewN | apply Bel.drew | apply Bel.alloc | refine Bel.trans ?_ (by assumption)))⟩
  case round =>
    obtain ⟨k, c, hk, rfl, rfl, hc, hB⟩ := hrel
    have HC := Lib.hid hc; clear hc
    by_cases hlt : k < l.length
    · obtain ⟨b, off, ecs, ea, hrow, hel⟩ := HX.out k hlt
      obtain rfl : p = some ⟨b, off, none⟩ := ea
      obtain ⟨rfl, _, _⟩ := stepR_open hel
      have ed0 := hB.cell (hrow 0 (by simp)).1
      have ed1 := hB.cell (hrow 1 (by simp)).1
      simp only [List.getElem_cons_zero, List.getElem_cons_succ, Nat.add_zero] at ed0 ed1
      clear hrow hel
      obtain ⟨a, d, hX⟩ : ∃ a d, l.getD k zStep = (a, d) := ⟨_, _, rfl⟩
      rw [hX] at ed0 ed1
      simp only at ed0 ed1
      have HXe := Lib.hid hX; clear hX
      by_cases hat : a ≤ t
      · have HAT := Lib.hid hat
        go_wp2
        go_roundw
        case rel => exact ⟨k + 1, d, by omega, by go_num, rfl, by simp only [capTo]; rw [HXe.out, if_pos HAT.out], by (repeat (first | assumption | exact Bel.refl _ | apply Bel.drewN | apply Bel.drew | apply Bel.alloc | refine Bel.trans ?_ (by assumption)))⟩
        case measure => simp [intOf]; omega
      · have HAT := Lib.hid (show ¬ (a, d).1 ≤ t from hat)
        go_wp2
        go_roundw
        case rel => exact ⟨k + 1, c, by omega, by go_num, rfl, by simp only [capTo]; rw [HXe.out, if_neg HAT.out]; exact HC.out, by (repeat (first | assumption | exact Bel.refl _ | apply Bel.drewN | apply Bel.drew | apply Bel.alloc | refine Bel.trans ?_ (by assumption)))⟩
        case measure => simp [intOf]; omega
    · have hkn : k = l.length := by omega
      have HD := Lib.hid (show c = capV l t from by rw [HC.out, hkn]; rfl)
      clear hkn
      go_wp2
      go_ret
      exact ⟨ret_int HD.out, by (repeat (first | assumption | exact Bel.refl _ | apply Bel.drewN | apply Bel.drew | apply Bel.alloc | refine Bel.trans ?_ (by assumption)))⟩

theorem sCapacityAt_any (v : Value) (l : List StepT) (t : Int) (S : Nat → Prop) (w : World) (hx : stepsR S w [v] l) (hS : ∀ b, S b → b < w.heap.size) (hok : stepsOkB l = true) (ht : inB t 0 60 = true) :
    Calls Try.prog 86 #[v, .int .i64 t] w fun e w' => e = .returned (.int .i64 (capV l t)) ∧ Bel w w' := by
  have HX := Lib.hid hx
  have HS := Lib.hid hS
  have HO := Lib.hid hok
  obtain ⟨p, cap, rfl, l1, l2, -⟩ := sliceR_open hx
  unfold maxLen at l2
  clear hx hS hok
  go_enter Try.func86, Try.ntmps86
  go_wp2_with fail
  refine (sStepsOk_any _ l S _ HX.out).mono ?_
  rintro e w1 ⟨rfl, g1⟩
  rw [HO.out]
  go_wp2_with (go_at_call 51; refine (l01In_any _ _ _ _).mono ?_; rintro e w' ⟨rfl, rfl⟩)
  refine (l03At_any _ l t S _ (stepsR_good.bel HX.out g1 HS.out)).mono ?_
  rintro e w2 ⟨rfl, g2⟩
  go_wp2
  go_ret
  exact ⟨rfl, by (repeat (first | assumption | exact Bel.refl _ | apply Bel.drewN | apply Bel.drew | apply Bel.alloc | refine Bel.trans ?_ (by assumption)))⟩

set_option maxHeartbeats 1000000 in
theorem iIdleCapacity_any (v : Value) (p : ProjT) (S : Nat → Prop) (v1 : Value) (s : SchT) (T : Nat → Prop) (a : Int) (w : World) (hx : aggR projR S w v p) (hS : ∀ b, S b → b < w.heap.size) (_hn : bulkProject p ≤ 1048576) (hs : aggR schR T w v1 s) (hT : ∀ b, T b → b < w.heap.size) (_hn1 : bulkSchedule s ≤ 1048576) :
    Calls Try.prog 45 #[v, v1, .int .i64 a] w fun e w' => e = .returned (.int .i64 (idleV p s a)) ∧ Bel w w' := by
  obtain ⟨cs, rfl, hx⟩ := hx
  obtain ⟨c1, c2, c3, c4, rfl, q0, q1, q2, q3, q4⟩ := projR_open hx
  have Q1 := Lib.hid q1
  have Q2 := Lib.hid q2
  have Q3 := Lib.hid q3
  have Q4 := Lib.hid q4
  have HP := Lib.hid hx
  obtain ⟨p1, k1, rfl, l1, l1', -⟩ := sliceR_open q1
  obtain ⟨p2, k2, rfl, l2, l2', -⟩ := sliceR_open q2
  obtain ⟨p3, k3, rfl, l3, l3', -⟩ := sliceR_open q3
  obtain ⟨p4, k4, rfl, l4, l4', -⟩ := sliceR_open q4
  unfold maxLen at l1' l2' l3' l4'
  clear hx q0 q1 q2 q3 q4
  obtain ⟨zs, rfl, hs⟩ := hs
  have HZ := hs
  obtain ⟨z0, z1, rfl, zq0, zq1⟩ := schR_open hs
  have A0 := Lib.hid (fun i hi => intsR_at' zq0 (i := i) hi)
  have A1 := Lib.hid (fun i hi => intsR_at' zq1 (i := i) hi)
  obtain ⟨sp0, sk0, rfl, sl0, sl0', -⟩ := sliceR_open zq0
  obtain ⟨sp1, sk1, rfl, sl1, sl1', -⟩ := sliceR_open zq1
  unfold maxLen at sl0' sl1'
  have HT := Lib.hid hT
  have HQ1 := Lib.hid (show ∀ W, Bel w W → aggR schR T W (.agg #[.slice sp0 s.1.length sk0, .slice sp1 s.2.length sk1]) s from fun W hW => aggR_mk (schR_good.bel HZ hW HT.out))
  clear hs zq0 zq1 hT HZ
  have HS := Lib.hid hS
  have HN := Lib.hid _hn
  have HN1 := Lib.hid _hn1
  clear hS _hn _hn1
  have HP1 := Lib.hid (show ∀ W, Bel w W → aggR projR S W (.agg #[.int .i64 p.1, .slice p1 p.2.1.length k1, .slice p2 p.2.2.1.length k2, .slice p3 p.2.2.2.1.length k3, .slice p4 p.2.2.2.2.length k4]) p from fun W hW => aggR_mk (projR_good.bel HP.out hW HS.out))
  show Calls Try.prog 45 #[.agg #[.int .i64 p.1, .slice p1 p.2.1.length k1, .slice p2 p.2.2.1.length k2, .slice p3 p.2.2.2.1.length k3, .slice p4 p.2.2.2.2.length k4], .agg #[.slice sp0 s.1.length sk0, .slice sp1 s.2.length sk1], .int .i64 a] w _
  go_enter Try.func45, Try.ntmps45
  go_wp2_with fail
  refine (iScheduleForm_any _ p S _ s T _ (HP1.out _ (by (repeat (first | assumption | exact Bel.refl _ | apply Bel.drewN | apply Bel.drew | apply Bel.alloc | refine Bel.trans ?_ (by assumption))))) (fun b hb => Nat.lt_of_lt_of_le (HS.out b hb) (Bel.size (by (repeat (first | assumption | exact Bel.refl _ | apply Bel.drewN | apply Bel.drew | apply Bel.alloc | refine Bel.trans ?_ (by assumption)))))) HN.out (HQ1.out _ (by (repeat (first | assumption | exact Bel.refl _ | apply Bel.drewN | apply Bel.drew | apply Bel.alloc | refine Bel.trans ?_ (by assumption))))) (fun b hb => Nat.lt_of_lt_of_le (HT.out b hb) (Bel.size (by (repeat (first | assumption | exact Bel.refl _ | apply Bel.drewN | apply Bel.drew | apply Bel.alloc | refine Bel.trans ?_ (by assumption)))))) HN1.out).mono ?_
  rintro e w1 ⟨rfl, g1⟩
  have b0 := g1.cell (p := ⟨w.heap.size, 0, none⟩) (v := .int .i64 p.1) (by simp [go_sem])
  have b1 := g1.cell (p := ⟨w.heap.size, 1, none⟩) (v := .slice p1 p.2.1.length k1) (by simp [go_sem])
  have b2 := g1.cell (p := ⟨w.heap.size, 2, none⟩) (v := .slice p2 p.2.2.1.length k2) (by simp [go_sem])
  have b3 := g1.cell (p := ⟨w.heap.size, 3, none⟩) (v := .slice p3 p.2.2.2.1.length k3) (by simp [go_sem])
  have b4 := g1.cell (p := ⟨w.heap.size, 4, none⟩) (v := .slice p4 p.2.2.2.2.length k4) (by simp [go_sem])
  have c0 := g1.cell (p := ⟨w.heap.size + 1, 0, none⟩) (v := .slice sp0 s.1.length sk0) (by simp [go_sem])
  have c1 := g1.cell (p := ⟨w.heap.size + 1, 1, none⟩) (v := .slice sp1 s.2.length sk1) (by simp [go_sem])
  have G : Bel w w1 := by (repeat (first | assumption | exact Bel.refl _ | apply Bel.drewN | apply Bel.drew | apply Bel.alloc | refine Bel.trans ?_ (by assumption)))
  cases hf : schFormB p s
  · have HF := Lib.hid (show idleV p s a = 0 from by unfold idleV; rw [hf]; rfl)
    clear hf
    go_wp2
    go_ret
    exact ⟨ret_int HF.out.symm, by (repeat (first | assumption | exact Bel.refl _ | apply Bel.drewN | apply Bel.drew | apply Bel.alloc | refine Bel.trans ?_ (by assumption)))⟩
  have HFO := Lib.hid hf; clear hf
  go_wp2_with fail
  refine (hasResource_any _ _ _ _ _ _ _ (by omega) _ _).mono ?_
  rintro e w2 ⟨rfl, g2⟩
  have b0 := g2.cell b0
  have b1 := g2.cell b1
  have b2 := g2.cell b2
  have b3 := g2.cell b3
  have b4 := g2.cell b4
  have c0 := g2.cell c0
  have c1 := g2.cell c1
  have G : Bel w w2 := by (repeat (first | assumption | exact Bel.refl _ | apply Bel.drewN | apply Bel.drew | apply Bel.alloc | refine Bel.trans ?_ (by assumption)))
  cases ha : inB a 0 ((p.2.2.2.1.length : Int) - 1)
  · have HF := Lib.hid (show idleV p s a = 0 from by unfold idleV; rw [← inB_v a, ha]; simp)
    clear ha
    go_wp2
    go_ret
    exact ⟨ret_int HF.out.symm, by (repeat (first | assumption | exact Bel.refl _ | apply Bel.drewN | apply Bel.drew | apply Bel.alloc | refine Bel.trans ?_ (by assumption)))⟩
  obtain ⟨j, rfl, hj⟩ := inB_idx ha
  have HV := Lib.hid (show idleV p s (j : Int) = idleTo p s j (minI (endMax p s p.2.1.length) 60).toNat from by unfold idleV; rw [HFO.out, ← inB_v (j : Int), ha]; rfl)
  have HJA := Lib.hid ha
  clear ha
  have hmb := endMax_bd HFO.out _ (Nat.le_refl _)
  have HMS := Lib.hid (show makespanV p s = endMax p s p.2.1.length from by unfold makespanV; rw [HFO.out]; rfl)
  generalize endMax p s p.2.1.length = E at *
  obtain ⟨rb, ro, rcs, rea, rrow, rel⟩ := sliceR_at zRes Q3.out hj
  obtain rfl : p3 = some ⟨rb, ro, none⟩ := rea
  have HSO := Lib.hid (projOk_steps (projOk_form HFO.out) hj)
  have HIT := Lib.hid (fun k => (show idleTo p s j (k + 1) = idleTo p s j k + maxI 0 (capV (p.2.2.2.1.getD j zRes).1 k - usageV p s j k) from rfl))
  have HIB := Lib.hid (idleTo_bd HFO.out hj)
  have HUB := Lib.hid (fun k : Nat => usageV_bd (t := (k : Int)) HFO.out hj)
  generalize p.2.2.2.1.getD j zRes = X at *
  obtain ⟨rc0, rc1, rfl, rq0, rq1⟩ := resR_open rel
  obtain ⟨l, ro2⟩ := X
  have HST := Lib.hid rq0
  obtain ⟨stp, stk, rfl, stl, stl', -⟩ := sliceR_open rq0
  obtain ⟨_, _, rfl, -⟩ := sliceR_open rq1
  have rr := (rrow 0 (by simp)).1
  simp only [List.getElem_cons_zero, Nat.add_zero] at rr
  have HRR := Lib.hid rr
  have hji : (j : Int) < (p.2.2.2.1.length : Int) := by omega
  clear rrow rel rq0 rq1 rr
  by_cases h60 : E < 60
  · obtain ⟨n, rfl⟩ := Int.eq_ofNat_of_zero_le hmb.1
    have hn60 : n < 60 := by omega
    have HMN := Lib.hid (show minI (n : Int) 60 = n from if_pos h60)
    have HVn := Lib.hid (show idleV p s (j : Int) = idleTo p s j n from by rw [HV.out, HMN.out]; rfl)
    go_wp2_with fail
    refine (iMakespan_any _ p S _ s T _ (HP1.out _ (by (repeat (first | assumption | exact Bel.refl _ | apply Bel.drewN | apply Bel.drew | apply Bel.alloc | refine Bel.trans ?_ (by assumption))))) (fun b hb => Nat.lt_of_lt_of_le (HS.out b hb) (Bel.size (by (repeat (first | assumption | exact Bel.refl _ | apply Bel.drewN | apply Bel.drew | apply Bel.alloc | refine Bel.trans ?_ (by assumption)))))) HN.out (HQ1.out _ (by (repeat (first | assumption | exact Bel.refl _ | apply Bel.drewN | apply Bel.drew | apply Bel.alloc | refine Bel.trans ?_ (by assumption))))) (fun b hb => Nat.lt_of_lt_of_le (HT.out b hb) (Bel.size (by (repeat (first | assumption | exact Bel.refl _ | apply Bel.drewN | apply Bel.drew | apply Bel.alloc | refine Bel.trans ?_ (by assumption)))))) HN1.out).mono ?_
    rintro e w3 ⟨rfl, g3⟩
    rw [HMS.out]
    have b0 := g3.cell b0
    have b1 := g3.cell b1
    have b2 := g3.cell b2
    have b3 := g3.cell b3
    have b4 := g3.cell b4
    have c0 := g3.cell c0
    have c1 := g3.cell c1
    have G3 : Bel w w3 := G.trans g3
    have KX := Lib.hid (show ∀ W, Bel w3 W → W.cell? ⟨w.heap.size, 0, none⟩ = some (.int .i64 p.1) ∧ W.cell? ⟨w.heap.size, 1, none⟩ = some (.slice p1 p.2.1.length k1) ∧ W.cell? ⟨w.heap.size, 2, none⟩ = some (.slice p2 p.2.2.1.length k2) ∧ W.cell? ⟨w.heap.size, 3, none⟩ = some (.slice (some ⟨rb, ro, none⟩) p.2.2.2.1.length k3) ∧ W.cell? ⟨w.heap.size, 4, none⟩ = some (.slice p4 p.2.2.2.2.length k4) ∧ W.cell? ⟨w.heap.size + 1, 0, none⟩ = some (.slice sp0 s.1.length sk0) ∧ W.cell? ⟨w.heap.size + 1, 1, none⟩ = some (.slice sp1 s.2.length sk1) ∧ W.cell? ⟨rb, ro + j * 2, none⟩ = some (.slice stp l.length stk) from fun W hW => keep8 (And.intro b0 (And.intro b1 (And.intro b2 (And.intro b3 (And.intro b4 (And.intro c0 (And.intro c1 (G3.cell HRR.out)))))))) hW)
    clear b0 b1 b2 b3 b4 c0 c1 G g3 g1 g2
    go_wp2_with fail
    go_loopw [7, 23] (fun z i wr => ∃ (k : Nat) (c : Int), k ≤ n ∧ i = .int .i64 k ∧ z = .int .i64 c ∧ c = idleTo p s j k ∧ Bel w3 wr) (fun _ i _ => n - (intOf i).toNat)
    case atStart => exact ⟨0, 0, Nat.zero_le _, rfl, rfl, rfl, Bel.refl _⟩
    case round =>
      obtain ⟨k, c, hk, rfl, rfl, hc, hB⟩ := hrel
      have HC := Lib.hid hc; clear hc
      have hW3 : Bel w wr := G3.trans hB
      by_cases hlt : k < n
      · obtain ⟨b0, b1, b2, b3, b4, c0, c1, rr⟩ := KX.out wr hB
        have hib := HIB.out k
        rw [← HC.out] at hib
        have hub := HUB.out k
        have hcb := capTo_bd HSO.out (k : Int) _ (Nat.le_refl _)
        change 0 ≤ capV l k ∧ capV l k ≤ 20 at hcb
        have HNX := Lib.hid (show idleTo p s j (k + 1) = c + maxI 0 (capV l k - usageV p s j k) from by rw [HIT.out, HC.out])
        have HUA := Lib.hid (show usageAtV p s (j : Int) (k : Int) = usageV p s j k from by unfold usageAtV; rw [HFO.out, ← inB_v (j : Int), HJA.out]; rfl)
        have HT6 := Lib.hid (show inB (k : Int) 0 60 = true from by simp only [inB, Bool.and_eq_true, decide_eq_true_eq]; omega)
        have HUE := Lib.hid (show usageV p s j k = usageV p s j k from rfl)
        obtain ⟨U, hU⟩ : ∃ U, usageV p s j (k : Int) = U := ⟨_, rfl⟩
        obtain ⟨C, hC⟩ : ∃ C, capV l (k : Int) = C := ⟨_, rfl⟩
        rw [hU] at hub HNX HUA
        rw [hC] at hcb HNX
        have HU := Lib.hid hU; clear hU
        have HCC := Lib.hid hC; clear hC
        clear HUE
        have hmx0 : 0 ≤ maxI 0 (C - U) ∧ maxI 0 (C - U) ≤ 20 := by unfold maxI; split <;> omega
        have hw1 : IntKind.i64.wrap (C - U) = C - U := IntWalk.i64_in _ (by omega)
        have HW3 := Lib.hid (show IntKind.i64.wrap (c + maxI 0 (C - U)) = c + maxI 0 (C - U) from IntWalk.i64_in _ (by omega))
        go_wp2_with fail
        go_region_held3 (fun W => W.cell? ⟨w.heap.size, 0, none⟩ = some (.int .i64 p.1) ∧ W.cell? ⟨w.heap.size, 1, none⟩ = some (.slice p1 p.2.1.length k1) ∧ W.cell? ⟨w.heap.size, 2, none⟩ = some (.slice p2 p.2.2.1.length k2) ∧ W.cell? ⟨w.heap.size, 3, none⟩ = some (.slice (some ⟨rb, ro, none⟩) p.2.2.2.1.length k3) ∧ W.cell? ⟨w.heap.size, 4, none⟩ = some (.slice p4 p.2.2.2.2.length k4) ∧ W.cell? ⟨w.heap.size + 1, 0, none⟩ = some (.slice sp0 s.1.length sk0) ∧ W.cell? ⟨w.heap.size + 1, 1, none⟩ = some (.slice sp1 s.2.length sk1) ∧ W.cell? ⟨rb, ro + j * 2, none⟩ = some (.slice stp l.length stk)) (first | exact keep8 (by assumption) (by assumption) | go_keep)
          (first | (go_at_call 87; (with_reducible refine (capacityAt_any _ l _ S _ (stepsR_good.bel HST.out (by (repeat (first | assumption | exact Bel.refl _ | apply Bel.drewN | apply Bel.drew | apply Bel.alloc | refine Bel.trans ?_ (by assumption)))) HS.out)).mono ?_); rintro e wt ⟨rfl, gt⟩; rw [HCC.out]) | (go_at_call 74; (with_reducible refine (usage_any _ p S _ s T j _ _ (HP1.out _ (by (repeat (first | assumption | exact Bel.refl _ | apply Bel.drewN | apply Bel.drew | apply Bel.alloc | refine Bel.trans ?_ (by assumption))))) (fun b hb => Nat.lt_of_lt_of_le (HS.out b hb) (Bel.size (by (repeat (first | assumption | exact Bel.refl _ | apply Bel.drewN | apply Bel.drew | apply Bel.alloc | refine Bel.trans ?_ (by assumption)))))) (HQ1.out _ (by (repeat (first | assumption | exact Bel.refl _ | apply Bel.drewN | apply Bel.drew | apply Bel.alloc | refine Bel.trans ?_ (by assumption))))) (fun b hb => Nat.lt_of_lt_of_le (HT.out b hb) (Bel.size (by (repeat (first | assumption | exact Bel.refl _ | apply Bel.drewN | apply Bel.drew | apply Bel.alloc | refine Bel.trans ?_ (by assumption)))))) HFO.out hj).mono ?_); rintro e wt ⟨rfl, gt⟩; rw [HU.out]))
        clear hw1
        go_wp2
        go_roundw
        case rel => exact ⟨k + 1, c + maxI 0 (C - U), by omega, by go_num, congrArg (Value.int IntKind.i64) HW3.out, HNX.out.symm, by (repeat (first | assumption | exact Bel.refl _ | apply Bel.drewN | apply Bel.drew | apply Bel.alloc | refine Bel.trans ?_ (by assumption)))⟩
        case measure => simp [intOf]; omega
      · have hkn : k = n := by omega
        have HD := Lib.hid (show c = idleV p s (j : Int) from by rw [HVn.out, HC.out, hkn])
        clear hkn
        go_wp2
        go_ret
        exact ⟨ret_int HD.out, by (repeat (first | assumption | exact Bel.refl _ | apply Bel.drewN | apply Bel.drew | apply Bel.alloc | refine Bel.trans ?_ (by assumption)))⟩
  by_cases h61 : E = 60
  · subst h61
    have HMN := Lib.hid (show minI 60 60 = 60 from rfl)
    clear h60
    have HVn := Lib.hid (show idleV p s (j : Int) = idleTo p s j 60 from by rw [HV.out, HMN.out]; rfl)
    go_wp2_with fail
    refine (iMakespan_any _ p S _ s T _ (HP1.out _ (by (repeat (first | assumption | exact Bel.refl _ | apply Bel.drewN | apply Bel.drew | apply Bel.alloc | refine Bel.trans ?_ (by assumption))))) (fun b hb => Nat.lt_of_lt_of_le (HS.out b hb) (Bel.size (by (repeat (first | assumption | exact Bel.refl _ | apply Bel.drewN | apply Bel.drew | apply Bel.alloc | refine Bel.trans ?_ (by assumption)))))) HN.out (HQ1.out _ (by (repeat (first | assumption | exact Bel.refl _ | apply Bel.drewN | apply Bel.drew | apply Bel.alloc | refine Bel.trans ?_ (by assumption))))) (fun b hb => Nat.lt_of_lt_of_le (HT.out b hb) (Bel.size (by (repeat (first | assumption | exact Bel.refl _ | apply Bel.drewN | apply Bel.drew | apply Bel.alloc | refine Bel.trans ?_ (by assumption)))))) HN1.out).mono ?_
    rintro e w3 ⟨rfl, g3⟩
    rw [HMS.out]
    have b0 := g3.cell b0
    have b1 := g3.cell b1
    have b2 := g3.cell b2
    have b3 := g3.cell b3
    have b4 := g3.cell b4
    have c0 := g3.cell c0
    have c1 := g3.cell c1
    have G3 : Bel w w3 := G.trans g3
    have KX := Lib.hid (show ∀ W, Bel w3 W → W.cell? ⟨w.heap.size, 0, none⟩ = some (.int .i64 p.1) ∧ W.cell? ⟨w.heap.size, 1, none⟩ = some (.slice p1 p.2.1.length k1) ∧ W.cell? ⟨w.heap.size, 2, none⟩ = some (.slice p2 p.2.2.1.length k2) ∧ W.cell? ⟨w.heap.size, 3, none⟩ = some (.slice (some ⟨rb, ro, none⟩) p.2.2.2.1.length k3) ∧ W.cell? ⟨w.heap.size, 4, none⟩ = some (.slice p4 p.2.2.2.2.length k4) ∧ W.cell? ⟨w.heap.size + 1, 0, none⟩ = some (.slice sp0 s.1.length sk0) ∧ W.cell? ⟨w.heap.size + 1, 1, none⟩ = some (.slice sp1 s.2.length sk1) ∧ W.cell? ⟨rb, ro + j * 2, none⟩ = some (.slice stp l.length stk) from fun W hW => keep8 (And.intro b0 (And.intro b1 (And.intro b2 (And.intro b3 (And.intro b4 (And.intro c0 (And.intro c1 (G3.cell HRR.out)))))))) hW)
    clear b0 b1 b2 b3 b4 c0 c1 G g3 g1 g2
    go_wp2_with fail
    go_loopw [7, 23] (fun z i wr => ∃ (k : Nat) (c : Int), k ≤ 60 ∧ i = .int .i64 k ∧ z = .int .i64 c ∧ c = idleTo p s j k ∧ Bel w3 wr) (fun _ i _ => 60 - (intOf i).toNat)
    case atStart => exact ⟨0, 0, Nat.zero_le _, rfl, rfl, rfl, Bel.refl _⟩
    case round =>
      obtain ⟨k, c, hk, rfl, rfl, hc, hB⟩ := hrel
      have HC := Lib.hid hc; clear hc
      have hW3 : Bel w wr := G3.trans hB
      by_cases hlt : k < 60
      · obtain ⟨b0, b1, b2, b3, b4, c0, c1, rr⟩ := KX.out wr hB
        have hib := HIB.out k
        rw [← HC.out] at hib
        have hub := HUB.out k
        have hcb := capTo_bd HSO.out (k : Int) _ (Nat.le_refl _)
        change 0 ≤ capV l k ∧ capV l k ≤ 20 at hcb
        have HNX := Lib.hid (show idleTo p s j (k + 1) = c + maxI 0 (capV l k - usageV p s j k) from by rw [HIT.out, HC.out])
        have HUA := Lib.hid (show usageAtV p s (j : Int) (k : Int) = usageV p s j k from by unfold usageAtV; rw [HFO.out, ← inB_v (j : Int), HJA.out]; rfl)
        have HT6 := Lib.hid (show inB (k : Int) 0 60 = true from by simp only [inB, Bool.and_eq_true, decide_eq_true_eq]; omega)
        have HUE := Lib.hid (show usageV p s j k = usageV p s j k from rfl)
        obtain ⟨U, hU⟩ : ∃ U, usageV p s j (k : Int) = U := ⟨_, rfl⟩
        obtain ⟨C, hC⟩ : ∃ C, capV l (k : Int) = C := ⟨_, rfl⟩
        rw [hU] at hub HNX HUA
        rw [hC] at hcb HNX
        have HU := Lib.hid hU; clear hU
        have HCC := Lib.hid hC; clear hC
        clear HUE
        have hmx0 : 0 ≤ maxI 0 (C - U) ∧ maxI 0 (C - U) ≤ 20 := by unfold maxI; split <;> omega
        have hw1 : IntKind.i64.wrap (C - U) = C - U := IntWalk.i64_in _ (by omega)
        have HW3 := Lib.hid (show IntKind.i64.wrap (c + maxI 0 (C - U)) = c + maxI 0 (C - U) from IntWalk.i64_in _ (by omega))
        go_wp2_with fail
        go_region_held3 (fun W => W.cell? ⟨w.heap.size, 0, none⟩ = some (.int .i64 p.1) ∧ W.cell? ⟨w.heap.size, 1, none⟩ = some (.slice p1 p.2.1.length k1) ∧ W.cell? ⟨w.heap.size, 2, none⟩ = some (.slice p2 p.2.2.1.length k2) ∧ W.cell? ⟨w.heap.size, 3, none⟩ = some (.slice (some ⟨rb, ro, none⟩) p.2.2.2.1.length k3) ∧ W.cell? ⟨w.heap.size, 4, none⟩ = some (.slice p4 p.2.2.2.2.length k4) ∧ W.cell? ⟨w.heap.size + 1, 0, none⟩ = some (.slice sp0 s.1.length sk0) ∧ W.cell? ⟨w.heap.size + 1, 1, none⟩ = some (.slice sp1 s.2.length sk1) ∧ W.cell? ⟨rb, ro + j * 2, none⟩ = some (.slice stp l.length stk)) (first | exact keep8 (by assumption) (by assumption) | go_keep)
          (first | (go_at_call 87; (with_reducible refine (capacityAt_any _ l _ S _ (stepsR_good.bel HST.out (by (repeat (first | assumption | exact Bel.refl _ | apply Bel.drewN | apply Bel.drew | apply Bel.alloc | refine Bel.trans ?_ (by assumption)))) HS.out)).mono ?_); rintro e wt ⟨rfl, gt⟩; rw [HCC.out]) | (go_at_call 74; (with_reducible refine (usage_any _ p S _ s T j _ _ (HP1.out _ (by (repeat (first | assumption | exact Bel.refl _ | apply Bel.drewN | apply Bel.drew | apply Bel.alloc | refine Bel.trans ?_ (by assumption))))) (fun b hb => Nat.lt_of_lt_of_le (HS.out b hb) (Bel.size (by (repeat (first | assumption | exact Bel.refl _ | apply Bel.drewN | apply Bel.drew | apply Bel.alloc | refine Bel.trans ?_ (by assumption)))))) (HQ1.out _ (by (repeat (first | assumption | exact Bel.refl _ | apply Bel.drewN | apply Bel.drew | apply Bel.alloc | refine Bel.trans ?_ (by assumption))))) (fun b hb => Nat.lt_of_lt_of_le (HT.out b hb) (Bel.size (by (repeat (first | assumption | exact Bel.refl _ | apply Bel.drewN | apply Bel.drew | apply Bel.alloc | refine Bel.trans ?_ (by assumption)))))) HFO.out hj).mono ?_); rintro e wt ⟨rfl, gt⟩; rw [HU.out]))
        clear hw1
        go_wp2
        go_roundw
        case rel => exact ⟨k + 1, c + maxI 0 (C - U), by omega, by go_num, congrArg (Value.int IntKind.i64) HW3.out, HNX.out.symm, by (repeat (first | assumption | exact Bel.refl _ | apply Bel.drewN | apply Bel.drew | apply Bel.alloc | refine Bel.trans ?_ (by assumption)))⟩
        case measure => simp [intOf]; omega
      · have hkn : k = 60 := by omega
        have HD := Lib.hid (show c = idleV p s (j : Int) from by rw [HVn.out, HC.out, hkn])
        clear hkn
        go_wp2
        go_ret
        exact ⟨ret_int HD.out, by (repeat (first | assumption | exact Bel.refl _ | apply Bel.drewN | apply Bel.drew | apply Bel.alloc | refine Bel.trans ?_ (by assumption)))⟩
  · have HMN := Lib.hid (show minI E 60 = 60 from if_neg h60)
    have h62 : 60 < E := by omega
    clear h60 h61
    have HVn := Lib.hid (show idleV p s (j : Int) = idleTo p s j 60 from by rw [HV.out, HMN.out]; rfl)
    go_wp2_with fail
    refine (iMakespan_any _ p S _ s T _ (HP1.out _ (by (repeat (first | assumption | exact Bel.refl _ | apply Bel.drewN | apply Bel.drew | apply Bel.alloc | refine Bel.trans ?_ (by assumption))))) (fun b hb => Nat.lt_of_lt_of_le (HS.out b hb) (Bel.size (by (repeat (first | assumption | exact Bel.refl _ | apply Bel.drewN | apply Bel.drew | apply Bel.alloc | refine Bel.trans ?_ (by assumption)))))) HN.out (HQ1.out _ (by (repeat (first | assumption | exact Bel.refl _ | apply Bel.drewN | apply Bel.drew | apply Bel.alloc | refine Bel.trans ?_ (by assumption))))) (fun b hb => Nat.lt_of_lt_of_le (HT.out b hb) (Bel.size (by (repeat (first | assumption | exact Bel.refl _ | apply Bel.drewN | apply Bel.drew | apply Bel.alloc | refine Bel.trans ?_ (by assumption)))))) HN1.out).mono ?_
    rintro e w3 ⟨rfl, g3⟩
    rw [HMS.out]
    have b0 := g3.cell b0
    have b1 := g3.cell b1
    have b2 := g3.cell b2
    have b3 := g3.cell b3
    have b4 := g3.cell b4
    have c0 := g3.cell c0
    have c1 := g3.cell c1
    have G3 : Bel w w3 := G.trans g3
    have KX := Lib.hid (show ∀ W, Bel w3 W → W.cell? ⟨w.heap.size, 0, none⟩ = some (.int .i64 p.1) ∧ W.cell? ⟨w.heap.size, 1, none⟩ = some (.slice p1 p.2.1.length k1) ∧ W.cell? ⟨w.heap.size, 2, none⟩ = some (.slice p2 p.2.2.1.length k2) ∧ W.cell? ⟨w.heap.size, 3, none⟩ = some (.slice (some ⟨rb, ro, none⟩) p.2.2.2.1.length k3) ∧ W.cell? ⟨w.heap.size, 4, none⟩ = some (.slice p4 p.2.2.2.2.length k4) ∧ W.cell? ⟨w.heap.size + 1, 0, none⟩ = some (.slice sp0 s.1.length sk0) ∧ W.cell? ⟨w.heap.size + 1, 1, none⟩ = some (.slice sp1 s.2.length sk1) ∧ W.cell? ⟨rb, ro + j * 2, none⟩ = some (.slice stp l.length stk) from fun W hW => keep8 (And.intro b0 (And.intro b1 (And.intro b2 (And.intro b3 (And.intro b4 (And.intro c0 (And.intro c1 (G3.cell HRR.out)))))))) hW)
    clear b0 b1 b2 b3 b4 c0 c1 G g3 g1 g2
    go_wp2_with fail
    go_loopw [7, 23] (fun z i wr => ∃ (k : Nat) (c : Int), k ≤ 60 ∧ i = .int .i64 k ∧ z = .int .i64 c ∧ c = idleTo p s j k ∧ Bel w3 wr) (fun _ i _ => 60 - (intOf i).toNat)
    case atStart => exact ⟨0, 0, Nat.zero_le _, rfl, rfl, rfl, Bel.refl _⟩
    case round =>
      obtain ⟨k, c, hk, rfl, rfl, hc, hB⟩ := hrel
      have HC := Lib.hid hc; clear hc
      have hW3 : Bel w wr := G3.trans hB
      by_cases hlt : k < 60
      · obtain ⟨b0, b1, b2, b3, b4, c0, c1, rr⟩ := KX.out wr hB
        have hib := HIB.out k
        rw [← HC.out] at hib
        have hub := HUB.out k
        have hcb := capTo_bd HSO.out (k : Int) _ (Nat.le_refl _)
        change 0 ≤ capV l k ∧ capV l k ≤ 20 at hcb
        have HNX := Lib.hid (show idleTo p s j (k + 1) = c + maxI 0 (capV l k - usageV p s j k) from by rw [HIT.out, HC.out])
        have HUA := Lib.hid (show usageAtV p s (j : Int) (k : Int) = usageV p s j k from by unfold usageAtV; rw [HFO.out, ← inB_v (j : Int), HJA.out]; rfl)
        have HT6 := Lib.hid (show inB (k : Int) 0 60 = true from by simp only [inB, Bool.and_eq_true, decide_eq_true_eq]; omega)
        have HUE := Lib.hid (show usageV p s j k = usageV p s j k from rfl)
        obtain ⟨U, hU⟩ : ∃ U, usageV p s j (k : Int) = U := ⟨_, rfl⟩
        obtain ⟨C, hC⟩ : ∃ C, capV l (k : Int) = C := ⟨_, rfl⟩
        rw [hU] at hub HNX HUA
        rw [hC] at hcb HNX
        have HU := Lib.hid hU; clear hU
        have HCC := Lib.hid hC; clear hC
        clear HUE
        have hmx0 : 0 ≤ maxI 0 (C - U) ∧ maxI 0 (C - U) ≤ 20 := by unfold maxI; split <;> omega
        have hw1 : IntKind.i64.wrap (C - U) = C - U := IntWalk.i64_in _ (by omega)
        have HW3 := Lib.hid (show IntKind.i64.wrap (c + maxI 0 (C - U)) = c + maxI 0 (C - U) from IntWalk.i64_in _ (by omega))
        go_wp2_with fail
        go_region_held3 (fun W => W.cell? ⟨w.heap.size, 0, none⟩ = some (.int .i64 p.1) ∧ W.cell? ⟨w.heap.size, 1, none⟩ = some (.slice p1 p.2.1.length k1) ∧ W.cell? ⟨w.heap.size, 2, none⟩ = some (.slice p2 p.2.2.1.length k2) ∧ W.cell? ⟨w.heap.size, 3, none⟩ = some (.slice (some ⟨rb, ro, none⟩) p.2.2.2.1.length k3) ∧ W.cell? ⟨w.heap.size, 4, none⟩ = some (.slice p4 p.2.2.2.2.length k4) ∧ W.cell? ⟨w.heap.size + 1, 0, none⟩ = some (.slice sp0 s.1.length sk0) ∧ W.cell? ⟨w.heap.size + 1, 1, none⟩ = some (.slice sp1 s.2.length sk1) ∧ W.cell? ⟨rb, ro + j * 2, none⟩ = some (.slice stp l.length stk)) (first | exact keep8 (by assumption) (by assumption) | go_keep)
          (first | (go_at_call 87; (with_reducible refine (capacityAt_any _ l _ S _ (stepsR_good.bel HST.out (by (repeat (first | assumption | exact Bel.refl _ | apply Bel.drewN | apply Bel.drew | apply Bel.alloc | refine Bel.trans ?_ (by assumption)))) HS.out)).mono ?_); rintro e wt ⟨rfl, gt⟩; rw [HCC.out]) | (go_at_call 74; (with_reducible refine (usage_any _ p S _ s T j _ _ (HP1.out _ (by (repeat (first | assumption | exact Bel.refl _ | apply Bel.drewN | apply Bel.drew | apply Bel.alloc | refine Bel.trans ?_ (by assumption))))) (fun b hb => Nat.lt_of_lt_of_le (HS.out b hb) (Bel.size (by (repeat (first | assumption | exact Bel.refl _ | apply Bel.drewN | apply Bel.drew | apply Bel.alloc | refine Bel.trans ?_ (by assumption)))))) (HQ1.out _ (by (repeat (first | assumption | exact Bel.refl _ | apply Bel.drewN | apply Bel.drew | apply Bel.alloc | refine Bel.trans ?_ (by assumption))))) (fun b hb => Nat.lt_of_lt_of_le (HT.out b hb) (Bel.size (by (repeat (first | assumption | exact Bel.refl _ | apply Bel.drewN | apply Bel.drew | apply Bel.alloc | refine Bel.trans ?_ (by assumption)))))) HFO.out hj).mono ?_); rintro e wt ⟨rfl, gt⟩; rw [HU.out]))
        clear hw1
        go_wp2
        go_roundw
        case rel => exact ⟨k + 1, c + maxI 0 (C - U), by omega, by go_num, congrArg (Value.int IntKind.i64) HW3.out, HNX.out.symm, by (repeat (first | assumption | exact Bel.refl _ | apply Bel.drewN | apply Bel.drew | apply Bel.alloc | refine Bel.trans ?_ (by assumption)))⟩
        case measure => simp [intOf]; omega
      · have hkn : k = 60 := by omega
        have HD := Lib.hid (show c = idleV p s (j : Int) from by rw [HVn.out, HC.out, hkn])
        clear hkn
        go_wp2
        go_ret
        exact ⟨ret_int HD.out, by (repeat (first | assumption | exact Bel.refl _ | apply Bel.drewN | apply Bel.drew | apply Bel.alloc | refine Bel.trans ?_ (by assumption)))⟩

set_option maxHeartbeats 1000000 in
theorem sIdleCapacity_any (v : Value) (p : ProjT) (S : Nat → Prop) (v1 : Value) (s : SchT) (T : Nat → Prop) (a : Int) (w : World) (hx : aggR projR S w v p) (hS : ∀ b, S b → b < w.heap.size) (_hn : bulkProject p ≤ 1048576) (hs : aggR schR T w v1 s) (hT : ∀ b, T b → b < w.heap.size) (_hn1 : bulkSchedule s ≤ 1048576) :
    Calls Try.prog 44 #[v, v1, .int .i64 a] w fun e w' => e = .returned (.int .i64 (idleV p s a)) ∧ Bel w w' := by
  obtain ⟨cs, rfl, hx⟩ := hx
  obtain ⟨c1, c2, c3, c4, rfl, q0, q1, q2, q3, q4⟩ := projR_open hx
  have Q1 := Lib.hid q1
  have Q2 := Lib.hid q2
  have Q3 := Lib.hid q3
  have Q4 := Lib.hid q4
  have HP := Lib.hid hx
  obtain ⟨p1, k1, rfl, l1, l1', -⟩ := sliceR_open q1
  obtain ⟨p2, k2, rfl, l2, l2', -⟩ := sliceR_open q2
  obtain ⟨p3, k3, rfl, l3, l3', -⟩ := sliceR_open q3
  obtain ⟨p4, k4, rfl, l4, l4', -⟩ := sliceR_open q4
  unfold maxLen at l1' l2' l3' l4'
  clear hx q0 q1 q2 q3 q4
  obtain ⟨zs, rfl, hs⟩ := hs
  have HZ := hs
  obtain ⟨z0, z1, rfl, zq0, zq1⟩ := schR_open hs
  have A0 := Lib.hid (fun i hi => intsR_at' zq0 (i := i) hi)
  have A1 := Lib.hid (fun i hi => intsR_at' zq1 (i := i) hi)
  obtain ⟨sp0, sk0, rfl, sl0, sl0', -⟩ := sliceR_open zq0
  obtain ⟨sp1, sk1, rfl, sl1, sl1', -⟩ := sliceR_open zq1
  unfold maxLen at sl0' sl1'
  have HT := Lib.hid hT
  have HQ1 := Lib.hid (show ∀ W, Bel w W → aggR schR T W (.agg #[.slice sp0 s.1.length sk0, .slice sp1 s.2.length sk1]) s from fun W hW => aggR_mk (schR_good.bel HZ hW HT.out))
  clear hs zq0 zq1 hT HZ
  have HS := Lib.hid hS
  have HN := Lib.hid _hn
  have HN1 := Lib.hid _hn1
  clear hS _hn _hn1
  have HP1 := Lib.hid (show ∀ W, Bel w W → aggR projR S W (.agg #[.int .i64 p.1, .slice p1 p.2.1.length k1, .slice p2 p.2.2.1.length k2, .slice p3 p.2.2.2.1.length k3, .slice p4 p.2.2.2.2.length k4]) p from fun W hW => aggR_mk (projR_good.bel HP.out hW HS.out))
  show Calls Try.prog 44 #[.agg #[.int .i64 p.1, .slice p1 p.2.1.length k1, .slice p2 p.2.2.1.length k2, .slice p3 p.2.2.2.1.length k3, .slice p4 p.2.2.2.2.length k4], .agg #[.slice sp0 s.1.length sk0, .slice sp1 s.2.length sk1], .int .i64 a] w _
  go_enter Try.func44, Try.ntmps44
  go_wp2_with fail
  refine (sScheduleForm_any _ p S _ s T _ (HP1.out _ (by (repeat (first | assumption | exact Bel.refl _ | apply Bel.drewN | apply Bel.drew | apply Bel.alloc | refine Bel.trans ?_ (by assumption))))) (fun b hb => Nat.lt_of_lt_of_le (HS.out b hb) (Bel.size (by (repeat (first | assumption | exact Bel.refl _ | apply Bel.drewN | apply Bel.drew | apply Bel.alloc | refine Bel.trans ?_ (by assumption)))))) HN.out (HQ1.out _ (by (repeat (first | assumption | exact Bel.refl _ | apply Bel.drewN | apply Bel.drew | apply Bel.alloc | refine Bel.trans ?_ (by assumption))))) (fun b hb => Nat.lt_of_lt_of_le (HT.out b hb) (Bel.size (by (repeat (first | assumption | exact Bel.refl _ | apply Bel.drewN | apply Bel.drew | apply Bel.alloc | refine Bel.trans ?_ (by assumption)))))) HN1.out).mono ?_
  rintro e w1 ⟨rfl, g1⟩
  have b0 := g1.cell (p := ⟨w.heap.size, 0, none⟩) (v := .int .i64 p.1) (by simp [go_sem])
  have b1 := g1.cell (p := ⟨w.heap.size, 1, none⟩) (v := .slice p1 p.2.1.length k1) (by simp [go_sem])
  have b2 := g1.cell (p := ⟨w.heap.size, 2, none⟩) (v := .slice p2 p.2.2.1.length k2) (by simp [go_sem])
  have b3 := g1.cell (p := ⟨w.heap.size, 3, none⟩) (v := .slice p3 p.2.2.2.1.length k3) (by simp [go_sem])
  have b4 := g1.cell (p := ⟨w.heap.size, 4, none⟩) (v := .slice p4 p.2.2.2.2.length k4) (by simp [go_sem])
  have c0 := g1.cell (p := ⟨w.heap.size + 1, 0, none⟩) (v := .slice sp0 s.1.length sk0) (by simp [go_sem])
  have c1 := g1.cell (p := ⟨w.heap.size + 1, 1, none⟩) (v := .slice sp1 s.2.length sk1) (by simp [go_sem])
  have G : Bel w w1 := by (repeat (first | assumption | exact Bel.refl _ | apply Bel.drewN | apply Bel.drew | apply Bel.alloc | refine Bel.trans ?_ (by assumption)))
  cases hf : schFormB p s
  · have HF := Lib.hid (show idleV p s a = 0 from by unfold idleV; rw [hf]; rfl)
    clear hf
    go_wp2
    go_ret
    exact ⟨ret_int HF.out.symm, by (repeat (first | assumption | exact Bel.refl _ | apply Bel.drewN | apply Bel.drew | apply Bel.alloc | refine Bel.trans ?_ (by assumption)))⟩
  have HFO := Lib.hid hf; clear hf
  cases ha : inB a 0 ((p.2.2.2.1.length : Int) - 1)
  · have HF := Lib.hid (show idleV p s a = 0 from by unfold idleV; rw [← inB_v a, ha]; simp)
    skip
    go_wp2_with (go_at_call 51; refine (l01In_any _ _ _ _).mono ?_; rintro e w' ⟨rfl, rfl⟩)
    go_ret
    exact ⟨ret_int HF.out.symm, by (repeat (first | assumption | exact Bel.refl _ | apply Bel.drewN | apply Bel.drew | apply Bel.alloc | refine Bel.trans ?_ (by assumption)))⟩
  obtain ⟨j, rfl, hj⟩ := inB_idx ha
  have HV := Lib.hid (show idleV p s (j : Int) = idleTo p s j (minI (endMax p s p.2.1.length) 60).toNat from by unfold idleV; rw [HFO.out, ← inB_v (j : Int), ha]; rfl)
  have HJA := Lib.hid ha
  skip
  have hmb := endMax_bd HFO.out _ (Nat.le_refl _)
  have HMS := Lib.hid (show makespanV p s = endMax p s p.2.1.length from by unfold makespanV; rw [HFO.out]; rfl)
  generalize endMax p s p.2.1.length = E at *
  obtain ⟨rb, ro, rcs, rea, rrow, rel⟩ := sliceR_at zRes Q3.out hj
  obtain rfl : p3 = some ⟨rb, ro, none⟩ := rea
  have HSO := Lib.hid (projOk_steps (projOk_form HFO.out) hj)
  have HIT := Lib.hid (fun k => (show idleTo p s j (k + 1) = idleTo p s j k + maxI 0 (capV (p.2.2.2.1.getD j zRes).1 k - usageV p s j k) from rfl))
  have HIB := Lib.hid (idleTo_bd HFO.out hj)
  have HUB := Lib.hid (fun k : Nat => usageV_bd (t := (k : Int)) HFO.out hj)
  generalize p.2.2.2.1.getD j zRes = X at *
  obtain ⟨rc0, rc1, rfl, rq0, rq1⟩ := resR_open rel
  obtain ⟨l, ro2⟩ := X
  have HST := Lib.hid rq0
  obtain ⟨stp, stk, rfl, stl, stl', -⟩ := sliceR_open rq0
  obtain ⟨_, _, rfl, -⟩ := sliceR_open rq1
  have rr := (rrow 0 (by simp)).1
  simp only [List.getElem_cons_zero, Nat.add_zero] at rr
  have HRR := Lib.hid rr
  have hji : (j : Int) < (p.2.2.2.1.length : Int) := by omega
  clear rrow rel rq0 rq1 rr
  by_cases h60 : E < 60
  · obtain ⟨n, rfl⟩ := Int.eq_ofNat_of_zero_le hmb.1
    have hn60 : n < 60 := by omega
    have HMN := Lib.hid (show minI (n : Int) 60 = n from if_pos h60)
    have HVn := Lib.hid (show idleV p s (j : Int) = idleTo p s j n from by rw [HV.out, HMN.out]; rfl)
    go_wp2_with (first | (go_at_call 51; refine (l01In_any _ _ _ _).mono ?_; rintro e w' ⟨rfl, rfl⟩) | (go_at_call 35; refine (sMakespan_any _ p S _ s T _ (HP1.out _ (by (repeat (first | assumption | exact Bel.refl _ | apply Bel.drewN | apply Bel.drew | apply Bel.alloc | refine Bel.trans ?_ (by assumption))))) (fun b hb => Nat.lt_of_lt_of_le (HS.out b hb) (Bel.size (by (repeat (first | assumption | exact Bel.refl _ | apply Bel.drewN | apply Bel.drew | apply Bel.alloc | refine Bel.trans ?_ (by assumption)))))) HN.out (HQ1.out _ (by (repeat (first | assumption | exact Bel.refl _ | apply Bel.drewN | apply Bel.drew | apply Bel.alloc | refine Bel.trans ?_ (by assumption))))) (fun b hb => Nat.lt_of_lt_of_le (HT.out b hb) (Bel.size (by (repeat (first | assumption | exact Bel.refl _ | apply Bel.drewN | apply Bel.drew | apply Bel.alloc | refine Bel.trans ?_ (by assumption)))))) HN1.out).mono ?_; rintro e w3 ⟨rfl, g3⟩; rw [HMS.out]) | (go_at_call 85; refine (l02Min_any _ _ _).mono ?_; rintro e w' ⟨rfl, rfl⟩; rw [HMN.out]))
    have b0 := g3.cell b0
    have b1 := g3.cell b1
    have b2 := g3.cell b2
    have b3 := g3.cell b3
    have b4 := g3.cell b4
    have c0 := g3.cell c0
    have c1 := g3.cell c1
    have G3 : Bel w w3 := G.trans g3
    have KX := Lib.hid (show ∀ W, Bel w3 W → W.cell? ⟨w.heap.size, 0, none⟩ = some (.int .i64 p.1) ∧ W.cell? ⟨w.heap.size, 1, none⟩ = some (.slice p1 p.2.1.length k1) ∧ W.cell? ⟨w.heap.size, 2, none⟩ = some (.slice p2 p.2.2.1.length k2) ∧ W.cell? ⟨w.heap.size, 3, none⟩ = some (.slice (some ⟨rb, ro, none⟩) p.2.2.2.1.length k3) ∧ W.cell? ⟨w.heap.size, 4, none⟩ = some (.slice p4 p.2.2.2.2.length k4) ∧ W.cell? ⟨w.heap.size + 1, 0, none⟩ = some (.slice sp0 s.1.length sk0) ∧ W.cell? ⟨w.heap.size + 1, 1, none⟩ = some (.slice sp1 s.2.length sk1) ∧ W.cell? ⟨rb, ro + j * 2, none⟩ = some (.slice stp l.length stk) from fun W hW => keep8 (And.intro b0 (And.intro b1 (And.intro b2 (And.intro b3 (And.intro b4 (And.intro c0 (And.intro c1 (G3.cell HRR.out)))))))) hW)
    clear b0 b1 b2 b3 b4 c0 c1 G g3 g1
    skip
    go_loopw [7, 9] (fun z i wr => ∃ (k : Nat) (c : Int), k ≤ n ∧ i = .int .i64 k ∧ z = .int .i64 c ∧ c = idleTo p s j k ∧ Bel w3 wr) (fun _ i _ => n - (intOf i).toNat)
    case atStart => exact ⟨0, 0, Nat.zero_le _, rfl, rfl, rfl, Bel.refl _⟩
    case round =>
      obtain ⟨k, c, hk, rfl, rfl, hc, hB⟩ := hrel
      have HC := Lib.hid hc; clear hc
      have hW3 : Bel w wr := G3.trans hB
      by_cases hlt : k < n
      · obtain ⟨b0, b1, b2, b3, b4, c0, c1, rr⟩ := KX.out wr hB
        have hib := HIB.out k
        rw [← HC.out] at hib
        have hub := HUB.out k
        have hcb := capTo_bd HSO.out (k : Int) _ (Nat.le_refl _)
        change 0 ≤ capV l k ∧ capV l k ≤ 20 at hcb
        have HNX := Lib.hid (show idleTo p s j (k + 1) = c + maxI 0 (capV l k - usageV p s j k) from by rw [HIT.out, HC.out])
        have HUA := Lib.hid (show usageAtV p s (j : Int) (k : Int) = usageV p s j k from by unfold usageAtV; rw [HFO.out, ← inB_v (j : Int), HJA.out]; rfl)
        have HT6 := Lib.hid (show inB (k : Int) 0 60 = true from by simp only [inB, Bool.and_eq_true, decide_eq_true_eq]; omega)
        have HUE := Lib.hid (show usageV p s j k = usageV p s j k from rfl)
        obtain ⟨U, hU⟩ : ∃ U, usageV p s j (k : Int) = U := ⟨_, rfl⟩
        obtain ⟨C, hC⟩ : ∃ C, capV l (k : Int) = C := ⟨_, rfl⟩
        rw [hU] at hub HNX HUA
        rw [hC] at hcb HNX
        have HU := Lib.hid hU; clear hU
        have HCC := Lib.hid hC; clear hC
        clear HUE
        have hmx0 : 0 ≤ maxI 0 (C - U) ∧ maxI 0 (C - U) ≤ 20 := by unfold maxI; split <;> omega
        have hw1 : IntKind.i64.wrap (C - U) = C - U := IntWalk.i64_in _ (by omega)
        have HW3 := Lib.hid (show IntKind.i64.wrap (c + maxI 0 (C - U)) = c + maxI 0 (C - U) from IntWalk.i64_in _ (by omega))
        go_wp2_with fail
        go_region_held3 (fun W => W.cell? ⟨w.heap.size, 0, none⟩ = some (.int .i64 p.1) ∧ W.cell? ⟨w.heap.size, 1, none⟩ = some (.slice p1 p.2.1.length k1) ∧ W.cell? ⟨w.heap.size, 2, none⟩ = some (.slice p2 p.2.2.1.length k2) ∧ W.cell? ⟨w.heap.size, 3, none⟩ = some (.slice (some ⟨rb, ro, none⟩) p.2.2.2.1.length k3) ∧ W.cell? ⟨w.heap.size, 4, none⟩ = some (.slice p4 p.2.2.2.2.length k4) ∧ W.cell? ⟨w.heap.size + 1, 0, none⟩ = some (.slice sp0 s.1.length sk0) ∧ W.cell? ⟨w.heap.size + 1, 1, none⟩ = some (.slice sp1 s.2.length sk1) ∧ W.cell? ⟨rb, ro + j * 2, none⟩ = some (.slice stp l.length stk)) (first | exact keep8 (by assumption) (by assumption) | go_keep)
          (first | (go_at_call 86; (with_reducible refine (sCapacityAt_any _ l _ S _ (stepsR_good.bel HST.out (by (repeat (first | assumption | exact Bel.refl _ | apply Bel.drewN | apply Bel.drew | apply Bel.alloc | refine Bel.trans ?_ (by assumption)))) HS.out) (fun b hb => Nat.lt_of_lt_of_le (HS.out b hb) (Bel.size (by (repeat (first | assumption | exact Bel.refl _ | apply Bel.drewN | apply Bel.drew | apply Bel.alloc | refine Bel.trans ?_ (by assumption)))))) HSO.out HT6.out).mono ?_); rintro e wt ⟨rfl, gt⟩; rw [HCC.out]) | (go_at_call 37; (with_reducible refine (sUsageAt_any _ p S _ s T _ _ _ (HP1.out _ (by (repeat (first | assumption | exact Bel.refl _ | apply Bel.drewN | apply Bel.drew | apply Bel.alloc | refine Bel.trans ?_ (by assumption))))) (fun b hb => Nat.lt_of_lt_of_le (HS.out b hb) (Bel.size (by (repeat (first | assumption | exact Bel.refl _ | apply Bel.drewN | apply Bel.drew | apply Bel.alloc | refine Bel.trans ?_ (by assumption)))))) HN.out (HQ1.out _ (by (repeat (first | assumption | exact Bel.refl _ | apply Bel.drewN | apply Bel.drew | apply Bel.alloc | refine Bel.trans ?_ (by assumption))))) (fun b hb => Nat.lt_of_lt_of_le (HT.out b hb) (Bel.size (by (repeat (first | assumption | exact Bel.refl _ | apply Bel.drewN | apply Bel.drew | apply Bel.alloc | refine Bel.trans ?_ (by assumption)))))) HN1.out).mono ?_); rintro e wt ⟨rfl, gt⟩; rw [HUA.out]) | (go_at_call 72; (with_reducible refine (l02Max_any _ _ _).mono ?_); rintro e wt ⟨rfl, rfl⟩))
        clear hw1
        go_wp2
        go_roundw
        case rel => exact ⟨k + 1, c + maxI 0 (C - U), by omega, by go_num, congrArg (Value.int IntKind.i64) HW3.out, HNX.out.symm, by (repeat (first | assumption | exact Bel.refl _ | apply Bel.drewN | apply Bel.drew | apply Bel.alloc | refine Bel.trans ?_ (by assumption)))⟩
        case measure => simp [intOf]; omega
      · have hkn : k = n := by omega
        have HD := Lib.hid (show c = idleV p s (j : Int) from by rw [HVn.out, HC.out, hkn])
        clear hkn
        go_wp2
        go_ret
        exact ⟨ret_int HD.out, by (repeat (first | assumption | exact Bel.refl _ | apply Bel.drewN | apply Bel.drew | apply Bel.alloc | refine Bel.trans ?_ (by assumption)))⟩
  by_cases h61 : E = 60
  · subst h61
    have HMN := Lib.hid (show minI 60 60 = 60 from rfl)
    clear h60
    have HVn := Lib.hid (show idleV p s (j : Int) = idleTo p s j 60 from by rw [HV.out, HMN.out]; rfl)
    go_wp2_with (first | (go_at_call 51; refine (l01In_any _ _ _ _).mono ?_; rintro e w' ⟨rfl, rfl⟩) | (go_at_call 35; refine (sMakespan_any _ p S _ s T _ (HP1.out _ (by (repeat (first | assumption | exact Bel.refl _ | apply Bel.drewN | apply Bel.drew | apply Bel.alloc | refine Bel.trans ?_ (by assumption))))) (fun b hb => Nat.lt_of_lt_of_le (HS.out b hb) (Bel.size (by (repeat (first | assumption | exact Bel.refl _ | apply Bel.drewN | apply Bel.drew | apply Bel.alloc | refine Bel.trans ?_ (by assumption)))))) HN.out (HQ1.out _ (by (repeat (first | assumption | exact Bel.refl _ | apply Bel.drewN | apply Bel.drew | apply Bel.alloc | refine Bel.trans ?_ (by assumption))))) (fun b hb => Nat.lt_of_lt_of_le (HT.out b hb) (Bel.size (by (repeat (first | assumption | exact Bel.refl _ | apply Bel.drewN | apply Bel.drew | apply Bel.alloc | refine Bel.trans ?_ (by assumption)))))) HN1.out).mono ?_; rintro e w3 ⟨rfl, g3⟩; rw [HMS.out]) | (go_at_call 85; refine (l02Min_any _ _ _).mono ?_; rintro e w' ⟨rfl, rfl⟩; rw [HMN.out]))
    have b0 := g3.cell b0
    have b1 := g3.cell b1
    have b2 := g3.cell b2
    have b3 := g3.cell b3
    have b4 := g3.cell b4
    have c0 := g3.cell c0
    have c1 := g3.cell c1
    have G3 : Bel w w3 := G.trans g3
    have KX := Lib.hid (show ∀ W, Bel w3 W → W.cell? ⟨w.heap.size, 0, none⟩ = some (.int .i64 p.1) ∧ W.cell? ⟨w.heap.size, 1, none⟩ = some (.slice p1 p.2.1.length k1) ∧ W.cell? ⟨w.heap.size, 2, none⟩ = some (.slice p2 p.2.2.1.length k2) ∧ W.cell? ⟨w.heap.size, 3, none⟩ = some (.slice (some ⟨rb, ro, none⟩) p.2.2.2.1.length k3) ∧ W.cell? ⟨w.heap.size, 4, none⟩ = some (.slice p4 p.2.2.2.2.length k4) ∧ W.cell? ⟨w.heap.size + 1, 0, none⟩ = some (.slice sp0 s.1.length sk0) ∧ W.cell? ⟨w.heap.size + 1, 1, none⟩ = some (.slice sp1 s.2.length sk1) ∧ W.cell? ⟨rb, ro + j * 2, none⟩ = some (.slice stp l.length stk) from fun W hW => keep8 (And.intro b0 (And.intro b1 (And.intro b2 (And.intro b3 (And.intro b4 (And.intro c0 (And.intro c1 (G3.cell HRR.out)))))))) hW)
    clear b0 b1 b2 b3 b4 c0 c1 G g3 g1
    skip
    go_loopw [7, 9] (fun z i wr => ∃ (k : Nat) (c : Int), k ≤ 60 ∧ i = .int .i64 k ∧ z = .int .i64 c ∧ c = idleTo p s j k ∧ Bel w3 wr) (fun _ i _ => 60 - (intOf i).toNat)
    case atStart => exact ⟨0, 0, Nat.zero_le _, rfl, rfl, rfl, Bel.refl _⟩
    case round =>
      obtain ⟨k, c, hk, rfl, rfl, hc, hB⟩ := hrel
      have HC := Lib.hid hc; clear hc
      have hW3 : Bel w wr := G3.trans hB
      by_cases hlt : k < 60
      · obtain ⟨b0, b1, b2, b3, b4, c0, c1, rr⟩ := KX.out wr hB
        have hib := HIB.out k
        rw [← HC.out] at hib
        have hub := HUB.out k
        have hcb := capTo_bd HSO.out (k : Int) _ (Nat.le_refl _)
        change 0 ≤ capV l k ∧ capV l k ≤ 20 at hcb
        have HNX := Lib.hid (show idleTo p s j (k + 1) = c + maxI 0 (capV l k - usageV p s j k) from by rw [HIT.out, HC.out])
        have HUA := Lib.hid (show usageAtV p s (j : Int) (k : Int) = usageV p s j k from by unfold usageAtV; rw [HFO.out, ← inB_v (j : Int), HJA.out]; rfl)
        have HT6 := Lib.hid (show inB (k : Int) 0 60 = true from by simp only [inB, Bool.and_eq_true, decide_eq_true_eq]; omega)
        have HUE := Lib.hid (show usageV p s j k = usageV p s j k from rfl)
        obtain ⟨U, hU⟩ : ∃ U, usageV p s j (k : Int) = U := ⟨_, rfl⟩
        obtain ⟨C, hC⟩ : ∃ C, capV l (k : Int) = C := ⟨_, rfl⟩
        rw [hU] at hub HNX HUA
        rw [hC] at hcb HNX
        have HU := Lib.hid hU; clear hU
        have HCC := Lib.hid hC; clear hC
        clear HUE
        have hmx0 : 0 ≤ maxI 0 (C - U) ∧ maxI 0 (C - U) ≤ 20 := by unfold maxI; split <;> omega
        have hw1 : IntKind.i64.wrap (C - U) = C - U := IntWalk.i64_in _ (by omega)
        have HW3 := Lib.hid (show IntKind.i64.wrap (c + maxI 0 (C - U)) = c + maxI 0 (C - U) from IntWalk.i64_in _ (by omega))
        go_wp2_with fail
        go_region_held3 (fun W => W.cell? ⟨w.heap.size, 0, none⟩ = some (.int .i64 p.1) ∧ W.cell? ⟨w.heap.size, 1, none⟩ = some (.slice p1 p.2.1.length k1) ∧ W.cell? ⟨w.heap.size, 2, none⟩ = some (.slice p2 p.2.2.1.length k2) ∧ W.cell? ⟨w.heap.size, 3, none⟩ = some (.slice (some ⟨rb, ro, none⟩) p.2.2.2.1.length k3) ∧ W.cell? ⟨w.heap.size, 4, none⟩ = some (.slice p4 p.2.2.2.2.length k4) ∧ W.cell? ⟨w.heap.size + 1, 0, none⟩ = some (.slice sp0 s.1.length sk0) ∧ W.cell? ⟨w.heap.size + 1, 1, none⟩ = some (.slice sp1 s.2.length sk1) ∧ W.cell? ⟨rb, ro + j * 2, none⟩ = some (.slice stp l.length stk)) (first | exact keep8 (by assumption) (by assumption) | go_keep)
          (first | (go_at_call 86; (with_reducible refine (sCapacityAt_any _ l _ S _ (stepsR_good.bel HST.out (by (repeat (first | assumption | exact Bel.refl _ | apply Bel.drewN | apply Bel.drew | apply Bel.alloc | refine Bel.trans ?_ (by assumption)))) HS.out) (fun b hb => Nat.lt_of_lt_of_le (HS.out b hb) (Bel.size (by (repeat (first | assumption | exact Bel.refl _ | apply Bel.drewN | apply Bel.drew | apply Bel.alloc | refine Bel.trans ?_ (by assumption)))))) HSO.out HT6.out).mono ?_); rintro e wt ⟨rfl, gt⟩; rw [HCC.out]) | (go_at_call 37; (with_reducible refine (sUsageAt_any _ p S _ s T _ _ _ (HP1.out _ (by (repeat (first | assumption | exact Bel.refl _ | apply Bel.drewN | apply Bel.drew | apply Bel.alloc | refine Bel.trans ?_ (by assumption))))) (fun b hb => Nat.lt_of_lt_of_le (HS.out b hb) (Bel.size (by (repeat (first | assumption | exact Bel.refl _ | apply Bel.drewN | apply Bel.drew | apply Bel.alloc | refine Bel.trans ?_ (by assumption)))))) HN.out (HQ1.out _ (by (repeat (first | assumption | exact Bel.refl _ | apply Bel.drewN | apply Bel.drew | apply Bel.alloc | refine Bel.trans ?_ (by assumption))))) (fun b hb => Nat.lt_of_lt_of_le (HT.out b hb) (Bel.size (by (repeat (first | assumption | exact Bel.refl _ | apply Bel.drewN | apply Bel.drew | apply Bel.alloc | refine Bel.trans ?_ (by assumption)))))) HN1.out).mono ?_); rintro e wt ⟨rfl, gt⟩; rw [HUA.out]) | (go_at_call 72; (with_reducible refine (l02Max_any _ _ _).mono ?_); rintro e wt ⟨rfl, rfl⟩))
        clear hw1
        go_wp2
        go_roundw
        case rel => exact ⟨k + 1, c + maxI 0 (C - U), by omega, by go_num, congrArg (Value.int IntKind.i64) HW3.out, HNX.out.symm, by (repeat (first | assumption | exact Bel.refl _ | apply Bel.drewN | apply Bel.drew | apply Bel.alloc | refine Bel.trans ?_ (by assumption)))⟩
        case measure => simp [intOf]; omega
      · have hkn : k = 60 := by omega
        have HD := Lib.hid (show c = idleV p s (j : Int) from by rw [HVn.out, HC.out, hkn])
        clear hkn
        go_wp2
        go_ret
        exact ⟨ret_int HD.out, by (repeat (first | assumption | exact Bel.refl _ | apply Bel.drewN | apply Bel.drew | apply Bel.alloc | refine Bel.trans ?_ (by assumption)))⟩
  · have HMN := Lib.hid (show minI E 60 = 60 from if_neg h60)
    have h62 : 60 < E := by omega
    clear h60 h61
    have HVn := Lib.hid (show idleV p s (j : Int) = idleTo p s j 60 from by rw [HV.out, HMN.out]; rfl)
    go_wp2_with (first | (go_at_call 51; refine (l01In_any _ _ _ _).mono ?_; rintro e w' ⟨rfl, rfl⟩) | (go_at_call 35; refine (sMakespan_any _ p S _ s T _ (HP1.out _ (by (repeat (first | assumption | exact Bel.refl _ | apply Bel.drewN | apply Bel.drew | apply Bel.alloc | refine Bel.trans ?_ (by assumption))))) (fun b hb => Nat.lt_of_lt_of_le (HS.out b hb) (Bel.size (by (repeat (first | assumption | exact Bel.refl _ | apply Bel.drewN | apply Bel.drew | apply Bel.alloc | refine Bel.trans ?_ (by assumption)))))) HN.out (HQ1.out _ (by (repeat (first | assumption | exact Bel.refl _ | apply Bel.drewN | apply Bel.drew | apply Bel.alloc | refine Bel.trans ?_ (by assumption))))) (fun b hb => Nat.lt_of_lt_of_le (HT.out b hb) (Bel.size (by (repeat (first | assumption | exact Bel.refl _ | apply Bel.drewN | apply Bel.drew | apply Bel.alloc | refine Bel.trans ?_ (by assumption)))))) HN1.out).mono ?_; rintro e w3 ⟨rfl, g3⟩; rw [HMS.out]) | (go_at_call 85; refine (l02Min_any _ _ _).mono ?_; rintro e w' ⟨rfl, rfl⟩; rw [HMN.out]))
    have b0 := g3.cell b0
    have b1 := g3.cell b1
    have b2 := g3.cell b2
    have b3 := g3.cell b3
    have b4 := g3.cell b4
    have c0 := g3.cell c0
    have c1 := g3.cell c1
    have G3 : Bel w w3 := G.trans g3
    have KX := Lib.hid (show ∀ W, Bel w3 W → W.cell? ⟨w.heap.size, 0, none⟩ = some (.int .i64 p.1) ∧ W.cell? ⟨w.heap.size, 1, none⟩ = some (.slice p1 p.2.1.length k1) ∧ W.cell? ⟨w.heap.size, 2, none⟩ = some (.slice p2 p.2.2.1.length k2) ∧ W.cell? ⟨w.heap.size, 3, none⟩ = some (.slice (some ⟨rb, ro, none⟩) p.2.2.2.1.length k3) ∧ W.cell? ⟨w.heap.size, 4, none⟩ = some (.slice p4 p.2.2.2.2.length k4) ∧ W.cell? ⟨w.heap.size + 1, 0, none⟩ = some (.slice sp0 s.1.length sk0) ∧ W.cell? ⟨w.heap.size + 1, 1, none⟩ = some (.slice sp1 s.2.length sk1) ∧ W.cell? ⟨rb, ro + j * 2, none⟩ = some (.slice stp l.length stk) from fun W hW => keep8 (And.intro b0 (And.intro b1 (And.intro b2 (And.intro b3 (And.intro b4 (And.intro c0 (And.intro c1 (G3.cell HRR.out)))))))) hW)
    clear b0 b1 b2 b3 b4 c0 c1 G g3 g1
    skip
    go_loopw [7, 9] (fun z i wr => ∃ (k : Nat) (c : Int), k ≤ 60 ∧ i = .int .i64 k ∧ z = .int .i64 c ∧ c = idleTo p s j k ∧ Bel w3 wr) (fun _ i _ => 60 - (intOf i).toNat)
    case atStart => exact ⟨0, 0, Nat.zero_le _, rfl, rfl, rfl, Bel.refl _⟩
    case round =>
      obtain ⟨k, c, hk, rfl, rfl, hc, hB⟩ := hrel
      have HC := Lib.hid hc; clear hc
      have hW3 : Bel w wr := G3.trans hB
      by_cases hlt : k < 60
      · obtain ⟨b0, b1, b2, b3, b4, c0, c1, rr⟩ := KX.out wr hB
        have hib := HIB.out k
        rw [← HC.out] at hib
        have hub := HUB.out k
        have hcb := capTo_bd HSO.out (k : Int) _ (Nat.le_refl _)
        change 0 ≤ capV l k ∧ capV l k ≤ 20 at hcb
        have HNX := Lib.hid (show idleTo p s j (k + 1) = c + maxI 0 (capV l k - usageV p s j k) from by rw [HIT.out, HC.out])
        have HUA := Lib.hid (show usageAtV p s (j : Int) (k : Int) = usageV p s j k from by unfold usageAtV; rw [HFO.out, ← inB_v (j : Int), HJA.out]; rfl)
        have HT6 := Lib.hid (show inB (k : Int) 0 60 = true from by simp only [inB, Bool.and_eq_true, decide_eq_true_eq]; omega)
        have HUE := Lib.hid (show usageV p s j k = usageV p s j k from rfl)
        obtain ⟨U, hU⟩ : ∃ U, usageV p s j (k : Int) = U := ⟨_, rfl⟩
        obtain ⟨C, hC⟩ : ∃ C, capV l (k : Int) = C := ⟨_, rfl⟩
        rw [hU] at hub HNX HUA
        rw [hC] at hcb HNX
        have HU := Lib.hid hU; clear hU
        have HCC := Lib.hid hC; clear hC
        clear HUE
        have hmx0 : 0 ≤ maxI 0 (C - U) ∧ maxI 0 (C - U) ≤ 20 := by unfold maxI; split <;> omega
        have hw1 : IntKind.i64.wrap (C - U) = C - U := IntWalk.i64_in _ (by omega)
        have HW3 := Lib.hid (show IntKind.i64.wrap (c + maxI 0 (C - U)) = c + maxI 0 (C - U) from IntWalk.i64_in _ (by omega))
        go_wp2_with fail
        go_region_held3 (fun W => W.cell? ⟨w.heap.size, 0, none⟩ = some (.int .i64 p.1) ∧ W.cell? ⟨w.heap.size, 1, none⟩ = some (.slice p1 p.2.1.length k1) ∧ W.cell? ⟨w.heap.size, 2, none⟩ = some (.slice p2 p.2.2.1.length k2) ∧ W.cell? ⟨w.heap.size, 3, none⟩ = some (.slice (some ⟨rb, ro, none⟩) p.2.2.2.1.length k3) ∧ W.cell? ⟨w.heap.size, 4, none⟩ = some (.slice p4 p.2.2.2.2.length k4) ∧ W.cell? ⟨w.heap.size + 1, 0, none⟩ = some (.slice sp0 s.1.length sk0) ∧ W.cell? ⟨w.heap.size + 1, 1, none⟩ = some (.slice sp1 s.2.length sk1) ∧ W.cell? ⟨rb, ro + j * 2, none⟩ = some (.slice stp l.length stk)) (first | exact keep8 (by assumption) (by assumption) | go_keep)
          (first | (go_at_call 86; (with_reducible refine (sCapacityAt_any _ l _ S _ (stepsR_good.bel HST.out (by (repeat (first | assumption | exact Bel.refl _ | apply Bel.drewN | apply Bel.drew | apply Bel.alloc | refine Bel.trans ?_ (by assumption)))) HS.out) (fun b hb => Nat.lt_of_lt_of_le (HS.out b hb) (Bel.size (by (repeat (first | assumption | exact Bel.refl _ | apply Bel.drewN | apply Bel.drew | apply Bel.alloc | refine Bel.trans ?_ (by assumption)))))) HSO.out HT6.out).mono ?_); rintro e wt ⟨rfl, gt⟩; rw [HCC.out]) | (go_at_call 37; (with_reducible refine (sUsageAt_any _ p S _ s T _ _ _ (HP1.out _ (by (repeat (first | assumption | exact Bel.refl _ | apply Bel.drewN | apply Bel.drew | apply Bel.alloc | refine Bel.trans ?_ (by assumption))))) (fun b hb => Nat.lt_of_lt_of_le (HS.out b hb) (Bel.size (by (repeat (first | assumption | exact Bel.refl _ | apply Bel.drewN | apply Bel.drew | apply Bel.alloc | refine Bel.trans ?_ (by assumption)))))) HN.out (HQ1.out _ (by (repeat (first | assumption | exact Bel.refl _ | apply Bel.drewN | apply Bel.drew | apply Bel.alloc | refine Bel.trans ?_ (by assumption))))) (fun b hb => Nat.lt_of_lt_of_le (HT.out b hb) (Bel.size (by (repeat (first | assumption | exact Bel.refl _ | apply Bel.drewN | apply Bel.drew | apply Bel.alloc | refine Bel.trans ?_ (by assumption)))))) HN1.out).mono ?_); rintro e wt ⟨rfl, gt⟩; rw [HUA.out]) | (go_at_call 72; (with_reducible refine (l02Max_any _ _ _).mono ?_); rintro e wt ⟨rfl, rfl⟩))
        clear hw1
        go_wp2
        go_roundw
        case rel => exact ⟨k + 1, c + maxI 0 (C - U), by omega, by go_num, congrArg (Value.int IntKind.i64) HW3.out, HNX.out.symm, by (repeat (first | assumption | exact Bel.refl _ | apply Bel.drewN | apply Bel.drew | apply Bel.alloc | refine Bel.trans ?_ (by assumption)))⟩
        case measure => simp [intOf]; omega
      · have hkn : k = 60 := by omega
        have HD := Lib.hid (show c = idleV p s (j : Int) from by rw [HVn.out, HC.out, hkn])
        clear hkn
        go_wp2
        go_ret
        exact ⟨ret_int HD.out, by (repeat (first | assumption | exact Bel.refl _ | apply Bel.drewN | apply Bel.drew | apply Bel.alloc | refine Bel.trans ?_ (by assumption)))⟩

end Go.Proofs.Ytkfmohcfgpfjkaa
