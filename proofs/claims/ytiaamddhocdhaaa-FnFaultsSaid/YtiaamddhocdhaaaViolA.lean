/- Contracts of workDone, TotalCapacity, l09Use. -/
import Derived.Test.YtiaamddhocdhaaaViolF
namespace Go.Proofs.Ytiaamddhocdhaaa
open Go.ChangeShapes Go.WideShapes Go.ChangeAt Go.RowKit
set_option linter.unusedVariables false

theorem workTo_next (p : ProjT) (s : SchT) (r x t : Nat) (h : x ≤ t) : workTo p s r x (t + 1 - x) = workTo p s r x (t - x) + usageV p s r t := by
  rw [show t + 1 - x = (t - x) + 1 from by omega]
  simp only [workTo]
  rw [show (x : Int) + ((t - x : Nat) : Int) = t from by omega]
theorem totTo_next (l : List StepT) (x t : Nat) (h : x ≤ t) : totTo l x (t + 1 - x) = totTo l x (t - x) + capV l t := by
  rw [show t + 1 - x = (t - x) + 1 from by omega]
  simp only [totTo]
  rw [show (x : Int) + ((t - x : Nat) : Int) = t from by omega]

set_option maxHeartbeats 1000000 in
theorem workDone_any (v : Value) (p : ProjT) (S : Nat → Prop) (v1 : Value) (s : SchT) (T : Nat → Prop) (r x y : Nat) (w : World) (hx : aggR projR S w v p) (hS : ∀ b, S b → b < w.heap.size) (hs : aggR schR T w v1 s) (hT : ∀ b, T b → b < w.heap.size) (hf : schFormB p s = true) (hr : r < p.2.2.2.1.length) (hxy : x ≤ y) (hy : y ≤ 60) :
    Calls Try.prog 147 #[v, v1, .int .i64 r, .int .i64 x, .int .i64 y] w fun e w' => e = .returned (.int .i64 (workTo p s r x (y - x))) ∧ Bel w w' := by
  obtain ⟨cs, rfl, hx⟩ := hx
  obtain ⟨c1, c2, c3, c4, rfl, q0, q1, q2, q3, q4⟩ := projR_open hx
  have Q1 := Lib.hid q1
  have Q2 := Lib.hid q2
  have Q3 := Lib.hid q3
  have Q4 := Lib.hid q4
  have HP := Lib.hid hx
  obtain ⟨p1, k1, rfl, l1, l1', -⟩ := sliceR_open q1
  obtain ⟨p2, k2, rfl, l2, l2', -⟩ := sliceR_open q2
  obtain ⟨p3, k3, rfl, l3, l3', -⟩ := sliceR_open q3
  obtain ⟨p4, k4, rfl, l4, l4', -⟩ := sliceR_open q4
  unfold maxLen at l1' l2' l3' l4'
  clear hx q0 q1 q2 q3 q4
  obtain ⟨zs, rfl, hs⟩ := hs
  have HZ := hs
  obtain ⟨z0, z1, rfl, zq0, zq1⟩ := schR_open hs
  have A0 := Lib.hid (fun i hi => intsR_at' zq0 (i := i) hi)
  have A1 := Lib.hid (fun i hi => intsR_at' zq1 (i := i) hi)
  obtain ⟨sp0, sk0, rfl, sl0, sl0', -⟩ := sliceR_open zq0
  obtain ⟨sp1, sk1, rfl, sl1, sl1', -⟩ := sliceR_open zq1
  unfold maxLen at sl0' sl1'
  have HT := Lib.hid hT
  have HQ1 := Lib.hid (show ∀ W, Bel w W → aggR schR T W (.agg #[.slice sp0 s.1.length sk0, .slice sp1 s.2.length sk1]) s from fun W hW => aggR_mk (schR_good.bel HZ hW HT.out))
  clear hs zq0 zq1 hT HZ
  have HS := Lib.hid hS
  have HFO := Lib.hid hf
  have HR := Lib.hid hr
  clear hS hf hr
  have HP1 := Lib.hid (show ∀ W, Bel w W → aggR projR S W (.agg #[.int .i64 p.1, .slice p1 p.2.1.length k1, .slice p2 p.2.2.1.length k2, .slice p3 p.2.2.2.1.length k3, .slice p4 p.2.2.2.2.length k4]) p from fun W hW => aggR_mk (projR_good.bel HP.out hW HS.out))
  show Calls Try.prog 147 #[.agg #[.int .i64 p.1, .slice p1 p.2.1.length k1, .slice p2 p.2.2.1.length k2, .slice p3 p.2.2.2.1.length k3, .slice p4 p.2.2.2.2.length k4], .agg #[.slice sp0 s.1.length sk0, .slice sp1 s.2.length sk1], .int .i64 r, .int .i64 x, .int .i64 y] w _
  go_enter Try.func147, Try.ntmps147
  obtain ⟨W0, hW0, hwW, hbx⟩ : ∃ W0, W0 = (w.alloc (.cells #[.int .i64 p.1, .slice p1 p.2.1.length k1, .slice p2 p.2.2.1.length k2, .slice p3 p.2.2.2.1.length k3, .slice p4 p.2.2.2.2.length k4] 34)).alloc (.cells #[.slice sp0 s.1.length sk0, .slice sp1 s.2.length sk1] 41) ∧ Bel w W0 ∧ W0.cell? ⟨w.heap.size, 0, none⟩ = some (.int .i64 p.1) ∧ W0.cell? ⟨w.heap.size, 1, none⟩ = some (.slice p1 p.2.1.length k1) ∧ W0.cell? ⟨w.heap.size, 2, none⟩ = some (.slice p2 p.2.2.1.length k2) ∧ W0.cell? ⟨w.heap.size, 3, none⟩ = some (.slice p3 p.2.2.2.1.length k3) ∧ W0.cell? ⟨w.heap.size, 4, none⟩ = some (.slice p4 p.2.2.2.2.length k4) ∧ W0.cell? ⟨w.heap.size + 1, 0, none⟩ = some (.slice sp0 s.1.length sk0) ∧ W0.cell? ⟨w.heap.size + 1, 1, none⟩ = some (.slice sp1 s.2.length sk1) := ⟨_, rfl, by (repeat (first | assumption | exact Bel.refl _ | apply Bel.drewN | apply Bel.drew | apply Bel.alloc | refine Bel.trans ?_ (by assumption))), by simp [go_sem], by simp [go_sem], by simp [go_sem], by simp [go_sem], by simp [go_sem], by simp [go_sem], by simp [go_sem]⟩
  have HBX := Lib.hid (show ∀ W, Bel W0 W → W.cell? ⟨w.heap.size, 0, none⟩ = some (.int .i64 p.1) ∧ W.cell? ⟨w.heap.size, 1, none⟩ = some (.slice p1 p.2.1.length k1) ∧ W.cell? ⟨w.heap.size, 2, none⟩ = some (.slice p2 p.2.2.1.length k2) ∧ W.cell? ⟨w.heap.size, 3, none⟩ = some (.slice p3 p.2.2.2.1.length k3) ∧ W.cell? ⟨w.heap.size, 4, none⟩ = some (.slice p4 p.2.2.2.2.length k4) ∧ W.cell? ⟨w.heap.size + 1, 0, none⟩ = some (.slice sp0 s.1.length sk0) ∧ W.cell? ⟨w.heap.size + 1, 1, none⟩ = some (.slice sp1 s.2.length sk1) from fun W hW => keep7 hbx hW)
  clear hbx
  go_wp2_with fail
  rw [← hW0]
  clear hW0
  go_loopw [11, 12] (fun z i wr => ∃ (t : Nat) (c : Int), x ≤ t ∧ t ≤ y ∧ i = .int .i64 t ∧ z = .int .i64 c ∧ c = workTo p s r x (t - x) ∧ Bel W0 wr) (fun _ i _ => y - (intOf i).toNat)
  case atStart => exact ⟨x, 0, Nat.le_refl _, hxy, rfl, rfl, by rw [Nat.sub_self]; rfl, Bel.refl _⟩
  case round =>
    obtain ⟨t, c, hxt, hty, rfl, rfl, hc, hB⟩ := hrel
    have HC := Lib.hid hc; clear hc
    by_cases hlt : t < y
    · obtain ⟨b0, b1, b2, b3, b4, c0, c1⟩ := HBX.out wr hB
      have hcb := workTo_bd (x := (x : Int)) HFO.out HR.out (t - x)
      rw [← HC.out] at hcb
      have hub := usageV_bd (t := (t : Int)) HFO.out HR.out
      have HNX := Lib.hid (show workTo p s r x (t + 1 - x) = c + usageV p s r t from by rw [workTo_next _ _ _ _ _ hxt, HC.out])
      have hB2 : Bel w wr := hwW.trans hB
      go_wp2_with fail
      refine (usage_any _ p S _ s T r t _ (HP1.out _ (by (repeat (first | assumption | exact Bel.refl _ | apply Bel.drewN | apply Bel.drew | apply Bel.alloc | refine Bel.trans ?_ (by assumption))))) (fun b hb => Nat.lt_of_lt_of_le (HS.out b hb) (Bel.size (by (repeat (first | assumption | exact Bel.refl _ | apply Bel.drewN | apply Bel.drew | apply Bel.alloc | refine Bel.trans ?_ (by assumption)))))) (HQ1.out _ (by (repeat (first | assumption | exact Bel.refl _ | apply Bel.drewN | apply Bel.drew | apply Bel.alloc | refine Bel.trans ?_ (by assumption))))) (fun b hb => Nat.lt_of_lt_of_le (HT.out b hb) (Bel.size (by (repeat (first | assumption | exact Bel.refl _ | apply Bel.drewN | apply Bel.drew | apply Bel.alloc | refine Bel.trans ?_ (by assumption)))))) HFO.out HR.out).mono ?_
      rintro e w2 ⟨rfl, g2⟩
      generalize usageV p s r (t : Int) = U at *
      go_wp2
      go_roundw
      case rel => exact ⟨t + 1, c + U, by omega, by omega, by go_num, by go_num, HNX.out.symm, by (repeat (first | assumption | exact Bel.refl _ | apply Bel.drewN | apply Bel.drew | apply Bel.alloc | refine Bel.trans ?_ (by assumption)))⟩
      case measure => simp [intOf]; omega
    · have hte : t = y := by omega
      have HD := Lib.hid (show c = workTo p s r x (y - x) from by rw [HC.out, hte])
      clear hte
      go_wp2
      go_ret
      exact ⟨ret_int HD.out, by (repeat (first | assumption | exact Bel.refl _ | apply Bel.drewN | apply Bel.drew | apply Bel.alloc | refine Bel.trans ?_ (by assumption)))⟩


set_option maxHeartbeats 1000000 in
theorem iTotalCapacity_any (v : Value) (l : List StepT) (S : Nat → Prop) (x y : Nat) (w : World) (hx : stepsR S w [v] l) (hS : ∀ b, S b → b < w.heap.size) (hok : stepsOkB l = true) (hxy : x ≤ y) (hy : y ≤ 60) :
    Calls Try.prog 148 #[v, .int .i64 x, .int .i64 y] w fun e w' => e = .returned (.int .i64 (totTo l x (y - x))) ∧ Bel w w' := by
  have HX := Lib.hid hx
  have HS := Lib.hid hS
  have HO := Lib.hid hok
  have hix : inB (x : Int) 0 60 = true := inB_yes (by omega)
  have hiy : inB (y : Int) 0 60 = true := inB_yes (by omega)
  obtain ⟨p, cap, rfl, l1, l2, -⟩ := sliceR_open hx
  unfold maxLen at l2
  clear hx hS hok
  go_enter Try.func148, Try.ntmps148
  go_wp2_with fail
  refine (iStepsOk_any _ l S _ HX.out).mono ?_
  rintro e w1 ⟨rfl, g1⟩
  rw [HO.out]
  go_wp2_with (go_at_call 88; refine (isTime_any _ _).mono ?_; rintro e w' ⟨rfl, rfl⟩)
  clear hix hiy
  go_loopw [7, 8] (fun z i wr => ∃ (t : Nat) (c : Int), x ≤ t ∧ t ≤ y ∧ i = .int .i64 t ∧ z = .int .i64 c ∧ c = totTo l x (t - x) ∧ Bel w1 wr) (fun _ i _ => y - (intOf i).toNat)
  case atStart => exact ⟨x, 0, Nat.le_refl _, hxy, rfl, rfl, by rw [Nat.sub_self]; rfl, Bel.refl _⟩
  case round =>
    obtain ⟨t, c, hxt, hty, rfl, rfl, hc, hB⟩ := hrel
    have HC := Lib.hid hc; clear hc
    by_cases hlt : t < y
    · have hcb := totTo_bd (x := (x : Int)) HO.out (t - x)
      rw [← HC.out] at hcb
      have hub := capV_bd HO.out (t : Int)
      have HNX := Lib.hid (show totTo l x (t + 1 - x) = c + capV l t from by rw [totTo_next _ _ _ hxt, HC.out])
      have hB2 : Bel w wr := g1.trans hB
      go_wp2_with fail
      refine (capacityAt_any _ l t S _ (stepsR_good.bel HX.out hB2 HS.out)).mono ?_
      rintro e w2 ⟨rfl, g2⟩
      generalize capV l (t : Int) = U at *
      go_wp2
      go_roundw
      case rel => exact ⟨t + 1, c + U, by omega, by omega, by go_num, by go_num, HNX.out.symm, by (repeat (first | assumption | exact Bel.refl _ | apply Bel.drewN | apply Bel.drew | apply Bel.alloc | refine Bel.trans ?_ (by assumption)))⟩
      case measure => simp [intOf]; omega
    · have hte : t = y := by omega
      have HD := Lib.hid (show c = totTo l x (y - x) from by rw [HC.out, hte])
      clear hte
      go_wp2
      go_ret
      exact ⟨ret_int HD.out, by (repeat (first | assumption | exact Bel.refl _ | apply Bel.drewN | apply Bel.drew | apply Bel.alloc | refine Bel.trans ?_ (by assumption)))⟩



end Go.Proofs.Ytiaamddhocdhaaa
