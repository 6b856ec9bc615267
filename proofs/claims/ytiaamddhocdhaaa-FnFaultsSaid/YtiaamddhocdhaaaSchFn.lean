/- Contracts of EndTime, Makespan, ConsumptionOf. -/
import Derived.Test.YtiaamddhocdhaaaMode
import Derived.Test.YtiaamddhocdhaaaRuleOk
namespace Go.Proofs.Ytiaamddhocdhaaa
open Go.ChangeShapes Go.WideShapes Go.ChangeAt Go.RowKit
set_option linter.unusedVariables false

def endTimeV (p : ProjT) (s : SchT) (a : Int) : Int := if schFormB p s && inBv a 0 ((p.2.1.length : Int) - 1) then endOf p s a.toNat else -1
def endMax (p : ProjT) (s : SchT) : Nat → Int
  | 0 => 0
  | k + 1 => maxI (endMax p s k) (endOf p s k)
def makespanV (p : ProjT) (s : SchT) : Int := if schFormB p s then endMax p s p.2.1.length else -1
theorem endMax_bd {p : ProjT} {s : SchT} (h : schFormB p s = true) : ∀ k, k ≤ p.2.1.length → 0 ≤ endMax p s k ∧ endMax p s k ≤ 72 := by
  intro k
  induction k with
  | zero => intro _; simp [endMax]
  | succ k ih =>
    intro hk
    have h1 := ih (by omega)
    have h2 := endOf_bd h (show k < p.2.1.length by omega)
    simp only [endMax, maxI]
    split <;> omega
theorem endMax_one {p : ProjT} {s : SchT} (h : schFormB p s = true) (hk : 0 < p.2.1.length) : endMax p s 1 = maxI (-1) (endOf p s 0) := by
  have h2 := endOf_bd h hk
  show maxI 0 (endOf p s 0) = maxI (-1) (endOf p s 0)
  unfold maxI
  rw [if_neg (by omega), if_neg (by omega)]
def consTo (p : ProjT) (s : SchT) (st : Nat) : Nat → Int
  | 0 => 0
  | k + 1 => consTo p s st k + (modeOf p s k).2.2.getD st 0
def consV (p : ProjT) (s : SchT) (st : Int) : Int := if schFormB p s && inBv st 0 ((p.2.2.2.2.length : Int) - 1) then consTo p s st.toNat p.2.1.length else 0
theorem consTo_bd {p : ProjT} {s : SchT} {st : Nat} (h : schFormB p s = true) (hs : st < p.2.2.2.2.length) : ∀ k, k ≤ p.2.1.length → 0 ≤ consTo p s st k ∧ consTo p s st k ≤ 20 * k := by
  intro k
  induction k with
  | zero => intro _; simp [consTo]
  | succ k ih =>
    intro hk
    have h1 := ih (by omega)
    have h2 := (modeOk_bd (modeOf_ok h (show k < p.2.1.length by omega))).2.2.2.2.2 st hs
    simp only [consTo]
    omega





set_option maxHeartbeats 1000000 in
theorem iConsumptionOf_any (v : Value) (p : ProjT) (S : Nat → Prop) (v1 : Value) (s : SchT) (T : Nat → Prop) (a : Int) (w : World) (hx : aggR projR S w v p) (hS : ∀ b, S b → b < w.heap.size) (_hn : bulkProject p ≤ 1048576) (hs : aggR schR T w v1 s) (hT : ∀ b, T b → b < w.heap.size) (_hn1 : bulkSchedule s ≤ 1048576) :
    Calls Try.prog 150 #[v, v1, .int .i64 a] w fun e w' => e = .returned (.int .i64 (consV p s a)) ∧ Bel w w' := by
  obtain ⟨cs, rfl, hx⟩ := hx
  obtain ⟨c1, c2, c3, c4, rfl, q0, q1, q2, q3, q4⟩ := projR_open hx
  have Q1 := Lib.hid q1
  have Q2 := Lib.hid q2
  have Q3 := Lib.hid q3
  have Q4 := Lib.hid q4
  have HP := Lib.hid hx
  obtain ⟨p1, k1, rfl, l1, l1', -⟩ := sliceR_open q1
  obtain ⟨p2, k2, rfl, l2, l2', -⟩ := sliceR_open q2
  obtain ⟨p3, k3, rfl, l3, l3', -⟩ := sliceR_open q3
  obtain ⟨p4, k4, rfl, l4, l4', -⟩ := sliceR_open q4
  unfold maxLen at l1' l2' l3' l4'
  clear hx q0 q1 q2 q3 q4
  obtain ⟨zs, rfl, hs⟩ := hs
  have HZ := hs
  obtain ⟨z0, z1, rfl, zq0, zq1⟩ := schR_open hs
  have A0 := Lib.hid (fun i hi => intsR_at' zq0 (i := i) hi)
  have A1 := Lib.hid (fun i hi => intsR_at' zq1 (i := i) hi)
  obtain ⟨sp0, sk0, rfl, sl0, sl0', -⟩ := sliceR_open zq0
  obtain ⟨sp1, sk1, rfl, sl1, sl1', -⟩ := sliceR_open zq1
  unfold maxLen at sl0' sl1'
  have HT := Lib.hid hT
  have HQ1 := Lib.hid (show ∀ W, Bel w W → aggR schR T W (.agg #[.slice sp0 s.1.length sk0, .slice sp1 s.2.length sk1]) s from fun W hW => aggR_mk (schR_good.bel HZ hW HT.out))
  clear hs zq0 zq1 hT HZ
  have HS := Lib.hid hS
  have HN := Lib.hid _hn
  have HN1 := Lib.hid _hn1
  clear hS _hn _hn1
  have HP1 := Lib.hid (show ∀ W, Bel w W → aggR projR S W (.agg #[.int .i64 p.1, .slice p1 p.2.1.length k1, .slice p2 p.2.2.1.length k2, .slice p3 p.2.2.2.1.length k3, .slice p4 p.2.2.2.2.length k4]) p from fun W hW => aggR_mk (projR_good.bel HP.out hW HS.out))
  show Calls Try.prog 150 #[.agg #[.int .i64 p.1, .slice p1 p.2.1.length k1, .slice p2 p.2.2.1.length k2, .slice p3 p.2.2.2.1.length k3, .slice p4 p.2.2.2.2.length k4], .agg #[.slice sp0 s.1.length sk0, .slice sp1 s.2.length sk1], .int .i64 a] w _
  go_enter Try.func150, Try.ntmps150
  go_wp2_with fail
  refine (iScheduleForm_any _ p S _ s T _ (HP1.out _ (by (repeat (first | exact Bel.refl _ | apply Bel.drewN | apply Bel.drew | apply Bel.alloc | refine Bel.trans ?_ (by assumption))))) (fun b hb => Nat.lt_of_lt_of_le (HS.out b hb) (Bel.size (by (repeat (first | exact Bel.refl _ | apply Bel.drewN | apply Bel.drew | apply Bel.alloc | refine Bel.trans ?_ (by assumption)))))) HN.out (HQ1.out _ (by (repeat (first | exact Bel.refl _ | apply Bel.drewN | apply Bel.drew | apply Bel.alloc | refine Bel.trans ?_ (by assumption))))) (fun b hb => Nat.lt_of_lt_of_le (HT.out b hb) (Bel.size (by (repeat (first | exact Bel.refl _ | apply Bel.drewN | apply Bel.drew | apply Bel.alloc | refine Bel.trans ?_ (by assumption)))))) HN1.out).mono ?_
  rintro e w1 ⟨rfl, g1⟩
  have b0 := g1.cell (p := ⟨w.heap.size, 0, none⟩) (v := .int .i64 p.1) (by simp [go_sem])
  have b1 := g1.cell (p := ⟨w.heap.size, 1, none⟩) (v := .slice p1 p.2.1.length k1) (by simp [go_sem])
  have b2 := g1.cell (p := ⟨w.heap.size, 2, none⟩) (v := .slice p2 p.2.2.1.length k2) (by simp [go_sem])
  have b3 := g1.cell (p := ⟨w.heap.size, 3, none⟩) (v := .slice p3 p.2.2.2.1.length k3) (by simp [go_sem])
  have b4 := g1.cell (p := ⟨w.heap.size, 4, none⟩) (v := .slice p4 p.2.2.2.2.length k4) (by simp [go_sem])
  have c0 := g1.cell (p := ⟨w.heap.size + 1, 0, none⟩) (v := .slice sp0 s.1.length sk0) (by simp [go_sem])
  have c1 := g1.cell (p := ⟨w.heap.size + 1, 1, none⟩) (v := .slice sp1 s.2.length sk1) (by simp [go_sem])
  have G : Bel w w1 := by (repeat (first | exact Bel.refl _ | apply Bel.drewN | apply Bel.drew | apply Bel.alloc | refine Bel.trans ?_ (by assumption)))
  cases hf : schFormB p s
  · have HF := Lib.hid (show consV p s a = 0 from by unfold consV; rw [hf]; rfl)
    clear hf
    go_wp2
    go_ret
    exact ⟨ret_int HF.out.symm, by (repeat (first | exact Bel.refl _ | apply Bel.drewN | apply Bel.drew | apply Bel.alloc | refine Bel.trans ?_ (by assumption)))⟩
  have HFO := Lib.hid hf; clear hf
  go_wp2_with fail
  refine (hasStock_any _ _ _ _ _ _ _ (by omega) _ _).mono ?_
  rintro e w2 ⟨rfl, g2⟩
  have b0 := g2.cell b0
  have b1 := g2.cell b1
  have b2 := g2.cell b2
  have b3 := g2.cell b3
  have b4 := g2.cell b4
  have c0 := g2.cell c0
  have c1 := g2.cell c1
  have G : Bel w w2 := by (repeat (first | exact Bel.refl _ | apply Bel.drewN | apply Bel.drew | apply Bel.alloc | refine Bel.trans ?_ (by assumption)))
  cases ha : inB a 0 ((p.2.2.2.2.length : Int) - 1)
  · have HF := Lib.hid (show consV p s a = 0 from by unfold consV; rw [← inB_v a, ha]; simp)
    clear ha
    go_wp2
    go_ret
    exact ⟨ret_int HF.out.symm, by (repeat (first | exact Bel.refl _ | apply Bel.drewN | apply Bel.drew | apply Bel.alloc | refine Bel.trans ?_ (by assumption)))⟩
  obtain ⟨j, rfl, hj⟩ := inB_idx ha
  have HV := Lib.hid (show consV p s (j : Int) = consTo p s j p.2.1.length from by unfold consV; rw [HFO.out, ← inB_v (j : Int), ha]; rfl)
  clear ha
  have hpl := (projOk_bd (projOk_form HFO.out)).2.1
  go_wp2_with fail
  go_loopw [7, 22] (fun n i wr => ∃ (k : Nat) (c : Int), k ≤ p.2.1.length ∧ i = .int .i64 k ∧ n = .int .i64 c ∧ c = consTo p s j k ∧ Bel w wr ∧ wr.cell? ⟨w.heap.size, 0, none⟩ = some (.int .i64 p.1) ∧ wr.cell? ⟨w.heap.size, 1, none⟩ = some (.slice p1 p.2.1.length k1) ∧ wr.cell? ⟨w.heap.size, 2, none⟩ = some (.slice p2 p.2.2.1.length k2) ∧ wr.cell? ⟨w.heap.size, 3, none⟩ = some (.slice p3 p.2.2.2.1.length k3) ∧ wr.cell? ⟨w.heap.size, 4, none⟩ = some (.slice p4 p.2.2.2.2.length k4) ∧ wr.cell? ⟨w.heap.size + 1, 0, none⟩ = some (.slice sp0 s.1.length sk0) ∧ wr.cell? ⟨w.heap.size + 1, 1, none⟩ = some (.slice sp1 s.2.length sk1)) (fun _ i _ => p.2.1.length - (intOf i).toNat)
  case atStart => exact ⟨0, 0, Nat.zero_le _, rfl, rfl, rfl, G, b0, b1, b2, b3, b4, c0, c1⟩
  case round =>
    clear b0 b1 b2 b3 b4 c0 c1 g1 G
    obtain ⟨k, c, hk, rfl, rfl, hc, hB, b0, b1, b2, b3, b4, c0, c1⟩ := hrel
    have HC := Lib.hid hc; clear hc
    by_cases hlt : k < p.2.1.length
    · have hM := modeOk_bd (modeOf_ok HFO.out hlt)
      have HI := Lib.hid (formAt_in HFO.out hlt).1
      obtain ⟨-, -, -, hM4, -, hM6⟩ := hM
      have hX6 := hM6 j hj
      have hcb := consTo_bd HFO.out hj k hk
      rw [← HC.out] at hcb
      have HNX := Lib.hid (show consTo p s j (k + 1) = c + (modeOf p s k).2.2.getD j 0 from by rw [HC.out]; rfl)
      have hjl : j < (modeOf p s k).2.2.length := by omega
      have hji : (j : Int) < ((modeOf p s k).2.2.length : Int) := by omega
      clear hM4 hM6
      have hfd := modeField2
      go_wp2_with fail
      refine (iMode_any _ p S _ s T k _ (HP1.out _ (by (repeat (first | exact Bel.refl _ | apply Bel.drewN | apply Bel.drew | apply Bel.alloc | refine Bel.trans ?_ (by assumption))))) (fun b hb => Nat.lt_of_lt_of_le (HS.out b hb) (Bel.size (by (repeat (first | exact Bel.refl _ | apply Bel.drewN | apply Bel.drew | apply Bel.alloc | refine Bel.trans ?_ (by assumption)))))) (HQ1.out _ (by (repeat (first | exact Bel.refl _ | apply Bel.drewN | apply Bel.drew | apply Bel.alloc | refine Bel.trans ?_ (by assumption))))) (fun b hb => Nat.lt_of_lt_of_le (HT.out b hb) (Bel.size (by (repeat (first | exact Bel.refl _ | apply Bel.drewN | apply Bel.drew | apply Bel.alloc | refine Bel.trans ?_ (by assumption)))))) HI.out).mono ?_
      rintro e w2 ⟨⟨u0, un, y0, yn, rfl, hu, hyc⟩, g2⟩
      clear hu
      have b0 := g2.cell b0
      have b1 := g2.cell b1
      have b2 := g2.cell b2
      have b3 := g2.cell b3
      have b4 := g2.cell b4
      have c0 := g2.cell c0
      have c1 := g2.cell c1
      have G : Bel w w2 := by (repeat (first | exact Bel.refl _ | apply Bel.drewN | apply Bel.drew | apply Bel.alloc | refine Bel.trans ?_ (by assumption)))
      obtain ⟨cb, co, ce, cd⟩ := intsR_at' hyc hjl
      obtain rfl : y0 = some ⟨cb, co, none⟩ := ce
      clear hyc
      generalize modeOf p s k = M at *
      generalize M.2.2.getD j 0 = Y at *
      go_wp2
      go_roundw
      case rel => exact ⟨k + 1, c + Y, by omega, by go_num, by go_num, HNX.out.symm, G, b0, b1, b2, b3, b4, c0, c1⟩
      case measure => simp [intOf]; omega
    · go_wp2
      go_ret
      exact ⟨ret_int (by rw [HV.out, HC.out, show k = p.2.1.length from by omega]), hB⟩


end Go.Proofs.Ytiaamddhocdhaaa
