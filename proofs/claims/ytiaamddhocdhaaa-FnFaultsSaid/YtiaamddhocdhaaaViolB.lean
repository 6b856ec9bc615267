/- Contracts of SetupTime, l10Ahead, pairHolds, l10Pair, linkHolds. -/
import Derived.Test.YtiaamddhocdhaaaViolA
import Derived.Test.YtiaamddhocdhaaaRuleOk
import Derived.Test.YtiaamddhocdhaaaKeep
namespace Go.Proofs.Ytiaamddhocdhaaa
open Go.ChangeShapes Go.WideShapes Go.ChangeAt Go.RowKit
set_option linter.unusedVariables false

set_option maxHeartbeats 1000000 in
theorem setupTime_any (v : Value) (p : ProjT) (S : Nat → Prop) (r a b : Nat) (w : World) (hx : aggR projR S w v p) (hS : ∀ b, S b → b < w.heap.size) (hn : bulkProject p ≤ 1048576) (hp : projOk p = true) (hr : r < p.2.2.2.1.length) (hm : 0 < (p.2.2.2.1.getD r zRes).2.length) (ha : a < p.2.1.length) (hb : b < p.2.1.length) :
    Calls Try.prog 180 #[v, .int .i64 r, .int .i64 a, .int .i64 b] w fun e w' => e = .returned (.int .i64 (setupV p r a b)) ∧ Bel w w' := by
  obtain ⟨cs, rfl, hx⟩ := hx
  obtain ⟨c1, c2, c3, c4, rfl, q0, q1, q2, q3, q4⟩ := projR_open hx
  have Q1 := Lib.hid q1
  have Q2 := Lib.hid q2
  have Q3 := Lib.hid q3
  have Q4 := Lib.hid q4
  have HP := Lib.hid hx
  obtain ⟨p1, k1, rfl, l1, l1', -⟩ := sliceR_open q1
  obtain ⟨p2, k2, rfl, l2, l2', -⟩ := sliceR_open q2
  obtain ⟨p3, k3, rfl, l3, l3', -⟩ := sliceR_open q3
  obtain ⟨p4, k4, rfl, l4, l4', -⟩ := sliceR_open q4
  unfold maxLen at l1' l2' l3' l4'
  clear hx q0 q1 q2 q3 q4
  have HS := Lib.hid hS
  have HPO := Lib.hid hp
  have HN := Lib.hid hn
  clear hS hp hn
  have HP1 := Lib.hid (show ∀ W, Bel w W → aggR projR S W (.agg #[.int .i64 p.1, .slice p1 p.2.1.length k1, .slice p2 p.2.2.1.length k2, .slice p3 p.2.2.2.1.length k3, .slice p4 p.2.2.2.2.length k4]) p from fun W hW => aggR_mk (projR_good.bel HP.out hW HS.out))
  show Calls Try.prog 180 #[.agg #[.int .i64 p.1, .slice p1 p.2.1.length k1, .slice p2 p.2.2.1.length k2, .slice p3 p.2.2.2.1.length k3, .slice p4 p.2.2.2.2.length k4], .int .i64 r, .int .i64 a, .int .i64 b] w _
  have HMB := Lib.hid (show machB p (r : Int) = true from by
    unfold machB
    rw [← inB_v (r : Int), inB_lt hr]
    exact decide_eq_true hm)
  have HIA := Lib.hid (inB_lt ha)
  have HIB := Lib.hid (inB_lt hb)
  obtain ⟨i, hi, hi4⟩ := projOk_fam HPO.out ha
  obtain ⟨j, hj, hj4⟩ := projOk_fam HPO.out hb
  obtain ⟨hsl, hsr⟩ := projOk_setup HPO.out hr hm
  have hri := (hsr i hi4).1
  have HSV := Lib.hid (show setupV p r a b = (((p.2.2.2.1.getD r zRes).2).getD i []).getD j 0 from by unfold setupV; rw [hi, hj]; rfl)
  have hvb := (hsr i hi4).2 j hj4
  obtain ⟨ab, ao, acs, aea, arow, ael⟩ := sliceR_at zAct Q1.out ha
  obtain rfl : p1 = some ⟨ab, ao, none⟩ := aea
  obtain ⟨ac2, rfl, aq0, aq1, aq2⟩ := actR_open ael
  have fa := (arow 1 (by simp)).1
  simp only [List.getElem_cons_zero, List.getElem_cons_succ] at fa
  rw [hi] at fa
  clear arow ael aq0 aq1 aq2
  obtain ⟨ab', ao', acs, aea, arow, ael⟩ := sliceR_at zAct Q1.out hb
  obtain ⟨rfl, rfl⟩ : ab = ab' ∧ ao = ao' := by simpa [sliceAt] using aea
  obtain ⟨ac2', rfl, aq0, aq1, aq2⟩ := actR_open ael
  have fb := (arow 1 (by simp)).1
  simp only [List.getElem_cons_zero, List.getElem_cons_succ] at fb
  rw [hj] at fb
  clear arow ael aq0 aq1 aq2 aea
  obtain ⟨rb, ro, rcs, rea, rrow, rel⟩ := sliceR_at zRes Q3.out hr
  obtain rfl : p3 = some ⟨rb, ro, none⟩ := rea
  obtain ⟨rc0, rc1, rfl, rq0, rq1⟩ := resR_open rel
  obtain ⟨rm, rmk, rfl, -⟩ := sliceR_open rq1
  have fr := (rrow 1 (by simp)).1
  simp only [List.getElem_cons_zero, List.getElem_cons_succ] at fr
  obtain ⟨qb, qo, qp, qc, qe, fq, -, -, fi⟩ := rowsR_at rq1 (show i < (p.2.2.2.1.getD r zRes).2.length by omega)
  obtain rfl : rm = some ⟨qb, qo, none⟩ := qe
  obtain ⟨eb, eo, ee, fe⟩ := intsR_at' fi (show j < (((p.2.2.2.1.getD r zRes).2).getD i []).length by omega)
  obtain rfl : qp = some ⟨eb, eo, none⟩ := ee
  clear rrow rel rq0 rq1 fi hsr hi hj
  generalize (((p.2.2.2.1.getD r zRes).2).getD i []).getD j 0 = V at *
  generalize ((p.2.2.2.1.getD r zRes).2).getD i [] = row at *
  generalize p.2.2.2.1.getD r zRes = X at *
  have hri' : (r : Int) < (p.2.2.2.1.length : Int) := by omega
  have hai' : (a : Int) < (p.2.1.length : Int) := by omega
  have hbi' : (b : Int) < (p.2.1.length : Int) := by omega
  have hii' : (i : Int) < (X.2.length : Int) := by omega
  have hji' : (j : Int) < (row.length : Int) := by omega
  clear hsl hri
  clear hr hm ha hb
  go_enter Try.func180, Try.ntmps180
  go_wp2_with fail
  refine (iIsMachine_any _ p S _ _ (HP1.out _ (by (repeat (first | assumption | exact Bel.refl _ | apply Bel.drewN | apply Bel.drew | apply Bel.alloc | refine Bel.trans ?_ (by assumption))))) (fun b hb => Nat.lt_of_lt_of_le (HS.out b hb) (Bel.size (by (repeat (first | assumption | exact Bel.refl _ | apply Bel.drewN | apply Bel.drew | apply Bel.alloc | refine Bel.trans ?_ (by assumption)))))) HN.out).mono ?_
  rintro e w1 ⟨rfl, g1⟩
  rw [HMB.out]
  have b0 := g1.cell (p := ⟨w.heap.size, 0, none⟩) (v := .int .i64 p.1) (by simp [go_sem])
  have b1 := g1.cell (p := ⟨w.heap.size, 1, none⟩) (v := .slice (some ⟨ab, ao, none⟩) p.2.1.length k1) (by simp [go_sem])
  have b2 := g1.cell (p := ⟨w.heap.size, 2, none⟩) (v := .slice p2 p.2.2.1.length k2) (by simp [go_sem])
  have b3 := g1.cell (p := ⟨w.heap.size, 3, none⟩) (v := .slice (some ⟨rb, ro, none⟩) p.2.2.2.1.length k3) (by simp [go_sem])
  have b4 := g1.cell (p := ⟨w.heap.size, 4, none⟩) (v := .slice p4 p.2.2.2.2.length k4) (by simp [go_sem])
  have G1 : Bel w w1 := by (repeat (first | assumption | exact Bel.refl _ | apply Bel.drewN | apply Bel.drew | apply Bel.alloc | refine Bel.trans ?_ (by assumption)))
  go_wp2_with fail
  refine (iProjectOk_any _ p S _ (HP1.out _ (by (repeat (first | assumption | exact Bel.refl _ | apply Bel.drewN | apply Bel.drew | apply Bel.alloc | refine Bel.trans ?_ (by assumption))))) (fun b hb => Nat.lt_of_lt_of_le (HS.out b hb) (Bel.size (by (repeat (first | assumption | exact Bel.refl _ | apply Bel.drewN | apply Bel.drew | apply Bel.alloc | refine Bel.trans ?_ (by assumption))))))).mono ?_
  rintro e w2 ⟨rfl, g2⟩
  rw [HPO.out]
  have b0 := g2.cell b0
  have b1 := g2.cell b1
  have b2 := g2.cell b2
  have b3 := g2.cell b3
  have b4 := g2.cell b4
  have G2 : Bel w w2 := by (repeat (first | assumption | exact Bel.refl _ | apply Bel.drewN | apply Bel.drew | apply Bel.alloc | refine Bel.trans ?_ (by assumption)))
  go_wp2_with fail
  refine (hasActivity_any _ _ _ _ _ _ _ (by omega) _ _).mono ?_
  rintro e w3 ⟨rfl, g3⟩
  rw [HIA.out]
  have b0 := g3.cell b0
  have b1 := g3.cell b1
  have b2 := g3.cell b2
  have b3 := g3.cell b3
  have b4 := g3.cell b4
  have G3 : Bel w w3 := by (repeat (first | assumption | exact Bel.refl _ | apply Bel.drewN | apply Bel.drew | apply Bel.alloc | refine Bel.trans ?_ (by assumption)))
  go_wp2_with fail
  refine (hasActivity_any _ _ _ _ _ _ _ (by omega) _ _).mono ?_
  rintro e w4 ⟨rfl, g4⟩
  rw [HIB.out]
  have b0 := g4.cell b0
  have b1 := g4.cell b1
  have b2 := g4.cell b2
  have b3 := g4.cell b3
  have b4 := g4.cell b4
  have G4 : Bel w w4 := by (repeat (first | assumption | exact Bel.refl _ | apply Bel.drewN | apply Bel.drew | apply Bel.alloc | refine Bel.trans ?_ (by assumption)))
  have fa := G4.cell fa
  have fb := G4.cell fb
  have fr := G4.cell fr
  have fq := G4.cell fq
  have fe := G4.cell fe
  go_wp2_with fail
  go_quiet (fail)
  go_wp2
  go_ret
  exact ⟨ret_int HSV.out.symm, by (repeat (first | assumption | exact Bel.refl _ | apply Bel.drewN | apply Bel.drew | apply Bel.alloc | refine Bel.trans ?_ (by assumption)))⟩


set_option maxHeartbeats 1000000 in
theorem linkHolds_any (v : Value) (p : ProjT) (S : Nat → Prop) (v1 : Value) (s : SchT) (T : Nat → Prop) (k : LinkT) (w : World) (hx : aggR projR S w v p) (hS : ∀ b, S b → b < w.heap.size) (hs : aggR schR T w v1 s) (hT : ∀ b, T b → b < w.heap.size) (hf : schFormB p s = true) (hk : linkOkB p.2.1.length k = true) :
    Calls Try.prog 145 #[v, v1, .agg #[.int .i64 k.1, .int .i64 k.2.1, .bool k.2.2.1, .int .i64 k.2.2.2]] w fun e w' => e = .returned (.bool (linkHoldsB p s k)) ∧ Bel w w' := by
  obtain ⟨cs, rfl, hx⟩ := hx
  obtain ⟨c1, c2, c3, c4, rfl, q0, q1, q2, q3, q4⟩ := projR_open hx
  have Q1 := Lib.hid q1
  have Q2 := Lib.hid q2
  have Q3 := Lib.hid q3
  have Q4 := Lib.hid q4
  have HP := Lib.hid hx
  obtain ⟨p1, k1, rfl, l1, l1', -⟩ := sliceR_open q1
  obtain ⟨p2, k2, rfl, l2, l2', -⟩ := sliceR_open q2
  obtain ⟨p3, k3, rfl, l3, l3', -⟩ := sliceR_open q3
  obtain ⟨p4, k4, rfl, l4, l4', -⟩ := sliceR_open q4
  unfold maxLen at l1' l2' l3' l4'
  clear hx q0 q1 q2 q3 q4
  obtain ⟨zs, rfl, hs⟩ := hs
  have HZ := hs
  obtain ⟨z0, z1, rfl, zq0, zq1⟩ := schR_open hs
  have A0 := Lib.hid (fun i hi => intsR_at' zq0 (i := i) hi)
  have A1 := Lib.hid (fun i hi => intsR_at' zq1 (i := i) hi)
  obtain ⟨sp0, sk0, rfl, sl0, sl0', -⟩ := sliceR_open zq0
  obtain ⟨sp1, sk1, rfl, sl1, sl1', -⟩ := sliceR_open zq1
  unfold maxLen at sl0' sl1'
  have HT := Lib.hid hT
  have HQ1 := Lib.hid (show ∀ W, Bel w W → aggR schR T W (.agg #[.slice sp0 s.1.length sk0, .slice sp1 s.2.length sk1]) s from fun W hW => aggR_mk (schR_good.bel HZ hW HT.out))
  clear hs zq0 zq1 hT HZ
  have HS := Lib.hid hS
  have HFO := Lib.hid hf
  clear hS hf
  have HP1 := Lib.hid (show ∀ W, Bel w W → aggR projR S W (.agg #[.int .i64 p.1, .slice p1 p.2.1.length k1, .slice p2 p.2.2.1.length k2, .slice p3 p.2.2.2.1.length k3, .slice p4 p.2.2.2.2.length k4]) p from fun W hW => aggR_mk (projR_good.bel HP.out hW HS.out))
  obtain ⟨⟨a, haa, ha⟩, ⟨b, hbb, hb⟩, -, hl0, hl1⟩ := linkOk_bd hk
  clear hk
  obtain ⟨fa, tb, fe, lag⟩ := k
  obtain rfl : fa = (a : Int) := haa
  obtain rfl : tb = (b : Int) := hbb
  simp only at hl0 hl1
  show Calls Try.prog 145 #[.agg #[.int .i64 p.1, .slice p1 p.2.1.length k1, .slice p2 p.2.2.1.length k2, .slice p3 p.2.2.2.1.length k3, .slice p4 p.2.2.2.2.length k4], .agg #[.slice sp0 s.1.length sk0, .slice sp1 s.2.length sk1], .agg #[.int .i64 (a : Int), .int .i64 (b : Int), .bool fe, .int .i64 lag]] w _
  have HHA := Lib.hid ha
  have heb := endOf_bd HFO.out ha
  have hsa := start_bd HFO.out ha
  have has : a < s.1.length := by rw [(form_len HFO.out).1]; exact ha
  have hbs : b < s.1.length := by rw [(form_len HFO.out).1]; exact hb
  obtain ⟨sb0, so0, se0, f1⟩ := A0.out a has
  obtain rfl : sp0 = some ⟨sb0, so0, none⟩ := se0
  obtain ⟨sb1, so1, se1, f2⟩ := A0.out b hbs
  obtain ⟨rfl, rfl⟩ : sb0 = sb1 ∧ so0 = so1 := by simpa [sliceAddr] using se1
  have hai : (a : Int) < (s.1.length : Int) := by omega
  have hbi : (b : Int) < (s.1.length : Int) := by omega
  clear se1 ha hb has hbs
  have HLH := Lib.hid (show linkHoldsB p s ((a : Int), (b : Int), fe, lag) = decide ((if fe = true then endOf p s a else s.1.getD a 0) + lag ≤ s.1.getD b 0) from rfl)
  generalize s.1.getD a 0 = sa at *
  generalize s.1.getD b 0 = sb at *
  cases fe with
  | false =>
    rw [if_neg (by simp)] at HLH
    have hw1 : IntKind.i64.wrap (sa + lag) = sa + lag := IntWalk.i64_in _ (by omega)
    have f1 := fun o1 o2 o3 => ((((Bel.refl w).alloc o1).alloc o2).alloc o3).cell f1
    have f2 := fun o1 o2 o3 => ((((Bel.refl w).alloc o1).alloc o2).alloc o3).cell f2
    go_enter Try.func145, Try.ntmps145
    go_wp2_with fail
    go_quiet (fail)
    go_wp2
    go_ret
    exact ⟨ret_bool HLH.out.symm, by (repeat (first | assumption | exact Bel.refl _ | apply Bel.drewN | apply Bel.drew | apply Bel.alloc | refine Bel.trans ?_ (by assumption)))⟩
  | true =>
    rw [if_pos rfl] at HLH
    have hw1 : IntKind.i64.wrap (endOf p s a + lag) = endOf p s a + lag := IntWalk.i64_in _ (by omega)
    have f1' := fun o1 o2 o3 => ((((Bel.refl w).alloc o1).alloc o2).alloc o3).cell f1
    go_enter Try.func145, Try.ntmps145
    go_wp2_with fail
    refine (iEnd_any _ p S _ s T a _ (HP1.out _ (by (repeat (first | assumption | exact Bel.refl _ | apply Bel.drewN | apply Bel.drew | apply Bel.alloc | refine Bel.trans ?_ (by assumption))))) (fun b hb => Nat.lt_of_lt_of_le (HS.out b hb) (Bel.size (by (repeat (first | assumption | exact Bel.refl _ | apply Bel.drewN | apply Bel.drew | apply Bel.alloc | refine Bel.trans ?_ (by assumption)))))) (HQ1.out _ (by (repeat (first | assumption | exact Bel.refl _ | apply Bel.drewN | apply Bel.drew | apply Bel.alloc | refine Bel.trans ?_ (by assumption))))) (fun b hb => Nat.lt_of_lt_of_le (HT.out b hb) (Bel.size (by (repeat (first | assumption | exact Bel.refl _ | apply Bel.drewN | apply Bel.drew | apply Bel.alloc | refine Bel.trans ?_ (by assumption)))))) HFO.out HHA.out).mono ?_
    rintro e w1 ⟨rfl, g1⟩
    have c0 := g1.cell (p := ⟨w.heap.size + 1, 0, none⟩) (v := .slice (some ⟨sb0, so0, none⟩) s.1.length sk0) (by simp [go_sem])
    have c1 := g1.cell (p := ⟨w.heap.size + 1, 1, none⟩) (v := .slice sp1 s.2.length sk1) (by simp [go_sem])
    have d0 := g1.cell (p := ⟨w.heap.size + 1 + 1, 0, none⟩) (v := .int .i64 (a : Int)) (by simp [go_sem])
    have d1 := g1.cell (p := ⟨w.heap.size + 1 + 1, 1, none⟩) (v := .int .i64 (b : Int)) (by simp [go_sem])
    have d2 := g1.cell (p := ⟨w.heap.size + 1 + 1, 2, none⟩) (v := .bool true) (by simp [go_sem])
    have d3 := g1.cell (p := ⟨w.heap.size + 1 + 1, 3, none⟩) (v := .int .i64 lag) (by simp [go_sem])
    have G1 : Bel w w1 := by (repeat (first | assumption | exact Bel.refl _ | apply Bel.drewN | apply Bel.drew | apply Bel.alloc | refine Bel.trans ?_ (by assumption)))
    have f2 := G1.cell f2
    clear f1 f1'
    go_wp2_with fail
    go_quiet (fail)
    go_wp2
    go_ret
    exact ⟨ret_bool HLH.out.symm, by (repeat (first | assumption | exact Bel.refl _ | apply Bel.drewN | apply Bel.drew | apply Bel.alloc | refine Bel.trans ?_ (by assumption)))⟩

end Go.Proofs.Ytiaamddhocdhaaa
