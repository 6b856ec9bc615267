/- l10Fails, kind by kind. -/
import Derived.Test.YthkcdmghchikjaaGreatViolQ
namespace Go.Proofs.YthkcdmghchikjaaGreat
open Go.ChangeShapes Go.WideShapes Go.ChangeAt Go.RowKit
set_option linter.unusedVariables false

theorem nle_dec (a b : Int) : decide (b < a) = !decide (a ≤ b) := by
  by_cases h : b < a
  · rw [decide_eq_true h, decide_eq_false (by omega)]; rfl
  · rw [decide_eq_false h, decide_eq_true (by omega)]; rfl

set_option maxHeartbeats 1000000 in
theorem fail1_any (v : Value) (p : ProjT) (S : Nat → Prop) (v1 : Value) (s : SchT) (T : Nat → Prop) (k : Nat) (w : World) (hx : aggR projR S w v p) (hS : ∀ b, S b → b < w.heap.size) (hs : aggR schR T w v1 s) (hT : ∀ b, T b → b < w.heap.size) (hn : bulkProject p ≤ 1048576) (hn1 : bulkSchedule s ≤ 1048576) (hf : schFormB p s = true) (hk : k < p.2.2.1.length) :
    Calls Tryz.prog 56 #[v, v1, .agg #[.int .i64 1, .int .i64 (k : Int), .int .i64 0, .int .i64 0]] w fun e w' => e = .returned (.bool (!linkHoldsB p s (p.2.2.1.getD k zLink))) ∧ Bel w w' := by
  obtain ⟨cs, rfl, hx⟩ := hx
  obtain ⟨c1, c2, c3, c4, rfl, q0, q1, q2, q3, q4⟩ := projR_open hx
  have Q1 := Lib.hid q1
  have Q2 := Lib.hid q2
  have Q3 := Lib.hid q3
  have Q4 := Lib.hid q4
  have HP := Lib.hid hx
  obtain ⟨p1, k1, rfl, l1, l1', -⟩ := sliceR_open q1
  obtain ⟨p2, k2, rfl, l2, l2', -⟩ := sliceR_open q2
  obtain ⟨p3, k3, rfl, l3, l3', -⟩ := sliceR_open q3
  obtain ⟨p4, k4, rfl, l4, l4', -⟩ := sliceR_open q4
  unfold maxLen at l1' l2' l3' l4'
  clear hx q0 q1 q2 q3 q4
  obtain ⟨zs, rfl, hs⟩ := hs
  have HZ := hs
  obtain ⟨z0, z1, rfl, zq0, zq1⟩ := schR_open hs
  have A0 := Lib.hid (fun i hi => intsR_at' zq0 (i := i) hi)
  have A1 := Lib.hid (fun i hi => intsR_at' zq1 (i := i) hi)
  obtain ⟨sp0, sk0, rfl, sl0, sl0', -⟩ := sliceR_open zq0
  obtain ⟨sp1, sk1, rfl, sl1, sl1', -⟩ := sliceR_open zq1
  unfold maxLen at sl0' sl1'
  have HT := Lib.hid hT
  have HQ1 := Lib.hid (show ∀ W, Bel w W → aggR schR T W (.agg #[.slice sp0 s.1.length sk0, .slice sp1 s.2.length sk1]) s from fun W hW => aggR_mk (schR_good.bel HZ hW HT.out))
  clear hs zq0 zq1 hT HZ
  have HS := Lib.hid hS
  have HFO := Lib.hid hf
  have HPO := Lib.hid (projOk_form hf)
  have HN := Lib.hid hn
  have HN1 := Lib.hid hn1
  clear hS hf hn hn1
  have HP1 := Lib.hid (show ∀ W, Bel w W → aggR projR S W (.agg #[.int .i64 p.1, .slice p1 p.2.1.length k1, .slice p2 p.2.2.1.length k2, .slice p3 p.2.2.2.1.length k3, .slice p4 p.2.2.2.2.length k4]) p from fun W hW => aggR_mk (projR_good.bel HP.out hW HS.out))
  show Calls Tryz.prog 56 #[.agg #[.int .i64 p.1, .slice p1 p.2.1.length k1, .slice p2 p.2.2.1.length k2, .slice p3 p.2.2.2.1.length k3, .slice p4 p.2.2.2.2.length k4], .agg #[.slice sp0 s.1.length sk0, .slice sp1 s.2.length sk1], .agg #[.int .i64 1, .int .i64 (k : Int), .int .i64 0, .int .i64 0]] w _
  have HLK := Lib.hid (projOk_link HPO.out hk)
  obtain ⟨lb, lo, lcs, lea, lrow, lel⟩ := sliceR_at zLink Q2.out hk
  obtain rfl : p2 = some ⟨lb, lo, none⟩ := lea
  generalize p.2.2.1.getD k zLink = X at *
  obtain ⟨rfl, -, -, -⟩ := linkR_open lel
  have lc0 := (lrow 0 (by simp)).1
  have lc1 := (lrow 1 (by simp)).1
  have lc2 := (lrow 2 (by simp)).1
  have lc3 := (lrow 3 (by simp)).1
  simp only [List.getElem_cons_zero, List.getElem_cons_succ, Nat.add_zero] at lc0 lc1 lc2 lc3
  obtain ⟨⟨a, haa, ha⟩, ⟨b, hbb, hb⟩, -, hl0, hl1⟩ := linkOk_bd HLK.out
  clear HLK
  obtain ⟨fa, tb, fe, lag⟩ := X
  obtain rfl : fa = (a : Int) := haa
  obtain rfl : tb = (b : Int) := hbb
  simp only at hl0 hl1 lc0 lc1 lc2 lc3
  have lc0 := fun o0 o1 o2 => ((((Bel.refl w).alloc o0).alloc o1).alloc o2).cell lc0
  have lc1 := fun o0 o1 o2 => ((((Bel.refl w).alloc o0).alloc o1).alloc o2).cell lc1
  have lc2 := fun o0 o1 o2 => ((((Bel.refl w).alloc o0).alloc o1).alloc o2).cell lc2
  have lc3 := fun o0 o1 o2 => ((((Bel.refl w).alloc o0).alloc o1).alloc o2).cell lc3
  have hki : (k : Int) < (p.2.2.1.length : Int) := by omega
  clear lrow lel hk
  have HHA := Lib.hid ha
  have heb := endOf_bd HFO.out ha
  have hsa := start_bd HFO.out ha
  have has : a < s.1.length := by rw [(form_len HFO.out).1]; exact ha
  have hbs : b < s.1.length := by rw [(form_len HFO.out).1]; exact hb
  obtain ⟨sb0, so0, se0, f1⟩ := A0.out a has
  obtain rfl : sp0 = some ⟨sb0, so0, none⟩ := se0
  obtain ⟨sb1, so1, se1, f2⟩ := A0.out b hbs
  obtain ⟨rfl, rfl⟩ : sb0 = sb1 ∧ so0 = so1 := by simpa [sliceAddr] using se1
  have hai : (a : Int) < (s.1.length : Int) := by omega
  have hbi : (b : Int) < (s.1.length : Int) := by omega
  clear se1 ha hb has hbs
  have HLH := Lib.hid (show linkHoldsB p s ((a : Int), (b : Int), fe, lag) = decide ((if fe = true then endOf p s a else s.1.getD a 0) + lag ≤ s.1.getD b 0) from rfl)
  generalize s.1.getD a 0 = sa at *
  generalize s.1.getD b 0 = sb at *
  have f1' := fun o1 o2 o3 o4 => (((((Bel.refl w).alloc o1).alloc o2).alloc o3).alloc o4).cell f1
  cases fe with
  | false =>
    rw [if_neg (by simp)] at HLH
    have HF := Lib.hid (show (!linkHoldsB p s ((a : Int), (b : Int), false, lag)) = decide (sb < sa + lag) from by rw [HLH.out, nle_dec])
    have hw1 : IntKind.i64.wrap (sa + lag) = sa + lag := IntWalk.i64_in _ (by omega)
    have f2 := fun o1 o2 o3 o4 => (((((Bel.refl w).alloc o1).alloc o2).alloc o3).alloc o4).cell f2
    go_enter Tryz.func56, Tryz.ntmps56
    go_wp2_with fail
    go_quiet (fail)
    go_wp2
    go_ret
    exact ⟨ret_bool HF.out.symm, by (repeat (first | assumption | exact Bel.refl _ | apply Bel.drewN | apply Bel.drew | apply Bel.alloc | refine Bel.trans ?_ (by assumption)))⟩
  | true =>
    rw [if_pos rfl] at HLH
    have HF := Lib.hid (show (!linkHoldsB p s ((a : Int), (b : Int), true, lag)) = decide (sb < endOf p s a + lag) from by rw [HLH.out, nle_dec])
    have hw1 : IntKind.i64.wrap (endOf p s a + lag) = endOf p s a + lag := IntWalk.i64_in _ (by omega)
    go_enter Tryz.func56, Tryz.ntmps56
    go_wp2_with fail
    refine (sEnd_any _ p S _ s T a _ (HP1.out _ (by (repeat (first | assumption | exact Bel.refl _ | apply Bel.drewN | apply Bel.drew | apply Bel.alloc | refine Bel.trans ?_ (by assumption))))) (fun b hb => Nat.lt_of_lt_of_le (HS.out b hb) (Bel.size (by (repeat (first | assumption | exact Bel.refl _ | apply Bel.drewN | apply Bel.drew | apply Bel.alloc | refine Bel.trans ?_ (by assumption)))))) (HQ1.out _ (by (repeat (first | assumption | exact Bel.refl _ | apply Bel.drewN | apply Bel.drew | apply Bel.alloc | refine Bel.trans ?_ (by assumption))))) (fun b hb => Nat.lt_of_lt_of_le (HT.out b hb) (Bel.size (by (repeat (first | assumption | exact Bel.refl _ | apply Bel.drewN | apply Bel.drew | apply Bel.alloc | refine Bel.trans ?_ (by assumption)))))) HFO.out HHA.out).mono ?_
    rintro e w1 ⟨rfl, g1⟩
    have c0 := g1.cell (p := ⟨w.heap.size + 1, 0, none⟩) (v := .slice (some ⟨sb0, so0, none⟩) s.1.length sk0) (by simp [go_sem])
    have c1 := g1.cell (p := ⟨w.heap.size + 1, 1, none⟩) (v := .slice sp1 s.2.length sk1) (by simp [go_sem])
    have d0 := g1.cell (p := ⟨w.heap.size + 1 + 1 + 1, 0, none⟩) (v := .int .i64 (a : Int)) (by simp [go_sem])
    have d1 := g1.cell (p := ⟨w.heap.size + 1 + 1 + 1, 1, none⟩) (v := .int .i64 (b : Int)) (by simp [go_sem])
    have d2 := g1.cell (p := ⟨w.heap.size + 1 + 1 + 1, 2, none⟩) (v := .bool true) (by simp [go_sem])
    have d3 := g1.cell (p := ⟨w.heap.size + 1 + 1 + 1, 3, none⟩) (v := .int .i64 lag) (by simp [go_sem])
    have G1 : Bel w w1 := by (repeat (first | assumption | exact Bel.refl _ | apply Bel.drewN | apply Bel.drew | apply Bel.alloc | refine Bel.trans ?_ (by assumption)))
    have f2 := G1.cell f2
    clear f1 f1'
    go_wp2_with fail
    go_quiet (fail)
    go_wp2
    go_ret
    exact ⟨ret_bool HF.out.symm, by (repeat (first | assumption | exact Bel.refl _ | apply Bel.drewN | apply Bel.drew | apply Bel.alloc | refine Bel.trans ?_ (by assumption)))⟩

set_option maxHeartbeats 1000000 in
theorem fail2_any (v : Value) (p : ProjT) (S : Nat → Prop) (v1 : Value) (s : SchT) (T : Nat → Prop) (k : Nat) (w : World) (hx : aggR projR S w v p) (hS : ∀ b, S b → b < w.heap.size) (hs : aggR schR T w v1 s) (hT : ∀ b, T b → b < w.heap.size) (hn : bulkProject p ≤ 1048576) (hn1 : bulkSchedule s ≤ 1048576) (hf : schFormB p s = true) (hk : k < p.2.1.length) :
    Calls Tryz.prog 56 #[v, v1, .agg #[.int .i64 2, .int .i64 (k : Int), .int .i64 0, .int .i64 0]] w fun e w' => e = .returned (.bool (!decide (endOf p s k ≤ p.1))) ∧ Bel w w' := by
  obtain ⟨cs, rfl, hx⟩ := hx
  obtain ⟨c1, c2, c3, c4, rfl, q0, q1, q2, q3, q4⟩ := projR_open hx
  have Q1 := Lib.hid q1
  have Q2 := Lib.hid q2
  have Q3 := Lib.hid q3
  have Q4 := Lib.hid q4
  have HP := Lib.hid hx
  obtain ⟨p1, k1, rfl, l1, l1', -⟩ := sliceR_open q1
  obtain ⟨p2, k2, rfl, l2, l2', -⟩ := sliceR_open q2
  obtain ⟨p3, k3, rfl, l3, l3', -⟩ := sliceR_open q3
  obtain ⟨p4, k4, rfl, l4, l4', -⟩ := sliceR_open q4
  unfold maxLen at l1' l2' l3' l4'
  clear hx q0 q1 q2 q3 q4
  obtain ⟨zs, rfl, hs⟩ := hs
  have HZ := hs
  obtain ⟨z0, z1, rfl, zq0, zq1⟩ := schR_open hs
  have A0 := Lib.hid (fun i hi => intsR_at' zq0 (i := i) hi)
  have A1 := Lib.hid (fun i hi => intsR_at' zq1 (i := i) hi)
  obtain ⟨sp0, sk0, rfl, sl0, sl0', -⟩ := sliceR_open zq0
  obtain ⟨sp1, sk1, rfl, sl1, sl1', -⟩ := sliceR_open zq1
  unfold maxLen at sl0' sl1'
  have HT := Lib.hid hT
  have HQ1 := Lib.hid (show ∀ W, Bel w W → aggR schR T W (.agg #[.slice sp0 s.1.length sk0, .slice sp1 s.2.length sk1]) s from fun W hW => aggR_mk (schR_good.bel HZ hW HT.out))
  clear hs zq0 zq1 hT HZ
  have HS := Lib.hid hS
  have HFO := Lib.hid hf
  have HPO := Lib.hid (projOk_form hf)
  have HN := Lib.hid hn
  have HN1 := Lib.hid hn1
  clear hS hf hn hn1
  have HP1 := Lib.hid (show ∀ W, Bel w W → aggR projR S W (.agg #[.int .i64 p.1, .slice p1 p.2.1.length k1, .slice p2 p.2.2.1.length k2, .slice p3 p.2.2.2.1.length k3, .slice p4 p.2.2.2.2.length k4]) p from fun W hW => aggR_mk (projR_good.bel HP.out hW HS.out))
  show Calls Tryz.prog 56 #[.agg #[.int .i64 p.1, .slice p1 p.2.1.length k1, .slice p2 p.2.2.1.length k2, .slice p3 p.2.2.2.1.length k3, .slice p4 p.2.2.2.2.length k4], .agg #[.slice sp0 s.1.length sk0, .slice sp1 s.2.length sk1], .agg #[.int .i64 2, .int .i64 (k : Int), .int .i64 0, .int .i64 0]] w _
  have HK := Lib.hid hk
  clear hk
  go_enter Tryz.func56, Tryz.ntmps56
  go_wp2_with fail
  go_region_held3 (fun W => W.cell? ⟨w.heap.size, 0, none⟩ = some (.int .i64 p.1) ∧ W.cell? ⟨w.heap.size, 1, none⟩ = some (.slice p1 p.2.1.length k1) ∧ W.cell? ⟨w.heap.size, 2, none⟩ = some (.slice p2 p.2.2.1.length k2) ∧ W.cell? ⟨w.heap.size, 3, none⟩ = some (.slice p3 p.2.2.2.1.length k3) ∧ W.cell? ⟨w.heap.size, 4, none⟩ = some (.slice p4 p.2.2.2.2.length k4) ∧ W.cell? ⟨w.heap.size + 1, 0, none⟩ = some (.slice sp0 s.1.length sk0) ∧ W.cell? ⟨w.heap.size + 1, 1, none⟩ = some (.slice sp1 s.2.length sk1) ∧ W.cell? ⟨w.heap.size + 1 + 1, 0, none⟩ = some (.int .i64 2) ∧ W.cell? ⟨w.heap.size + 1 + 1, 1, none⟩ = some (.int .i64 (k : Int)) ∧ W.cell? ⟨w.heap.size + 1 + 1, 2, none⟩ = some (.int .i64 0) ∧ W.cell? ⟨w.heap.size + 1 + 1, 3, none⟩ = some (.int .i64 0)) (first | exact keep11 (by assumption) (by assumption) | (refine ⟨?_, ?_, ?_, ?_, ?_, ?_, ?_, ?_, ?_, ?_, ?_⟩ <;> first | (simp [go_sem]; done)) | go_keep)
    (first | (go_at_call 94; (with_reducible refine (sEnd_any _ p S _ s T k _ (HP1.out _ (by (repeat (first | assumption | exact Bel.refl _ | apply Bel.drewN | apply Bel.drew | apply Bel.alloc | refine Bel.trans ?_ (by assumption))))) (fun b hb => Nat.lt_of_lt_of_le (HS.out b hb) (Bel.size (by (repeat (first | assumption | exact Bel.refl _ | apply Bel.drewN | apply Bel.drew | apply Bel.alloc | refine Bel.trans ?_ (by assumption)))))) (HQ1.out _ (by (repeat (first | assumption | exact Bel.refl _ | apply Bel.drewN | apply Bel.drew | apply Bel.alloc | refine Bel.trans ?_ (by assumption))))) (fun b hb => Nat.lt_of_lt_of_le (HT.out b hb) (Bel.size (by (repeat (first | assumption | exact Bel.refl _ | apply Bel.drewN | apply Bel.drew | apply Bel.alloc | refine Bel.trans ?_ (by assumption)))))) HFO.out HK.out).mono ?_); rintro e wt ⟨rfl, gt⟩))
  go_wp2
  go_ret
  exact ⟨ret_bool (nle_dec _ _), by (repeat (first | assumption | exact Bel.refl _ | apply Bel.drewN | apply Bel.drew | apply Bel.alloc | refine Bel.trans ?_ (by assumption)))⟩

set_option maxHeartbeats 1000000 in
theorem fail3_any (v : Value) (p : ProjT) (S : Nat → Prop) (v1 : Value) (s : SchT) (T : Nat → Prop) (r t : Nat) (w : World) (hx : aggR projR S w v p) (hS : ∀ b, S b → b < w.heap.size) (hs : aggR schR T w v1 s) (hT : ∀ b, T b → b < w.heap.size) (hn : bulkProject p ≤ 1048576) (hn1 : bulkSchedule s ≤ 1048576) (hf : schFormB p s = true) (hr : r < p.2.2.2.1.length) :
    Calls Tryz.prog 56 #[v, v1, .agg #[.int .i64 3, .int .i64 (r : Int), .int .i64 (t : Int), .int .i64 0]] w fun e w' => e = .returned (.bool (!decide (usageV p s r t ≤ capV (p.2.2.2.1.getD r zRes).1 t))) ∧ Bel w w' := by
  obtain ⟨cs, rfl, hx⟩ := hx
  obtain ⟨c1, c2, c3, c4, rfl, q0, q1, q2, q3, q4⟩ := projR_open hx
  have Q1 := Lib.hid q1
  have Q2 := Lib.hid q2
  have Q3 := Lib.hid q3
  have Q4 := Lib.hid q4
  have HP := Lib.hid hx
  obtain ⟨p1, k1, rfl, l1, l1', -⟩ := sliceR_open q1
  obtain ⟨p2, k2, rfl, l2, l2', -⟩ := sliceR_open q2
  obtain ⟨p3, k3, rfl, l3, l3', -⟩ := sliceR_open q3
  obtain ⟨p4, k4, rfl, l4, l4', -⟩ := sliceR_open q4
  unfold maxLen at l1' l2' l3' l4'
  clear hx q0 q1 q2 q3 q4
  obtain ⟨zs, rfl, hs⟩ := hs
  have HZ := hs
  obtain ⟨z0, z1, rfl, zq0, zq1⟩ := schR_open hs
  have A0 := Lib.hid (fun i hi => intsR_at' zq0 (i := i) hi)
  have A1 := Lib.hid (fun i hi => intsR_at' zq1 (i := i) hi)
  obtain ⟨sp0, sk0, rfl, sl0, sl0', -⟩ := sliceR_open zq0
  obtain ⟨sp1, sk1, rfl, sl1, sl1', -⟩ := sliceR_open zq1
  unfold maxLen at sl0' sl1'
  have HT := Lib.hid hT
  have HQ1 := Lib.hid (show ∀ W, Bel w W → aggR schR T W (.agg #[.slice sp0 s.1.length sk0, .slice sp1 s.2.length sk1]) s from fun W hW => aggR_mk (schR_good.bel HZ hW HT.out))
  clear hs zq0 zq1 hT HZ
  have HS := Lib.hid hS
  have HFO := Lib.hid hf
  have HPO := Lib.hid (projOk_form hf)
  have HN := Lib.hid hn
  have HN1 := Lib.hid hn1
  clear hS hf hn hn1
  have HP1 := Lib.hid (show ∀ W, Bel w W → aggR projR S W (.agg #[.int .i64 p.1, .slice p1 p.2.1.length k1, .slice p2 p.2.2.1.length k2, .slice p3 p.2.2.2.1.length k3, .slice p4 p.2.2.2.2.length k4]) p from fun W hW => aggR_mk (projR_good.bel HP.out hW HS.out))
  show Calls Tryz.prog 56 #[.agg #[.int .i64 p.1, .slice p1 p.2.1.length k1, .slice p2 p.2.2.1.length k2, .slice p3 p.2.2.2.1.length k3, .slice p4 p.2.2.2.2.length k4], .agg #[.slice sp0 s.1.length sk0, .slice sp1 s.2.length sk1], .agg #[.int .i64 3, .int .i64 (r : Int), .int .i64 (t : Int), .int .i64 0]] w _
  have HSO := Lib.hid (projOk_steps HPO.out hr)
  obtain ⟨rb, ro, rcs, rea, rrow, rel⟩ := sliceR_at zRes Q3.out hr
  obtain rfl : p3 = some ⟨rb, ro, none⟩ := rea
  have HR := Lib.hid hr
  generalize p.2.2.2.1.getD r zRes = X at *
  obtain ⟨rc0, rc1, rfl, rq0, rq1⟩ := resR_open rel
  obtain ⟨l, ro2⟩ := X
  have HST := Lib.hid rq0
  obtain ⟨stp, stk, rfl, stl, stl', -⟩ := sliceR_open rq0
  obtain ⟨_, _, rfl, -⟩ := sliceR_open rq1
  have rr := (rrow 0 (by simp)).1
  simp only [List.getElem_cons_zero, Nat.add_zero] at rr
  have hri : (r : Int) < (p.2.2.2.1.length : Int) := by omega
  have rr := fun o1 o2 o3 => ((((Bel.refl w).alloc o1).alloc o2).alloc o3).cell rr
  clear rrow rel rq0 rq1 hr
  go_enter Tryz.func56, Tryz.ntmps56
  go_wp2_with fail
  go_region_held3 (fun W => W.cell? ⟨w.heap.size, 0, none⟩ = some (.int .i64 p.1) ∧ W.cell? ⟨w.heap.size, 1, none⟩ = some (.slice p1 p.2.1.length k1) ∧ W.cell? ⟨w.heap.size, 2, none⟩ = some (.slice p2 p.2.2.1.length k2) ∧ W.cell? ⟨w.heap.size, 3, none⟩ = some (.slice (some ⟨rb, ro, none⟩) p.2.2.2.1.length k3) ∧ W.cell? ⟨w.heap.size, 4, none⟩ = some (.slice p4 p.2.2.2.2.length k4) ∧ W.cell? ⟨w.heap.size + 1, 0, none⟩ = some (.slice sp0 s.1.length sk0) ∧ W.cell? ⟨w.heap.size + 1, 1, none⟩ = some (.slice sp1 s.2.length sk1) ∧ W.cell? ⟨w.heap.size + 1 + 1, 0, none⟩ = some (.int .i64 3) ∧ W.cell? ⟨w.heap.size + 1 + 1, 1, none⟩ = some (.int .i64 (r : Int)) ∧ W.cell? ⟨w.heap.size + 1 + 1, 2, none⟩ = some (.int .i64 (t : Int)) ∧ W.cell? ⟨w.heap.size + 1 + 1, 3, none⟩ = some (.int .i64 0) ∧ W.cell? ⟨rb, ro + r * 2, none⟩ = some (.slice stp l.length stk)) (first | exact keep12 (by assumption) (by assumption) | (refine ⟨?_, ?_, ?_, ?_, ?_, ?_, ?_, ?_, ?_, ?_, ?_, ?_⟩ <;> first | (simp [go_sem]; done) | exact rr _ _ _) | go_keep)
    (first | (go_at_call 95; (with_reducible refine (l09Use_any _ p S _ s T r _ _ (HP1.out _ (by (repeat (first | assumption | exact Bel.refl _ | apply Bel.drewN | apply Bel.drew | apply Bel.alloc | refine Bel.trans ?_ (by assumption))))) (fun b hb => Nat.lt_of_lt_of_le (HS.out b hb) (Bel.size (by (repeat (first | assumption | exact Bel.refl _ | apply Bel.drewN | apply Bel.drew | apply Bel.alloc | refine Bel.trans ?_ (by assumption)))))) (HQ1.out _ (by (repeat (first | assumption | exact Bel.refl _ | apply Bel.drewN | apply Bel.drew | apply Bel.alloc | refine Bel.trans ?_ (by assumption))))) (fun b hb => Nat.lt_of_lt_of_le (HT.out b hb) (Bel.size (by (repeat (first | assumption | exact Bel.refl _ | apply Bel.drewN | apply Bel.drew | apply Bel.alloc | refine Bel.trans ?_ (by assumption)))))) HFO.out HR.out).mono ?_); rintro e wt ⟨rfl, gt⟩) | (go_at_call 96; (with_reducible refine (l03At_any _ l _ S _ (stepsR_good.bel HST.out (by (repeat (first | assumption | exact Bel.refl _ | apply Bel.drewN | apply Bel.drew | apply Bel.alloc | refine Bel.trans ?_ (by assumption)))) HS.out)).mono ?_); rintro e wt ⟨rfl, gt⟩))
  go_wp2
  go_ret
  exact ⟨ret_bool (nle_dec _ _), by (repeat (first | assumption | exact Bel.refl _ | apply Bel.drewN | apply Bel.drew | apply Bel.alloc | refine Bel.trans ?_ (by assumption)))⟩

set_option maxHeartbeats 1000000 in
theorem fail4_any (v : Value) (p : ProjT) (S : Nat → Prop) (v1 : Value) (s : SchT) (T : Nat → Prop) (r x y : Nat) (w : World) (hx : aggR projR S w v p) (hS : ∀ b, S b → b < w.heap.size) (hs : aggR schR T w v1 s) (hT : ∀ b, T b → b < w.heap.size) (hn : bulkProject p ≤ 1048576) (hn1 : bulkSchedule s ≤ 1048576) (hf : schFormB p s = true) (hr : r < p.2.2.2.1.length) (hxy : x ≤ y) (hy : y ≤ 60) :
    Calls Tryz.prog 56 #[v, v1, .agg #[.int .i64 4, .int .i64 (r : Int), .int .i64 (x : Int), .int .i64 (y : Int)]] w fun e w' => e = .returned (.bool (!decide (workTo p s r x (y - x) ≤ totTo (p.2.2.2.1.getD r zRes).1 x (y - x)))) ∧ Bel w w' := by
  obtain ⟨cs, rfl, hx⟩ := hx
  obtain ⟨c1, c2, c3, c4, rfl, q0, q1, q2, q3, q4⟩ := projR_open hx
  have Q1 := Lib.hid q1
  have Q2 := Lib.hid q2
  have Q3 := Lib.hid q3
  have Q4 := Lib.hid q4
  have HP := Lib.hid hx
  obtain ⟨p1, k1, rfl, l1, l1', -⟩ := sliceR_open q1
  obtain ⟨p2, k2, rfl, l2, l2', -⟩ := sliceR_open q2
  obtain ⟨p3, k3, rfl, l3, l3', -⟩ := sliceR_open q3
  obtain ⟨p4, k4, rfl, l4, l4', -⟩ := sliceR_open q4
  unfold maxLen at l1' l2' l3' l4'
  clear hx q0 q1 q2 q3 q4
  obtain ⟨zs, rfl, hs⟩ := hs
  have HZ := hs
  obtain ⟨z0, z1, rfl, zq0, zq1⟩ := schR_open hs
  have A0 := Lib.hid (fun i hi => intsR_at' zq0 (i := i) hi)
  have A1 := Lib.hid (fun i hi => intsR_at' zq1 (i := i) hi)
  obtain ⟨sp0, sk0, rfl, sl0, sl0', -⟩ := sliceR_open zq0
  obtain ⟨sp1, sk1, rfl, sl1, sl1', -⟩ := sliceR_open zq1
  unfold maxLen at sl0' sl1'
  have HT := Lib.hid hT
  have HQ1 := Lib.hid (show ∀ W, Bel w W → aggR schR T W (.agg #[.slice sp0 s.1.length sk0, .slice sp1 s.2.length sk1]) s from fun W hW => aggR_mk (schR_good.bel HZ hW HT.out))
  clear hs zq0 zq1 hT HZ
  have HS := Lib.hid hS
  have HFO := Lib.hid hf
  have HPO := Lib.hid (projOk_form hf)
  have HN := Lib.hid hn
  have HN1 := Lib.hid hn1
  clear hS hf hn hn1
  have HP1 := Lib.hid (show ∀ W, Bel w W → aggR projR S W (.agg #[.int .i64 p.1, .slice p1 p.2.1.length k1, .slice p2 p.2.2.1.length k2, .slice p3 p.2.2.2.1.length k3, .slice p4 p.2.2.2.2.length k4]) p from fun W hW => aggR_mk (projR_good.bel HP.out hW HS.out))
  show Calls Tryz.prog 56 #[.agg #[.int .i64 p.1, .slice p1 p.2.1.length k1, .slice p2 p.2.2.1.length k2, .slice p3 p.2.2.2.1.length k3, .slice p4 p.2.2.2.2.length k4], .agg #[.slice sp0 s.1.length sk0, .slice sp1 s.2.length sk1], .agg #[.int .i64 4, .int .i64 (r : Int), .int .i64 (x : Int), .int .i64 (y : Int)]] w _
  have HSO := Lib.hid (projOk_steps HPO.out hr)
  obtain ⟨rb, ro, rcs, rea, rrow, rel⟩ := sliceR_at zRes Q3.out hr
  obtain rfl : p3 = some ⟨rb, ro, none⟩ := rea
  have HR := Lib.hid hr
  generalize p.2.2.2.1.getD r zRes = X at *
  obtain ⟨rc0, rc1, rfl, rq0, rq1⟩ := resR_open rel
  obtain ⟨l, ro2⟩ := X
  have HST := Lib.hid rq0
  obtain ⟨stp, stk, rfl, stl, stl', -⟩ := sliceR_open rq0
  obtain ⟨_, _, rfl, -⟩ := sliceR_open rq1
  have rr := (rrow 0 (by simp)).1
  simp only [List.getElem_cons_zero, Nat.add_zero] at rr
  have hri : (r : Int) < (p.2.2.2.1.length : Int) := by omega
  have HRR := Lib.hid rr
  clear rr
  clear rrow rel rq0 rq1 hr
  have HXY := Lib.hid hxy
  have HY := Lib.hid hy
  go_enter Tryz.func56, Tryz.ntmps56
  obtain ⟨W0, hW0, hwW, hbx⟩ : ∃ W0, W0 = ((w.alloc (.cells #[.int .i64 p.1, .slice p1 p.2.1.length k1, .slice p2 p.2.2.1.length k2, .slice (some ⟨rb, ro, none⟩) p.2.2.2.1.length k3, .slice p4 p.2.2.2.2.length k4] 37)).alloc (.cells #[.slice sp0 s.1.length sk0, .slice sp1 s.2.length sk1] 39)).alloc (.cells #[.int .i64 4, .int .i64 (r : Int), .int .i64 (x : Int), .int .i64 (y : Int)] 81) ∧ Bel w W0 ∧ W0.cell? ⟨w.heap.size, 0, none⟩ = some (.int .i64 p.1) ∧ W0.cell? ⟨w.heap.size, 1, none⟩ = some (.slice p1 p.2.1.length k1) ∧ W0.cell? ⟨w.heap.size, 2, none⟩ = some (.slice p2 p.2.2.1.length k2) ∧ W0.cell? ⟨w.heap.size, 3, none⟩ = some (.slice (some ⟨rb, ro, none⟩) p.2.2.2.1.length k3) ∧ W0.cell? ⟨w.heap.size, 4, none⟩ = some (.slice p4 p.2.2.2.2.length k4) ∧ W0.cell? ⟨w.heap.size + 1, 0, none⟩ = some (.slice sp0 s.1.length sk0) ∧ W0.cell? ⟨w.heap.size + 1, 1, none⟩ = some (.slice sp1 s.2.length sk1) ∧ W0.cell? ⟨w.heap.size + 1 + 1, 0, none⟩ = some (.int .i64 4) ∧ W0.cell? ⟨w.heap.size + 1 + 1, 1, none⟩ = some (.int .i64 (r : Int)) ∧ W0.cell? ⟨w.heap.size + 1 + 1, 2, none⟩ = some (.int .i64 (x : Int)) ∧ W0.cell? ⟨w.heap.size + 1 + 1, 3, none⟩ = some (.int .i64 (y : Int)) := ⟨_, rfl, by (repeat (first | assumption | exact Bel.refl _ | apply Bel.drewN | apply Bel.drew | apply Bel.alloc | refine Bel.trans ?_ (by assumption))), by simp [go_sem], by simp [go_sem], by simp [go_sem], by simp [go_sem], by simp [go_sem], by simp [go_sem], by simp [go_sem], by simp [go_sem], by simp [go_sem], by simp [go_sem], by simp [go_sem]⟩
  have HBX := Lib.hid (show ∀ W, Bel W0 W → W.cell? ⟨w.heap.size, 0, none⟩ = some (.int .i64 p.1) ∧ W.cell? ⟨w.heap.size, 1, none⟩ = some (.slice p1 p.2.1.length k1) ∧ W.cell? ⟨w.heap.size, 2, none⟩ = some (.slice p2 p.2.2.1.length k2) ∧ W.cell? ⟨w.heap.size, 3, none⟩ = some (.slice (some ⟨rb, ro, none⟩) p.2.2.2.1.length k3) ∧ W.cell? ⟨w.heap.size, 4, none⟩ = some (.slice p4 p.2.2.2.2.length k4) ∧ W.cell? ⟨w.heap.size + 1, 0, none⟩ = some (.slice sp0 s.1.length sk0) ∧ W.cell? ⟨w.heap.size + 1, 1, none⟩ = some (.slice sp1 s.2.length sk1) ∧ W.cell? ⟨w.heap.size + 1 + 1, 0, none⟩ = some (.int .i64 4) ∧ W.cell? ⟨w.heap.size + 1 + 1, 1, none⟩ = some (.int .i64 (r : Int)) ∧ W.cell? ⟨w.heap.size + 1 + 1, 2, none⟩ = some (.int .i64 (x : Int)) ∧ W.cell? ⟨w.heap.size + 1 + 1, 3, none⟩ = some (.int .i64 (y : Int)) from fun W hW => keep11 hbx hW)
  clear hbx
  have HB0 := HBX.out W0 (Bel.refl _)
  go_wp2_with fail
  rw [← hW0]
  clear hW0
  go_loopw [9, 10] (fun z i wr => ∃ (t : Nat) (c : Int), x ≤ t ∧ t ≤ y ∧ i = .int .i64 t ∧ z = .int .i64 c ∧ c = workTo p s r x (t - x) ∧ Bel W0 wr) (fun _ i _ => y - (intOf i).toNat)
  case atStart => exact ⟨x, 0, Nat.le_refl _, hxy, rfl, rfl, by rw [Nat.sub_self]; rfl, Bel.refl _⟩
  case round =>
    obtain ⟨t, c, hxt, hty, rfl, rfl, hc, hB⟩ := hrel
    have HC := Lib.hid hc; clear hc
    have hB2 : Bel w wr := hwW.trans hB
    obtain ⟨b0, b1, b2, b3, b4, c0, c1, d0, d1, d2, d3⟩ := HBX.out wr hB
    by_cases hlt : t < y
    · have hcb := workTo_bd (x := (x : Int)) HFO.out HR.out (t - x)
      rw [← HC.out] at hcb
      have hub := usageV_bd (t := (t : Int)) HFO.out HR.out
      have HNX := Lib.hid (show workTo p s r x (t + 1 - x) = c + usageV p s r t from by rw [workTo_next _ _ _ _ _ hxt, HC.out])
      go_wp2_with fail
      refine (l09Use_any _ p S _ s T r t _ (HP1.out _ (by (repeat (first | assumption | exact Bel.refl _ | apply Bel.drewN | apply Bel.drew | apply Bel.alloc | refine Bel.trans ?_ (by assumption))))) (fun b hb => Nat.lt_of_lt_of_le (HS.out b hb) (Bel.size (by (repeat (first | assumption | exact Bel.refl _ | apply Bel.drewN | apply Bel.drew | apply Bel.alloc | refine Bel.trans ?_ (by assumption)))))) (HQ1.out _ (by (repeat (first | assumption | exact Bel.refl _ | apply Bel.drewN | apply Bel.drew | apply Bel.alloc | refine Bel.trans ?_ (by assumption))))) (fun b hb => Nat.lt_of_lt_of_le (HT.out b hb) (Bel.size (by (repeat (first | assumption | exact Bel.refl _ | apply Bel.drewN | apply Bel.drew | apply Bel.alloc | refine Bel.trans ?_ (by assumption)))))) HFO.out HR.out).mono ?_
      rintro e w2 ⟨rfl, g2⟩
      generalize usageV p s r (t : Int) = U at *
      go_wp2
      go_roundw
      case rel => exact ⟨t + 1, c + U, by omega, by omega, by go_num, by go_num, HNX.out.symm, by (repeat (first | assumption | exact Bel.refl _ | apply Bel.drewN | apply Bel.drew | apply Bel.alloc | refine Bel.trans ?_ (by assumption)))⟩
      case measure => simp [intOf]; omega
    · have hte : t = y := by omega
      have HD := Lib.hid (show (!decide (workTo p s r x (y - x) ≤ totTo l x (y - x))) = decide (totTo l x (y - x) < c) from by rw [HC.out, hte, nle_dec])
      clear hte
      have rr := hB2.cell HRR.out
      go_wp2_with fail
      go_region_held3 (fun W => W.cell? ⟨w.heap.size, 0, none⟩ = some (.int .i64 p.1) ∧ W.cell? ⟨w.heap.size, 1, none⟩ = some (.slice p1 p.2.1.length k1) ∧ W.cell? ⟨w.heap.size, 2, none⟩ = some (.slice p2 p.2.2.1.length k2) ∧ W.cell? ⟨w.heap.size, 3, none⟩ = some (.slice (some ⟨rb, ro, none⟩) p.2.2.2.1.length k3) ∧ W.cell? ⟨w.heap.size, 4, none⟩ = some (.slice p4 p.2.2.2.2.length k4) ∧ W.cell? ⟨w.heap.size + 1, 0, none⟩ = some (.slice sp0 s.1.length sk0) ∧ W.cell? ⟨w.heap.size + 1, 1, none⟩ = some (.slice sp1 s.2.length sk1) ∧ W.cell? ⟨w.heap.size + 1 + 1, 0, none⟩ = some (.int .i64 4) ∧ W.cell? ⟨w.heap.size + 1 + 1, 1, none⟩ = some (.int .i64 (r : Int)) ∧ W.cell? ⟨w.heap.size + 1 + 1, 2, none⟩ = some (.int .i64 (x : Int)) ∧ W.cell? ⟨w.heap.size + 1 + 1, 3, none⟩ = some (.int .i64 (y : Int)) ∧ W.cell? ⟨rb, ro + r * 2, none⟩ = some (.slice stp l.length stk)) (first | exact keep12 (by assumption) (by assumption) | go_keep)
        (first | (go_at_call 97; (with_reducible refine (sTotalCapacity_any _ l S x y _ (stepsR_good.bel HST.out (by (repeat (first | assumption | exact Bel.refl _ | apply Bel.drewN | apply Bel.drew | apply Bel.alloc | refine Bel.trans ?_ (by assumption)))) HS.out) (fun b hb => Nat.lt_of_lt_of_le (HS.out b hb) (Bel.size (by (repeat (first | assumption | exact Bel.refl _ | apply Bel.drewN | apply Bel.drew | apply Bel.alloc | refine Bel.trans ?_ (by assumption)))))) HSO.out HXY.out HY.out).mono ?_); rintro e wt ⟨rfl, gt⟩))
      go_wp2
      go_ret
      exact ⟨ret_bool HD.out.symm, by (repeat (first | assumption | exact Bel.refl _ | apply Bel.drewN | apply Bel.drew | apply Bel.alloc | refine Bel.trans ?_ (by assumption)))⟩

set_option maxHeartbeats 1000000 in
theorem fail5_any (v : Value) (p : ProjT) (S : Nat → Prop) (v1 : Value) (s : SchT) (T : Nat → Prop) (r b c : Nat) (w : World) (hx : aggR projR S w v p) (hS : ∀ b, S b → b < w.heap.size) (hs : aggR schR T w v1 s) (hT : ∀ b, T b → b < w.heap.size) (hn : bulkProject p ≤ 1048576) (hn1 : bulkSchedule s ≤ 1048576) (hf : schFormB p s = true) (hr : r < p.2.2.2.1.length) (hm : 0 < (p.2.2.2.1.getD r zRes).2.length) (hb : b < p.2.1.length) (hc : c < p.2.1.length) :
    Calls Tryz.prog 56 #[v, v1, .agg #[.int .i64 5, .int .i64 (r : Int), .int .i64 (b : Int), .int .i64 (c : Int)]] w fun e w' => e = .returned (.bool (!pairB p s r b c)) ∧ Bel w w' := by
  obtain ⟨cs, rfl, hx⟩ := hx
  obtain ⟨c1, c2, c3, c4, rfl, q0, q1, q2, q3, q4⟩ := projR_open hx
  have Q1 := Lib.hid q1
  have Q2 := Lib.hid q2
  have Q3 := Lib.hid q3
  have Q4 := Lib.hid q4
  have HP := Lib.hid hx
  obtain ⟨p1, k1, rfl, l1, l1', -⟩ := sliceR_open q1
  obtain ⟨p2, k2, rfl, l2, l2', -⟩ := sliceR_open q2
  obtain ⟨p3, k3, rfl, l3, l3', -⟩ := sliceR_open q3
  obtain ⟨p4, k4, rfl, l4, l4', -⟩ := sliceR_open q4
  unfold maxLen at l1' l2' l3' l4'
  clear hx q0 q1 q2 q3 q4
  obtain ⟨zs, rfl, hs⟩ := hs
  have HZ := hs
  obtain ⟨z0, z1, rfl, zq0, zq1⟩ := schR_open hs
  have A0 := Lib.hid (fun i hi => intsR_at' zq0 (i := i) hi)
  have A1 := Lib.hid (fun i hi => intsR_at' zq1 (i := i) hi)
  obtain ⟨sp0, sk0, rfl, sl0, sl0', -⟩ := sliceR_open zq0
  obtain ⟨sp1, sk1, rfl, sl1, sl1', -⟩ := sliceR_open zq1
  unfold maxLen at sl0' sl1'
  have HT := Lib.hid hT
  have HQ1 := Lib.hid (show ∀ W, Bel w W → aggR schR T W (.agg #[.slice sp0 s.1.length sk0, .slice sp1 s.2.length sk1]) s from fun W hW => aggR_mk (schR_good.bel HZ hW HT.out))
  clear hs zq0 zq1 hT HZ
  have HS := Lib.hid hS
  have HFO := Lib.hid hf
  have HPO := Lib.hid (projOk_form hf)
  have HN := Lib.hid hn
  have HN1 := Lib.hid hn1
  clear hS hf hn hn1
  have HP1 := Lib.hid (show ∀ W, Bel w W → aggR projR S W (.agg #[.int .i64 p.1, .slice p1 p.2.1.length k1, .slice p2 p.2.2.1.length k2, .slice p3 p.2.2.2.1.length k3, .slice p4 p.2.2.2.2.length k4]) p from fun W hW => aggR_mk (projR_good.bel HP.out hW HS.out))
  show Calls Tryz.prog 56 #[.agg #[.int .i64 p.1, .slice p1 p.2.1.length k1, .slice p2 p.2.2.1.length k2, .slice p3 p.2.2.2.1.length k3, .slice p4 p.2.2.2.2.length k4], .agg #[.slice sp0 s.1.length sk0, .slice sp1 s.2.length sk1], .agg #[.int .i64 5, .int .i64 (r : Int), .int .i64 (b : Int), .int .i64 (c : Int)]] w _
  go_enter Tryz.func56, Tryz.ntmps56
  go_wp2_with fail
  refine (l10Pair_any _ p S _ s T 5 r b c _ (HP1.out _ (by (repeat (first | assumption | exact Bel.refl _ | apply Bel.drewN | apply Bel.drew | apply Bel.alloc | refine Bel.trans ?_ (by assumption))))) (fun b hb => Nat.lt_of_lt_of_le (HS.out b hb) (Bel.size (by (repeat (first | assumption | exact Bel.refl _ | apply Bel.drewN | apply Bel.drew | apply Bel.alloc | refine Bel.trans ?_ (by assumption)))))) (HQ1.out _ (by (repeat (first | assumption | exact Bel.refl _ | apply Bel.drewN | apply Bel.drew | apply Bel.alloc | refine Bel.trans ?_ (by assumption))))) (fun b hb => Nat.lt_of_lt_of_le (HT.out b hb) (Bel.size (by (repeat (first | assumption | exact Bel.refl _ | apply Bel.drewN | apply Bel.drew | apply Bel.alloc | refine Bel.trans ?_ (by assumption)))))) HFO.out HN.out hr hm hb hc).mono ?_
  rintro e w1 ⟨rfl, g1⟩
  go_wp2
  go_ret
  exact ⟨rfl, by (repeat (first | assumption | exact Bel.refl _ | apply Bel.drewN | apply Bel.drew | apply Bel.alloc | refine Bel.trans ?_ (by assumption)))⟩

set_option maxHeartbeats 1000000 in
theorem fail6_any (v : Value) (p : ProjT) (S : Nat → Prop) (v1 : Value) (s : SchT) (T : Nat → Prop) (k : Nat) (w : World) (hx : aggR projR S w v p) (hS : ∀ b, S b → b < w.heap.size) (hs : aggR schR T w v1 s) (hT : ∀ b, T b → b < w.heap.size) (hn : bulkProject p ≤ 1048576) (hn1 : bulkSchedule s ≤ 1048576) (hf : schFormB p s = true) (hk : k < p.2.2.2.2.length) :
    Calls Tryz.prog 56 #[v, v1, .agg #[.int .i64 6, .int .i64 (k : Int), .int .i64 0, .int .i64 0]] w fun e w' => e = .returned (.bool (!decide (consTo p s k p.2.1.length ≤ p.2.2.2.2.getD k 0))) ∧ Bel w w' := by
  obtain ⟨cs, rfl, hx⟩ := hx
  obtain ⟨c1, c2, c3, c4, rfl, q0, q1, q2, q3, q4⟩ := projR_open hx
  have Q1 := Lib.hid q1
  have Q2 := Lib.hid q2
  have Q3 := Lib.hid q3
  have Q4 := Lib.hid q4
  have HP := Lib.hid hx
  obtain ⟨p1, k1, rfl, l1, l1', -⟩ := sliceR_open q1
  obtain ⟨p2, k2, rfl, l2, l2', -⟩ := sliceR_open q2
  obtain ⟨p3, k3, rfl, l3, l3', -⟩ := sliceR_open q3
  obtain ⟨p4, k4, rfl, l4, l4', -⟩ := sliceR_open q4
  unfold maxLen at l1' l2' l3' l4'
  clear hx q0 q1 q2 q3 q4
  obtain ⟨zs, rfl, hs⟩ := hs
  have HZ := hs
  obtain ⟨z0, z1, rfl, zq0, zq1⟩ := schR_open hs
  have A0 := Lib.hid (fun i hi => intsR_at' zq0 (i := i) hi)
  have A1 := Lib.hid (fun i hi => intsR_at' zq1 (i := i) hi)
  obtain ⟨sp0, sk0, rfl, sl0, sl0', -⟩ := sliceR_open zq0
  obtain ⟨sp1, sk1, rfl, sl1, sl1', -⟩ := sliceR_open zq1
  unfold maxLen at sl0' sl1'
  have HT := Lib.hid hT
  have HQ1 := Lib.hid (show ∀ W, Bel w W → aggR schR T W (.agg #[.slice sp0 s.1.length sk0, .slice sp1 s.2.length sk1]) s from fun W hW => aggR_mk (schR_good.bel HZ hW HT.out))
  clear hs zq0 zq1 hT HZ
  have HS := Lib.hid hS
  have HFO := Lib.hid hf
  have HPO := Lib.hid (projOk_form hf)
  have HN := Lib.hid hn
  have HN1 := Lib.hid hn1
  clear hS hf hn hn1
  have HP1 := Lib.hid (show ∀ W, Bel w W → aggR projR S W (.agg #[.int .i64 p.1, .slice p1 p.2.1.length k1, .slice p2 p.2.2.1.length k2, .slice p3 p.2.2.2.1.length k3, .slice p4 p.2.2.2.2.length k4]) p from fun W hW => aggR_mk (projR_good.bel HP.out hW HS.out))
  show Calls Tryz.prog 56 #[.agg #[.int .i64 p.1, .slice p1 p.2.1.length k1, .slice p2 p.2.2.1.length k2, .slice p3 p.2.2.2.1.length k3, .slice p4 p.2.2.2.2.length k4], .agg #[.slice sp0 s.1.length sk0, .slice sp1 s.2.length sk1], .agg #[.int .i64 6, .int .i64 (k : Int), .int .i64 0, .int .i64 0]] w _
  have hki : (k : Int) < (p.2.2.2.2.length : Int) := by omega
  have HCV := Lib.hid (show consV p s (k : Int) = consTo p s k p.2.1.length from by
    unfold consV
    rw [HFO.out, ← inB_v (k : Int), inB_lt hk]
    rfl)
  obtain ⟨kb, ko, ke, kc⟩ := intsR_at' Q4.out hk
  obtain rfl : p4 = some ⟨kb, ko, none⟩ := ke
  have kc := fun o1 o2 o3 => ((((Bel.refl w).alloc o1).alloc o2).alloc o3).cell kc
  generalize p.2.2.2.2.getD k 0 = V at *
  clear hk
  go_enter Tryz.func56, Tryz.ntmps56
  go_wp2_with fail
  go_region_held3 (fun W => W.cell? ⟨w.heap.size, 0, none⟩ = some (.int .i64 p.1) ∧ W.cell? ⟨w.heap.size, 1, none⟩ = some (.slice p1 p.2.1.length k1) ∧ W.cell? ⟨w.heap.size, 2, none⟩ = some (.slice p2 p.2.2.1.length k2) ∧ W.cell? ⟨w.heap.size, 3, none⟩ = some (.slice p3 p.2.2.2.1.length k3) ∧ W.cell? ⟨w.heap.size, 4, none⟩ = some (.slice (some ⟨kb, ko, none⟩) p.2.2.2.2.length k4) ∧ W.cell? ⟨w.heap.size + 1, 0, none⟩ = some (.slice sp0 s.1.length sk0) ∧ W.cell? ⟨w.heap.size + 1, 1, none⟩ = some (.slice sp1 s.2.length sk1) ∧ W.cell? ⟨w.heap.size + 1 + 1, 0, none⟩ = some (.int .i64 6) ∧ W.cell? ⟨w.heap.size + 1 + 1, 1, none⟩ = some (.int .i64 (k : Int)) ∧ W.cell? ⟨w.heap.size + 1 + 1, 2, none⟩ = some (.int .i64 0) ∧ W.cell? ⟨w.heap.size + 1 + 1, 3, none⟩ = some (.int .i64 0) ∧ W.cell? ⟨kb, ko + k, none⟩ = some (.int .i64 V)) (first | exact keep12 (by assumption) (by assumption) | (refine ⟨?_, ?_, ?_, ?_, ?_, ?_, ?_, ?_, ?_, ?_, ?_, ?_⟩ <;> first | (simp [go_sem]; done) | exact kc _ _ _) | go_keep)
    (first | (go_at_call 99; (with_reducible refine (sConsumptionOf_any _ p S _ s T _ _ (HP1.out _ (by (repeat (first | assumption | exact Bel.refl _ | apply Bel.drewN | apply Bel.drew | apply Bel.alloc | refine Bel.trans ?_ (by assumption))))) (fun b hb => Nat.lt_of_lt_of_le (HS.out b hb) (Bel.size (by (repeat (first | assumption | exact Bel.refl _ | apply Bel.drewN | apply Bel.drew | apply Bel.alloc | refine Bel.trans ?_ (by assumption)))))) HN.out (HQ1.out _ (by (repeat (first | assumption | exact Bel.refl _ | apply Bel.drewN | apply Bel.drew | apply Bel.alloc | refine Bel.trans ?_ (by assumption))))) (fun b hb => Nat.lt_of_lt_of_le (HT.out b hb) (Bel.size (by (repeat (first | assumption | exact Bel.refl _ | apply Bel.drewN | apply Bel.drew | apply Bel.alloc | refine Bel.trans ?_ (by assumption)))))) HN1.out).mono ?_); rintro e wt ⟨rfl, gt⟩; rw [HCV.out]))
  go_wp2
  go_ret
  exact ⟨ret_bool (nle_dec _ _), by (repeat (first | assumption | exact Bel.refl _ | apply Bel.drewN | apply Bel.drew | apply Bel.alloc | refine Bel.trans ?_ (by assumption)))⟩

end Go.Proofs.YthkcdmghchikjaaGreat
