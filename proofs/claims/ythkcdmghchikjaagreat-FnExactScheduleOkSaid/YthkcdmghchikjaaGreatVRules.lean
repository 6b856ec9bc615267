/- ViolatedRules and ScheduleOk, both sides. -/
import Derived.Test.YthkcdmghchikjaaGreatRules
import Derived.Test.YthkcdmghchikjaaGreatOwn
namespace Go.Proofs.YthkcdmghchikjaaGreat
open Go.ChangeShapes Go.WideShapes Go.ChangeAt Go.RowKit
set_option linter.unusedVariables false

set_option maxRecDepth 100000 in
set_option maxHeartbeats 4000000 in
theorem sViolatedRules_any (v : Value) (p : ProjT) (S : Nat → Prop) (v1 : Value) (s : SchT) (T : Nat → Prop) (w : World) (hx : aggR projR S w v p) (hS : ∀ b, S b → b < w.heap.size) (_hn : bulkProject p ≤ 1048576) (hs : aggR schR T w v1 s) (hT : ∀ b, T b → b < w.heap.size) (_hn1 : bulkSchedule s ≤ 1048576) :
    Calls Tryz.prog 17 #[v, v1] w (FreshV rulesR w (violV p s)) := by
  obtain ⟨cs, rfl, hx⟩ := hx
  obtain ⟨c1, c2, c3, c4, rfl, q0, q1, q2, q3, q4⟩ := projR_open hx
  have Q1 := Lib.hid q1
  have Q2 := Lib.hid q2
  have Q3 := Lib.hid q3
  have Q4 := Lib.hid q4
  have HP := Lib.hid hx
  obtain ⟨p1, k1, rfl, l1, l1', -⟩ := sliceR_open q1
  obtain ⟨p2, k2, rfl, l2, l2', -⟩ := sliceR_open q2
  obtain ⟨p3, k3, rfl, l3, l3', -⟩ := sliceR_open q3
  obtain ⟨p4, k4, rfl, l4, l4', -⟩ := sliceR_open q4
  unfold maxLen at l1' l2' l3' l4'
  clear hx q0 q1 q2 q3 q4
  obtain ⟨zs, rfl, hs⟩ := hs
  have HZ := hs
  obtain ⟨z0, z1, rfl, zq0, zq1⟩ := schR_open hs
  have A0 := Lib.hid (fun i hi => intsR_at' zq0 (i := i) hi)
  have A1 := Lib.hid (fun i hi => intsR_at' zq1 (i := i) hi)
  obtain ⟨sp0, sk0, rfl, sl0, sl0', -⟩ := sliceR_open zq0
  obtain ⟨sp1, sk1, rfl, sl1, sl1', -⟩ := sliceR_open zq1
  unfold maxLen at sl0' sl1'
  have HT := Lib.hid hT
  have HQ1 := Lib.hid (show ∀ W, Bel w W → aggR schR T W (.agg #[.slice sp0 s.1.length sk0, .slice sp1 s.2.length sk1]) s from fun W hW => aggR_mk (schR_good.bel HZ hW HT.out))
  clear hs zq0 zq1 hT HZ
  have HS := Lib.hid hS
  have HN := Lib.hid _hn
  have HN1 := Lib.hid _hn1
  clear hS _hn _hn1
  have HP1 := Lib.hid (show ∀ W, Bel w W → aggR projR S W (.agg #[.int .i64 p.1, .slice p1 p.2.1.length k1, .slice p2 p.2.2.1.length k2, .slice p3 p.2.2.2.1.length k3, .slice p4 p.2.2.2.2.length k4]) p from fun W hW => aggR_mk (projR_good.bel HP.out hW HS.out))
  show Calls Tryz.prog 17 #[.agg #[.int .i64 p.1, .slice p1 p.2.1.length k1, .slice p2 p.2.2.1.length k2, .slice p3 p.2.2.2.1.length k3, .slice p4 p.2.2.2.2.length k4], .agg #[.slice sp0 s.1.length sk0, .slice sp1 s.2.length sk1]] w _
  go_enter Tryz.func17, Tryz.ntmps17
  go_wp2_with fail
  refine (sScheduleForm_any _ p S _ s T _ (HP1.out _ (by (repeat (first | assumption | exact Bel.refl _ | apply Bel.drewN | apply Bel.drew | apply Bel.alloc | refine Bel.trans ?_ (by assumption))))) (fun b hb => Nat.lt_of_lt_of_le (HS.out b hb) (Bel.size (by (repeat (first | assumption | exact Bel.refl _ | apply Bel.drewN | apply Bel.drew | apply Bel.alloc | refine Bel.trans ?_ (by assumption)))))) HN.out (HQ1.out _ (by (repeat (first | assumption | exact Bel.refl _ | apply Bel.drewN | apply Bel.drew | apply Bel.alloc | refine Bel.trans ?_ (by assumption))))) (fun b hb => Nat.lt_of_lt_of_le (HT.out b hb) (Bel.size (by (repeat (first | assumption | exact Bel.refl _ | apply Bel.drewN | apply Bel.drew | apply Bel.alloc | refine Bel.trans ?_ (by assumption)))))) HN1.out).mono ?_
  rintro e w1 ⟨rfl, g1⟩
  have b0 := g1.cell (p := ⟨w.heap.size, 0, none⟩) (v := .int .i64 p.1) (by simp [go_sem])
  have b1 := g1.cell (p := ⟨w.heap.size, 1, none⟩) (v := .slice p1 p.2.1.length k1) (by simp [go_sem])
  have b2 := g1.cell (p := ⟨w.heap.size, 2, none⟩) (v := .slice p2 p.2.2.1.length k2) (by simp [go_sem])
  have b3 := g1.cell (p := ⟨w.heap.size, 3, none⟩) (v := .slice p3 p.2.2.2.1.length k3) (by simp [go_sem])
  have b4 := g1.cell (p := ⟨w.heap.size, 4, none⟩) (v := .slice p4 p.2.2.2.2.length k4) (by simp [go_sem])
  have f0 := g1.cell (p := ⟨w.heap.size + 1, 0, none⟩) (v := .slice sp0 s.1.length sk0) (by simp [go_sem])
  have f1 := g1.cell (p := ⟨w.heap.size + 1, 1, none⟩) (v := .slice sp1 s.2.length sk1) (by simp [go_sem])
  have hall1 : w.heap.size + 2 ≤ w1.heap.size := by have := g1.size; simp at this; omega
  have G : Bel w w1 := by (repeat (first | assumption | exact Bel.refl _ | apply Bel.drewN | apply Bel.drew | apply Bel.alloc | refine Bel.trans ?_ (by assumption)))
  have HBX := Lib.hid (show ∀ W, Bel w1 W → W.cell? ⟨w.heap.size, 0, none⟩ = some (.int .i64 p.1) ∧ W.cell? ⟨w.heap.size, 1, none⟩ = some (.slice p1 p.2.1.length k1) ∧ W.cell? ⟨w.heap.size, 2, none⟩ = some (.slice p2 p.2.2.1.length k2) ∧ W.cell? ⟨w.heap.size, 3, none⟩ = some (.slice p3 p.2.2.2.1.length k3) ∧ W.cell? ⟨w.heap.size, 4, none⟩ = some (.slice p4 p.2.2.2.2.length k4) ∧ W.cell? ⟨w.heap.size + 1, 0, none⟩ = some (.slice sp0 s.1.length sk0) ∧ W.cell? ⟨w.heap.size + 1, 1, none⟩ = some (.slice sp1 s.2.length sk1) from fun W hW => keep7 ⟨b0, b1, b2, b3, b4, f0, f1⟩ hW)
  cases hf : schFormB p s
  · have HD := Lib.hid (show rulesR (New w w1) w1 [.slice none 0 0] (violV p s) from by unfold violV; rw [hf, if_neg (by simp)]; exact ⟨none, 0, rfl, Nat.le_refl _, Nat.zero_le _, fun i h => by simp at h⟩)
    clear hf
    go_wp2
    go_ret
    exact ⟨_, rfl, HD.out, G⟩
  have HVV := Lib.hid (show violV p s = violTo p s (rulesV p).length from by unfold violV; rw [hf, if_pos rfl])
  have HFO := Lib.hid hf
  have HRO := Lib.hid (fun r (hr : r ∈ rulesV p) => rulesV_ok (projOk_form hf) hr)
  have HRI := Lib.hid (fun r (hr : r ∈ rulesV p) => ruleOk_small (projOk_form hf) (rulesV_ok (projOk_form hf) hr))
  have hrl := (rules_small (projOk_form hf)).2.2
  clear hf
  have ab0 := fun o => ((Bel.refl w1).alloc o).cell b0
  have ab1 := fun o => ((Bel.refl w1).alloc o).cell b1
  have ab2 := fun o => ((Bel.refl w1).alloc o).cell b2
  have ab3 := fun o => ((Bel.refl w1).alloc o).cell b3
  have ab4 := fun o => ((Bel.refl w1).alloc o).cell b4
  have af0 := fun o => ((Bel.refl w1).alloc o).cell f0
  have af1 := fun o => ((Bel.refl w1).alloc o).cell f1
  go_wp2_with fail
  clear ab0 ab1 ab2 ab3 ab4 af0 af1
  refine (l10Rules_any _ p S _ (HP1.out _ (by (repeat (first | assumption | exact Bel.refl _ | apply Bel.drewN | apply Bel.drew | apply Bel.alloc | refine Bel.trans ?_ (by assumption))))) (fun b hb => Nat.lt_of_lt_of_le (HS.out b hb) (Bel.size (by (repeat (first | assumption | exact Bel.refl _ | apply Bel.drewN | apply Bel.drew | apply Bel.alloc | refine Bel.trans ?_ (by assumption)))))) HN.out (projOk_form HFO.out)).mono ?_
  rintro e w2 ⟨vr, rfl, hr, g2⟩
  clear b0 b1 b2 b3 b4 f0 f1
  have G2 : Bel w1 w2 := by (repeat (first | assumption | exact Bel.refl _ | apply Bel.drewN | apply Bel.drew | apply Bel.alloc | refine Bel.trans ?_ (by assumption)))
  have hGs := G2.size
  obtain ⟨rq, rc, rfl, rl, rl', -⟩ := sliceR_open hr
  unfold maxLen at rl'
  have HM := Lib.hid hr
  clear hr
  go_wp2_with fail
  go_loopw [5, 16] (fun o i wr => ∃ (k : Nat) (ys : List RuleT) (q1 : Option Addr) (c1 : Nat), k ≤ (rulesV p).length ∧ i = .int .i64 k ∧ o = .slice q1 ys.length c1 ∧ ys = violTo p s k ∧ OwnE (fun _ => False) 4 ruleR 81 w2.heap.size wr q1 c1 ys ∧ Bel w2 wr) (fun _ i _ => (rulesV p).length - (intOf i).toNat)
  case atStart => exact ⟨0, [], _, _, Nat.zero_le _, rfl, rfl, (violTo_zero p s).symm, OwnE.empty _ _, by (repeat (first | assumption | exact Bel.refl _ | apply Bel.drewN | apply Bel.drew | apply Bel.alloc | refine Bel.trans ?_ (by assumption)))⟩
  case round =>
    obtain ⟨k, ys, q1, c1, hk, rfl, rfl, hys, hO, hB⟩ := hrel
    have hwsz := hB.size
    have HYS := Lib.hid hys
    have hyl : ys.length ≤ k := by rw [hys]; exact violTo_le p s k
    clear hys
    by_cases hlt : k < (rulesV p).length
    · obtain ⟨b, off, ecs, ea, hrow, hel⟩ := sliceR_at ((0 : Int), (0 : Int), (0 : Int), (0 : Int)) HM.out hlt
      obtain rfl : rq = some ⟨b, off, none⟩ := ea
      have hmem : (rulesV p).getD k ((0 : Int), (0 : Int), (0 : Int), (0 : Int)) ∈ rulesV p := by
        rw [List.getD_eq_getElem?_getD, List.getElem?_eq_getElem hlt]; exact List.getElem_mem hlt
      have HX1 := Lib.hid (fun (h : satB p s ((rulesV p).getD k ((0 : Int), (0 : Int), (0 : Int), (0 : Int))) = true) => violTo_yes hlt h)
      have HX2 := Lib.hid (fun (h : satB p s ((rulesV p).getD k ((0 : Int), (0 : Int), (0 : Int), (0 : Int))) = false) => violTo_no hlt h)
      have HXO := Lib.hid (HRO.out _ hmem)
      have HXI := Lib.hid (HRI.out _ hmem)
      clear hmem
      generalize (rulesV p).getD k ((0 : Int), (0 : Int), (0 : Int), (0 : Int)) = X at *
      obtain ⟨rfl, -⟩ := ruleR_open hel
      have ed0 := hB.cell (hrow 0 (by simp)).1
      have ed1 := hB.cell (hrow 1 (by simp)).1
      have ed2 := hB.cell (hrow 2 (by simp)).1
      have ed3 := hB.cell (hrow 3 (by simp)).1
      simp only [List.getElem_cons_zero, List.getElem_cons_succ, Nat.add_zero] at ed0 ed1 ed2 ed3
      clear hrow hel
      have hki : (k : Int) < ((rulesV p).length : Int) := by omega
      obtain ⟨b0, b1, b2, b3, b4, f0, f1⟩ := HBX.out wr (G2.trans hB)
      obtain ⟨Wb, hWb⟩ : ∃ W, W = wr := ⟨wr, rfl⟩
      subst hWb
      have hwb := hB.size
      have ab0 := fun o => ((Bel.refl Wb).alloc o).cell b0
      have ab1 := fun o => ((Bel.refl Wb).alloc o).cell b1
      have ab2 := fun o => ((Bel.refl Wb).alloc o).cell b2
      have ab3 := fun o => ((Bel.refl Wb).alloc o).cell b3
      have ab4 := fun o => ((Bel.refl Wb).alloc o).cell b4
      have af0 := fun o => ((Bel.refl Wb).alloc o).cell f0
      have af1 := fun o => ((Bel.refl Wb).alloc o).cell f1
      go_wp2_with fail
      clear ab0 ab1 ab2 ab3 ab4 af0 af1
      refine (l10Fails_any _ p S _ s T X _ (HP1.out _ (by (repeat (first | assumption | exact Bel.refl _ | apply Bel.drewN | apply Bel.drew | apply Bel.alloc | refine Bel.trans ?_ (by assumption))))) (fun b hb => Nat.lt_of_lt_of_le (HS.out b hb) (Bel.size (by (repeat (first | assumption | exact Bel.refl _ | apply Bel.drewN | apply Bel.drew | apply Bel.alloc | refine Bel.trans ?_ (by assumption)))))) (HQ1.out _ (by (repeat (first | assumption | exact Bel.refl _ | apply Bel.drewN | apply Bel.drew | apply Bel.alloc | refine Bel.trans ?_ (by assumption))))) (fun b hb => Nat.lt_of_lt_of_le (HT.out b hb) (Bel.size (by (repeat (first | assumption | exact Bel.refl _ | apply Bel.drewN | apply Bel.drew | apply Bel.alloc | refine Bel.trans ?_ (by assumption)))))) HN.out HN1.out HFO.out HXO.out).mono ?_
      rintro e w3 ⟨rfl, g3⟩
      have G3 : Bel Wb w3 := by (repeat (first | assumption | exact Bel.refl _ | apply Bel.drewN | apply Bel.drew | apply Bel.alloc | refine Bel.trans ?_ (by assumption)))
      have d0 := g3.cell (p := ⟨Wb.heap.size, 0, none⟩) (v := .int .i64 X.1) (by simp [go_sem])
      have d1 := g3.cell (p := ⟨Wb.heap.size, 1, none⟩) (v := .int .i64 X.2.1) (by simp [go_sem])
      have d2 := g3.cell (p := ⟨Wb.heap.size, 2, none⟩) (v := .int .i64 X.2.2.1) (by simp [go_sem])
      have d3 := g3.cell (p := ⟨Wb.heap.size, 3, none⟩) (v := .int .i64 X.2.2.2) (by simp [go_sem])
      have hB3 := hB.trans G3
      have hO := hO.bel ruleR_good G3
      have h3s := hB3.size
      cases hs : satB p s X
      · have HSN := Lib.hid (show ys ++ [X] = violTo p s (k + 1) from by rw [HX2.out hs, ← HYS.out])
        clear hs
        go_wp2_with ((at_builtin; refine wpList_appE (n := 4) ruleR_good _ rfl _ _ 44 rfl (.agg #[.int .i64 0, .int .i64 0, .int .i64 0, .int .i64 0]) 32 Tryz.underlying44 (by kernel_rfl) rfl (by decide) (by decide) q1 c1 ys (X) rfl (hO.bel ruleR_good (by (repeat (first | assumption | exact Bel.refl _ | apply Bel.drewN | apply Bel.drew | apply Bel.alloc | refine Bel.trans ?_ (by assumption))))) _ 1 [.int .i64 X.1, .int .i64 X.2.1, .int .i64 X.2.2.1, .int .i64 X.2.2.2] rfl rfl (World.news_of_block (alloc_at (by simp))) (by intro u hu; simp at hu; rcases hu with rfl | rfl | rfl | rfl <;> rfl) (rule_rep HXI.out.1 HXI.out.2.1 HXI.out.2.2.1 HXI.out.2.2.2) (by omega) (by first | omega | (simp; omega)) ?_; intro q' cap' w' hO' hBW hsz'))
        have HB := Lib.hid (hBW w2 (by (repeat (first | assumption | exact Bel.refl _ | apply Bel.drewN | apply Bel.drew | apply Bel.alloc | refine Bel.trans ?_ (by assumption)))) (Nat.le_refl _))
        clear hBW hsz'
        go_roundw
        case rel => exact ⟨k + 1, ys ++ [X], q', cap', by omega, by go_num, by simp, HSN.out, hO', HB.out⟩
        case measure => simp [intOf]; omega
      · have HSN := Lib.hid (show ys = violTo p s (k + 1) from by rw [HX1.out hs, ← HYS.out])
        clear hs
        go_wp2_with fail
        go_roundw
        case rel => exact ⟨k + 1, ys, q1, c1, by omega, by go_num, rfl, HSN.out, hO, hB3⟩
        case measure => simp [intOf]; omega
    · obtain rfl : k = (rulesV p).length := by omega
      have HRES := Lib.hid (show rulesR (New w wr) wr [.slice q1 ys.length c1] (violV p s) from by
        rw [HVV.out, ← HYS.out]
        exact hO.done ruleR_good (fun _ hf => hf.elim) (fun b h1 h2 => ⟨by omega, h2⟩))
      clear hO
      go_wp2
      go_ret
      exact ⟨_, rfl, HRES.out, (G.trans G2).trans hB⟩

set_option maxRecDepth 100000 in
set_option maxHeartbeats 4000000 in
theorem iViolatedRules_any (v : Value) (p : ProjT) (S : Nat → Prop) (v1 : Value) (s : SchT) (T : Nat → Prop) (w : World) (hx : aggR projR S w v p) (hS : ∀ b, S b → b < w.heap.size) (_hn : bulkProject p ≤ 1048576) (hs : aggR schR T w v1 s) (hT : ∀ b, T b → b < w.heap.size) (_hn1 : bulkSchedule s ≤ 1048576) :
    Calls Tryz.prog 18 #[v, v1] w (FreshV rulesR w (violV p s)) := by
  obtain ⟨cs, rfl, hx⟩ := hx
  obtain ⟨c1, c2, c3, c4, rfl, q0, q1, q2, q3, q4⟩ := projR_open hx
  have Q1 := Lib.hid q1
  have Q2 := Lib.hid q2
  have Q3 := Lib.hid q3
  have Q4 := Lib.hid q4
  have HP := Lib.hid hx
  obtain ⟨p1, k1, rfl, l1, l1', -⟩ := sliceR_open q1
  obtain ⟨p2, k2, rfl, l2, l2', -⟩ := sliceR_open q2
  obtain ⟨p3, k3, rfl, l3, l3', -⟩ := sliceR_open q3
  obtain ⟨p4, k4, rfl, l4, l4', -⟩ := sliceR_open q4
  unfold maxLen at l1' l2' l3' l4'
  clear hx q0 q1 q2 q3 q4
  obtain ⟨zs, rfl, hs⟩ := hs
  have HZ := hs
  obtain ⟨z0, z1, rfl, zq0, zq1⟩ := schR_open hs
  have A0 := Lib.hid (fun i hi => intsR_at' zq0 (i := i) hi)
  have A1 := Lib.hid (fun i hi => intsR_at' zq1 (i := i) hi)
  obtain ⟨sp0, sk0, rfl, sl0, sl0', -⟩ := sliceR_open zq0
  obtain ⟨sp1, sk1, rfl, sl1, sl1', -⟩ := sliceR_open zq1
  unfold maxLen at sl0' sl1'
  have HT := Lib.hid hT
  have HQ1 := Lib.hid (show ∀ W, Bel w W → aggR schR T W (.agg #[.slice sp0 s.1.length sk0, .slice sp1 s.2.length sk1]) s from fun W hW => aggR_mk (schR_good.bel HZ hW HT.out))
  clear hs zq0 zq1 hT HZ
  have HS := Lib.hid hS
  have HN := Lib.hid _hn
  have HN1 := Lib.hid _hn1
  clear hS _hn _hn1
  have HP1 := Lib.hid (show ∀ W, Bel w W → aggR projR S W (.agg #[.int .i64 p.1, .slice p1 p.2.1.length k1, .slice p2 p.2.2.1.length k2, .slice p3 p.2.2.2.1.length k3, .slice p4 p.2.2.2.2.length k4]) p from fun W hW => aggR_mk (projR_good.bel HP.out hW HS.out))
  show Calls Tryz.prog 18 #[.agg #[.int .i64 p.1, .slice p1 p.2.1.length k1, .slice p2 p.2.2.1.length k2, .slice p3 p.2.2.2.1.length k3, .slice p4 p.2.2.2.2.length k4], .agg #[.slice sp0 s.1.length sk0, .slice sp1 s.2.length sk1]] w _
  go_enter Tryz.func18, Tryz.ntmps18
  go_wp2_with fail
  refine (iScheduleForm_any _ p S _ s T _ (HP1.out _ (by (repeat (first | assumption | exact Bel.refl _ | apply Bel.drewN | apply Bel.drew | apply Bel.alloc | refine Bel.trans ?_ (by assumption))))) (fun b hb => Nat.lt_of_lt_of_le (HS.out b hb) (Bel.size (by (repeat (first | assumption | exact Bel.refl _ | apply Bel.drewN | apply Bel.drew | apply Bel.alloc | refine Bel.trans ?_ (by assumption)))))) HN.out (HQ1.out _ (by (repeat (first | assumption | exact Bel.refl _ | apply Bel.drewN | apply Bel.drew | apply Bel.alloc | refine Bel.trans ?_ (by assumption))))) (fun b hb => Nat.lt_of_lt_of_le (HT.out b hb) (Bel.size (by (repeat (first | assumption | exact Bel.refl _ | apply Bel.drewN | apply Bel.drew | apply Bel.alloc | refine Bel.trans ?_ (by assumption)))))) HN1.out).mono ?_
  rintro e w1 ⟨rfl, g1⟩
  have b0 := g1.cell (p := ⟨w.heap.size, 0, none⟩) (v := .int .i64 p.1) (by simp [go_sem])
  have b1 := g1.cell (p := ⟨w.heap.size, 1, none⟩) (v := .slice p1 p.2.1.length k1) (by simp [go_sem])
  have b2 := g1.cell (p := ⟨w.heap.size, 2, none⟩) (v := .slice p2 p.2.2.1.length k2) (by simp [go_sem])
  have b3 := g1.cell (p := ⟨w.heap.size, 3, none⟩) (v := .slice p3 p.2.2.2.1.length k3) (by simp [go_sem])
  have b4 := g1.cell (p := ⟨w.heap.size, 4, none⟩) (v := .slice p4 p.2.2.2.2.length k4) (by simp [go_sem])
  have f0 := g1.cell (p := ⟨w.heap.size + 1, 0, none⟩) (v := .slice sp0 s.1.length sk0) (by simp [go_sem])
  have f1 := g1.cell (p := ⟨w.heap.size + 1, 1, none⟩) (v := .slice sp1 s.2.length sk1) (by simp [go_sem])
  have hall1 : w.heap.size + 2 ≤ w1.heap.size := by have := g1.size; simp at this; omega
  have G : Bel w w1 := by (repeat (first | assumption | exact Bel.refl _ | apply Bel.drewN | apply Bel.drew | apply Bel.alloc | refine Bel.trans ?_ (by assumption)))
  have HBX := Lib.hid (show ∀ W, Bel w1 W → W.cell? ⟨w.heap.size, 0, none⟩ = some (.int .i64 p.1) ∧ W.cell? ⟨w.heap.size, 1, none⟩ = some (.slice p1 p.2.1.length k1) ∧ W.cell? ⟨w.heap.size, 2, none⟩ = some (.slice p2 p.2.2.1.length k2) ∧ W.cell? ⟨w.heap.size, 3, none⟩ = some (.slice p3 p.2.2.2.1.length k3) ∧ W.cell? ⟨w.heap.size, 4, none⟩ = some (.slice p4 p.2.2.2.2.length k4) ∧ W.cell? ⟨w.heap.size + 1, 0, none⟩ = some (.slice sp0 s.1.length sk0) ∧ W.cell? ⟨w.heap.size + 1, 1, none⟩ = some (.slice sp1 s.2.length sk1) from fun W hW => keep7 ⟨b0, b1, b2, b3, b4, f0, f1⟩ hW)
  cases hf : schFormB p s
  · have HD := Lib.hid (show rulesR (New w w1) w1 [.slice none 0 0] (violV p s) from by unfold violV; rw [hf, if_neg (by simp)]; exact ⟨none, 0, rfl, Nat.le_refl _, Nat.zero_le _, fun i h => by simp at h⟩)
    clear hf
    go_wp2
    go_ret
    exact ⟨_, rfl, HD.out, G⟩
  have HVV := Lib.hid (show violV p s = violTo p s (rulesV p).length from by unfold violV; rw [hf, if_pos rfl])
  have HFO := Lib.hid hf
  have HRO := Lib.hid (fun r (hr : r ∈ rulesV p) => rulesV_ok (projOk_form hf) hr)
  have HRI := Lib.hid (fun r (hr : r ∈ rulesV p) => ruleOk_small (projOk_form hf) (rulesV_ok (projOk_form hf) hr))
  have hrl := (rules_small (projOk_form hf)).2.2
  clear hf
  have ab0 := fun o => ((Bel.refl w1).alloc o).cell b0
  have ab1 := fun o => ((Bel.refl w1).alloc o).cell b1
  have ab2 := fun o => ((Bel.refl w1).alloc o).cell b2
  have ab3 := fun o => ((Bel.refl w1).alloc o).cell b3
  have ab4 := fun o => ((Bel.refl w1).alloc o).cell b4
  have af0 := fun o => ((Bel.refl w1).alloc o).cell f0
  have af1 := fun o => ((Bel.refl w1).alloc o).cell f1
  go_wp2_with fail
  clear ab0 ab1 ab2 ab3 ab4 af0 af1
  refine (rules_any _ p S _ (HP1.out _ (by (repeat (first | assumption | exact Bel.refl _ | apply Bel.drewN | apply Bel.drew | apply Bel.alloc | refine Bel.trans ?_ (by assumption))))) (fun b hb => Nat.lt_of_lt_of_le (HS.out b hb) (Bel.size (by (repeat (first | assumption | exact Bel.refl _ | apply Bel.drewN | apply Bel.drew | apply Bel.alloc | refine Bel.trans ?_ (by assumption)))))) HN.out (projOk_form HFO.out)).mono ?_
  rintro e w2 ⟨vr, rfl, hr, g2⟩
  clear b0 b1 b2 b3 b4 f0 f1
  have G2 : Bel w1 w2 := by (repeat (first | assumption | exact Bel.refl _ | apply Bel.drewN | apply Bel.drew | apply Bel.alloc | refine Bel.trans ?_ (by assumption)))
  have hGs := G2.size
  obtain ⟨rq, rc, rfl, rl, rl', -⟩ := sliceR_open hr
  unfold maxLen at rl'
  have HM := Lib.hid hr
  clear hr
  go_wp2_with fail
  go_loopw [5, 16] (fun o i wr => ∃ (k : Nat) (ys : List RuleT) (q1 : Option Addr) (c1 : Nat), k ≤ (rulesV p).length ∧ i = .int .i64 k ∧ o = .slice q1 ys.length c1 ∧ ys = violTo p s k ∧ OwnE (fun _ => False) 4 ruleR 81 w2.heap.size wr q1 c1 ys ∧ Bel w2 wr) (fun _ i _ => (rulesV p).length - (intOf i).toNat)
  case atStart => exact ⟨0, [], _, _, Nat.zero_le _, rfl, rfl, (violTo_zero p s).symm, OwnE.empty _ _, by (repeat (first | assumption | exact Bel.refl _ | apply Bel.drewN | apply Bel.drew | apply Bel.alloc | refine Bel.trans ?_ (by assumption)))⟩
  case round =>
    obtain ⟨k, ys, q1, c1, hk, rfl, rfl, hys, hO, hB⟩ := hrel
    have hwsz := hB.size
    have HYS := Lib.hid hys
    have hyl : ys.length ≤ k := by rw [hys]; exact violTo_le p s k
    clear hys
    by_cases hlt : k < (rulesV p).length
    · obtain ⟨b, off, ecs, ea, hrow, hel⟩ := sliceR_at ((0 : Int), (0 : Int), (0 : Int), (0 : Int)) HM.out hlt
      obtain rfl : rq = some ⟨b, off, none⟩ := ea
      have hmem : (rulesV p).getD k ((0 : Int), (0 : Int), (0 : Int), (0 : Int)) ∈ rulesV p := by
        rw [List.getD_eq_getElem?_getD, List.getElem?_eq_getElem hlt]; exact List.getElem_mem hlt
      have HX1 := Lib.hid (fun (h : satB p s ((rulesV p).getD k ((0 : Int), (0 : Int), (0 : Int), (0 : Int))) = true) => violTo_yes hlt h)
      have HX2 := Lib.hid (fun (h : satB p s ((rulesV p).getD k ((0 : Int), (0 : Int), (0 : Int), (0 : Int))) = false) => violTo_no hlt h)
      have HXO := Lib.hid (HRO.out _ hmem)
      have HXI := Lib.hid (HRI.out _ hmem)
      clear hmem
      generalize (rulesV p).getD k ((0 : Int), (0 : Int), (0 : Int), (0 : Int)) = X at *
      obtain ⟨rfl, -⟩ := ruleR_open hel
      have ed0 := hB.cell (hrow 0 (by simp)).1
      have ed1 := hB.cell (hrow 1 (by simp)).1
      have ed2 := hB.cell (hrow 2 (by simp)).1
      have ed3 := hB.cell (hrow 3 (by simp)).1
      simp only [List.getElem_cons_zero, List.getElem_cons_succ, Nat.add_zero] at ed0 ed1 ed2 ed3
      clear hrow hel
      have hki : (k : Int) < ((rulesV p).length : Int) := by omega
      obtain ⟨b0, b1, b2, b3, b4, f0, f1⟩ := HBX.out wr (G2.trans hB)
      obtain ⟨Wb, hWb⟩ : ∃ W, W = wr := ⟨wr, rfl⟩
      subst hWb
      have hwb := hB.size
      have ab0 := fun o => ((Bel.refl Wb).alloc o).cell b0
      have ab1 := fun o => ((Bel.refl Wb).alloc o).cell b1
      have ab2 := fun o => ((Bel.refl Wb).alloc o).cell b2
      have ab3 := fun o => ((Bel.refl Wb).alloc o).cell b3
      have ab4 := fun o => ((Bel.refl Wb).alloc o).cell b4
      have af0 := fun o => ((Bel.refl Wb).alloc o).cell f0
      have af1 := fun o => ((Bel.refl Wb).alloc o).cell f1
      go_wp2_with fail
      clear ab0 ab1 ab2 ab3 ab4 af0 af1
      refine (satisfies_any _ p S _ s T X _ (HP1.out _ (by (repeat (first | assumption | exact Bel.refl _ | apply Bel.drewN | apply Bel.drew | apply Bel.alloc | refine Bel.trans ?_ (by assumption))))) (fun b hb => Nat.lt_of_lt_of_le (HS.out b hb) (Bel.size (by (repeat (first | assumption | exact Bel.refl _ | apply Bel.drewN | apply Bel.drew | apply Bel.alloc | refine Bel.trans ?_ (by assumption)))))) (HQ1.out _ (by (repeat (first | assumption | exact Bel.refl _ | apply Bel.drewN | apply Bel.drew | apply Bel.alloc | refine Bel.trans ?_ (by assumption))))) (fun b hb => Nat.lt_of_lt_of_le (HT.out b hb) (Bel.size (by (repeat (first | assumption | exact Bel.refl _ | apply Bel.drewN | apply Bel.drew | apply Bel.alloc | refine Bel.trans ?_ (by assumption)))))) HN.out HN1.out HFO.out HXO.out).mono ?_
      rintro e w3 ⟨rfl, g3⟩
      have G3 : Bel Wb w3 := by (repeat (first | assumption | exact Bel.refl _ | apply Bel.drewN | apply Bel.drew | apply Bel.alloc | refine Bel.trans ?_ (by assumption)))
      have d0 := g3.cell (p := ⟨Wb.heap.size, 0, none⟩) (v := .int .i64 X.1) (by simp [go_sem])
      have d1 := g3.cell (p := ⟨Wb.heap.size, 1, none⟩) (v := .int .i64 X.2.1) (by simp [go_sem])
      have d2 := g3.cell (p := ⟨Wb.heap.size, 2, none⟩) (v := .int .i64 X.2.2.1) (by simp [go_sem])
      have d3 := g3.cell (p := ⟨Wb.heap.size, 3, none⟩) (v := .int .i64 X.2.2.2) (by simp [go_sem])
      have hB3 := hB.trans G3
      have hO := hO.bel ruleR_good G3
      have h3s := hB3.size
      cases hs : satB p s X
      · have HSN := Lib.hid (show ys ++ [X] = violTo p s (k + 1) from by rw [HX2.out hs, ← HYS.out])
        clear hs
        go_wp2_with ((at_builtin; refine wpList_appE (n := 4) ruleR_good _ rfl _ _ 44 rfl (.agg #[.int .i64 0, .int .i64 0, .int .i64 0, .int .i64 0]) 32 Tryz.underlying44 (by kernel_rfl) rfl (by decide) (by decide) q1 c1 ys (X) rfl (hO.bel ruleR_good (by (repeat (first | assumption | exact Bel.refl _ | apply Bel.drewN | apply Bel.drew | apply Bel.alloc | refine Bel.trans ?_ (by assumption))))) _ 1 [.int .i64 X.1, .int .i64 X.2.1, .int .i64 X.2.2.1, .int .i64 X.2.2.2] rfl rfl (World.news_of_block (alloc_at (by simp))) (by intro u hu; simp at hu; rcases hu with rfl | rfl | rfl | rfl <;> rfl) (rule_rep HXI.out.1 HXI.out.2.1 HXI.out.2.2.1 HXI.out.2.2.2) (by omega) (by first | omega | (simp; omega)) ?_; intro q' cap' w' hO' hBW hsz'))
        have HB := Lib.hid (hBW w2 (by (repeat (first | assumption | exact Bel.refl _ | apply Bel.drewN | apply Bel.drew | apply Bel.alloc | refine Bel.trans ?_ (by assumption)))) (Nat.le_refl _))
        clear hBW hsz'
        go_roundw
        case rel => exact ⟨k + 1, ys ++ [X], q', cap', by omega, by go_num, by simp, HSN.out, hO', HB.out⟩
        case measure => simp [intOf]; omega
      · have HSN := Lib.hid (show ys = violTo p s (k + 1) from by rw [HX1.out hs, ← HYS.out])
        clear hs
        go_wp2_with fail
        go_roundw
        case rel => exact ⟨k + 1, ys, q1, c1, by omega, by go_num, rfl, HSN.out, hO, hB3⟩
        case measure => simp [intOf]; omega
    · obtain rfl : k = (rulesV p).length := by omega
      have HRES := Lib.hid (show rulesR (New w wr) wr [.slice q1 ys.length c1] (violV p s) from by
        rw [HVV.out, ← HYS.out]
        exact hO.done ruleR_good (fun _ hf => hf.elim) (fun b h1 h2 => ⟨by omega, h2⟩))
      clear hO
      go_wp2
      go_ret
      exact ⟨_, rfl, HRES.out, (G.trans G2).trans hB⟩

set_option maxRecDepth 100000 in
set_option maxHeartbeats 4000000 in
theorem sScheduleOk_any (v : Value) (p : ProjT) (S : Nat → Prop) (v1 : Value) (s : SchT) (T : Nat → Prop) (w : World) (hx : aggR projR S w v p) (hS : ∀ b, S b → b < w.heap.size) (_hn : bulkProject p ≤ 1048576) (hs : aggR schR T w v1 s) (hT : ∀ b, T b → b < w.heap.size) (_hn1 : bulkSchedule s ≤ 1048576) :
    Calls Tryz.prog 11 #[v, v1] w fun e w' => e = .returned (.bool (schOkB p s)) ∧ Bel w w' := by
  obtain ⟨cs, rfl, hx⟩ := hx
  obtain ⟨c1, c2, c3, c4, rfl, q0, q1, q2, q3, q4⟩ := projR_open hx
  have Q1 := Lib.hid q1
  have Q2 := Lib.hid q2
  have Q3 := Lib.hid q3
  have Q4 := Lib.hid q4
  have HP := Lib.hid hx
  obtain ⟨p1, k1, rfl, l1, l1', -⟩ := sliceR_open q1
  obtain ⟨p2, k2, rfl, l2, l2', -⟩ := sliceR_open q2
  obtain ⟨p3, k3, rfl, l3, l3', -⟩ := sliceR_open q3
  obtain ⟨p4, k4, rfl, l4, l4', -⟩ := sliceR_open q4
  unfold maxLen at l1' l2' l3' l4'
  clear hx q0 q1 q2 q3 q4
  obtain ⟨zs, rfl, hs⟩ := hs
  have HZ := hs
  obtain ⟨z0, z1, rfl, zq0, zq1⟩ := schR_open hs
  have A0 := Lib.hid (fun i hi => intsR_at' zq0 (i := i) hi)
  have A1 := Lib.hid (fun i hi => intsR_at' zq1 (i := i) hi)
  obtain ⟨sp0, sk0, rfl, sl0, sl0', -⟩ := sliceR_open zq0
  obtain ⟨sp1, sk1, rfl, sl1, sl1', -⟩ := sliceR_open zq1
  unfold maxLen at sl0' sl1'
  have HT := Lib.hid hT
  have HQ1 := Lib.hid (show ∀ W, Bel w W → aggR schR T W (.agg #[.slice sp0 s.1.length sk0, .slice sp1 s.2.length sk1]) s from fun W hW => aggR_mk (schR_good.bel HZ hW HT.out))
  clear hs zq0 zq1 hT HZ
  have HS := Lib.hid hS
  have HN := Lib.hid _hn
  have HN1 := Lib.hid _hn1
  clear hS _hn _hn1
  have HP1 := Lib.hid (show ∀ W, Bel w W → aggR projR S W (.agg #[.int .i64 p.1, .slice p1 p.2.1.length k1, .slice p2 p.2.2.1.length k2, .slice p3 p.2.2.2.1.length k3, .slice p4 p.2.2.2.2.length k4]) p from fun W hW => aggR_mk (projR_good.bel HP.out hW HS.out))
  show Calls Tryz.prog 11 #[.agg #[.int .i64 p.1, .slice p1 p.2.1.length k1, .slice p2 p.2.2.1.length k2, .slice p3 p.2.2.2.1.length k3, .slice p4 p.2.2.2.2.length k4], .agg #[.slice sp0 s.1.length sk0, .slice sp1 s.2.length sk1]] w _
  go_enter Tryz.func11, Tryz.ntmps11
  go_wp2_with fail
  refine (sScheduleForm_any _ p S _ s T _ (HP1.out _ (by (repeat (first | assumption | exact Bel.refl _ | apply Bel.drewN | apply Bel.drew | apply Bel.alloc | refine Bel.trans ?_ (by assumption))))) (fun b hb => Nat.lt_of_lt_of_le (HS.out b hb) (Bel.size (by (repeat (first | assumption | exact Bel.refl _ | apply Bel.drewN | apply Bel.drew | apply Bel.alloc | refine Bel.trans ?_ (by assumption)))))) HN.out (HQ1.out _ (by (repeat (first | assumption | exact Bel.refl _ | apply Bel.drewN | apply Bel.drew | apply Bel.alloc | refine Bel.trans ?_ (by assumption))))) (fun b hb => Nat.lt_of_lt_of_le (HT.out b hb) (Bel.size (by (repeat (first | assumption | exact Bel.refl _ | apply Bel.drewN | apply Bel.drew | apply Bel.alloc | refine Bel.trans ?_ (by assumption)))))) HN1.out).mono ?_
  rintro e w1 ⟨rfl, g1⟩
  have b0 := g1.cell (p := ⟨w.heap.size, 0, none⟩) (v := .int .i64 p.1) (by simp [go_sem])
  have b1 := g1.cell (p := ⟨w.heap.size, 1, none⟩) (v := .slice p1 p.2.1.length k1) (by simp [go_sem])
  have b2 := g1.cell (p := ⟨w.heap.size, 2, none⟩) (v := .slice p2 p.2.2.1.length k2) (by simp [go_sem])
  have b3 := g1.cell (p := ⟨w.heap.size, 3, none⟩) (v := .slice p3 p.2.2.2.1.length k3) (by simp [go_sem])
  have b4 := g1.cell (p := ⟨w.heap.size, 4, none⟩) (v := .slice p4 p.2.2.2.2.length k4) (by simp [go_sem])
  have f0 := g1.cell (p := ⟨w.heap.size + 1, 0, none⟩) (v := .slice sp0 s.1.length sk0) (by simp [go_sem])
  have f1 := g1.cell (p := ⟨w.heap.size + 1, 1, none⟩) (v := .slice sp1 s.2.length sk1) (by simp [go_sem])
  have G : Bel w w1 := by (repeat (first | assumption | exact Bel.refl _ | apply Bel.drewN | apply Bel.drew | apply Bel.alloc | refine Bel.trans ?_ (by assumption)))
  cases hf : schFormB p s
  · have HF := Lib.hid (show schOkB p s = false from by unfold schOkB; rw [hf]; rfl)
    clear hf
    go_wp2
    go_ret
    exact ⟨ret_bool HF.out.symm, G⟩
  have HF := Lib.hid (show schOkB p s = decide ((violV p s).length = 0) from by unfold schOkB; rw [hf]; rfl)
  clear hf
  go_wp2_with fail
  refine (sViolatedRules_any _ p S _ s T _ (HP1.out _ (by (repeat (first | assumption | exact Bel.refl _ | apply Bel.drewN | apply Bel.drew | apply Bel.alloc | refine Bel.trans ?_ (by assumption))))) (fun b hb => Nat.lt_of_lt_of_le (HS.out b hb) (Bel.size (by (repeat (first | assumption | exact Bel.refl _ | apply Bel.drewN | apply Bel.drew | apply Bel.alloc | refine Bel.trans ?_ (by assumption)))))) HN.out (HQ1.out _ (by (repeat (first | assumption | exact Bel.refl _ | apply Bel.drewN | apply Bel.drew | apply Bel.alloc | refine Bel.trans ?_ (by assumption))))) (fun b hb => Nat.lt_of_lt_of_le (HT.out b hb) (Bel.size (by (repeat (first | assumption | exact Bel.refl _ | apply Bel.drewN | apply Bel.drew | apply Bel.alloc | refine Bel.trans ?_ (by assumption)))))) HN1.out).mono ?_
  rintro e w2 ⟨vr, rfl, hr, g2⟩
  obtain ⟨rq, rc, rfl, rl, rl', -⟩ := sliceR_open hr
  clear hr
  have G2 : Bel w w2 := by (repeat (first | assumption | exact Bel.refl _ | apply Bel.drewN | apply Bel.drew | apply Bel.alloc | refine Bel.trans ?_ (by assumption)))
  generalize (violV p s).length = n at *
  by_cases h0 : n = 0
  · subst h0
    go_wp2
    go_ret
    exact ⟨ret_bool (by rw [HF.out]; simp), G2⟩
  · have h1 : ((n : Nat) : Int) ≠ 0 := by omega
    go_wp2
    go_ret
    exact ⟨ret_bool (by rw [HF.out]; simp [h0]), G2⟩

set_option maxRecDepth 100000 in
set_option maxHeartbeats 4000000 in
theorem iScheduleOk_any (v : Value) (p : ProjT) (S : Nat → Prop) (v1 : Value) (s : SchT) (T : Nat → Prop) (w : World) (hx : aggR projR S w v p) (hS : ∀ b, S b → b < w.heap.size) (_hn : bulkProject p ≤ 1048576) (hs : aggR schR T w v1 s) (hT : ∀ b, T b → b < w.heap.size) (_hn1 : bulkSchedule s ≤ 1048576) :
    Calls Tryz.prog 14 #[v, v1] w fun e w' => e = .returned (.bool (schOkB p s)) ∧ Bel w w' := by
  obtain ⟨cs, rfl, hx⟩ := hx
  obtain ⟨c1, c2, c3, c4, rfl, q0, q1, q2, q3, q4⟩ := projR_open hx
  have Q1 := Lib.hid q1
  have Q2 := Lib.hid q2
  have Q3 := Lib.hid q3
  have Q4 := Lib.hid q4
  have HP := Lib.hid hx
  obtain ⟨p1, k1, rfl, l1, l1', -⟩ := sliceR_open q1
  obtain ⟨p2, k2, rfl, l2, l2', -⟩ := sliceR_open q2
  obtain ⟨p3, k3, rfl, l3, l3', -⟩ := sliceR_open q3
  obtain ⟨p4, k4, rfl, l4, l4', -⟩ := sliceR_open q4
  unfold maxLen at l1' l2' l3' l4'
  clear hx q0 q1 q2 q3 q4
  obtain ⟨zs, rfl, hs⟩ := hs
  have HZ := hs
  obtain ⟨z0, z1, rfl, zq0, zq1⟩ := schR_open hs
  have A0 := Lib.hid (fun i hi => intsR_at' zq0 (i := i) hi)
  have A1 := Lib.hid (fun i hi => intsR_at' zq1 (i := i) hi)
  obtain ⟨sp0, sk0, rfl, sl0, sl0', -⟩ := sliceR_open zq0
  obtain ⟨sp1, sk1, rfl, sl1, sl1', -⟩ := sliceR_open zq1
  unfold maxLen at sl0' sl1'
  have HT := Lib.hid hT
  have HQ1 := Lib.hid (show ∀ W, Bel w W → aggR schR T W (.agg #[.slice sp0 s.1.length sk0, .slice sp1 s.2.length sk1]) s from fun W hW => aggR_mk (schR_good.bel HZ hW HT.out))
  clear hs zq0 zq1 hT HZ
  have HS := Lib.hid hS
  have HN := Lib.hid _hn
  have HN1 := Lib.hid _hn1
  clear hS _hn _hn1
  have HP1 := Lib.hid (show ∀ W, Bel w W → aggR projR S W (.agg #[.int .i64 p.1, .slice p1 p.2.1.length k1, .slice p2 p.2.2.1.length k2, .slice p3 p.2.2.2.1.length k3, .slice p4 p.2.2.2.2.length k4]) p from fun W hW => aggR_mk (projR_good.bel HP.out hW HS.out))
  show Calls Tryz.prog 14 #[.agg #[.int .i64 p.1, .slice p1 p.2.1.length k1, .slice p2 p.2.2.1.length k2, .slice p3 p.2.2.2.1.length k3, .slice p4 p.2.2.2.2.length k4], .agg #[.slice sp0 s.1.length sk0, .slice sp1 s.2.length sk1]] w _
  go_enter Tryz.func14, Tryz.ntmps14
  go_wp2_with fail
  refine (iScheduleForm_any _ p S _ s T _ (HP1.out _ (by (repeat (first | assumption | exact Bel.refl _ | apply Bel.drewN | apply Bel.drew | apply Bel.alloc | refine Bel.trans ?_ (by assumption))))) (fun b hb => Nat.lt_of_lt_of_le (HS.out b hb) (Bel.size (by (repeat (first | assumption | exact Bel.refl _ | apply Bel.drewN | apply Bel.drew | apply Bel.alloc | refine Bel.trans ?_ (by assumption)))))) HN.out (HQ1.out _ (by (repeat (first | assumption | exact Bel.refl _ | apply Bel.drewN | apply Bel.drew | apply Bel.alloc | refine Bel.trans ?_ (by assumption))))) (fun b hb => Nat.lt_of_lt_of_le (HT.out b hb) (Bel.size (by (repeat (first | assumption | exact Bel.refl _ | apply Bel.drewN | apply Bel.drew | apply Bel.alloc | refine Bel.trans ?_ (by assumption)))))) HN1.out).mono ?_
  rintro e w1 ⟨rfl, g1⟩
  have b0 := g1.cell (p := ⟨w.heap.size, 0, none⟩) (v := .int .i64 p.1) (by simp [go_sem])
  have b1 := g1.cell (p := ⟨w.heap.size, 1, none⟩) (v := .slice p1 p.2.1.length k1) (by simp [go_sem])
  have b2 := g1.cell (p := ⟨w.heap.size, 2, none⟩) (v := .slice p2 p.2.2.1.length k2) (by simp [go_sem])
  have b3 := g1.cell (p := ⟨w.heap.size, 3, none⟩) (v := .slice p3 p.2.2.2.1.length k3) (by simp [go_sem])
  have b4 := g1.cell (p := ⟨w.heap.size, 4, none⟩) (v := .slice p4 p.2.2.2.2.length k4) (by simp [go_sem])
  have f0 := g1.cell (p := ⟨w.heap.size + 1, 0, none⟩) (v := .slice sp0 s.1.length sk0) (by simp [go_sem])
  have f1 := g1.cell (p := ⟨w.heap.size + 1, 1, none⟩) (v := .slice sp1 s.2.length sk1) (by simp [go_sem])
  have G : Bel w w1 := by (repeat (first | assumption | exact Bel.refl _ | apply Bel.drewN | apply Bel.drew | apply Bel.alloc | refine Bel.trans ?_ (by assumption)))
  cases hf : schFormB p s
  · have HF := Lib.hid (show schOkB p s = false from by unfold schOkB; rw [hf]; rfl)
    clear hf
    go_wp2
    go_ret
    exact ⟨ret_bool HF.out.symm, G⟩
  have HF := Lib.hid (show schOkB p s = decide ((violV p s).length = 0) from by unfold schOkB; rw [hf]; rfl)
  clear hf
  go_wp2_with fail
  refine (iViolatedRules_any _ p S _ s T _ (HP1.out _ (by (repeat (first | assumption | exact Bel.refl _ | apply Bel.drewN | apply Bel.drew | apply Bel.alloc | refine Bel.trans ?_ (by assumption))))) (fun b hb => Nat.lt_of_lt_of_le (HS.out b hb) (Bel.size (by (repeat (first | assumption | exact Bel.refl _ | apply Bel.drewN | apply Bel.drew | apply Bel.alloc | refine Bel.trans ?_ (by assumption)))))) HN.out (HQ1.out _ (by (repeat (first | assumption | exact Bel.refl _ | apply Bel.drewN | apply Bel.drew | apply Bel.alloc | refine Bel.trans ?_ (by assumption))))) (fun b hb => Nat.lt_of_lt_of_le (HT.out b hb) (Bel.size (by (repeat (first | assumption | exact Bel.refl _ | apply Bel.drewN | apply Bel.drew | apply Bel.alloc | refine Bel.trans ?_ (by assumption)))))) HN1.out).mono ?_
  rintro e w2 ⟨vr, rfl, hr, g2⟩
  obtain ⟨rq, rc, rfl, rl, rl', -⟩ := sliceR_open hr
  clear hr
  have G2 : Bel w w2 := by (repeat (first | assumption | exact Bel.refl _ | apply Bel.drewN | apply Bel.drew | apply Bel.alloc | refine Bel.trans ?_ (by assumption)))
  generalize (violV p s).length = n at *
  by_cases h0 : n = 0
  · subst h0
    go_wp2
    go_ret
    exact ⟨ret_bool (by rw [HF.out]; simp), G2⟩
  · have h1 : ((n : Nat) : Int) ≠ 0 := by omega
    go_wp2
    go_ret
    exact ⟨ret_bool (by rw [HF.out]; simp [h0]), G2⟩

end Go.Proofs.YthkcdmghchikjaaGreat
