/- Contracts of TopologicalOrder, both sides. -/
import Derived.Test.YtclmffknggmlnaaTopo
namespace Go.Proofs.Ytclmffknggmlnaa
open Go.ChangeShapes Go.WideShapes Go.ChangeAt Go.RowKit
set_option linter.unusedVariables false

set_option maxHeartbeats 400000 in
theorem l07Ready_any (v : Value) (p : ProjT) (S : Nat → Prop) (v2 : Value) (done : List Int) (V : Nat → Prop) (a : Int) (w : World) (hx : aggR projR S w v p) (hS : ∀ b, S b → b < w.heap.size) (hp : projOk p = true) (hd : intsR V w [v2] done) (hV : ∀ b, V b → b < w.heap.size) :
    Calls Try.prog 68 #[v, .int .i64 a, v2] w fun e w' => e = .returned (.bool (readyB p done a)) ∧ Bel w w' := by
  obtain ⟨cs, rfl, hx⟩ := hx
  obtain ⟨c1, c2, c3, c4, rfl, q0, q1, q2, q3, q4⟩ := projR_open hx
  have Q1 := Lib.hid q1
  have Q2 := Lib.hid q2
  have Q3 := Lib.hid q3
  have Q4 := Lib.hid q4
  have HP := Lib.hid hx
  obtain ⟨p1, k1, rfl, l1, l1', -⟩ := sliceR_open q1
  obtain ⟨p2, k2, rfl, l2, l2', -⟩ := sliceR_open q2
  obtain ⟨p3, k3, rfl, l3, l3', -⟩ := sliceR_open q3
  obtain ⟨p4, k4, rfl, l4, l4', -⟩ := sliceR_open q4
  unfold maxLen at l1' l2' l3' l4'
  clear hx q0 q1 q2 q3 q4
  have HS := Lib.hid hS
  have HPO := Lib.hid hp
  have HD := Lib.hid hd
  have HV := Lib.hid hV
  clear hS hp hd hV
  have HP1 := Lib.hid (show ∀ W, Bel w W → aggR projR S W (.agg #[.int .i64 p.1, .slice p1 p.2.1.length k1, .slice p2 p.2.2.1.length k2, .slice p3 p.2.2.2.1.length k3, .slice p4 p.2.2.2.2.length k4]) p from fun W hW => aggR_mk (projR_good.bel HP.out hW HS.out))
  show Calls Try.prog 68 #[.agg #[.int .i64 p.1, .slice p1 p.2.1.length k1, .slice p2 p.2.2.1.length k2, .slice p3 p.2.2.2.1.length k3, .slice p4 p.2.2.2.2.length k4], .int .i64 a, v2] w _
  go_enter Try.func68, Try.ntmps68
  obtain ⟨W0, hW0, hwW, hsz0, hbx⟩ : ∃ W0, W0 = w.alloc (.cells #[.int .i64 p.1, .slice p1 p.2.1.length k1, .slice p2 p.2.2.1.length k2, .slice p3 p.2.2.2.1.length k3, .slice p4 p.2.2.2.2.length k4] 37) ∧ Bel w W0 ∧ W0.heap.size = w.heap.size + 1 ∧ W0.cell? ⟨w.heap.size, 0, none⟩ = some (.int .i64 p.1) ∧ W0.cell? ⟨w.heap.size, 1, none⟩ = some (.slice p1 p.2.1.length k1) ∧ W0.cell? ⟨w.heap.size, 2, none⟩ = some (.slice p2 p.2.2.1.length k2) ∧ W0.cell? ⟨w.heap.size, 3, none⟩ = some (.slice p3 p.2.2.2.1.length k3) ∧ W0.cell? ⟨w.heap.size, 4, none⟩ = some (.slice p4 p.2.2.2.2.length k4) := ⟨_, rfl, by (repeat (first | assumption | exact Bel.refl _ | apply Bel.drewN | apply Bel.drew | apply Bel.alloc | refine Bel.trans ?_ (by assumption))), by simp, by simp [go_sem], by simp [go_sem], by simp [go_sem], by simp [go_sem], by simp [go_sem]⟩
  have HBX := Lib.hid (show ∀ W, Bel W0 W → W.cell? ⟨w.heap.size, 0, none⟩ = some (.int .i64 p.1) ∧ W.cell? ⟨w.heap.size, 1, none⟩ = some (.slice p1 p.2.1.length k1) ∧ W.cell? ⟨w.heap.size, 2, none⟩ = some (.slice p2 p.2.2.1.length k2) ∧ W.cell? ⟨w.heap.size, 3, none⟩ = some (.slice p3 p.2.2.2.1.length k3) ∧ W.cell? ⟨w.heap.size, 4, none⟩ = some (.slice p4 p.2.2.2.2.length k4) from fun W hW => keep5 hbx hW)
  clear hbx
  clear hsz0
  go_wp2_with fail
  rw [← hW0]
  clear hW0
  go_loopw [12] (fun i wr => ∃ (k : Nat), k ≤ p.2.2.1.length ∧ i = .int .i64 k ∧ (∀ j, j < k → barsB p done a (p.2.2.1.getD j zLink) = false) ∧ Bel W0 wr) (fun i _ => p.2.2.1.length - (intOf i).toNat)
  case atStart => exact ⟨0, Nat.zero_le _, rfl, fun j hj => by omega, Bel.refl _⟩
  case round =>
    obtain ⟨k, hk, rfl, hall, hB⟩ := hrel
    have HA := Lib.hid hall; clear hall
    have hB2 : Bel w wr := hwW.trans hB
    by_cases hlt : k < p.2.2.1.length
    · obtain ⟨b, off, ecs, ea, hrow, hel⟩ := sliceR_at zLink Q2.out hlt
      obtain rfl : p2 = some ⟨b, off, none⟩ := ea
      obtain ⟨b0, b1, b2, b3, b4⟩ := HBX.out wr hB
      have HLT := Lib.hid hlt
      generalize hX : p.2.2.1.getD k zLink = X at *
      have HX := Lib.hid hX; clear hX
      obtain ⟨rfl, eq0, eq1, eq3⟩ := linkR_open hel
      have ed0 := hB2.cell (hrow 0 (by simp)).1
      have ed1 := hB2.cell (hrow 1 (by simp)).1
      have ed2 := hB2.cell (hrow 2 (by simp)).1
      have ed3 := hB2.cell (hrow 3 (by simp)).1
      simp only [List.getElem_cons_zero, List.getElem_cons_succ, Nat.add_zero] at ed0 ed1 ed2 ed3
      clear hrow hel eq0 eq1 eq3
      have ab0 := fun o => ((Bel.refl wr).alloc o).cell b0
      have ab1 := fun o => ((Bel.refl wr).alloc o).cell b1
      have ab2 := fun o => ((Bel.refl wr).alloc o).cell b2
      have ab3 := fun o => ((Bel.refl wr).alloc o).cell b3
      have ab4 := fun o => ((Bel.refl wr).alloc o).cell b4
      by_cases h1 : X.2.1 = a
      rotate_left
      · have z1 : (X.2.1 == a) = false := by simpa using h1
        have HF := Lib.hid (show barsB p done a X = false from by unfold barsB; rw [decide_eq_false h1]; rfl)
        clear h1
        go_wp2
        go_roundw
        case rel =>
          refine ⟨k + 1, by omega, by go_num, fun j hj => ?_, by (repeat (first | assumption | exact Bel.refl _ | apply Bel.drewN | apply Bel.drew | apply Bel.alloc | refine Bel.trans ?_ (by assumption)))⟩
          by_cases e : j < k
          · exact HA.out j e
          · obtain rfl : j = k := by omega
            rw [HX.out]; exact HF.out
        case measure => simp [intOf]; omega
      have z1 : (X.2.1 == a) = true := by simpa using h1
      have HF1 := Lib.hid (show barsB p done a X = (decide (0 < fullGapV p X) && !hasB X.1 done) from by unfold barsB; rw [decide_eq_true h1]; rfl)
      clear h1
      go_wp2_with fail
      refine (l07All_any _ p S k _ (aggR_mk (projR_good.bel HP.out (by (repeat (first | assumption | exact Bel.refl _ | apply Bel.drewN | apply Bel.drew | apply Bel.alloc | refine Bel.trans ?_ (by assumption)))) HS.out)) (fun b hb => Nat.lt_of_lt_of_le (HS.out b hb) (Bel.size (by (repeat (first | assumption | exact Bel.refl _ | apply Bel.drewN | apply Bel.drew | apply Bel.alloc | refine Bel.trans ?_ (by assumption)))))) HPO.out HLT.out).mono ?_
      rintro e w1 ⟨rfl, g1⟩
      rw [HX.out]
      have kc0 := g1.cell (p := ⟨wr.heap.size, 0, none⟩) (v := .int .i64 X.1) (by simp [go_sem])
      have kc1 := g1.cell (p := ⟨wr.heap.size, 1, none⟩) (v := .int .i64 X.2.1) (by simp [go_sem])
      have kc2 := g1.cell (p := ⟨wr.heap.size, 2, none⟩) (v := .bool X.2.2.1) (by simp [go_sem])
      have kc3 := g1.cell (p := ⟨wr.heap.size, 3, none⟩) (v := .int .i64 X.2.2.2) (by simp [go_sem])
      have G1 : Bel W0 w1 := by (repeat (first | assumption | exact Bel.refl _ | apply Bel.drewN | apply Bel.drew | apply Bel.alloc | refine Bel.trans ?_ (by assumption)))
      have G0 : Bel w w1 := hwW.trans G1
      clear ab0 ab1 ab2 ab3 ab4 b0 b1 b2 b3 b4
      by_cases h2 : 0 < fullGapV p X
      rotate_left
      · have HF := Lib.hid (show barsB p done a X = false from by rw [HF1.out, decide_eq_false h2]; rfl)
        generalize fullGapV p X = G at *
        clear HF1
        go_wp2
        go_roundw
        case rel =>
          refine ⟨k + 1, by omega, by go_num, fun j hj => ?_, by (repeat (first | assumption | exact Bel.refl _ | apply Bel.drewN | apply Bel.drew | apply Bel.alloc | refine Bel.trans ?_ (by assumption)))⟩
          by_cases e : j < k
          · exact HA.out j e
          · obtain rfl : j = k := by omega
            rw [HX.out]; exact HF.out
        case measure => simp [intOf]; omega
      have HF := Lib.hid (show barsB p done a X = !hasB X.1 done from by rw [HF1.out, decide_eq_true h2]; rfl)
      clear HF1
      generalize fullGapV p X = G at *
      go_wp2_with fail
      refine (sSetHas_any _ done _ V _ (intsR_good.bel HD.out (by (repeat (first | assumption | exact Bel.refl _ | apply Bel.drewN | apply Bel.drew | apply Bel.alloc | refine Bel.trans ?_ (by assumption)))) HV.out)).mono ?_
      rintro e w2 ⟨rfl, hw2⟩
      have G2 : Bel W0 w2 := by first | exact G1.trans hw2 | (subst hw2; exact G1)
      cases hh : hasB X.1 done
      · have HR := Lib.hid (show readyB p done a = false from by
          unfold readyB
          rw [any_hit (c := fun j => barsB p done a (p.2.2.1.getD j zLink)) HLT.out (by rw [HX.out, HF.out, hh]; rfl)]
          rfl)
        clear hh
        go_wp2
        go_ret
        exact ⟨ret_bool HR.out.symm, by (repeat (first | assumption | exact Bel.refl _ | apply Bel.drewN | apply Bel.drew | apply Bel.alloc | refine Bel.trans ?_ (by assumption)))⟩
      · have HFF := Lib.hid (show barsB p done a X = false from by rw [HF.out, hh]; rfl)
        clear hh
        go_wp2
        go_roundw
        case rel =>
          refine ⟨k + 1, by omega, by go_num, fun j hj => ?_, by (repeat (first | assumption | exact Bel.refl _ | apply Bel.drewN | apply Bel.drew | apply Bel.alloc | refine Bel.trans ?_ (by assumption)))⟩
          by_cases e : j < k
          · exact HA.out j e
          · obtain rfl : j = k := by omega
            rw [HX.out]; exact HFF.out
        case measure => simp [intOf]; omega
    · have HR := Lib.hid (show readyB p done a = true from by
        unfold readyB
        rw [any_miss fun j hj => HA.out j (by omega)]
        rfl)
      go_wp2
      go_ret
      exact ⟨ret_bool HR.out.symm, by (repeat (first | assumption | exact Bel.refl _ | apply Bel.drewN | apply Bel.drew | apply Bel.alloc | refine Bel.trans ?_ (by assumption)))⟩

set_option maxHeartbeats 1000000 in
theorem sTopologicalOrder_any (v : Value) (p : ProjT) (S : Nat → Prop) (w : World) (hx : aggR projR S w v p) (hS : ∀ b, S b → b < w.heap.size) (_hn : bulkProject p ≤ 1048576) :
    Calls Try.prog 31 #[v] w (FreshP intsR w (topoV p) (topoB p)) := by
  obtain ⟨cs, rfl, hx⟩ := hx
  obtain ⟨c1, c2, c3, c4, rfl, q0, q1, q2, q3, q4⟩ := projR_open hx
  have Q1 := Lib.hid q1
  have Q2 := Lib.hid q2
  have Q3 := Lib.hid q3
  have Q4 := Lib.hid q4
  have HP := Lib.hid hx
  obtain ⟨p1, k1, rfl, l1, l1', -⟩ := sliceR_open q1
  obtain ⟨p2, k2, rfl, l2, l2', -⟩ := sliceR_open q2
  obtain ⟨p3, k3, rfl, l3, l3', -⟩ := sliceR_open q3
  obtain ⟨p4, k4, rfl, l4, l4', -⟩ := sliceR_open q4
  unfold maxLen at l1' l2' l3' l4'
  clear hx q0 q1 q2 q3 q4
  have HS := Lib.hid hS
  clear hS _hn
  have HP1 := Lib.hid (show ∀ W, Bel w W → aggR projR S W (.agg #[.int .i64 p.1, .slice p1 p.2.1.length k1, .slice p2 p.2.2.1.length k2, .slice p3 p.2.2.2.1.length k3, .slice p4 p.2.2.2.2.length k4]) p from fun W hW => aggR_mk (projR_good.bel HP.out hW HS.out))
  show Calls Try.prog 31 #[.agg #[.int .i64 p.1, .slice p1 p.2.1.length k1, .slice p2 p.2.2.1.length k2, .slice p3 p.2.2.2.1.length k3, .slice p4 p.2.2.2.2.length k4]] w _
  go_enter Try.func31, Try.ntmps31
  obtain ⟨W0, hW0, hwW, hsz0, hbx⟩ : ∃ W0, W0 = w.alloc (.cells #[.int .i64 p.1, .slice p1 p.2.1.length k1, .slice p2 p.2.2.1.length k2, .slice p3 p.2.2.2.1.length k3, .slice p4 p.2.2.2.2.length k4] 37) ∧ Bel w W0 ∧ W0.heap.size = w.heap.size + 1 ∧ W0.cell? ⟨w.heap.size, 0, none⟩ = some (.int .i64 p.1) ∧ W0.cell? ⟨w.heap.size, 1, none⟩ = some (.slice p1 p.2.1.length k1) ∧ W0.cell? ⟨w.heap.size, 2, none⟩ = some (.slice p2 p.2.2.1.length k2) ∧ W0.cell? ⟨w.heap.size, 3, none⟩ = some (.slice p3 p.2.2.2.1.length k3) ∧ W0.cell? ⟨w.heap.size, 4, none⟩ = some (.slice p4 p.2.2.2.2.length k4) := ⟨_, rfl, by (repeat (first | assumption | exact Bel.refl _ | apply Bel.drewN | apply Bel.drew | apply Bel.alloc | refine Bel.trans ?_ (by assumption))), by simp, by simp [go_sem], by simp [go_sem], by simp [go_sem], by simp [go_sem], by simp [go_sem]⟩
  have HBX := Lib.hid (show ∀ W, Bel W0 W → W.cell? ⟨w.heap.size, 0, none⟩ = some (.int .i64 p.1) ∧ W.cell? ⟨w.heap.size, 1, none⟩ = some (.slice p1 p.2.1.length k1) ∧ W.cell? ⟨w.heap.size, 2, none⟩ = some (.slice p2 p.2.2.1.length k2) ∧ W.cell? ⟨w.heap.size, 3, none⟩ = some (.slice p3 p.2.2.2.1.length k3) ∧ W.cell? ⟨w.heap.size, 4, none⟩ = some (.slice p4 p.2.2.2.2.length k4) from fun W hW => keep5 hbx hW)
  clear hbx
  have hB0 : W0.heap.size ≤ w.heap.size + 1 := by omega
  go_wp2_with fail
  rw [← hW0]
  clear hW0
  refine (sProjectOk_any _ p S _ (HP1.out _ (by (repeat (first | assumption | exact Bel.refl _ | apply Bel.drewN | apply Bel.drew | apply Bel.alloc | refine Bel.trans ?_ (by assumption))))) (fun b hb => Nat.lt_of_lt_of_le (HS.out b hb) (Bel.size (by (repeat (first | assumption | exact Bel.refl _ | apply Bel.drewN | apply Bel.drew | apply Bel.alloc | refine Bel.trans ?_ (by assumption))))))).mono ?_
  rintro e w1 ⟨rfl, g1⟩
  have HO1 : Own (fun _ => False) 1 intR 3 (w.heap.size + 1) w1 (some ⟨w.heap.size + 1, 0, none⟩) 0 [] := (Own.empty (alloc_at (by omega)) (Nat.le_refl _)).bel intR_good g1
  have G1 : Bel W0 w1 := by (repeat (first | assumption | exact Bel.refl _ | apply Bel.drewN | apply Bel.drew | apply Bel.alloc | refine Bel.trans ?_ (by assumption)))
  cases hp : projOk p
  · have HV := Lib.hid (topo_no hp).2
    have HTB := Lib.hid (topo_no hp).1
    clear hp
    go_wp2
    go_ret2
    exact ⟨.slice none 0 0, by rw [HTB.out]; rfl, by rw [HV.out]; exact ⟨none, 0, rfl, Nat.le_refl _, Nat.zero_le _, fun i hi => absurd hi (Nat.not_lt_zero _)⟩, by (repeat (first | assumption | exact Bel.refl _ | apply Bel.drewN | apply Bel.drew | apply Bel.alloc | refine Bel.trans ?_ (by assumption)))⟩
  have HPO := Lib.hid hp; clear hp
  have hpl := (projOk_bd HPO.out).2.1
  obtain ⟨b0, b1, b2, b3, b4⟩ := HBX.out w1 G1
  go_wp2_with fail
  clear b0 b1 b2 b3 b4
  go_loopw [4, 13] (fun o i wr => ∃ (k : Nat) (ys : List Int) (q : Option Addr) (cap : Nat), k ≤ p.2.1.length ∧ i = .int .i64 k ∧ o = .slice q ys.length cap ∧ ys = topoR p k ∧ Own (fun _ => False) 1 intR 3 (w.heap.size + 1) wr q cap ys ∧ Bel W0 wr) (fun _ i _ => p.2.1.length - (intOf i).toNat)
  case atStart => exact ⟨0, [], _, _, Nat.zero_le _, rfl, rfl, rfl, HO1, G1⟩
  case round =>
    obtain ⟨k, ys, q, cap, hk, rfl, rfl, hys, hO, hB⟩ := hrel
    obtain ⟨wo, hwo⟩ : ∃ W, W = wr := ⟨wr, rfl⟩
    subst hwo
    have hyl : ys.length ≤ k := by rw [hys]; exact topoR_le p k
    have HY := Lib.hid hys; clear hys
    have hszr := hB.size
    obtain ⟨b0, b1, b2, b3, b4⟩ := HBX.out wo hB
    by_cases hlt : k < p.2.1.length
    · go_wp2_with fail
      clear b0 b1 b2 b3 b4
      go_loopw [4, 18] (fun o2 i2 wr => ∃ (a : Nat), a ≤ p.2.1.length ∧ i2 = .int .i64 a ∧ o2 = .slice q ys.length cap ∧ (∀ j, j < a → freeB p ys j = false) ∧ Bel wo wr) (fun _ i2 _ => p.2.1.length - (intOf i2).toNat)
      case atStart => exact ⟨0, Nat.zero_le _, rfl, rfl, fun j hj => by omega, Bel.refl _⟩
      case round =>
        obtain ⟨a, ha, rfl, rfl, hall, hB2⟩ := hrel
        have HA := Lib.hid hall; clear hall
        have hO2 := hO.bel intR_good hB2
        have hBw : Bel W0 wr := hB.trans hB2
        have hBww : Bel w wr := hwW.trans hBw
        have hsz2 := hBw.size
        by_cases hal : a < p.2.1.length
        · have HD := Lib.hid (hO2.done (T := New w wr) intR_good (fun b h _ => h.elim) (fun b h1 h2 => ⟨by omega, h2⟩))
          obtain ⟨b0, b1, b2, b3, b4⟩ := HBX.out _ hBw
          go_wp2_with fail
          refine (sSetHas_any _ ys _ (New w wr) _ HD.out).mono ?_
          rintro e w2 ⟨rfl, hw2⟩
          first | subst hw2 | skip
          cases hh : hasB (a : Int) ys
          rotate_left
          · have HF := Lib.hid (show freeB p ys a = false from by unfold freeB; rw [hh]; rfl)
            clear hh
            go_wp2
            go_roundw
            case rel =>
              refine ⟨a + 1, by omega, by go_num, rfl, fun j hj => ?_, by (repeat (first | assumption | exact Bel.refl _ | apply Bel.drewN | apply Bel.drew | apply Bel.alloc | refine Bel.trans ?_ (by assumption)))⟩
              by_cases e : j < a
              · exact HA.out j e
              · obtain rfl : j = a := by omega
                exact HF.out
            case measure => simp [intOf]; omega
          have HFR := Lib.hid (show freeB p ys a = readyB p ys (a : Int) from by unfold freeB; rw [hh]; rfl)
          clear hh
          go_wp2_with fail
          refine (l07Ready_any _ p S _ ys (New w wr) (a : Int) _ (HP1.out _ (by (repeat (first | assumption | exact Bel.refl _ | apply Bel.drewN | apply Bel.drew | apply Bel.alloc | refine Bel.trans ?_ (by assumption))))) (fun b hb => Nat.lt_of_lt_of_le (HS.out b hb) (Bel.size (by (repeat (first | assumption | exact Bel.refl _ | apply Bel.drewN | apply Bel.drew | apply Bel.alloc | refine Bel.trans ?_ (by assumption)))))) HPO.out HD.out (fun b hb => hb.2)).mono ?_
          rintro e w3 ⟨rfl, g3⟩
          cases hr : readyB p ys (a : Int)
          · have HF := Lib.hid (show freeB p ys a = false from by rw [HFR.out, hr])
            clear hr
            go_wp2
            go_roundw
            case rel =>
              refine ⟨a + 1, by omega, by go_num, rfl, fun j hj => ?_, by (repeat (first | assumption | exact Bel.refl _ | apply Bel.drewN | apply Bel.drew | apply Bel.alloc | refine Bel.trans ?_ (by assumption)))⟩
              by_cases e : j < a
              · exact HA.out j e
              · obtain rfl : j = a := by omega
                exact HF.out
            case measure => simp [intOf]; omega
          · have HN := Lib.hid (show topoR p (k + 1) = ys ++ [(a : Int)] from by rw [HY.out]; exact topoR_yes (idxV_hit hal (by rw [← HY.out, HFR.out, hr]) (by rw [← HY.out]; exact HA.out)))
            clear hr
            have hsz3 := g3.size
            go_wp2_with (at_builtin; refine wpList_app (n := 1) intR_good _ rfl _ _ 25 rfl (.int .i64 0) 8 Try.underlying25 (by kernel_rfl) rfl (by decide) (by decide) q cap ys ((a : Int)) rfl (hO2.bel intR_good (by (repeat (first | assumption | exact Bel.refl _ | apply Bel.drewN | apply Bel.drew | apply Bel.alloc | refine Bel.trans ?_ (by assumption))))) _ 1 [.int .i64 (a : Int)] rfl rfl (World.news_of_block (alloc_at (by simp))) (by intro u hu; simp at hu; subst hu; rfl) (intRep (by unfold I64; omega)) (by omega) (by first | omega | (simp; omega)) ?_; intro q' cap' w' hO' hBW hsz')
            have HB := hBW W0 (by (repeat (first | assumption | exact Bel.refl _ | apply Bel.drewN | apply Bel.drew | apply Bel.alloc | refine Bel.trans ?_ (by assumption)))) hB0
            clear hBW hsz'
            go_wp2
            go_roundw
            case rel => exact ⟨k + 1, ys ++ [(a : Int)], q', cap', by omega, by go_num, by simp, HN.out.symm, hO', HB⟩
            case measure => simp [intOf]; omega
        · have HN := Lib.hid (show topoR p (k + 1) = ys from by rw [HY.out]; exact topoR_no (idxV_miss fun j hj => by rw [← HY.out]; exact HA.out j (by omega)))
          go_wp2
          go_roundw
          case rel => exact ⟨k + 1, ys, q, cap, by omega, by go_num, rfl, HN.out.symm, hO2, hBw⟩
          case measure => simp [intOf]; omega
    · have hkn : k = p.2.1.length := by omega
      have HYF := Lib.hid (show ys = topoR p p.2.1.length from by rw [HY.out, hkn])
      have HD := Lib.hid (hO.done (T := New w wo) intR_good (fun b h _ => h.elim) (fun b h1 h2 => ⟨by omega, h2⟩))
      clear hkn
      by_cases hfull : ys.length = p.2.1.length
      · have HT := Lib.hid (topo_full HPO.out (by rw [← HYF.out]; exact hfull))
        have z1 : ((ys.length : Int) != (p.2.1.length : Int)) = false := by simp [hfull]
        clear hfull
        go_wp2
        go_ret2
        exact ⟨.slice q ys.length cap, by rw [HT.out.1]; rfl, by rw [HT.out.2, ← HYF.out]; exact HD.out, by (repeat (first | assumption | exact Bel.refl _ | apply Bel.drewN | apply Bel.drew | apply Bel.alloc | refine Bel.trans ?_ (by assumption)))⟩
      · have HT := Lib.hid (topo_short (p := p) (by rw [← HYF.out]; exact hfull))
        have z1 : ((ys.length : Int) != (p.2.1.length : Int)) = true := by simpa using (by omega : ¬ (ys.length : Int) = (p.2.1.length : Int))
        clear hfull
        go_wp2
        go_ret2
        exact ⟨.slice none 0 0, by rw [HT.out.1]; rfl, by rw [HT.out.2]; exact ⟨none, 0, rfl, Nat.le_refl _, Nat.zero_le _, fun i hi => absurd hi (Nat.not_lt_zero _)⟩, by (repeat (first | assumption | exact Bel.refl _ | apply Bel.drewN | apply Bel.drew | apply Bel.alloc | refine Bel.trans ?_ (by assumption)))⟩

end Go.Proofs.Ytclmffknggmlnaa
