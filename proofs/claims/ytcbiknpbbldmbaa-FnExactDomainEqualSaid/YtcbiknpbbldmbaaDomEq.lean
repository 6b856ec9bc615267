/- Contracts of DomainEqual. -/
import Derived.Test.YtcbiknpbbldmbaaSeq
import Derived.Test.YtcbiknpbbldmbaaHas
namespace Go.Proofs.Ytcbiknpbbldmbaa
open Go.ChangeShapes Go.WideShapes Go.ChangeAt Go.RowKit
set_option linter.unusedVariables false

set_option maxHeartbeats 400000 in
theorem equalRows_any (v v' : Value) (xs ys : List (List Int)) (S S' : Nat → Prop) (w : World) (hx : rowsR S w [v] xs) (hy : rowsR S' w [v'] ys) (hS : ∀ b, S b → b < w.heap.size) (hS' : ∀ b, S' b → b < w.heap.size) :
    Calls Try.prog 77 #[v, v', .func (.func 76) #[] #[]] w fun e w' => e = .returned (.bool (decide (xs = ys))) ∧ Bel w w' := by
  obtain ⟨p, cap, rfl, h1, h2, h3⟩ := sliceR_open hx
  obtain ⟨p', cap', rfl, h1', h2', h3'⟩ := sliceR_open hy
  unfold maxLen at h2 h2'
  have HS := Lib.hid hS
  have HS' := Lib.hid hS'
  clear hx hy hS hS'
  by_cases hE : xs.length = ys.length
  · have HE := Lib.hid hE
    have hne : (((xs.length : Nat) : Int) != ((ys.length : Nat) : Int)) = false := by simp [hE]
    clear hE
    go_enter Try.func77, Try.ntmps77
    go_wp2_with fail
    go_loopw [17] (fun i wr => ∃ k : Nat, k ≤ xs.length ∧ i = .int .i64 k ∧ Bel w wr ∧ (∀ j, j < k → xs[j]? = ys[j]?)) (fun i _ => xs.length - (intOf i).toNat)
    case atStart => exact ⟨0, Nat.zero_le _, rfl, by (repeat (first | exact Bel.refl _ | apply Bel.drewN | apply Bel.drew | apply Bel.alloc | refine Bel.trans ?_ (by assumption))), (fun j hj => by omega)⟩
    case round =>
      obtain ⟨k, hk, rfl, hB, hall⟩ := hrel
      have HA := Lib.hid hall; clear hall
      by_cases hlt : k < xs.length
      · have hlt' : k < ys.length := by rw [← HE.out]; exact hlt
        obtain ⟨b, off, ecs, rfl, hSb, hlen, hrow, hel⟩ := h3 k hlt
        obtain ⟨b', off', ecs', rfl, hSb', hlen', hrow', hel'⟩ := h3' k hlt'
        have hel := intsR_good.bel hel hB HS.out
        have hel' := intsR_good.bel hel' hB HS'.out
        obtain ⟨c0, rfl⟩ : ∃ c0, ecs = [c0] := by obtain ⟨p0, cap0, e0, _⟩ := hel; exact ⟨_, e0⟩
        obtain ⟨e0, rfl⟩ : ∃ c0, ecs' = [c0] := by obtain ⟨p0, cap0, e0, _⟩ := hel'; exact ⟨_, e0⟩
        have d0 := hB.cell (hrow 0 (by simp)).1
        simp only [List.getElem_cons_zero, Nat.mul_one, Nat.add_zero] at d0
        have f0 := hB.cell (hrow' 0 (by simp)).1
        simp only [List.getElem_cons_zero, Nat.mul_one, Nat.add_zero] at f0
        generalize hkx : xs[k] = X at *
        generalize hky : ys[k] = Y at *
        have HKX := Lib.hid hkx; clear hkx
        have HKY := Lib.hid hky; clear hky
        have HEL := Lib.hid hel; have HEL' := Lib.hid hel'
        clear hlen hlen' hrow hrow' h3 h3' hel hel'
        have hi1 : (k : Int) < (ys.length : Int) := by omega
        go_wp2_with fail
        refine (equalInts_any _ _ X Y _ _ _ HEL.out HEL'.out).mono ?_
        rintro e w1 ⟨rfl, g1⟩
        have G : Bel w w1 := by (repeat (first | exact Bel.refl _ | apply Bel.drewN | apply Bel.drew | apply Bel.alloc | refine Bel.trans ?_ (by assumption)))
        clear g1 hB
        by_cases hXY : X = Y
        · rw [decide_eq_true hXY]
          have HQ := Lib.hid hXY; clear hXY
          go_wp2
          go_roundw
          case rel =>
            refine ⟨k + 1, by omega, by go_num, G, fun j hj => ?_⟩
            by_cases e : j < k
            · exact HA.out j e
            · obtain rfl : j = k := by omega
              rw [List.getElem?_eq_getElem hlt, List.getElem?_eq_getElem hlt', HKX.out, HKY.out, HQ.out]
          case measure => simp [intOf]; omega
        · rw [decide_eq_false hXY]
          have HQ := Lib.hid hXY; clear hXY
          go_wp2
          go_ret
          refine ⟨ret_bool ?_, G⟩
          symm
          rw [decide_eq_false_iff_not]
          intro h
          subst h
          exact HQ.out (by rw [← HKX.out, ← HKY.out])
      · go_wp2
        go_ret
        refine ⟨ret_bool ?_, hB⟩
        symm
        rw [decide_eq_true_eq]
        refine List.ext_getElem? fun j => ?_
        by_cases e : j < k
        · exact HA.out j e
        · have h1 : xs.length ≤ j := by omega
          rw [List.getElem?_eq_none h1, List.getElem?_eq_none (by rw [← HE.out]; exact h1)]
  · have hne : (((xs.length : Nat) : Int) != ((ys.length : Nat) : Int)) = true := by simp; omega
    have HE := Lib.hid hE; clear hE
    go_enter Try.func77, Try.ntmps77
    go_wp2
    go_ret
    refine ⟨ret_bool ?_, Bel.refl _⟩
    symm
    rw [decide_eq_false_iff_not]
    intro h
    exact HE.out (by rw [h])

theorem iDomainEqual_any (v0 : Value) (x0 : DomT) (S0 : Nat → Prop) (v1 : Value) (x1 : DomT) (S1 : Nat → Prop) (w : World) (h0 : aggR domR S0 w v0 x0) (hS0 : ∀ b, S0 b → b < w.heap.size) (_hn0 : bulkDomain x0 ≤ 1048576) (h1 : aggR domR S1 w v1 x1) (hS1 : ∀ b, S1 b → b < w.heap.size) (_hn1 : bulkDomain x1 ≤ 1048576) :
    Calls Try.prog 36 #[v0, v1] w fun e w' => e = .returned (.bool (decide (x0 = x1))) ∧ Bel w w' := by
  obtain ⟨cs, rfl, h0⟩ := h0
  obtain ⟨cs', rfl, h1⟩ := h1
  obtain ⟨c0, c1, c2, rfl, q0, q1, q2⟩ := domR_open h0
  obtain ⟨d0, d1, d2, rfl, p0, p1, p2⟩ := domR_open h1
  clear h0 h1 _hn0 _hn1
  have HS := Lib.hid hS0
  have HS' := Lib.hid hS1
  clear hS0 hS1
  show Calls Try.prog 36 #[.agg #[c0, c1, c2], .agg #[d0, d1, d2]] w _
  go_enter Try.func36, Try.ntmps36
  go_wp2_with fail
  refine (equalInts_any _ _ x0.1 x1.1 _ _ _ (intsR_good.bel q0 (by (repeat (first | exact Bel.refl _ | apply Bel.drew | apply Bel.alloc | refine Bel.trans ?_ (by assumption)))) HS.out) (intsR_good.bel p0 (by (repeat (first | exact Bel.refl _ | apply Bel.drew | apply Bel.alloc | refine Bel.trans ?_ (by assumption)))) HS'.out)).mono ?_
  rintro e w1 ⟨rfl, g⟩
  have G1 : Bel w w1 := by (repeat (first | exact Bel.refl _ | apply Bel.drew | apply Bel.alloc | refine Bel.trans ?_ (by assumption)))
  obtain ⟨hc1, hf1⟩ := g.rules
  have hz1 : w.heap.size + 1 < w1.heap.size := by have := g.size; simp only [World.size_alloc] at this; omega
  have hy1 : w.heap.size < w1.heap.size := by omega
  clear g
  by_cases c0e : x0.1 = x1.1
  · rw [decide_eq_true c0e]
    have C0 := Lib.hid c0e; clear c0e
    go_wp2_with fail
    refine (equalInts_any _ _ x0.2.1 x1.2.1 _ _ _ (intsR_good.bel q1 (by (repeat (first | exact Bel.refl _ | apply Bel.drew | apply Bel.alloc | refine Bel.trans ?_ (by assumption)))) HS.out) (intsR_good.bel p1 (by (repeat (first | exact Bel.refl _ | apply Bel.drew | apply Bel.alloc | refine Bel.trans ?_ (by assumption)))) HS'.out)).mono ?_
    rintro e w2 ⟨rfl, g⟩
    have G2 : Bel w w2 := by (repeat (first | exact Bel.refl _ | apply Bel.drew | apply Bel.alloc | refine Bel.trans ?_ (by assumption)))
    obtain ⟨hc2, hf2⟩ := g.rules
    have hz2 : w.heap.size + 1 < w2.heap.size := by have := g.size; omega
    have hy2 : w.heap.size < w2.heap.size := by omega
    clear g
    by_cases c1e : x0.2.1 = x1.2.1
    · rw [decide_eq_true c1e]
      have C1 := Lib.hid c1e; clear c1e
      go_wp2_with fail
      refine (equalRows_any _ _ x0.2.2 x1.2.2 _ _ _ (rowsR_good.bel q2 (by (repeat (first | exact Bel.refl _ | apply Bel.drew | apply Bel.alloc | refine Bel.trans ?_ (by assumption)))) HS.out) (rowsR_good.bel p2 (by (repeat (first | exact Bel.refl _ | apply Bel.drew | apply Bel.alloc | refine Bel.trans ?_ (by assumption)))) HS'.out) (fun b hb => Nat.lt_of_lt_of_le (HS.out b hb) (Bel.size (by (repeat (first | exact Bel.refl _ | apply Bel.drew | apply Bel.alloc | refine Bel.trans ?_ (by assumption)))))) (fun b hb => Nat.lt_of_lt_of_le (HS'.out b hb) (Bel.size (by (repeat (first | exact Bel.refl _ | apply Bel.drew | apply Bel.alloc | refine Bel.trans ?_ (by assumption))))))).mono ?_
      rintro e w3 ⟨rfl, g⟩
      go_wp2
      go_ret
      refine ⟨ret_bool ?_, by (repeat (first | exact Bel.refl _ | apply Bel.drew | apply Bel.alloc | refine Bel.trans ?_ (by assumption)))⟩
      by_cases c2e : x0.2.2 = x1.2.2
      · rw [decide_eq_true c2e, decide_eq_true (Prod.ext C0.out (Prod.ext C1.out c2e))]
      · rw [decide_eq_false c2e, decide_eq_false fun h => c2e (by rw [h])]
    · rw [decide_eq_false c1e]
      have C1 := Lib.hid c1e; clear c1e
      go_wp2
      go_ret
      exact ⟨ret_bool (decide_eq_false fun h => C1.out (by rw [h])).symm, by (repeat (first | exact Bel.refl _ | apply Bel.drew | apply Bel.alloc | refine Bel.trans ?_ (by assumption)))⟩
  · rw [decide_eq_false c0e]
    have C0 := Lib.hid c0e; clear c0e
    go_wp2
    go_ret
    exact ⟨ret_bool (decide_eq_false fun h => C0.out (by rw [h])).symm, by (repeat (first | exact Bel.refl _ | apply Bel.drew | apply Bel.alloc | refine Bel.trans ?_ (by assumption)))⟩

set_option maxHeartbeats 800000 in
theorem sDomainEqual_any (v0 : Value) (x0 : DomT) (S0 : Nat → Prop) (v1 : Value) (x1 : DomT) (S1 : Nat → Prop) (w : World) (h0 : aggR domR S0 w v0 x0) (hS0 : ∀ b, S0 b → b < w.heap.size) (_hn0 : bulkDomain x0 ≤ 1048576) (h1 : aggR domR S1 w v1 x1) (hS1 : ∀ b, S1 b → b < w.heap.size) (_hn1 : bulkDomain x1 ≤ 1048576) :
    Calls Try.prog 35 #[v0, v1] w fun e w' => e = .returned (.bool (decide (x0 = x1))) ∧ Bel w w' := by
  obtain ⟨cs, rfl, h0⟩ := h0
  obtain ⟨cs', rfl, h1⟩ := h1
  obtain ⟨c0, c1, c2, rfl, q0, q1, q2⟩ := domR_open h0
  obtain ⟨d0, d1, d2, rfl, p0, p1, p2⟩ := domR_open h1
  clear h0 h1 _hn0 _hn1
  have HS := Lib.hid hS0
  have HS' := Lib.hid hS1
  clear hS0 hS1
  obtain ⟨xa, xb, xs⟩ := x0
  obtain ⟨ya, yb, ys⟩ := x1
  simp only at q0 q1 q2 p0 p1 p2
  obtain ⟨p, cap, rfl, h1, h2, h3⟩ := sliceR_open q2
  obtain ⟨p', cap', rfl, h1', h2', h3'⟩ := sliceR_open p2
  unfold maxLen at h2 h2'
  clear q2 p2
  show Calls Try.prog 35 #[.agg #[c0, c1, .slice p xs.length cap], .agg #[d0, d1, .slice p' ys.length cap']] w _
  go_enter Try.func35, Try.ntmps35
  go_wp2_with fail
  refine (sSetEqual_any _ _ xa ya _ _ _ (intsR_good.bel q0 (by (repeat (first | exact Bel.refl _ | apply Bel.drew | apply Bel.alloc | refine Bel.trans ?_ (by assumption)))) HS.out) (intsR_good.bel p0 (by (repeat (first | exact Bel.refl _ | apply Bel.drew | apply Bel.alloc | refine Bel.trans ?_ (by assumption)))) HS'.out)).mono ?_
  rintro e w1 ⟨rfl, g⟩
  have G1 : Bel w w1 := by (repeat (first | exact Bel.refl _ | apply Bel.drew | apply Bel.alloc | refine Bel.trans ?_ (by assumption)))
  obtain ⟨hc1, hf1⟩ := g.rules
  have hz1 : w.heap.size + 1 < w1.heap.size := by have := g.size; simp only [World.size_alloc] at this; omega
  have hy1 : w.heap.size < w1.heap.size := by omega
  clear g
  by_cases c0e : xa = ya
  · rw [decide_eq_true c0e]
    have C0 := Lib.hid c0e; clear c0e
    go_wp2_with fail
    refine (sSetEqual_any _ _ xb yb _ _ _ (intsR_good.bel q1 (by (repeat (first | exact Bel.refl _ | apply Bel.drew | apply Bel.alloc | refine Bel.trans ?_ (by assumption)))) HS.out) (intsR_good.bel p1 (by (repeat (first | exact Bel.refl _ | apply Bel.drew | apply Bel.alloc | refine Bel.trans ?_ (by assumption)))) HS'.out)).mono ?_
    rintro e w2 ⟨rfl, g⟩
    have G2 : Bel w w2 := by (repeat (first | exact Bel.refl _ | apply Bel.drew | apply Bel.alloc | refine Bel.trans ?_ (by assumption)))
    obtain ⟨hc2, hf2⟩ := g.rules
    have hz2 : w.heap.size + 1 < w2.heap.size := by have := g.size; omega
    have hy2 : w.heap.size < w2.heap.size := by omega
    clear g
    by_cases c1e : xb = yb
    · rw [decide_eq_true c1e]
      have C1 := Lib.hid c1e; clear c1e
      by_cases hE : xs.length = ys.length
      · have HE := Lib.hid hE
        have hne : (((xs.length : Nat) : Int) != ((ys.length : Nat) : Int)) = false := by simp [hE]
        have HD := Lib.hid (show decide (xs = ys) = decide ((xa, xb, xs) = (ya, yb, ys)) from by rw [C0.out, C1.out]; simp)
        clear hE
        go_wp2_with fail
        go_loopw [33] (fun i wr => ∃ k : Nat, k ≤ xs.length ∧ i = .int .i64 k ∧ Bel w wr ∧ (∀ j, j < k → xs[j]? = ys[j]?) ∧ wr.cell? ⟨w.heap.size + 1, 2, none⟩ = some (.slice p' ys.length cap')) (fun i _ => xs.length - (intOf i).toNat)
        case atStart => exact ⟨0, Nat.zero_le _, rfl, by (repeat (first | exact Bel.refl _ | apply Bel.drewN | apply Bel.drew | apply Bel.alloc | refine Bel.trans ?_ (by assumption))), (fun j hj => by omega), by simp [hc2, hc1, hz1, go_sem]⟩
        case round =>
          obtain ⟨k, hk, rfl, hB, hall, bc⟩ := hrel
          have HA := Lib.hid hall; clear hall
          by_cases hlt : k < xs.length
          · have hlt' : k < ys.length := by rw [← HE.out]; exact hlt
            obtain ⟨b, off, ecs, rfl, hSb, hlen, hrow, hel⟩ := h3 k hlt
            obtain ⟨b', off', ecs', rfl, hSb', hlen', hrow', hel'⟩ := h3' k hlt'
            have hel := intsR_good.bel hel hB HS.out
            have hel' := intsR_good.bel hel' hB HS'.out
            obtain ⟨c0, rfl⟩ : ∃ c0, ecs = [c0] := by obtain ⟨p0, cap0, e0, _⟩ := hel; exact ⟨_, e0⟩
            obtain ⟨e0, rfl⟩ : ∃ c0, ecs' = [c0] := by obtain ⟨p0, cap0, e0, _⟩ := hel'; exact ⟨_, e0⟩
            have d0 := hB.cell (hrow 0 (by simp)).1
            simp only [List.getElem_cons_zero, Nat.mul_one, Nat.add_zero] at d0
            have f0 := hB.cell (hrow' 0 (by simp)).1
            simp only [List.getElem_cons_zero, Nat.mul_one, Nat.add_zero] at f0
            generalize hkx : xs[k] = X at *
            generalize hky : ys[k] = Y at *
            have HKX := Lib.hid hkx; clear hkx
            have HKY := Lib.hid hky; clear hky
            have HEL := Lib.hid hel; have HEL' := Lib.hid hel'
            clear hlen hlen' hrow hrow' h3 h3' hel hel'
            have hi1 : (k : Int) < (ys.length : Int) := by omega
            go_wp2_with fail
            refine (sSetEqual_any _ _ X Y _ _ _ HEL.out HEL'.out).mono ?_
            rintro e wq ⟨rfl, g1⟩
            have G0 : Bel wr wq := g1
            have G : Bel w wq := by (repeat (first | exact Bel.refl _ | apply Bel.drewN | apply Bel.drew | apply Bel.alloc | refine Bel.trans ?_ (by assumption)))
            have bc1 := G0.cell bc
            clear g1 hB
            by_cases hXY : X = Y
            · rw [decide_eq_true hXY]
              have HQ := Lib.hid hXY; clear hXY
              go_wp2
              go_roundw
              case rel =>
                refine ⟨k + 1, by omega, by go_num, G, fun j hj => ?_, bc1⟩
                by_cases e : j < k
                · exact HA.out j e
                · obtain rfl : j = k := by omega
                  rw [List.getElem?_eq_getElem hlt, List.getElem?_eq_getElem hlt', HKX.out, HKY.out, HQ.out]
              case measure => simp [intOf]; omega
            · rw [decide_eq_false hXY]
              have HQ := Lib.hid hXY; clear hXY
              go_wp2
              go_ret
              refine ⟨ret_bool ?_, G⟩
              rw [← HD.out]
              symm
              rw [decide_eq_false_iff_not]
              intro h
              subst h
              exact HQ.out (by rw [← HKX.out, ← HKY.out])
          · go_wp2
            go_ret
            refine ⟨ret_bool ?_, hB⟩
            rw [← HD.out]
            symm
            rw [decide_eq_true_eq]
            refine List.ext_getElem? fun j => ?_
            by_cases e : j < k
            · exact HA.out j e
            · have h1 : xs.length ≤ j := by omega
              rw [List.getElem?_eq_none h1, List.getElem?_eq_none (by rw [← HE.out]; exact h1)]
      · have hne : (((xs.length : Nat) : Int) != ((ys.length : Nat) : Int)) = true := by simp; omega
        have HE := Lib.hid hE; clear hE
        go_wp2
        go_ret
        exact ⟨ret_bool (decide_eq_false fun h => HE.out (by cases h; rfl)).symm, by (repeat (first | exact Bel.refl _ | apply Bel.drew | apply Bel.alloc | refine Bel.trans ?_ (by assumption)))⟩
    · rw [decide_eq_false c1e]
      have C1 := Lib.hid c1e; clear c1e
      go_wp2
      go_ret
      exact ⟨ret_bool (decide_eq_false fun h => C1.out (by cases h; rfl)).symm, by (repeat (first | exact Bel.refl _ | apply Bel.drew | apply Bel.alloc | refine Bel.trans ?_ (by assumption)))⟩
  · rw [decide_eq_false c0e]
    have C0 := Lib.hid c0e; clear c0e
    go_wp2
    go_ret
    exact ⟨ret_bool (decide_eq_false fun h => C0.out (by cases h; rfl)).symm, by (repeat (first | exact Bel.refl _ | apply Bel.drew | apply Bel.alloc | refine Bel.trans ?_ (by assumption)))⟩

end Go.Proofs.Ytcbiknpbbldmbaa
