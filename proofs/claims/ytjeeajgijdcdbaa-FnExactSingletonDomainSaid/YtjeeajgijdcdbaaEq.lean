/- Contracts of eqT: two data are the same. -/
import Derived.Test.YtjeeajgijdcdbaaIn
import Derived.Test.YtjeeajgijdcdbaaShape
import Derived.Test.YtjeeajgijdcdbaaKeep
import Derived.Deep.RegionHeld3
import Derived.Laws.StructEq
namespace Go.Proofs.Ytjeeajgijdcdbaa
open Go.ChangeShapes Go.WideShapes Go.ChangeAt Go.RowKit
set_option linter.unusedVariables false

theorem toList_inj {x y : ByteArray} (h : x.toList = y.toList) : x = y := by
  rw [ByteArray.toList_eq, ByteArray.toList_eq] at h
  obtain ⟨⟨a⟩⟩ := x
  obtain ⟨⟨b⟩⟩ := y
  exact congrArg (fun l : List UInt8 => (⟨⟨l⟩⟩ : ByteArray)) h









set_option maxHeartbeats 400000 in
theorem eqIntS_rep (v v' : Value) (xs ys : List (Int)) (S S' : Nat → Prop) (w : World) (hx : intsR S w [v] xs) (hy : intsR S' w [v'] ys) (hS : ∀ b, S b → b < w.heap.size) (hS' : ∀ b, S' b → b < w.heap.size) :
    Calls Try.prog 16 #[v, v'] w fun e w' => e = .returned (.bool (decide (xs = ys))) ∧ Bel w w' := by
  obtain ⟨p, cap, rfl, h1, h2, h3⟩ := sliceR_open hx
  obtain ⟨p', cap', rfl, h1', h2', h3'⟩ := sliceR_open hy
  unfold maxLen at h2 h2'
  have HS := Lib.hid hS
  have HS' := Lib.hid hS'
  clear hx hy hS hS'
  by_cases hE : xs.length = ys.length
  · have HE := Lib.hid hE
    have hne : (((xs.length : Nat) : Int) != ((ys.length : Nat) : Int)) = false := by simp [hE]
    clear hE
    go_enter Try.func16, Try.ntmps16
    go_wp2_with fail
    go_loopw [5] (fun i wr => ∃ k : Nat, k ≤ xs.length ∧ i = .int .i64 k ∧ Bel w wr ∧ ∀ j, j < k → xs[j]? = ys[j]?) (fun i _ => xs.length - (intOf i).toNat)
    case atStart => exact ⟨0, Nat.zero_le _, rfl, Bel.refl _, fun j hj => by omega⟩
    case round =>
      obtain ⟨k, hk, rfl, hB, hall⟩ := hrel
      have HA := Lib.hid hall; clear hall
      by_cases hlt : k < xs.length
      · have hlt' : k < ys.length := by rw [← HE.out]; exact hlt
        obtain ⟨b, off, ecs, rfl, hSb, hlen, hrow, hel⟩ := h3 k hlt
        obtain ⟨b', off', ecs', rfl, hSb', hlen', hrow', hel'⟩ := h3' k hlt'
        have HSw := Lib.hid (show ∀ b, S b → b < wr.heap.size from fun b hb => Nat.lt_of_lt_of_le (HS.out b hb) hB.size)
        have HSw' := Lib.hid (show ∀ b, S' b → b < wr.heap.size from fun b hb => Nat.lt_of_lt_of_le (HS'.out b hb) hB.size)
        obtain ⟨rfl, _⟩ := hel
        obtain ⟨rfl, _⟩ := hel'
        have d0 := hB.cell (hrow 0 (by simp)).1
        simp only [List.getElem_cons_zero, Nat.mul_one, Nat.add_zero] at d0
        have f0 := hB.cell (hrow' 0 (by simp)).1
        simp only [List.getElem_cons_zero, Nat.mul_one, Nat.add_zero] at f0
        generalize hkx : xs[k] = X at *
        generalize hky : ys[k] = Y at *
        have HKX := Lib.hid hkx; clear hkx
        have HKY := Lib.hid hky; clear hky
        clear hlen hlen' hrow hrow' h3 h3'
        by_cases hXY : X = Y
        · have bne : (X != Y) = false := by simp [hXY]
          have HQ := Lib.hid hXY; clear hXY
          go_wp2_with fail
          go_quiet (fail)
          go_wp2
          go_roundw
          case rel =>
            refine ⟨k + 1, by omega, by go_num, hB.drewN _, fun j hj => ?_⟩
            by_cases e : j < k
            · exact HA.out j e
            · obtain rfl : j = k := by omega
              rw [List.getElem?_eq_getElem hlt, List.getElem?_eq_getElem hlt', HKX.out, HKY.out, HQ.out]
          case measure => simp [intOf]; omega
        · have bne : (X != Y) = true := by simp [hXY]
          have HQ := Lib.hid hXY; clear hXY
          go_wp2_with fail
          go_quiet (fail)
          go_wp2
          go_ret
          refine ⟨ret_bool ?_, hB.drewN _⟩
          symm
          rw [decide_eq_false_iff_not]
          intro h
          subst h
          exact HQ.out (by rw [← HKX.out, ← HKY.out])
      · go_wp2
        go_ret
        refine ⟨ret_bool ?_, hB⟩
        symm
        rw [decide_eq_true_eq]
        refine List.ext_getElem? fun j => ?_
        by_cases e : j < k
        · exact HA.out j e
        · have h1 : xs.length ≤ j := by omega
          rw [List.getElem?_eq_none h1, List.getElem?_eq_none (by rw [← HE.out]; exact h1)]
  · have hne : (((xs.length : Nat) : Int) != ((ys.length : Nat) : Int)) = true := by simp; omega
    have HE := Lib.hid hE; clear hE
    go_enter Try.func16, Try.ntmps16
    go_wp2
    go_ret
    refine ⟨ret_bool ?_, Bel.refl _⟩
    symm
    rw [decide_eq_false_iff_not]
    intro h
    exact HE.out (by rw [h])

set_option maxHeartbeats 400000 in
theorem eqIntSS_rep (v v' : Value) (xs ys : List (List Int)) (S S' : Nat → Prop) (w : World) (hx : rowsR S w [v] xs) (hy : rowsR S' w [v'] ys) (hS : ∀ b, S b → b < w.heap.size) (hS' : ∀ b, S' b → b < w.heap.size) :
    Calls Try.prog 17 #[v, v'] w fun e w' => e = .returned (.bool (decide (xs = ys))) ∧ Bel w w' := by
  obtain ⟨p, cap, rfl, h1, h2, h3⟩ := sliceR_open hx
  obtain ⟨p', cap', rfl, h1', h2', h3'⟩ := sliceR_open hy
  unfold maxLen at h2 h2'
  have HS := Lib.hid hS
  have HS' := Lib.hid hS'
  clear hx hy hS hS'
  by_cases hE : xs.length = ys.length
  · have HE := Lib.hid hE
    have hne : (((xs.length : Nat) : Int) != ((ys.length : Nat) : Int)) = false := by simp [hE]
    clear hE
    go_enter Try.func17, Try.ntmps17
    go_wp2_with fail
    go_loopw [5] (fun i wr => ∃ k : Nat, k ≤ xs.length ∧ i = .int .i64 k ∧ Bel w wr ∧ ∀ j, j < k → xs[j]? = ys[j]?) (fun i _ => xs.length - (intOf i).toNat)
    case atStart => exact ⟨0, Nat.zero_le _, rfl, Bel.refl _, fun j hj => by omega⟩
    case round =>
      obtain ⟨k, hk, rfl, hB, hall⟩ := hrel
      have HA := Lib.hid hall; clear hall
      by_cases hlt : k < xs.length
      · have hlt' : k < ys.length := by rw [← HE.out]; exact hlt
        obtain ⟨b, off, ecs, rfl, hSb, hlen, hrow, hel⟩ := h3 k hlt
        obtain ⟨b', off', ecs', rfl, hSb', hlen', hrow', hel'⟩ := h3' k hlt'
        have HSw := Lib.hid (show ∀ b, S b → b < wr.heap.size from fun b hb => Nat.lt_of_lt_of_le (HS.out b hb) hB.size)
        have HSw' := Lib.hid (show ∀ b, S' b → b < wr.heap.size from fun b hb => Nat.lt_of_lt_of_le (HS'.out b hb) hB.size)
        obtain ⟨c0, rfl⟩ : ∃ c0, ecs = [c0] := by obtain ⟨p0, cap0, e0, _⟩ := hel; exact ⟨_, e0⟩
        obtain ⟨e0, rfl⟩ : ∃ c0, ecs' = [c0] := by obtain ⟨p0, cap0, e0, _⟩ := hel'; exact ⟨_, e0⟩
        have d0 := hB.cell (hrow 0 (by simp)).1
        simp only [List.getElem_cons_zero, Nat.mul_one, Nat.add_zero] at d0
        have f0 := hB.cell (hrow' 0 (by simp)).1
        simp only [List.getElem_cons_zero, Nat.mul_one, Nat.add_zero] at f0
        generalize hkx : xs[k] = X at *
        generalize hky : ys[k] = Y at *
        have HKX := Lib.hid hkx; clear hkx
        have HKY := Lib.hid hky; clear hky
        clear hlen hlen' hrow hrow' h3 h3'
        go_wp2_with fail
        go_region_held3 (fun w' => w'.cell? ⟨b, off + k, none⟩ = some (c0) ∧ w'.cell? ⟨b', off' + k, none⟩ = some (e0)) (first | exact keep2 (by assumption) (by assumption) | go_keep)
          (first | (go_at_call 16; (with_reducible refine (eqIntS_rep _ _ X Y S S' _ (intsR_good.bel hel (by (repeat (first | exact Bel.refl _ | apply Bel.drew | apply Bel.alloc | refine Bel.trans ?_ (by assumption)))) HS.out) (intsR_good.bel hel' (by (repeat (first | exact Bel.refl _ | apply Bel.drew | apply Bel.alloc | refine Bel.trans ?_ (by assumption)))) HS'.out) (fun b hb => Nat.lt_of_lt_of_le (HSw.out b hb) (Bel.size (by (repeat (first | exact Bel.refl _ | apply Bel.drew | apply Bel.alloc | refine Bel.trans ?_ (by assumption)))))) (fun b hb => Nat.lt_of_lt_of_le (HSw'.out b hb) (Bel.size (by (repeat (first | exact Bel.refl _ | apply Bel.drew | apply Bel.alloc | refine Bel.trans ?_ (by assumption))))))).mono ?_); rintro e w1 ⟨rfl, g1⟩))
        have G : Bel w w1 := by (repeat (first | exact Bel.refl _ | apply Bel.drew | apply Bel.alloc | refine Bel.trans ?_ (by assumption)))
        clear g1 hB
        by_cases hXY : X = Y
        · rw [decide_eq_true hXY]
          have HQ := Lib.hid hXY; clear hXY
          go_wp2
          go_roundw
          case rel =>
            refine ⟨k + 1, by omega, by go_num, G, fun j hj => ?_⟩
            by_cases e : j < k
            · exact HA.out j e
            · obtain rfl : j = k := by omega
              rw [List.getElem?_eq_getElem hlt, List.getElem?_eq_getElem hlt', HKX.out, HKY.out, HQ.out]
          case measure => simp [intOf]; omega
        · rw [decide_eq_false hXY]
          have HQ := Lib.hid hXY; clear hXY
          go_wp2
          go_ret
          refine ⟨ret_bool ?_, G⟩
          symm
          rw [decide_eq_false_iff_not]
          intro h
          subst h
          exact HQ.out (by rw [← HKX.out, ← HKY.out])
      · go_wp2
        go_ret
        refine ⟨ret_bool ?_, hB⟩
        symm
        rw [decide_eq_true_eq]
        refine List.ext_getElem? fun j => ?_
        by_cases e : j < k
        · exact HA.out j e
        · have h1 : xs.length ≤ j := by omega
          rw [List.getElem?_eq_none h1, List.getElem?_eq_none (by rw [← HE.out]; exact h1)]
  · have hne : (((xs.length : Nat) : Int) != ((ys.length : Nat) : Int)) = true := by simp; omega
    have HE := Lib.hid hE; clear hE
    go_enter Try.func17, Try.ntmps17
    go_wp2
    go_ret
    refine ⟨ret_bool ?_, Bel.refl _⟩
    symm
    rw [decide_eq_false_iff_not]
    intro h
    exact HE.out (by rw [h])

theorem eqSchedule_rep (v v' : Value) (x y : SchT) (S S' : Nat → Prop) (w : World) (hx : aggR schR S w v x) (hy : aggR schR S' w v' y) (hS : ∀ b, S b → b < w.heap.size) (hS' : ∀ b, S' b → b < w.heap.size) :
    Calls Try.prog 9 #[v, v'] w fun e w' => e = .returned (.bool (decide (x = y))) ∧ Bel w w' := by
  obtain ⟨cs, rfl, hx⟩ := hx
  obtain ⟨cs', rfl, hy⟩ := hy
  obtain ⟨c0, c1, rfl, q0, q1⟩ := schR_open hx
  obtain ⟨d0, d1, rfl, p0, p1⟩ := schR_open hy
  clear hx hy
  have HS := Lib.hid hS
  have HS' := Lib.hid hS'
  clear hS hS'
  show Calls Try.prog 9 #[.agg #[c0, c1], .agg #[d0, d1]] w _
  go_enter Try.func9, Try.ntmps9
  go_wp2_with fail
  refine (eqIntS_rep _ _ x.1 y.1 S S' _ (intsR_good.bel q0 (by (repeat (first | exact Bel.refl _ | apply Bel.drew | apply Bel.alloc | refine Bel.trans ?_ (by assumption)))) HS.out) (intsR_good.bel p0 (by (repeat (first | exact Bel.refl _ | apply Bel.drew | apply Bel.alloc | refine Bel.trans ?_ (by assumption)))) HS'.out) (fun b hb => Nat.lt_of_lt_of_le (HS.out b hb) (Bel.size (by (repeat (first | exact Bel.refl _ | apply Bel.drew | apply Bel.alloc | refine Bel.trans ?_ (by assumption)))))) (fun b hb => Nat.lt_of_lt_of_le (HS'.out b hb) (Bel.size (by (repeat (first | exact Bel.refl _ | apply Bel.drew | apply Bel.alloc | refine Bel.trans ?_ (by assumption))))))).mono ?_
  rintro e w1 ⟨rfl, g⟩
  have G1 : Bel w w1 := by (repeat (first | exact Bel.refl _ | apply Bel.drew | apply Bel.alloc | refine Bel.trans ?_ (by assumption)))
  obtain ⟨hc1, hf1⟩ := g.rules
  have hz1 : w.heap.size + 1 < w1.heap.size := by have := g.size; simp only [World.size_alloc] at this; omega
  have hy1 : w.heap.size < w1.heap.size := by omega
  clear g
  by_cases c0e : x.1 = y.1
  · rw [decide_eq_true c0e]
    have C0 := Lib.hid c0e; clear c0e
    go_wp2_with fail
    refine (eqIntS_rep _ _ x.2 y.2 S S' _ (intsR_good.bel q1 (by (repeat (first | exact Bel.refl _ | apply Bel.drew | apply Bel.alloc | refine Bel.trans ?_ (by assumption)))) HS.out) (intsR_good.bel p1 (by (repeat (first | exact Bel.refl _ | apply Bel.drew | apply Bel.alloc | refine Bel.trans ?_ (by assumption)))) HS'.out) (fun b hb => Nat.lt_of_lt_of_le (HS.out b hb) (Bel.size (by (repeat (first | exact Bel.refl _ | apply Bel.drew | apply Bel.alloc | refine Bel.trans ?_ (by assumption)))))) (fun b hb => Nat.lt_of_lt_of_le (HS'.out b hb) (Bel.size (by (repeat (first | exact Bel.refl _ | apply Bel.drew | apply Bel.alloc | refine Bel.trans ?_ (by assumption))))))).mono ?_
    rintro e w2 ⟨rfl, g⟩
    have G2 : Bel w w2 := by (repeat (first | exact Bel.refl _ | apply Bel.drew | apply Bel.alloc | refine Bel.trans ?_ (by assumption)))
    obtain ⟨hc2, hf2⟩ := g.rules
    have hz2 : w.heap.size + 1 < w2.heap.size := by have := g.size; omega
    have hy2 : w.heap.size < w2.heap.size := by omega
    clear g
    by_cases c1e : x.2 = y.2
    · rw [decide_eq_true c1e]
      have C1 := Lib.hid c1e; clear c1e
      go_wp2
      go_ret
      exact ⟨ret_bool (decide_eq_true (Prod.ext C0.out (C1.out))).symm, by (repeat (first | exact Bel.refl _ | apply Bel.drew | apply Bel.alloc | refine Bel.trans ?_ (by assumption)))⟩
    · rw [decide_eq_false c1e]
      have C1 := Lib.hid c1e; clear c1e
      go_wp2
      go_ret
      exact ⟨ret_bool (decide_eq_false fun h => C1.out (by rw [h])).symm, by (repeat (first | exact Bel.refl _ | apply Bel.drew | apply Bel.alloc | refine Bel.trans ?_ (by assumption)))⟩
  · rw [decide_eq_false c0e]
    have C0 := Lib.hid c0e; clear c0e
    go_wp2
    go_ret
    exact ⟨ret_bool (decide_eq_false fun h => C0.out (by rw [h])).symm, by (repeat (first | exact Bel.refl _ | apply Bel.drew | apply Bel.alloc | refine Bel.trans ?_ (by assumption)))⟩

theorem eqDomain_rep (v v' : Value) (x y : DomT) (S S' : Nat → Prop) (w : World) (hx : aggR domR S w v x) (hy : aggR domR S' w v' y) (hS : ∀ b, S b → b < w.heap.size) (hS' : ∀ b, S' b → b < w.heap.size) :
    Calls Try.prog 8 #[v, v'] w fun e w' => e = .returned (.bool (decide (x = y))) ∧ Bel w w' := by
  obtain ⟨cs, rfl, hx⟩ := hx
  obtain ⟨cs', rfl, hy⟩ := hy
  obtain ⟨c0, c1, c2, rfl, q0, q1, q2⟩ := domR_open hx
  obtain ⟨d0, d1, d2, rfl, p0, p1, p2⟩ := domR_open hy
  clear hx hy
  have HS := Lib.hid hS
  have HS' := Lib.hid hS'
  clear hS hS'
  show Calls Try.prog 8 #[.agg #[c0, c1, c2], .agg #[d0, d1, d2]] w _
  go_enter Try.func8, Try.ntmps8
  go_wp2_with fail
  refine (eqIntS_rep _ _ x.1 y.1 S S' _ (intsR_good.bel q0 (by (repeat (first | exact Bel.refl _ | apply Bel.drew | apply Bel.alloc | refine Bel.trans ?_ (by assumption)))) HS.out) (intsR_good.bel p0 (by (repeat (first | exact Bel.refl _ | apply Bel.drew | apply Bel.alloc | refine Bel.trans ?_ (by assumption)))) HS'.out) (fun b hb => Nat.lt_of_lt_of_le (HS.out b hb) (Bel.size (by (repeat (first | exact Bel.refl _ | apply Bel.drew | apply Bel.alloc | refine Bel.trans ?_ (by assumption)))))) (fun b hb => Nat.lt_of_lt_of_le (HS'.out b hb) (Bel.size (by (repeat (first | exact Bel.refl _ | apply Bel.drew | apply Bel.alloc | refine Bel.trans ?_ (by assumption))))))).mono ?_
  rintro e w1 ⟨rfl, g⟩
  have G1 : Bel w w1 := by (repeat (first | exact Bel.refl _ | apply Bel.drew | apply Bel.alloc | refine Bel.trans ?_ (by assumption)))
  obtain ⟨hc1, hf1⟩ := g.rules
  have hz1 : w.heap.size + 1 < w1.heap.size := by have := g.size; simp only [World.size_alloc] at this; omega
  have hy1 : w.heap.size < w1.heap.size := by omega
  clear g
  by_cases c0e : x.1 = y.1
  · rw [decide_eq_true c0e]
    have C0 := Lib.hid c0e; clear c0e
    go_wp2_with fail
    refine (eqIntS_rep _ _ x.2.1 y.2.1 S S' _ (intsR_good.bel q1 (by (repeat (first | exact Bel.refl _ | apply Bel.drew | apply Bel.alloc | refine Bel.trans ?_ (by assumption)))) HS.out) (intsR_good.bel p1 (by (repeat (first | exact Bel.refl _ | apply Bel.drew | apply Bel.alloc | refine Bel.trans ?_ (by assumption)))) HS'.out) (fun b hb => Nat.lt_of_lt_of_le (HS.out b hb) (Bel.size (by (repeat (first | exact Bel.refl _ | apply Bel.drew | apply Bel.alloc | refine Bel.trans ?_ (by assumption)))))) (fun b hb => Nat.lt_of_lt_of_le (HS'.out b hb) (Bel.size (by (repeat (first | exact Bel.refl _ | apply Bel.drew | apply Bel.alloc | refine Bel.trans ?_ (by assumption))))))).mono ?_
    rintro e w2 ⟨rfl, g⟩
    have G2 : Bel w w2 := by (repeat (first | exact Bel.refl _ | apply Bel.drew | apply Bel.alloc | refine Bel.trans ?_ (by assumption)))
    obtain ⟨hc2, hf2⟩ := g.rules
    have hz2 : w.heap.size + 1 < w2.heap.size := by have := g.size; omega
    have hy2 : w.heap.size < w2.heap.size := by omega
    clear g
    by_cases c1e : x.2.1 = y.2.1
    · rw [decide_eq_true c1e]
      have C1 := Lib.hid c1e; clear c1e
      go_wp2_with fail
      refine (eqIntSS_rep _ _ x.2.2 y.2.2 S S' _ (rowsR_good.bel q2 (by (repeat (first | exact Bel.refl _ | apply Bel.drew | apply Bel.alloc | refine Bel.trans ?_ (by assumption)))) HS.out) (rowsR_good.bel p2 (by (repeat (first | exact Bel.refl _ | apply Bel.drew | apply Bel.alloc | refine Bel.trans ?_ (by assumption)))) HS'.out) (fun b hb => Nat.lt_of_lt_of_le (HS.out b hb) (Bel.size (by (repeat (first | exact Bel.refl _ | apply Bel.drew | apply Bel.alloc | refine Bel.trans ?_ (by assumption)))))) (fun b hb => Nat.lt_of_lt_of_le (HS'.out b hb) (Bel.size (by (repeat (first | exact Bel.refl _ | apply Bel.drew | apply Bel.alloc | refine Bel.trans ?_ (by assumption))))))).mono ?_
      rintro e w3 ⟨rfl, g⟩
      have G3 : Bel w w3 := by (repeat (first | exact Bel.refl _ | apply Bel.drew | apply Bel.alloc | refine Bel.trans ?_ (by assumption)))
      obtain ⟨hc3, hf3⟩ := g.rules
      have hz3 : w.heap.size + 1 < w3.heap.size := by have := g.size; omega
      have hy3 : w.heap.size < w3.heap.size := by omega
      clear g
      by_cases c2e : x.2.2 = y.2.2
      · rw [decide_eq_true c2e]
        have C2 := Lib.hid c2e; clear c2e
        go_wp2
        go_ret
        exact ⟨ret_bool (decide_eq_true (Prod.ext C0.out (Prod.ext C1.out (C2.out)))).symm, by (repeat (first | exact Bel.refl _ | apply Bel.drew | apply Bel.alloc | refine Bel.trans ?_ (by assumption)))⟩
      · rw [decide_eq_false c2e]
        have C2 := Lib.hid c2e; clear c2e
        go_wp2
        go_ret
        exact ⟨ret_bool (decide_eq_false fun h => C2.out (by rw [h])).symm, by (repeat (first | exact Bel.refl _ | apply Bel.drew | apply Bel.alloc | refine Bel.trans ?_ (by assumption)))⟩
    · rw [decide_eq_false c1e]
      have C1 := Lib.hid c1e; clear c1e
      go_wp2
      go_ret
      exact ⟨ret_bool (decide_eq_false fun h => C1.out (by rw [h])).symm, by (repeat (first | exact Bel.refl _ | apply Bel.drew | apply Bel.alloc | refine Bel.trans ?_ (by assumption)))⟩
  · rw [decide_eq_false c0e]
    have C0 := Lib.hid c0e; clear c0e
    go_wp2
    go_ret
    exact ⟨ret_bool (decide_eq_false fun h => C0.out (by rw [h])).symm, by (repeat (first | exact Bel.refl _ | apply Bel.drew | apply Bel.alloc | refine Bel.trans ?_ (by assumption)))⟩








end Go.Proofs.Ytjeeajgijdcdbaa
