/- Contracts of eqT: two data are the same. -/
import Derived.Test.YtkfpciggolkjeaaGreatDoorIn
import Derived.Test.YtkfpciggolkjeaaGreatDoorShape
import Derived.Test.YtkfpciggolkjeaaGreatDoorKeep
import Derived.Deep.RegionHeld3
import Derived.Laws.StructEq
namespace Go.Proofs.YtkfpciggolkjeaaGreatDoor
open Go.ChangeShapes Go.WideShapes Go.ChangeAt Go.RowKit
set_option linter.unusedVariables false

theorem toList_inj {x y : ByteArray} (h : x.toList = y.toList) : x = y := by
  rw [ByteArray.toList_eq, ByteArray.toList_eq] at h
  obtain ⟨⟨a⟩⟩ := x
  obtain ⟨⟨b⟩⟩ := y
  exact congrArg (fun l : List UInt8 => (⟨⟨l⟩⟩ : ByteArray)) h

theorem eqLiteral_rep (v v' : Value) (x y : LitT) (S S' : Nat → Prop) (w : World) (hx : aggR litR S w v x) (hy : aggR litR S' w v' y) (hS : ∀ b, S b → b < w.heap.size) (hS' : ∀ b, S' b → b < w.heap.size) :
    Calls Tryz.prog 15 #[v, v'] w fun e w' => e = .returned (.bool (decide (x = y))) ∧ Bel w w' := by
  obtain ⟨cs, rfl, hx⟩ := hx
  obtain ⟨cs', rfl, hy⟩ := hy
  obtain ⟨rfl, q0, q1, q2⟩ := litR_open hx
  obtain ⟨rfl, p0, p1, p2⟩ := litR_open hy
  clear hx hy
  have HS := Lib.hid hS
  have HS' := Lib.hid hS'
  clear hS hS'
  show Calls Tryz.prog 15 #[.agg #[.int .i64 x.1, .int .i64 x.2.1, .int .i64 x.2.2], .agg #[.int .i64 y.1, .int .i64 y.2.1, .int .i64 y.2.2]] w _
  go_enter Tryz.func15, Tryz.ntmps15
  by_cases c0e : x.1 = y.1
  · have b0e : (x.1 != y.1) = false := by simp [c0e]
    have C0 := Lib.hid c0e; clear c0e
    by_cases c1e : x.2.1 = y.2.1
    · have b1e : (x.2.1 != y.2.1) = false := by simp [c1e]
      have C1 := Lib.hid c1e; clear c1e
      by_cases c2e : x.2.2 = y.2.2
      · have b2e : (x.2.2 != y.2.2) = false := by simp [c2e]
        have C2 := Lib.hid c2e; clear c2e
        go_wp2
        go_ret
        exact ⟨ret_bool (decide_eq_true (Prod.ext C0.out (Prod.ext C1.out (C2.out)))).symm, by (repeat (first | exact Bel.refl _ | apply Bel.drew | apply Bel.alloc | refine Bel.trans ?_ (by assumption)))⟩
      · have b2e : (x.2.2 != y.2.2) = true := by simp [c2e]
        have C2 := Lib.hid c2e; clear c2e
        go_wp2
        go_ret
        exact ⟨ret_bool (decide_eq_false fun h => C2.out (by rw [h])).symm, by (repeat (first | exact Bel.refl _ | apply Bel.drew | apply Bel.alloc | refine Bel.trans ?_ (by assumption)))⟩
    · have b1e : (x.2.1 != y.2.1) = true := by simp [c1e]
      have C1 := Lib.hid c1e; clear c1e
      go_wp2
      go_ret
      exact ⟨ret_bool (decide_eq_false fun h => C1.out (by rw [h])).symm, by (repeat (first | exact Bel.refl _ | apply Bel.drew | apply Bel.alloc | refine Bel.trans ?_ (by assumption)))⟩
  · have b0e : (x.1 != y.1) = true := by simp [c0e]
    have C0 := Lib.hid c0e; clear c0e
    go_wp2
    go_ret
    exact ⟨ret_bool (decide_eq_false fun h => C0.out (by rw [h])).symm, by (repeat (first | exact Bel.refl _ | apply Bel.drew | apply Bel.alloc | refine Bel.trans ?_ (by assumption)))⟩


theorem eqStep_rep (v v' : Value) (x y : StepT) (S S' : Nat → Prop) (w : World) (hx : aggR stepR S w v x) (hy : aggR stepR S' w v' y) (hS : ∀ b, S b → b < w.heap.size) (hS' : ∀ b, S' b → b < w.heap.size) :
    Calls Tryz.prog 135 #[v, v'] w fun e w' => e = .returned (.bool (decide (x = y))) ∧ Bel w w' := by
  obtain ⟨cs, rfl, hx⟩ := hx
  obtain ⟨cs', rfl, hy⟩ := hy
  obtain ⟨rfl, q0, q1⟩ := stepR_open hx
  obtain ⟨rfl, p0, p1⟩ := stepR_open hy
  clear hx hy
  have HS := Lib.hid hS
  have HS' := Lib.hid hS'
  clear hS hS'
  show Calls Tryz.prog 135 #[.agg #[.int .i64 x.1, .int .i64 x.2], .agg #[.int .i64 y.1, .int .i64 y.2]] w _
  go_enter Tryz.func135, Tryz.ntmps135
  by_cases c0e : x.1 = y.1
  · have b0e : (x.1 != y.1) = false := by simp [c0e]
    have C0 := Lib.hid c0e; clear c0e
    by_cases c1e : x.2 = y.2
    · have b1e : (x.2 != y.2) = false := by simp [c1e]
      have C1 := Lib.hid c1e; clear c1e
      go_wp2
      go_ret
      exact ⟨ret_bool (decide_eq_true (Prod.ext C0.out (C1.out))).symm, by (repeat (first | exact Bel.refl _ | apply Bel.drew | apply Bel.alloc | refine Bel.trans ?_ (by assumption)))⟩
    · have b1e : (x.2 != y.2) = true := by simp [c1e]
      have C1 := Lib.hid c1e; clear c1e
      go_wp2
      go_ret
      exact ⟨ret_bool (decide_eq_false fun h => C1.out (by rw [h])).symm, by (repeat (first | exact Bel.refl _ | apply Bel.drew | apply Bel.alloc | refine Bel.trans ?_ (by assumption)))⟩
  · have b0e : (x.1 != y.1) = true := by simp [c0e]
    have C0 := Lib.hid c0e; clear c0e
    go_wp2
    go_ret
    exact ⟨ret_bool (decide_eq_false fun h => C0.out (by rw [h])).symm, by (repeat (first | exact Bel.refl _ | apply Bel.drew | apply Bel.alloc | refine Bel.trans ?_ (by assumption)))⟩

set_option maxHeartbeats 400000 in
theorem eqStepS_rep (v v' : Value) (xs ys : List (StepT)) (S S' : Nat → Prop) (w : World) (hx : stepsR S w [v] xs) (hy : stepsR S' w [v'] ys) (hS : ∀ b, S b → b < w.heap.size) (hS' : ∀ b, S' b → b < w.heap.size) :
    Calls Tryz.prog 115 #[v, v'] w fun e w' => e = .returned (.bool (decide (xs = ys))) ∧ Bel w w' := by
  obtain ⟨p, cap, rfl, h1, h2, h3⟩ := sliceR_open hx
  obtain ⟨p', cap', rfl, h1', h2', h3'⟩ := sliceR_open hy
  unfold maxLen at h2 h2'
  have HS := Lib.hid hS
  have HS' := Lib.hid hS'
  clear hx hy hS hS'
  by_cases hE : xs.length = ys.length
  · have HE := Lib.hid hE
    have hne : (((xs.length : Nat) : Int) != ((ys.length : Nat) : Int)) = false := by simp [hE]
    clear hE
    go_enter Tryz.func115, Tryz.ntmps115
    go_wp2_with fail
    go_loopw [5] (fun i wr => ∃ k : Nat, k ≤ xs.length ∧ i = .int .i64 k ∧ Bel w wr ∧ ∀ j, j < k → xs[j]? = ys[j]?) (fun i _ => xs.length - (intOf i).toNat)
    case atStart => exact ⟨0, Nat.zero_le _, rfl, Bel.refl _, fun j hj => by omega⟩
    case round =>
      obtain ⟨k, hk, rfl, hB, hall⟩ := hrel
      have HA := Lib.hid hall; clear hall
      by_cases hlt : k < xs.length
      · have hlt' : k < ys.length := by rw [← HE.out]; exact hlt
        obtain ⟨b, off, ecs, rfl, hSb, hlen, hrow, hel⟩ := h3 k hlt
        obtain ⟨b', off', ecs', rfl, hSb', hlen', hrow', hel'⟩ := h3' k hlt'
        have HSw := Lib.hid (show ∀ b, S b → b < wr.heap.size from fun b hb => Nat.lt_of_lt_of_le (HS.out b hb) hB.size)
        have HSw' := Lib.hid (show ∀ b, S' b → b < wr.heap.size from fun b hb => Nat.lt_of_lt_of_le (HS'.out b hb) hB.size)
        obtain ⟨rfl, q0, q1⟩ := stepR_open hel
        obtain ⟨rfl, p0, p1⟩ := stepR_open hel'
        have d0 := hB.cell (hrow 0 (by simp)).1
        have d1 := hB.cell (hrow 1 (by simp)).1
        simp only [List.getElem_cons_zero, List.getElem_cons_succ, Nat.add_zero] at d0 d1
        have f0 := hB.cell (hrow' 0 (by simp)).1
        have f1 := hB.cell (hrow' 1 (by simp)).1
        simp only [List.getElem_cons_zero, List.getElem_cons_succ, Nat.add_zero] at f0 f1
        generalize hkx : xs[k] = X at *
        generalize hky : ys[k] = Y at *
        have HKX := Lib.hid hkx; clear hkx
        have HKY := Lib.hid hky; clear hky
        clear hlen hlen' hrow hrow' h3 h3'
        go_wp2_with fail
        go_region_held3 (fun w' => w'.cell? ⟨b, off + k * 2, none⟩ = some (.int .i64 X.1) ∧ w'.cell? ⟨b, off + k * 2 + 1, none⟩ = some (.int .i64 X.2) ∧ w'.cell? ⟨b', off' + k * 2, none⟩ = some (.int .i64 Y.1) ∧ w'.cell? ⟨b', off' + k * 2 + 1, none⟩ = some (.int .i64 Y.2)) (first | exact keep4 (by assumption) (by assumption) | go_keep)
          (first | (go_at_call 135; (with_reducible refine (eqStep_rep _ _ X Y S S' _ (aggR_mk (stepR_good.bel hel (by (repeat (first | exact Bel.refl _ | apply Bel.drew | apply Bel.alloc | refine Bel.trans ?_ (by assumption)))) HS.out)) (aggR_mk (stepR_good.bel hel' (by (repeat (first | exact Bel.refl _ | apply Bel.drew | apply Bel.alloc | refine Bel.trans ?_ (by assumption)))) HS'.out)) (fun b hb => Nat.lt_of_lt_of_le (HSw.out b hb) (Bel.size (by (repeat (first | exact Bel.refl _ | apply Bel.drew | apply Bel.alloc | refine Bel.trans ?_ (by assumption)))))) (fun b hb => Nat.lt_of_lt_of_le (HSw'.out b hb) (Bel.size (by (repeat (first | exact Bel.refl _ | apply Bel.drew | apply Bel.alloc | refine Bel.trans ?_ (by assumption))))))).mono ?_); rintro e w1 ⟨rfl, g1⟩))
        have G : Bel w w1 := by (repeat (first | exact Bel.refl _ | apply Bel.drew | apply Bel.alloc | refine Bel.trans ?_ (by assumption)))
        clear g1 hB
        by_cases hXY : X = Y
        · rw [decide_eq_true hXY]
          have HQ := Lib.hid hXY; clear hXY
          go_wp2
          go_roundw
          case rel =>
            refine ⟨k + 1, by omega, by go_num, G, fun j hj => ?_⟩
            by_cases e : j < k
            · exact HA.out j e
            · obtain rfl : j = k := by omega
              rw [List.getElem?_eq_getElem hlt, List.getElem?_eq_getElem hlt', HKX.out, HKY.out, HQ.out]
          case measure => simp [intOf]; omega
        · rw [decide_eq_false hXY]
          have HQ := Lib.hid hXY; clear hXY
          go_wp2
          go_ret
          refine ⟨ret_bool ?_, G⟩
          symm
          rw [decide_eq_false_iff_not]
          intro h
          subst h
          exact HQ.out (by rw [← HKX.out, ← HKY.out])
      · go_wp2
        go_ret
        refine ⟨ret_bool ?_, hB⟩
        symm
        rw [decide_eq_true_eq]
        refine List.ext_getElem? fun j => ?_
        by_cases e : j < k
        · exact HA.out j e
        · have h1 : xs.length ≤ j := by omega
          rw [List.getElem?_eq_none h1, List.getElem?_eq_none (by rw [← HE.out]; exact h1)]
  · have hne : (((xs.length : Nat) : Int) != ((ys.length : Nat) : Int)) = true := by simp; omega
    have HE := Lib.hid hE; clear hE
    go_enter Tryz.func115, Tryz.ntmps115
    go_wp2
    go_ret
    refine ⟨ret_bool ?_, Bel.refl _⟩
    symm
    rw [decide_eq_false_iff_not]
    intro h
    exact HE.out (by rw [h])

theorem eqLink_rep (v v' : Value) (x y : LinkT) (S S' : Nat → Prop) (w : World) (hx : aggR linkR S w v x) (hy : aggR linkR S' w v' y) (hS : ∀ b, S b → b < w.heap.size) (hS' : ∀ b, S' b → b < w.heap.size) :
    Calls Tryz.prog 82 #[v, v'] w fun e w' => e = .returned (.bool (decide (x = y))) ∧ Bel w w' := by
  obtain ⟨cs, rfl, hx⟩ := hx
  obtain ⟨cs', rfl, hy⟩ := hy
  obtain ⟨rfl, q0, q1, q3⟩ := linkR_open hx
  obtain ⟨rfl, p0, p1, p3⟩ := linkR_open hy
  clear hx hy
  have HS := Lib.hid hS
  have HS' := Lib.hid hS'
  clear hS hS'
  show Calls Tryz.prog 82 #[.agg #[.int .i64 x.1, .int .i64 x.2.1, .bool x.2.2.1, .int .i64 x.2.2.2], .agg #[.int .i64 y.1, .int .i64 y.2.1, .bool y.2.2.1, .int .i64 y.2.2.2]] w _
  go_enter Tryz.func82, Tryz.ntmps82
  by_cases c0e : x.1 = y.1
  · have b0e : (x.1 != y.1) = false := by simp [c0e]
    have C0 := Lib.hid c0e; clear c0e
    by_cases c1e : x.2.1 = y.2.1
    · have b1e : (x.2.1 != y.2.1) = false := by simp [c1e]
      have C1 := Lib.hid c1e; clear c1e
      by_cases c2e : x.2.2.1 = y.2.2.1
      · have b2e : (x.2.2.1 == y.2.2.1) = true := by simp [c2e]
        have C2 := Lib.hid c2e; clear c2e
        by_cases c3e : x.2.2.2 = y.2.2.2
        · have b3e : (x.2.2.2 != y.2.2.2) = false := by simp [c3e]
          have C3 := Lib.hid c3e; clear c3e
          go_wp2
          go_ret
          exact ⟨ret_bool (decide_eq_true (Prod.ext C0.out (Prod.ext C1.out (Prod.ext C2.out (C3.out))))).symm, by (repeat (first | exact Bel.refl _ | apply Bel.drew | apply Bel.alloc | refine Bel.trans ?_ (by assumption)))⟩
        · have b3e : (x.2.2.2 != y.2.2.2) = true := by simp [c3e]
          have C3 := Lib.hid c3e; clear c3e
          go_wp2
          go_ret
          exact ⟨ret_bool (decide_eq_false fun h => C3.out (by rw [h])).symm, by (repeat (first | exact Bel.refl _ | apply Bel.drew | apply Bel.alloc | refine Bel.trans ?_ (by assumption)))⟩
      · have b2e : (x.2.2.1 == y.2.2.1) = false := by simp [c2e]
        have C2 := Lib.hid c2e; clear c2e
        go_wp2
        go_ret
        exact ⟨ret_bool (decide_eq_false fun h => C2.out (by rw [h])).symm, by (repeat (first | exact Bel.refl _ | apply Bel.drew | apply Bel.alloc | refine Bel.trans ?_ (by assumption)))⟩
    · have b1e : (x.2.1 != y.2.1) = true := by simp [c1e]
      have C1 := Lib.hid c1e; clear c1e
      go_wp2
      go_ret
      exact ⟨ret_bool (decide_eq_false fun h => C1.out (by rw [h])).symm, by (repeat (first | exact Bel.refl _ | apply Bel.drew | apply Bel.alloc | refine Bel.trans ?_ (by assumption)))⟩
  · have b0e : (x.1 != y.1) = true := by simp [c0e]
    have C0 := Lib.hid c0e; clear c0e
    go_wp2
    go_ret
    exact ⟨ret_bool (decide_eq_false fun h => C0.out (by rw [h])).symm, by (repeat (first | exact Bel.refl _ | apply Bel.drew | apply Bel.alloc | refine Bel.trans ?_ (by assumption)))⟩

set_option maxHeartbeats 400000 in
theorem eqLinkS_rep (v v' : Value) (xs ys : List (LinkT)) (S S' : Nat → Prop) (w : World) (hx : linksR S w [v] xs) (hy : linksR S' w [v'] ys) (hS : ∀ b, S b → b < w.heap.size) (hS' : ∀ b, S' b → b < w.heap.size) :
    Calls Tryz.prog 42 #[v, v'] w fun e w' => e = .returned (.bool (decide (xs = ys))) ∧ Bel w w' := by
  obtain ⟨p, cap, rfl, h1, h2, h3⟩ := sliceR_open hx
  obtain ⟨p', cap', rfl, h1', h2', h3'⟩ := sliceR_open hy
  unfold maxLen at h2 h2'
  have HS := Lib.hid hS
  have HS' := Lib.hid hS'
  clear hx hy hS hS'
  by_cases hE : xs.length = ys.length
  · have HE := Lib.hid hE
    have hne : (((xs.length : Nat) : Int) != ((ys.length : Nat) : Int)) = false := by simp [hE]
    clear hE
    go_enter Tryz.func42, Tryz.ntmps42
    go_wp2_with fail
    go_loopw [5] (fun i wr => ∃ k : Nat, k ≤ xs.length ∧ i = .int .i64 k ∧ Bel w wr ∧ ∀ j, j < k → xs[j]? = ys[j]?) (fun i _ => xs.length - (intOf i).toNat)
    case atStart => exact ⟨0, Nat.zero_le _, rfl, Bel.refl _, fun j hj => by omega⟩
    case round =>
      obtain ⟨k, hk, rfl, hB, hall⟩ := hrel
      have HA := Lib.hid hall; clear hall
      by_cases hlt : k < xs.length
      · have hlt' : k < ys.length := by rw [← HE.out]; exact hlt
        obtain ⟨b, off, ecs, rfl, hSb, hlen, hrow, hel⟩ := h3 k hlt
        obtain ⟨b', off', ecs', rfl, hSb', hlen', hrow', hel'⟩ := h3' k hlt'
        have HSw := Lib.hid (show ∀ b, S b → b < wr.heap.size from fun b hb => Nat.lt_of_lt_of_le (HS.out b hb) hB.size)
        have HSw' := Lib.hid (show ∀ b, S' b → b < wr.heap.size from fun b hb => Nat.lt_of_lt_of_le (HS'.out b hb) hB.size)
        obtain ⟨rfl, q0, q1, q3⟩ := linkR_open hel
        obtain ⟨rfl, p0, p1, p3⟩ := linkR_open hel'
        have d0 := hB.cell (hrow 0 (by simp)).1
        have d1 := hB.cell (hrow 1 (by simp)).1
        have d2 := hB.cell (hrow 2 (by simp)).1
        have d3 := hB.cell (hrow 3 (by simp)).1
        simp only [List.getElem_cons_zero, List.getElem_cons_succ, Nat.add_zero] at d0 d1 d2 d3
        have f0 := hB.cell (hrow' 0 (by simp)).1
        have f1 := hB.cell (hrow' 1 (by simp)).1
        have f2 := hB.cell (hrow' 2 (by simp)).1
        have f3 := hB.cell (hrow' 3 (by simp)).1
        simp only [List.getElem_cons_zero, List.getElem_cons_succ, Nat.add_zero] at f0 f1 f2 f3
        generalize hkx : xs[k] = X at *
        generalize hky : ys[k] = Y at *
        have HKX := Lib.hid hkx; clear hkx
        have HKY := Lib.hid hky; clear hky
        clear hlen hlen' hrow hrow' h3 h3'
        go_wp2_with fail
        go_region_held3 (fun w' => w'.cell? ⟨b, off + k * 4, none⟩ = some (.int .i64 X.1) ∧ w'.cell? ⟨b, off + k * 4 + 1, none⟩ = some (.int .i64 X.2.1) ∧ w'.cell? ⟨b, off + k * 4 + 2, none⟩ = some (.bool X.2.2.1) ∧ w'.cell? ⟨b, off + k * 4 + 3, none⟩ = some (.int .i64 X.2.2.2) ∧ w'.cell? ⟨b', off' + k * 4, none⟩ = some (.int .i64 Y.1) ∧ w'.cell? ⟨b', off' + k * 4 + 1, none⟩ = some (.int .i64 Y.2.1) ∧ w'.cell? ⟨b', off' + k * 4 + 2, none⟩ = some (.bool Y.2.2.1) ∧ w'.cell? ⟨b', off' + k * 4 + 3, none⟩ = some (.int .i64 Y.2.2.2)) (first | exact keep8 (by assumption) (by assumption) | go_keep)
          (first | (go_at_call 82; (with_reducible refine (eqLink_rep _ _ X Y S S' _ (aggR_mk (linkR_good.bel hel (by (repeat (first | exact Bel.refl _ | apply Bel.drew | apply Bel.alloc | refine Bel.trans ?_ (by assumption)))) HS.out)) (aggR_mk (linkR_good.bel hel' (by (repeat (first | exact Bel.refl _ | apply Bel.drew | apply Bel.alloc | refine Bel.trans ?_ (by assumption)))) HS'.out)) (fun b hb => Nat.lt_of_lt_of_le (HSw.out b hb) (Bel.size (by (repeat (first | exact Bel.refl _ | apply Bel.drew | apply Bel.alloc | refine Bel.trans ?_ (by assumption)))))) (fun b hb => Nat.lt_of_lt_of_le (HSw'.out b hb) (Bel.size (by (repeat (first | exact Bel.refl _ | apply Bel.drew | apply Bel.alloc | refine Bel.trans ?_ (by assumption))))))).mono ?_); rintro e w1 ⟨rfl, g1⟩))
        have G : Bel w w1 := by (repeat (first | exact Bel.refl _ | apply Bel.drew | apply Bel.alloc | refine Bel.trans ?_ (by assumption)))
        clear g1 hB
        by_cases hXY : X = Y
        · rw [decide_eq_true hXY]
          have HQ := Lib.hid hXY; clear hXY
          go_wp2
          go_roundw
          case rel =>
            refine ⟨k + 1, by omega, by go_num, G, fun j hj => ?_⟩
            by_cases e : j < k
            · exact HA.out j e
            · obtain rfl : j = k := by omega
              rw [List.getElem?_eq_getElem hlt, List.getElem?_eq_getElem hlt', HKX.out, HKY.out, HQ.out]
          case measure => simp [intOf]; omega
        · rw [decide_eq_false hXY]
          have HQ := Lib.hid hXY; clear hXY
          go_wp2
          go_ret
          refine ⟨ret_bool ?_, G⟩
          symm
          rw [decide_eq_false_iff_not]
          intro h
          subst h
          exact HQ.out (by rw [← HKX.out, ← HKY.out])
      · go_wp2
        go_ret
        refine ⟨ret_bool ?_, hB⟩
        symm
        rw [decide_eq_true_eq]
        refine List.ext_getElem? fun j => ?_
        by_cases e : j < k
        · exact HA.out j e
        · have h1 : xs.length ≤ j := by omega
          rw [List.getElem?_eq_none h1, List.getElem?_eq_none (by rw [← HE.out]; exact h1)]
  · have hne : (((xs.length : Nat) : Int) != ((ys.length : Nat) : Int)) = true := by simp; omega
    have HE := Lib.hid hE; clear hE
    go_enter Tryz.func42, Tryz.ntmps42
    go_wp2
    go_ret
    refine ⟨ret_bool ?_, Bel.refl _⟩
    symm
    rw [decide_eq_false_iff_not]
    intro h
    exact HE.out (by rw [h])

theorem eqRule_rep (v v' : Value) (x y : RuleT) (S S' : Nat → Prop) (w : World) (hx : aggR ruleR S w v x) (hy : aggR ruleR S' w v' y) (hS : ∀ b, S b → b < w.heap.size) (hS' : ∀ b, S' b → b < w.heap.size) :
    Calls Tryz.prog 18 #[v, v'] w fun e w' => e = .returned (.bool (decide (x = y))) ∧ Bel w w' := by
  obtain ⟨cs, rfl, hx⟩ := hx
  obtain ⟨cs', rfl, hy⟩ := hy
  obtain ⟨rfl, q0, q1, q2, q3⟩ := ruleR_open hx
  obtain ⟨rfl, p0, p1, p2, p3⟩ := ruleR_open hy
  clear hx hy
  have HS := Lib.hid hS
  have HS' := Lib.hid hS'
  clear hS hS'
  show Calls Tryz.prog 18 #[.agg #[.int .i64 x.1, .int .i64 x.2.1, .int .i64 x.2.2.1, .int .i64 x.2.2.2], .agg #[.int .i64 y.1, .int .i64 y.2.1, .int .i64 y.2.2.1, .int .i64 y.2.2.2]] w _
  go_enter Tryz.func18, Tryz.ntmps18
  by_cases c0e : x.1 = y.1
  · have b0e : (x.1 != y.1) = false := by simp [c0e]
    have C0 := Lib.hid c0e; clear c0e
    by_cases c1e : x.2.1 = y.2.1
    · have b1e : (x.2.1 != y.2.1) = false := by simp [c1e]
      have C1 := Lib.hid c1e; clear c1e
      by_cases c2e : x.2.2.1 = y.2.2.1
      · have b2e : (x.2.2.1 != y.2.2.1) = false := by simp [c2e]
        have C2 := Lib.hid c2e; clear c2e
        by_cases c3e : x.2.2.2 = y.2.2.2
        · have b3e : (x.2.2.2 != y.2.2.2) = false := by simp [c3e]
          have C3 := Lib.hid c3e; clear c3e
          go_wp2
          go_ret
          exact ⟨ret_bool (decide_eq_true (Prod.ext C0.out (Prod.ext C1.out (Prod.ext C2.out (C3.out))))).symm, by (repeat (first | exact Bel.refl _ | apply Bel.drew | apply Bel.alloc | refine Bel.trans ?_ (by assumption)))⟩
        · have b3e : (x.2.2.2 != y.2.2.2) = true := by simp [c3e]
          have C3 := Lib.hid c3e; clear c3e
          go_wp2
          go_ret
          exact ⟨ret_bool (decide_eq_false fun h => C3.out (by rw [h])).symm, by (repeat (first | exact Bel.refl _ | apply Bel.drew | apply Bel.alloc | refine Bel.trans ?_ (by assumption)))⟩
      · have b2e : (x.2.2.1 != y.2.2.1) = true := by simp [c2e]
        have C2 := Lib.hid c2e; clear c2e
        go_wp2
        go_ret
        exact ⟨ret_bool (decide_eq_false fun h => C2.out (by rw [h])).symm, by (repeat (first | exact Bel.refl _ | apply Bel.drew | apply Bel.alloc | refine Bel.trans ?_ (by assumption)))⟩
    · have b1e : (x.2.1 != y.2.1) = true := by simp [c1e]
      have C1 := Lib.hid c1e; clear c1e
      go_wp2
      go_ret
      exact ⟨ret_bool (decide_eq_false fun h => C1.out (by rw [h])).symm, by (repeat (first | exact Bel.refl _ | apply Bel.drew | apply Bel.alloc | refine Bel.trans ?_ (by assumption)))⟩
  · have b0e : (x.1 != y.1) = true := by simp [c0e]
    have C0 := Lib.hid c0e; clear c0e
    go_wp2
    go_ret
    exact ⟨ret_bool (decide_eq_false fun h => C0.out (by rw [h])).symm, by (repeat (first | exact Bel.refl _ | apply Bel.drew | apply Bel.alloc | refine Bel.trans ?_ (by assumption)))⟩


set_option maxHeartbeats 400000 in
theorem eqIntS_rep (v v' : Value) (xs ys : List (Int)) (S S' : Nat → Prop) (w : World) (hx : intsR S w [v] xs) (hy : intsR S' w [v'] ys) (hS : ∀ b, S b → b < w.heap.size) (hS' : ∀ b, S' b → b < w.heap.size) :
    Calls Tryz.prog 44 #[v, v'] w fun e w' => e = .returned (.bool (decide (xs = ys))) ∧ Bel w w' := by
  obtain ⟨p, cap, rfl, h1, h2, h3⟩ := sliceR_open hx
  obtain ⟨p', cap', rfl, h1', h2', h3'⟩ := sliceR_open hy
  unfold maxLen at h2 h2'
  have HS := Lib.hid hS
  have HS' := Lib.hid hS'
  clear hx hy hS hS'
  by_cases hE : xs.length = ys.length
  · have HE := Lib.hid hE
    have hne : (((xs.length : Nat) : Int) != ((ys.length : Nat) : Int)) = false := by simp [hE]
    clear hE
    go_enter Tryz.func44, Tryz.ntmps44
    go_wp2_with fail
    go_loopw [5] (fun i wr => ∃ k : Nat, k ≤ xs.length ∧ i = .int .i64 k ∧ Bel w wr ∧ ∀ j, j < k → xs[j]? = ys[j]?) (fun i _ => xs.length - (intOf i).toNat)
    case atStart => exact ⟨0, Nat.zero_le _, rfl, Bel.refl _, fun j hj => by omega⟩
    case round =>
      obtain ⟨k, hk, rfl, hB, hall⟩ := hrel
      have HA := Lib.hid hall; clear hall
      by_cases hlt : k < xs.length
      · have hlt' : k < ys.length := by rw [← HE.out]; exact hlt
        obtain ⟨b, off, ecs, rfl, hSb, hlen, hrow, hel⟩ := h3 k hlt
        obtain ⟨b', off', ecs', rfl, hSb', hlen', hrow', hel'⟩ := h3' k hlt'
        have HSw := Lib.hid (show ∀ b, S b → b < wr.heap.size from fun b hb => Nat.lt_of_lt_of_le (HS.out b hb) hB.size)
        have HSw' := Lib.hid (show ∀ b, S' b → b < wr.heap.size from fun b hb => Nat.lt_of_lt_of_le (HS'.out b hb) hB.size)
        obtain ⟨rfl, _⟩ := hel
        obtain ⟨rfl, _⟩ := hel'
        have d0 := hB.cell (hrow 0 (by simp)).1
        simp only [List.getElem_cons_zero, Nat.mul_one, Nat.add_zero] at d0
        have f0 := hB.cell (hrow' 0 (by simp)).1
        simp only [List.getElem_cons_zero, Nat.mul_one, Nat.add_zero] at f0
        generalize hkx : xs[k] = X at *
        generalize hky : ys[k] = Y at *
        have HKX := Lib.hid hkx; clear hkx
        have HKY := Lib.hid hky; clear hky
        clear hlen hlen' hrow hrow' h3 h3'
        by_cases hXY : X = Y
        · have bne : (X != Y) = false := by simp [hXY]
          have HQ := Lib.hid hXY; clear hXY
          go_wp2_with fail
          go_quiet (fail)
          go_wp2
          go_roundw
          case rel =>
            refine ⟨k + 1, by omega, by go_num, hB.drewN _, fun j hj => ?_⟩
            by_cases e : j < k
            · exact HA.out j e
            · obtain rfl : j = k := by omega
              rw [List.getElem?_eq_getElem hlt, List.getElem?_eq_getElem hlt', HKX.out, HKY.out, HQ.out]
          case measure => simp [intOf]; omega
        · have bne : (X != Y) = true := by simp [hXY]
          have HQ := Lib.hid hXY; clear hXY
          go_wp2_with fail
          go_quiet (fail)
          go_wp2
          go_ret
          refine ⟨ret_bool ?_, hB.drewN _⟩
          symm
          rw [decide_eq_false_iff_not]
          intro h
          subst h
          exact HQ.out (by rw [← HKX.out, ← HKY.out])
      · go_wp2
        go_ret
        refine ⟨ret_bool ?_, hB⟩
        symm
        rw [decide_eq_true_eq]
        refine List.ext_getElem? fun j => ?_
        by_cases e : j < k
        · exact HA.out j e
        · have h1 : xs.length ≤ j := by omega
          rw [List.getElem?_eq_none h1, List.getElem?_eq_none (by rw [← HE.out]; exact h1)]
  · have hne : (((xs.length : Nat) : Int) != ((ys.length : Nat) : Int)) = true := by simp; omega
    have HE := Lib.hid hE; clear hE
    go_enter Tryz.func44, Tryz.ntmps44
    go_wp2
    go_ret
    refine ⟨ret_bool ?_, Bel.refl _⟩
    symm
    rw [decide_eq_false_iff_not]
    intro h
    exact HE.out (by rw [h])

set_option maxHeartbeats 400000 in
theorem eqIntSS_rep (v v' : Value) (xs ys : List (List Int)) (S S' : Nat → Prop) (w : World) (hx : rowsR S w [v] xs) (hy : rowsR S' w [v'] ys) (hS : ∀ b, S b → b < w.heap.size) (hS' : ∀ b, S' b → b < w.heap.size) :
    Calls Tryz.prog 116 #[v, v'] w fun e w' => e = .returned (.bool (decide (xs = ys))) ∧ Bel w w' := by
  obtain ⟨p, cap, rfl, h1, h2, h3⟩ := sliceR_open hx
  obtain ⟨p', cap', rfl, h1', h2', h3'⟩ := sliceR_open hy
  unfold maxLen at h2 h2'
  have HS := Lib.hid hS
  have HS' := Lib.hid hS'
  clear hx hy hS hS'
  by_cases hE : xs.length = ys.length
  · have HE := Lib.hid hE
    have hne : (((xs.length : Nat) : Int) != ((ys.length : Nat) : Int)) = false := by simp [hE]
    clear hE
    go_enter Tryz.func116, Tryz.ntmps116
    go_wp2_with fail
    go_loopw [5] (fun i wr => ∃ k : Nat, k ≤ xs.length ∧ i = .int .i64 k ∧ Bel w wr ∧ ∀ j, j < k → xs[j]? = ys[j]?) (fun i _ => xs.length - (intOf i).toNat)
    case atStart => exact ⟨0, Nat.zero_le _, rfl, Bel.refl _, fun j hj => by omega⟩
    case round =>
      obtain ⟨k, hk, rfl, hB, hall⟩ := hrel
      have HA := Lib.hid hall; clear hall
      by_cases hlt : k < xs.length
      · have hlt' : k < ys.length := by rw [← HE.out]; exact hlt
        obtain ⟨b, off, ecs, rfl, hSb, hlen, hrow, hel⟩ := h3 k hlt
        obtain ⟨b', off', ecs', rfl, hSb', hlen', hrow', hel'⟩ := h3' k hlt'
        have HSw := Lib.hid (show ∀ b, S b → b < wr.heap.size from fun b hb => Nat.lt_of_lt_of_le (HS.out b hb) hB.size)
        have HSw' := Lib.hid (show ∀ b, S' b → b < wr.heap.size from fun b hb => Nat.lt_of_lt_of_le (HS'.out b hb) hB.size)
        obtain ⟨c0, rfl⟩ : ∃ c0, ecs = [c0] := by obtain ⟨p0, cap0, e0, _⟩ := hel; exact ⟨_, e0⟩
        obtain ⟨e0, rfl⟩ : ∃ c0, ecs' = [c0] := by obtain ⟨p0, cap0, e0, _⟩ := hel'; exact ⟨_, e0⟩
        have d0 := hB.cell (hrow 0 (by simp)).1
        simp only [List.getElem_cons_zero, Nat.mul_one, Nat.add_zero] at d0
        have f0 := hB.cell (hrow' 0 (by simp)).1
        simp only [List.getElem_cons_zero, Nat.mul_one, Nat.add_zero] at f0
        generalize hkx : xs[k] = X at *
        generalize hky : ys[k] = Y at *
        have HKX := Lib.hid hkx; clear hkx
        have HKY := Lib.hid hky; clear hky
        clear hlen hlen' hrow hrow' h3 h3'
        go_wp2_with fail
        go_region_held3 (fun w' => w'.cell? ⟨b, off + k, none⟩ = some (c0) ∧ w'.cell? ⟨b', off' + k, none⟩ = some (e0)) (first | exact keep2 (by assumption) (by assumption) | go_keep)
          (first | (go_at_call 44; (with_reducible refine (eqIntS_rep _ _ X Y S S' _ (intsR_good.bel hel (by (repeat (first | exact Bel.refl _ | apply Bel.drew | apply Bel.alloc | refine Bel.trans ?_ (by assumption)))) HS.out) (intsR_good.bel hel' (by (repeat (first | exact Bel.refl _ | apply Bel.drew | apply Bel.alloc | refine Bel.trans ?_ (by assumption)))) HS'.out) (fun b hb => Nat.lt_of_lt_of_le (HSw.out b hb) (Bel.size (by (repeat (first | exact Bel.refl _ | apply Bel.drew | apply Bel.alloc | refine Bel.trans ?_ (by assumption)))))) (fun b hb => Nat.lt_of_lt_of_le (HSw'.out b hb) (Bel.size (by (repeat (first | exact Bel.refl _ | apply Bel.drew | apply Bel.alloc | refine Bel.trans ?_ (by assumption))))))).mono ?_); rintro e w1 ⟨rfl, g1⟩))
        have G : Bel w w1 := by (repeat (first | exact Bel.refl _ | apply Bel.drew | apply Bel.alloc | refine Bel.trans ?_ (by assumption)))
        clear g1 hB
        by_cases hXY : X = Y
        · rw [decide_eq_true hXY]
          have HQ := Lib.hid hXY; clear hXY
          go_wp2
          go_roundw
          case rel =>
            refine ⟨k + 1, by omega, by go_num, G, fun j hj => ?_⟩
            by_cases e : j < k
            · exact HA.out j e
            · obtain rfl : j = k := by omega
              rw [List.getElem?_eq_getElem hlt, List.getElem?_eq_getElem hlt', HKX.out, HKY.out, HQ.out]
          case measure => simp [intOf]; omega
        · rw [decide_eq_false hXY]
          have HQ := Lib.hid hXY; clear hXY
          go_wp2
          go_ret
          refine ⟨ret_bool ?_, G⟩
          symm
          rw [decide_eq_false_iff_not]
          intro h
          subst h
          exact HQ.out (by rw [← HKX.out, ← HKY.out])
      · go_wp2
        go_ret
        refine ⟨ret_bool ?_, hB⟩
        symm
        rw [decide_eq_true_eq]
        refine List.ext_getElem? fun j => ?_
        by_cases e : j < k
        · exact HA.out j e
        · have h1 : xs.length ≤ j := by omega
          rw [List.getElem?_eq_none h1, List.getElem?_eq_none (by rw [← HE.out]; exact h1)]
  · have hne : (((xs.length : Nat) : Int) != ((ys.length : Nat) : Int)) = true := by simp; omega
    have HE := Lib.hid hE; clear hE
    go_enter Tryz.func116, Tryz.ntmps116
    go_wp2
    go_ret
    refine ⟨ret_bool ?_, Bel.refl _⟩
    symm
    rw [decide_eq_false_iff_not]
    intro h
    exact HE.out (by rw [h])

theorem eqSchedule_rep (v v' : Value) (x y : SchT) (S S' : Nat → Prop) (w : World) (hx : aggR schR S w v x) (hy : aggR schR S' w v' y) (hS : ∀ b, S b → b < w.heap.size) (hS' : ∀ b, S' b → b < w.heap.size) :
    Calls Tryz.prog 21 #[v, v'] w fun e w' => e = .returned (.bool (decide (x = y))) ∧ Bel w w' := by
  obtain ⟨cs, rfl, hx⟩ := hx
  obtain ⟨cs', rfl, hy⟩ := hy
  obtain ⟨c0, c1, rfl, q0, q1⟩ := schR_open hx
  obtain ⟨d0, d1, rfl, p0, p1⟩ := schR_open hy
  clear hx hy
  have HS := Lib.hid hS
  have HS' := Lib.hid hS'
  clear hS hS'
  show Calls Tryz.prog 21 #[.agg #[c0, c1], .agg #[d0, d1]] w _
  go_enter Tryz.func21, Tryz.ntmps21
  go_wp2_with fail
  refine (eqIntS_rep _ _ x.1 y.1 S S' _ (intsR_good.bel q0 (by (repeat (first | exact Bel.refl _ | apply Bel.drew | apply Bel.alloc | refine Bel.trans ?_ (by assumption)))) HS.out) (intsR_good.bel p0 (by (repeat (first | exact Bel.refl _ | apply Bel.drew | apply Bel.alloc | refine Bel.trans ?_ (by assumption)))) HS'.out) (fun b hb => Nat.lt_of_lt_of_le (HS.out b hb) (Bel.size (by (repeat (first | exact Bel.refl _ | apply Bel.drew | apply Bel.alloc | refine Bel.trans ?_ (by assumption)))))) (fun b hb => Nat.lt_of_lt_of_le (HS'.out b hb) (Bel.size (by (repeat (first | exact Bel.refl _ | apply Bel.drew | apply Bel.alloc | refine Bel.trans ?_ (by assumption))))))).mono ?_
  rintro e w1 ⟨rfl, g⟩
  have G1 : Bel w w1 := by (repeat (first | exact Bel.refl _ | apply Bel.drew | apply Bel.alloc | refine Bel.trans ?_ (by assumption)))
  obtain ⟨hc1, hf1⟩ := g.rules
  have hz1 : w.heap.size + 1 < w1.heap.size := by have := g.size; simp only [World.size_alloc] at this; omega
  have hy1 : w.heap.size < w1.heap.size := by omega
  clear g
  by_cases c0e : x.1 = y.1
  · rw [decide_eq_true c0e]
    have C0 := Lib.hid c0e; clear c0e
    go_wp2_with fail
    refine (eqIntS_rep _ _ x.2 y.2 S S' _ (intsR_good.bel q1 (by (repeat (first | exact Bel.refl _ | apply Bel.drew | apply Bel.alloc | refine Bel.trans ?_ (by assumption)))) HS.out) (intsR_good.bel p1 (by (repeat (first | exact Bel.refl _ | apply Bel.drew | apply Bel.alloc | refine Bel.trans ?_ (by assumption)))) HS'.out) (fun b hb => Nat.lt_of_lt_of_le (HS.out b hb) (Bel.size (by (repeat (first | exact Bel.refl _ | apply Bel.drew | apply Bel.alloc | refine Bel.trans ?_ (by assumption)))))) (fun b hb => Nat.lt_of_lt_of_le (HS'.out b hb) (Bel.size (by (repeat (first | exact Bel.refl _ | apply Bel.drew | apply Bel.alloc | refine Bel.trans ?_ (by assumption))))))).mono ?_
    rintro e w2 ⟨rfl, g⟩
    have G2 : Bel w w2 := by (repeat (first | exact Bel.refl _ | apply Bel.drew | apply Bel.alloc | refine Bel.trans ?_ (by assumption)))
    obtain ⟨hc2, hf2⟩ := g.rules
    have hz2 : w.heap.size + 1 < w2.heap.size := by have := g.size; omega
    have hy2 : w.heap.size < w2.heap.size := by omega
    clear g
    by_cases c1e : x.2 = y.2
    · rw [decide_eq_true c1e]
      have C1 := Lib.hid c1e; clear c1e
      go_wp2
      go_ret
      exact ⟨ret_bool (decide_eq_true (Prod.ext C0.out (C1.out))).symm, by (repeat (first | exact Bel.refl _ | apply Bel.drew | apply Bel.alloc | refine Bel.trans ?_ (by assumption)))⟩
    · rw [decide_eq_false c1e]
      have C1 := Lib.hid c1e; clear c1e
      go_wp2
      go_ret
      exact ⟨ret_bool (decide_eq_false fun h => C1.out (by rw [h])).symm, by (repeat (first | exact Bel.refl _ | apply Bel.drew | apply Bel.alloc | refine Bel.trans ?_ (by assumption)))⟩
  · rw [decide_eq_false c0e]
    have C0 := Lib.hid c0e; clear c0e
    go_wp2
    go_ret
    exact ⟨ret_bool (decide_eq_false fun h => C0.out (by rw [h])).symm, by (repeat (first | exact Bel.refl _ | apply Bel.drew | apply Bel.alloc | refine Bel.trans ?_ (by assumption)))⟩


theorem eqMode_rep (v v' : Value) (x y : ModeT) (S S' : Nat → Prop) (w : World) (hx : aggR modeR S w v x) (hy : aggR modeR S' w v' y) (hS : ∀ b, S b → b < w.heap.size) (hS' : ∀ b, S' b → b < w.heap.size) :
    Calls Tryz.prog 134 #[v, v'] w fun e w' => e = .returned (.bool (decide (x = y))) ∧ Bel w w' := by
  obtain ⟨cs, rfl, hx⟩ := hx
  obtain ⟨cs', rfl, hy⟩ := hy
  obtain ⟨c1, c2, rfl, q0, q1, q2⟩ := modeR_open hx
  obtain ⟨d1, d2, rfl, p0, p1, p2⟩ := modeR_open hy
  clear hx hy
  have HS := Lib.hid hS
  have HS' := Lib.hid hS'
  clear hS hS'
  show Calls Tryz.prog 134 #[.agg #[.int .i64 x.1, c1, c2], .agg #[.int .i64 y.1, d1, d2]] w _
  go_enter Tryz.func134, Tryz.ntmps134
  by_cases c0e : x.1 = y.1
  · have b0e : (x.1 != y.1) = false := by simp [c0e]
    have C0 := Lib.hid c0e; clear c0e
    go_wp2_with fail
    refine (eqIntS_rep _ _ x.2.1 y.2.1 S S' _ (intsR_good.bel q1 (by (repeat (first | exact Bel.refl _ | apply Bel.drew | apply Bel.alloc | refine Bel.trans ?_ (by assumption)))) HS.out) (intsR_good.bel p1 (by (repeat (first | exact Bel.refl _ | apply Bel.drew | apply Bel.alloc | refine Bel.trans ?_ (by assumption)))) HS'.out) (fun b hb => Nat.lt_of_lt_of_le (HS.out b hb) (Bel.size (by (repeat (first | exact Bel.refl _ | apply Bel.drew | apply Bel.alloc | refine Bel.trans ?_ (by assumption)))))) (fun b hb => Nat.lt_of_lt_of_le (HS'.out b hb) (Bel.size (by (repeat (first | exact Bel.refl _ | apply Bel.drew | apply Bel.alloc | refine Bel.trans ?_ (by assumption))))))).mono ?_
    rintro e w1 ⟨rfl, g⟩
    have G1 : Bel w w1 := by (repeat (first | exact Bel.refl _ | apply Bel.drew | apply Bel.alloc | refine Bel.trans ?_ (by assumption)))
    obtain ⟨hc1, hf1⟩ := g.rules
    have hz1 : w.heap.size + 1 < w1.heap.size := by have := g.size; simp only [World.size_alloc] at this; omega
    have hy1 : w.heap.size < w1.heap.size := by omega
    clear g
    by_cases c1e : x.2.1 = y.2.1
    · rw [decide_eq_true c1e]
      have C1 := Lib.hid c1e; clear c1e
      go_wp2_with fail
      refine (eqIntS_rep _ _ x.2.2 y.2.2 S S' _ (intsR_good.bel q2 (by (repeat (first | exact Bel.refl _ | apply Bel.drew | apply Bel.alloc | refine Bel.trans ?_ (by assumption)))) HS.out) (intsR_good.bel p2 (by (repeat (first | exact Bel.refl _ | apply Bel.drew | apply Bel.alloc | refine Bel.trans ?_ (by assumption)))) HS'.out) (fun b hb => Nat.lt_of_lt_of_le (HS.out b hb) (Bel.size (by (repeat (first | exact Bel.refl _ | apply Bel.drew | apply Bel.alloc | refine Bel.trans ?_ (by assumption)))))) (fun b hb => Nat.lt_of_lt_of_le (HS'.out b hb) (Bel.size (by (repeat (first | exact Bel.refl _ | apply Bel.drew | apply Bel.alloc | refine Bel.trans ?_ (by assumption))))))).mono ?_
      rintro e w2 ⟨rfl, g⟩
      have G2 : Bel w w2 := by (repeat (first | exact Bel.refl _ | apply Bel.drew | apply Bel.alloc | refine Bel.trans ?_ (by assumption)))
      obtain ⟨hc2, hf2⟩ := g.rules
      have hz2 : w.heap.size + 1 < w2.heap.size := by have := g.size; omega
      have hy2 : w.heap.size < w2.heap.size := by omega
      clear g
      by_cases c2e : x.2.2 = y.2.2
      · rw [decide_eq_true c2e]
        have C2 := Lib.hid c2e; clear c2e
        go_wp2
        go_ret
        exact ⟨ret_bool (decide_eq_true (Prod.ext C0.out (Prod.ext C1.out (C2.out)))).symm, by (repeat (first | exact Bel.refl _ | apply Bel.drew | apply Bel.alloc | refine Bel.trans ?_ (by assumption)))⟩
      · rw [decide_eq_false c2e]
        have C2 := Lib.hid c2e; clear c2e
        go_wp2
        go_ret
        exact ⟨ret_bool (decide_eq_false fun h => C2.out (by rw [h])).symm, by (repeat (first | exact Bel.refl _ | apply Bel.drew | apply Bel.alloc | refine Bel.trans ?_ (by assumption)))⟩
    · rw [decide_eq_false c1e]
      have C1 := Lib.hid c1e; clear c1e
      go_wp2
      go_ret
      exact ⟨ret_bool (decide_eq_false fun h => C1.out (by rw [h])).symm, by (repeat (first | exact Bel.refl _ | apply Bel.drew | apply Bel.alloc | refine Bel.trans ?_ (by assumption)))⟩
  · have b0e : (x.1 != y.1) = true := by simp [c0e]
    have C0 := Lib.hid c0e; clear c0e
    go_wp2
    go_ret
    exact ⟨ret_bool (decide_eq_false fun h => C0.out (by rw [h])).symm, by (repeat (first | exact Bel.refl _ | apply Bel.drew | apply Bel.alloc | refine Bel.trans ?_ (by assumption)))⟩

set_option maxHeartbeats 400000 in
theorem eqModeS_rep (v v' : Value) (xs ys : List (ModeT)) (S S' : Nat → Prop) (w : World) (hx : modesR S w [v] xs) (hy : modesR S' w [v'] ys) (hS : ∀ b, S b → b < w.heap.size) (hS' : ∀ b, S' b → b < w.heap.size) :
    Calls Tryz.prog 114 #[v, v'] w fun e w' => e = .returned (.bool (decide (xs = ys))) ∧ Bel w w' := by
  obtain ⟨p, cap, rfl, h1, h2, h3⟩ := sliceR_open hx
  obtain ⟨p', cap', rfl, h1', h2', h3'⟩ := sliceR_open hy
  unfold maxLen at h2 h2'
  have HS := Lib.hid hS
  have HS' := Lib.hid hS'
  clear hx hy hS hS'
  by_cases hE : xs.length = ys.length
  · have HE := Lib.hid hE
    have hne : (((xs.length : Nat) : Int) != ((ys.length : Nat) : Int)) = false := by simp [hE]
    clear hE
    go_enter Tryz.func114, Tryz.ntmps114
    go_wp2_with fail
    go_loopw [5] (fun i wr => ∃ k : Nat, k ≤ xs.length ∧ i = .int .i64 k ∧ Bel w wr ∧ ∀ j, j < k → xs[j]? = ys[j]?) (fun i _ => xs.length - (intOf i).toNat)
    case atStart => exact ⟨0, Nat.zero_le _, rfl, Bel.refl _, fun j hj => by omega⟩
    case round =>
      obtain ⟨k, hk, rfl, hB, hall⟩ := hrel
      have HA := Lib.hid hall; clear hall
      by_cases hlt : k < xs.length
      · have hlt' : k < ys.length := by rw [← HE.out]; exact hlt
        obtain ⟨b, off, ecs, rfl, hSb, hlen, hrow, hel⟩ := h3 k hlt
        obtain ⟨b', off', ecs', rfl, hSb', hlen', hrow', hel'⟩ := h3' k hlt'
        have HSw := Lib.hid (show ∀ b, S b → b < wr.heap.size from fun b hb => Nat.lt_of_lt_of_le (HS.out b hb) hB.size)
        have HSw' := Lib.hid (show ∀ b, S' b → b < wr.heap.size from fun b hb => Nat.lt_of_lt_of_le (HS'.out b hb) hB.size)
        obtain ⟨c1, c2, rfl, q0, q1, q2⟩ := modeR_open hel
        obtain ⟨e1, e2, rfl, p0, p1, p2⟩ := modeR_open hel'
        have d0 := hB.cell (hrow 0 (by simp)).1
        have d1 := hB.cell (hrow 1 (by simp)).1
        have d2 := hB.cell (hrow 2 (by simp)).1
        simp only [List.getElem_cons_zero, List.getElem_cons_succ, Nat.add_zero] at d0 d1 d2
        have f0 := hB.cell (hrow' 0 (by simp)).1
        have f1 := hB.cell (hrow' 1 (by simp)).1
        have f2 := hB.cell (hrow' 2 (by simp)).1
        simp only [List.getElem_cons_zero, List.getElem_cons_succ, Nat.add_zero] at f0 f1 f2
        generalize hkx : xs[k] = X at *
        generalize hky : ys[k] = Y at *
        have HKX := Lib.hid hkx; clear hkx
        have HKY := Lib.hid hky; clear hky
        clear hlen hlen' hrow hrow' h3 h3'
        go_wp2_with fail
        go_region_held3 (fun w' => w'.cell? ⟨b, off + k * 3, none⟩ = some (.int .i64 X.1) ∧ w'.cell? ⟨b, off + k * 3 + 1, none⟩ = some (c1) ∧ w'.cell? ⟨b, off + k * 3 + 2, none⟩ = some (c2) ∧ w'.cell? ⟨b', off' + k * 3, none⟩ = some (.int .i64 Y.1) ∧ w'.cell? ⟨b', off' + k * 3 + 1, none⟩ = some (e1) ∧ w'.cell? ⟨b', off' + k * 3 + 2, none⟩ = some (e2)) (first | exact keep6 (by assumption) (by assumption) | go_keep)
          (first | (go_at_call 134; (with_reducible refine (eqMode_rep _ _ X Y S S' _ (aggR_mk (modeR_good.bel hel (by (repeat (first | exact Bel.refl _ | apply Bel.drew | apply Bel.alloc | refine Bel.trans ?_ (by assumption)))) HS.out)) (aggR_mk (modeR_good.bel hel' (by (repeat (first | exact Bel.refl _ | apply Bel.drew | apply Bel.alloc | refine Bel.trans ?_ (by assumption)))) HS'.out)) (fun b hb => Nat.lt_of_lt_of_le (HSw.out b hb) (Bel.size (by (repeat (first | exact Bel.refl _ | apply Bel.drew | apply Bel.alloc | refine Bel.trans ?_ (by assumption)))))) (fun b hb => Nat.lt_of_lt_of_le (HSw'.out b hb) (Bel.size (by (repeat (first | exact Bel.refl _ | apply Bel.drew | apply Bel.alloc | refine Bel.trans ?_ (by assumption))))))).mono ?_); rintro e w1 ⟨rfl, g1⟩))
        have G : Bel w w1 := by (repeat (first | exact Bel.refl _ | apply Bel.drew | apply Bel.alloc | refine Bel.trans ?_ (by assumption)))
        clear g1 hB
        by_cases hXY : X = Y
        · rw [decide_eq_true hXY]
          have HQ := Lib.hid hXY; clear hXY
          go_wp2
          go_roundw
          case rel =>
            refine ⟨k + 1, by omega, by go_num, G, fun j hj => ?_⟩
            by_cases e : j < k
            · exact HA.out j e
            · obtain rfl : j = k := by omega
              rw [List.getElem?_eq_getElem hlt, List.getElem?_eq_getElem hlt', HKX.out, HKY.out, HQ.out]
          case measure => simp [intOf]; omega
        · rw [decide_eq_false hXY]
          have HQ := Lib.hid hXY; clear hXY
          go_wp2
          go_ret
          refine ⟨ret_bool ?_, G⟩
          symm
          rw [decide_eq_false_iff_not]
          intro h
          subst h
          exact HQ.out (by rw [← HKX.out, ← HKY.out])
      · go_wp2
        go_ret
        refine ⟨ret_bool ?_, hB⟩
        symm
        rw [decide_eq_true_eq]
        refine List.ext_getElem? fun j => ?_
        by_cases e : j < k
        · exact HA.out j e
        · have h1 : xs.length ≤ j := by omega
          rw [List.getElem?_eq_none h1, List.getElem?_eq_none (by rw [← HE.out]; exact h1)]
  · have hne : (((xs.length : Nat) : Int) != ((ys.length : Nat) : Int)) = true := by simp; omega
    have HE := Lib.hid hE; clear hE
    go_enter Tryz.func114, Tryz.ntmps114
    go_wp2
    go_ret
    refine ⟨ret_bool ?_, Bel.refl _⟩
    symm
    rw [decide_eq_false_iff_not]
    intro h
    exact HE.out (by rw [h])

theorem eqActivity_rep (v v' : Value) (x y : ActT) (S S' : Nat → Prop) (w : World) (hx : aggR actR S w v x) (hy : aggR actR S' w v' y) (hS : ∀ b, S b → b < w.heap.size) (hS' : ∀ b, S' b → b < w.heap.size) :
    Calls Tryz.prog 81 #[v, v'] w fun e w' => e = .returned (.bool (decide (x = y))) ∧ Bel w w' := by
  obtain ⟨cs, rfl, hx⟩ := hx
  obtain ⟨cs', rfl, hy⟩ := hy
  obtain ⟨c2, rfl, q0, q1, q2⟩ := actR_open hx
  obtain ⟨d2, rfl, p0, p1, p2⟩ := actR_open hy
  clear hx hy
  have HS := Lib.hid hS
  have HS' := Lib.hid hS'
  clear hS hS'
  show Calls Tryz.prog 81 #[.agg #[.string x.1, .int .i64 x.2.1, c2], .agg #[.string y.1, .int .i64 y.2.1, d2]] w _
  go_enter Tryz.func81, Tryz.ntmps81
  by_cases c0e : x.1 = y.1
  · have b0e : ((x.1).toList == (y.1).toList) = true := by first | (rw [c0e]; exact beq_self_eq_true _) | exact beq_eq_false_iff_ne.2 fun h => c0e (toList_inj h)
    have C0 := Lib.hid c0e; clear c0e
    by_cases c1e : x.2.1 = y.2.1
    · have b1e : (x.2.1 != y.2.1) = false := by simp [c1e]
      have C1 := Lib.hid c1e; clear c1e
      go_wp2_with fail
      refine (eqModeS_rep _ _ x.2.2 y.2.2 S S' _ (modesR_good.bel q2 (by (repeat (first | exact Bel.refl _ | apply Bel.drew | apply Bel.alloc | refine Bel.trans ?_ (by assumption)))) HS.out) (modesR_good.bel p2 (by (repeat (first | exact Bel.refl _ | apply Bel.drew | apply Bel.alloc | refine Bel.trans ?_ (by assumption)))) HS'.out) (fun b hb => Nat.lt_of_lt_of_le (HS.out b hb) (Bel.size (by (repeat (first | exact Bel.refl _ | apply Bel.drew | apply Bel.alloc | refine Bel.trans ?_ (by assumption)))))) (fun b hb => Nat.lt_of_lt_of_le (HS'.out b hb) (Bel.size (by (repeat (first | exact Bel.refl _ | apply Bel.drew | apply Bel.alloc | refine Bel.trans ?_ (by assumption))))))).mono ?_
      rintro e w1 ⟨rfl, g⟩
      have G1 : Bel w w1 := by (repeat (first | exact Bel.refl _ | apply Bel.drew | apply Bel.alloc | refine Bel.trans ?_ (by assumption)))
      obtain ⟨hc1, hf1⟩ := g.rules
      have hz1 : w.heap.size + 1 < w1.heap.size := by have := g.size; simp only [World.size_alloc] at this; omega
      have hy1 : w.heap.size < w1.heap.size := by omega
      clear g
      by_cases c2e : x.2.2 = y.2.2
      · rw [decide_eq_true c2e]
        have C2 := Lib.hid c2e; clear c2e
        go_wp2
        go_ret
        exact ⟨ret_bool (decide_eq_true (Prod.ext C0.out (Prod.ext C1.out (C2.out)))).symm, by (repeat (first | exact Bel.refl _ | apply Bel.drew | apply Bel.alloc | refine Bel.trans ?_ (by assumption)))⟩
      · rw [decide_eq_false c2e]
        have C2 := Lib.hid c2e; clear c2e
        go_wp2
        go_ret
        exact ⟨ret_bool (decide_eq_false fun h => C2.out (by rw [h])).symm, by (repeat (first | exact Bel.refl _ | apply Bel.drew | apply Bel.alloc | refine Bel.trans ?_ (by assumption)))⟩
    · have b1e : (x.2.1 != y.2.1) = true := by simp [c1e]
      have C1 := Lib.hid c1e; clear c1e
      go_wp2
      go_ret
      exact ⟨ret_bool (decide_eq_false fun h => C1.out (by rw [h])).symm, by (repeat (first | exact Bel.refl _ | apply Bel.drew | apply Bel.alloc | refine Bel.trans ?_ (by assumption)))⟩
  · have b0e : ((x.1).toList == (y.1).toList) = false := by first | (rw [c0e]; exact beq_self_eq_true _) | exact beq_eq_false_iff_ne.2 fun h => c0e (toList_inj h)
    have C0 := Lib.hid c0e; clear c0e
    go_wp2
    go_ret
    exact ⟨ret_bool (decide_eq_false fun h => C0.out (by rw [h])).symm, by (repeat (first | exact Bel.refl _ | apply Bel.drew | apply Bel.alloc | refine Bel.trans ?_ (by assumption)))⟩

set_option maxHeartbeats 400000 in
theorem eqActivityS_rep (v v' : Value) (xs ys : List (ActT)) (S S' : Nat → Prop) (w : World) (hx : actsR S w [v] xs) (hy : actsR S' w [v'] ys) (hS : ∀ b, S b → b < w.heap.size) (hS' : ∀ b, S' b → b < w.heap.size) :
    Calls Tryz.prog 41 #[v, v'] w fun e w' => e = .returned (.bool (decide (xs = ys))) ∧ Bel w w' := by
  obtain ⟨p, cap, rfl, h1, h2, h3⟩ := sliceR_open hx
  obtain ⟨p', cap', rfl, h1', h2', h3'⟩ := sliceR_open hy
  unfold maxLen at h2 h2'
  have HS := Lib.hid hS
  have HS' := Lib.hid hS'
  clear hx hy hS hS'
  by_cases hE : xs.length = ys.length
  · have HE := Lib.hid hE
    have hne : (((xs.length : Nat) : Int) != ((ys.length : Nat) : Int)) = false := by simp [hE]
    clear hE
    go_enter Tryz.func41, Tryz.ntmps41
    go_wp2_with fail
    go_loopw [5] (fun i wr => ∃ k : Nat, k ≤ xs.length ∧ i = .int .i64 k ∧ Bel w wr ∧ ∀ j, j < k → xs[j]? = ys[j]?) (fun i _ => xs.length - (intOf i).toNat)
    case atStart => exact ⟨0, Nat.zero_le _, rfl, Bel.refl _, fun j hj => by omega⟩
    case round =>
      obtain ⟨k, hk, rfl, hB, hall⟩ := hrel
      have HA := Lib.hid hall; clear hall
      by_cases hlt : k < xs.length
      · have hlt' : k < ys.length := by rw [← HE.out]; exact hlt
        obtain ⟨b, off, ecs, rfl, hSb, hlen, hrow, hel⟩ := h3 k hlt
        obtain ⟨b', off', ecs', rfl, hSb', hlen', hrow', hel'⟩ := h3' k hlt'
        have HSw := Lib.hid (show ∀ b, S b → b < wr.heap.size from fun b hb => Nat.lt_of_lt_of_le (HS.out b hb) hB.size)
        have HSw' := Lib.hid (show ∀ b, S' b → b < wr.heap.size from fun b hb => Nat.lt_of_lt_of_le (HS'.out b hb) hB.size)
        obtain ⟨c2, rfl, q0, q1, q2⟩ := actR_open hel
        obtain ⟨e2, rfl, p0, p1, p2⟩ := actR_open hel'
        have d0 := hB.cell (hrow 0 (by simp)).1
        have d1 := hB.cell (hrow 1 (by simp)).1
        have d2 := hB.cell (hrow 2 (by simp)).1
        simp only [List.getElem_cons_zero, List.getElem_cons_succ, Nat.add_zero] at d0 d1 d2
        have f0 := hB.cell (hrow' 0 (by simp)).1
        have f1 := hB.cell (hrow' 1 (by simp)).1
        have f2 := hB.cell (hrow' 2 (by simp)).1
        simp only [List.getElem_cons_zero, List.getElem_cons_succ, Nat.add_zero] at f0 f1 f2
        generalize hkx : xs[k] = X at *
        generalize hky : ys[k] = Y at *
        have HKX := Lib.hid hkx; clear hkx
        have HKY := Lib.hid hky; clear hky
        clear hlen hlen' hrow hrow' h3 h3'
        go_wp2_with fail
        go_region_held3 (fun w' => w'.cell? ⟨b, off + k * 3, none⟩ = some (.string X.1) ∧ w'.cell? ⟨b, off + k * 3 + 1, none⟩ = some (.int .i64 X.2.1) ∧ w'.cell? ⟨b, off + k * 3 + 2, none⟩ = some (c2) ∧ w'.cell? ⟨b', off' + k * 3, none⟩ = some (.string Y.1) ∧ w'.cell? ⟨b', off' + k * 3 + 1, none⟩ = some (.int .i64 Y.2.1) ∧ w'.cell? ⟨b', off' + k * 3 + 2, none⟩ = some (e2)) (first | exact keep6 (by assumption) (by assumption) | go_keep)
          (first | (go_at_call 81; (with_reducible refine (eqActivity_rep _ _ X Y S S' _ (aggR_mk (actR_good.bel hel (by (repeat (first | exact Bel.refl _ | apply Bel.drew | apply Bel.alloc | refine Bel.trans ?_ (by assumption)))) HS.out)) (aggR_mk (actR_good.bel hel' (by (repeat (first | exact Bel.refl _ | apply Bel.drew | apply Bel.alloc | refine Bel.trans ?_ (by assumption)))) HS'.out)) (fun b hb => Nat.lt_of_lt_of_le (HSw.out b hb) (Bel.size (by (repeat (first | exact Bel.refl _ | apply Bel.drew | apply Bel.alloc | refine Bel.trans ?_ (by assumption)))))) (fun b hb => Nat.lt_of_lt_of_le (HSw'.out b hb) (Bel.size (by (repeat (first | exact Bel.refl _ | apply Bel.drew | apply Bel.alloc | refine Bel.trans ?_ (by assumption))))))).mono ?_); rintro e w1 ⟨rfl, g1⟩))
        have G : Bel w w1 := by (repeat (first | exact Bel.refl _ | apply Bel.drew | apply Bel.alloc | refine Bel.trans ?_ (by assumption)))
        clear g1 hB
        by_cases hXY : X = Y
        · rw [decide_eq_true hXY]
          have HQ := Lib.hid hXY; clear hXY
          go_wp2
          go_roundw
          case rel =>
            refine ⟨k + 1, by omega, by go_num, G, fun j hj => ?_⟩
            by_cases e : j < k
            · exact HA.out j e
            · obtain rfl : j = k := by omega
              rw [List.getElem?_eq_getElem hlt, List.getElem?_eq_getElem hlt', HKX.out, HKY.out, HQ.out]
          case measure => simp [intOf]; omega
        · rw [decide_eq_false hXY]
          have HQ := Lib.hid hXY; clear hXY
          go_wp2
          go_ret
          refine ⟨ret_bool ?_, G⟩
          symm
          rw [decide_eq_false_iff_not]
          intro h
          subst h
          exact HQ.out (by rw [← HKX.out, ← HKY.out])
      · go_wp2
        go_ret
        refine ⟨ret_bool ?_, hB⟩
        symm
        rw [decide_eq_true_eq]
        refine List.ext_getElem? fun j => ?_
        by_cases e : j < k
        · exact HA.out j e
        · have h1 : xs.length ≤ j := by omega
          rw [List.getElem?_eq_none h1, List.getElem?_eq_none (by rw [← HE.out]; exact h1)]
  · have hne : (((xs.length : Nat) : Int) != ((ys.length : Nat) : Int)) = true := by simp; omega
    have HE := Lib.hid hE; clear hE
    go_enter Tryz.func41, Tryz.ntmps41
    go_wp2
    go_ret
    refine ⟨ret_bool ?_, Bel.refl _⟩
    symm
    rw [decide_eq_false_iff_not]
    intro h
    exact HE.out (by rw [h])

theorem eqResource_rep (v v' : Value) (x y : ResT) (S S' : Nat → Prop) (w : World) (hx : aggR resR S w v x) (hy : aggR resR S' w v' y) (hS : ∀ b, S b → b < w.heap.size) (hS' : ∀ b, S' b → b < w.heap.size) :
    Calls Tryz.prog 83 #[v, v'] w fun e w' => e = .returned (.bool (decide (x = y))) ∧ Bel w w' := by
  obtain ⟨cs, rfl, hx⟩ := hx
  obtain ⟨cs', rfl, hy⟩ := hy
  obtain ⟨c0, c1, rfl, q0, q1⟩ := resR_open hx
  obtain ⟨d0, d1, rfl, p0, p1⟩ := resR_open hy
  clear hx hy
  have HS := Lib.hid hS
  have HS' := Lib.hid hS'
  clear hS hS'
  show Calls Tryz.prog 83 #[.agg #[c0, c1], .agg #[d0, d1]] w _
  go_enter Tryz.func83, Tryz.ntmps83
  go_wp2_with fail
  refine (eqStepS_rep _ _ x.1 y.1 S S' _ (stepsR_good.bel q0 (by (repeat (first | exact Bel.refl _ | apply Bel.drew | apply Bel.alloc | refine Bel.trans ?_ (by assumption)))) HS.out) (stepsR_good.bel p0 (by (repeat (first | exact Bel.refl _ | apply Bel.drew | apply Bel.alloc | refine Bel.trans ?_ (by assumption)))) HS'.out) (fun b hb => Nat.lt_of_lt_of_le (HS.out b hb) (Bel.size (by (repeat (first | exact Bel.refl _ | apply Bel.drew | apply Bel.alloc | refine Bel.trans ?_ (by assumption)))))) (fun b hb => Nat.lt_of_lt_of_le (HS'.out b hb) (Bel.size (by (repeat (first | exact Bel.refl _ | apply Bel.drew | apply Bel.alloc | refine Bel.trans ?_ (by assumption))))))).mono ?_
  rintro e w1 ⟨rfl, g⟩
  have G1 : Bel w w1 := by (repeat (first | exact Bel.refl _ | apply Bel.drew | apply Bel.alloc | refine Bel.trans ?_ (by assumption)))
  obtain ⟨hc1, hf1⟩ := g.rules
  have hz1 : w.heap.size + 1 < w1.heap.size := by have := g.size; simp only [World.size_alloc] at this; omega
  have hy1 : w.heap.size < w1.heap.size := by omega
  clear g
  by_cases c0e : x.1 = y.1
  · rw [decide_eq_true c0e]
    have C0 := Lib.hid c0e; clear c0e
    go_wp2_with fail
    refine (eqIntSS_rep _ _ x.2 y.2 S S' _ (rowsR_good.bel q1 (by (repeat (first | exact Bel.refl _ | apply Bel.drew | apply Bel.alloc | refine Bel.trans ?_ (by assumption)))) HS.out) (rowsR_good.bel p1 (by (repeat (first | exact Bel.refl _ | apply Bel.drew | apply Bel.alloc | refine Bel.trans ?_ (by assumption)))) HS'.out) (fun b hb => Nat.lt_of_lt_of_le (HS.out b hb) (Bel.size (by (repeat (first | exact Bel.refl _ | apply Bel.drew | apply Bel.alloc | refine Bel.trans ?_ (by assumption)))))) (fun b hb => Nat.lt_of_lt_of_le (HS'.out b hb) (Bel.size (by (repeat (first | exact Bel.refl _ | apply Bel.drew | apply Bel.alloc | refine Bel.trans ?_ (by assumption))))))).mono ?_
    rintro e w2 ⟨rfl, g⟩
    have G2 : Bel w w2 := by (repeat (first | exact Bel.refl _ | apply Bel.drew | apply Bel.alloc | refine Bel.trans ?_ (by assumption)))
    obtain ⟨hc2, hf2⟩ := g.rules
    have hz2 : w.heap.size + 1 < w2.heap.size := by have := g.size; omega
    have hy2 : w.heap.size < w2.heap.size := by omega
    clear g
    by_cases c1e : x.2 = y.2
    · rw [decide_eq_true c1e]
      have C1 := Lib.hid c1e; clear c1e
      go_wp2
      go_ret
      exact ⟨ret_bool (decide_eq_true (Prod.ext C0.out (C1.out))).symm, by (repeat (first | exact Bel.refl _ | apply Bel.drew | apply Bel.alloc | refine Bel.trans ?_ (by assumption)))⟩
    · rw [decide_eq_false c1e]
      have C1 := Lib.hid c1e; clear c1e
      go_wp2
      go_ret
      exact ⟨ret_bool (decide_eq_false fun h => C1.out (by rw [h])).symm, by (repeat (first | exact Bel.refl _ | apply Bel.drew | apply Bel.alloc | refine Bel.trans ?_ (by assumption)))⟩
  · rw [decide_eq_false c0e]
    have C0 := Lib.hid c0e; clear c0e
    go_wp2
    go_ret
    exact ⟨ret_bool (decide_eq_false fun h => C0.out (by rw [h])).symm, by (repeat (first | exact Bel.refl _ | apply Bel.drew | apply Bel.alloc | refine Bel.trans ?_ (by assumption)))⟩

set_option maxHeartbeats 400000 in
theorem eqResourceS_rep (v v' : Value) (xs ys : List (ResT)) (S S' : Nat → Prop) (w : World) (hx : ressR S w [v] xs) (hy : ressR S' w [v'] ys) (hS : ∀ b, S b → b < w.heap.size) (hS' : ∀ b, S' b → b < w.heap.size) :
    Calls Tryz.prog 43 #[v, v'] w fun e w' => e = .returned (.bool (decide (xs = ys))) ∧ Bel w w' := by
  obtain ⟨p, cap, rfl, h1, h2, h3⟩ := sliceR_open hx
  obtain ⟨p', cap', rfl, h1', h2', h3'⟩ := sliceR_open hy
  unfold maxLen at h2 h2'
  have HS := Lib.hid hS
  have HS' := Lib.hid hS'
  clear hx hy hS hS'
  by_cases hE : xs.length = ys.length
  · have HE := Lib.hid hE
    have hne : (((xs.length : Nat) : Int) != ((ys.length : Nat) : Int)) = false := by simp [hE]
    clear hE
    go_enter Tryz.func43, Tryz.ntmps43
    go_wp2_with fail
    go_loopw [5] (fun i wr => ∃ k : Nat, k ≤ xs.length ∧ i = .int .i64 k ∧ Bel w wr ∧ ∀ j, j < k → xs[j]? = ys[j]?) (fun i _ => xs.length - (intOf i).toNat)
    case atStart => exact ⟨0, Nat.zero_le _, rfl, Bel.refl _, fun j hj => by omega⟩
    case round =>
      obtain ⟨k, hk, rfl, hB, hall⟩ := hrel
      have HA := Lib.hid hall; clear hall
      by_cases hlt : k < xs.length
      · have hlt' : k < ys.length := by rw [← HE.out]; exact hlt
        obtain ⟨b, off, ecs, rfl, hSb, hlen, hrow, hel⟩ := h3 k hlt
        obtain ⟨b', off', ecs', rfl, hSb', hlen', hrow', hel'⟩ := h3' k hlt'
        have HSw := Lib.hid (show ∀ b, S b → b < wr.heap.size from fun b hb => Nat.lt_of_lt_of_le (HS.out b hb) hB.size)
        have HSw' := Lib.hid (show ∀ b, S' b → b < wr.heap.size from fun b hb => Nat.lt_of_lt_of_le (HS'.out b hb) hB.size)
        obtain ⟨c0, c1, rfl, q0, q1⟩ := resR_open hel
        obtain ⟨e0, e1, rfl, p0, p1⟩ := resR_open hel'
        have d0 := hB.cell (hrow 0 (by simp)).1
        have d1 := hB.cell (hrow 1 (by simp)).1
        simp only [List.getElem_cons_zero, List.getElem_cons_succ, Nat.add_zero] at d0 d1
        have f0 := hB.cell (hrow' 0 (by simp)).1
        have f1 := hB.cell (hrow' 1 (by simp)).1
        simp only [List.getElem_cons_zero, List.getElem_cons_succ, Nat.add_zero] at f0 f1
        generalize hkx : xs[k] = X at *
        generalize hky : ys[k] = Y at *
        have HKX := Lib.hid hkx; clear hkx
        have HKY := Lib.hid hky; clear hky
        clear hlen hlen' hrow hrow' h3 h3'
        go_wp2_with fail
        go_region_held3 (fun w' => w'.cell? ⟨b, off + k * 2, none⟩ = some (c0) ∧ w'.cell? ⟨b, off + k * 2 + 1, none⟩ = some (c1) ∧ w'.cell? ⟨b', off' + k * 2, none⟩ = some (e0) ∧ w'.cell? ⟨b', off' + k * 2 + 1, none⟩ = some (e1)) (first | exact keep4 (by assumption) (by assumption) | go_keep)
          (first | (go_at_call 83; (with_reducible refine (eqResource_rep _ _ X Y S S' _ (aggR_mk (resR_good.bel hel (by (repeat (first | exact Bel.refl _ | apply Bel.drew | apply Bel.alloc | refine Bel.trans ?_ (by assumption)))) HS.out)) (aggR_mk (resR_good.bel hel' (by (repeat (first | exact Bel.refl _ | apply Bel.drew | apply Bel.alloc | refine Bel.trans ?_ (by assumption)))) HS'.out)) (fun b hb => Nat.lt_of_lt_of_le (HSw.out b hb) (Bel.size (by (repeat (first | exact Bel.refl _ | apply Bel.drew | apply Bel.alloc | refine Bel.trans ?_ (by assumption)))))) (fun b hb => Nat.lt_of_lt_of_le (HSw'.out b hb) (Bel.size (by (repeat (first | exact Bel.refl _ | apply Bel.drew | apply Bel.alloc | refine Bel.trans ?_ (by assumption))))))).mono ?_); rintro e w1 ⟨rfl, g1⟩))
        have G : Bel w w1 := by (repeat (first | exact Bel.refl _ | apply Bel.drew | apply Bel.alloc | refine Bel.trans ?_ (by assumption)))
        clear g1 hB
        by_cases hXY : X = Y
        · rw [decide_eq_true hXY]
          have HQ := Lib.hid hXY; clear hXY
          go_wp2
          go_roundw
          case rel =>
            refine ⟨k + 1, by omega, by go_num, G, fun j hj => ?_⟩
            by_cases e : j < k
            · exact HA.out j e
            · obtain rfl : j = k := by omega
              rw [List.getElem?_eq_getElem hlt, List.getElem?_eq_getElem hlt', HKX.out, HKY.out, HQ.out]
          case measure => simp [intOf]; omega
        · rw [decide_eq_false hXY]
          have HQ := Lib.hid hXY; clear hXY
          go_wp2
          go_ret
          refine ⟨ret_bool ?_, G⟩
          symm
          rw [decide_eq_false_iff_not]
          intro h
          subst h
          exact HQ.out (by rw [← HKX.out, ← HKY.out])
      · go_wp2
        go_ret
        refine ⟨ret_bool ?_, hB⟩
        symm
        rw [decide_eq_true_eq]
        refine List.ext_getElem? fun j => ?_
        by_cases e : j < k
        · exact HA.out j e
        · have h1 : xs.length ≤ j := by omega
          rw [List.getElem?_eq_none h1, List.getElem?_eq_none (by rw [← HE.out]; exact h1)]
  · have hne : (((xs.length : Nat) : Int) != ((ys.length : Nat) : Int)) = true := by simp; omega
    have HE := Lib.hid hE; clear hE
    go_enter Tryz.func43, Tryz.ntmps43
    go_wp2
    go_ret
    refine ⟨ret_bool ?_, Bel.refl _⟩
    symm
    rw [decide_eq_false_iff_not]
    intro h
    exact HE.out (by rw [h])

theorem eqProject_rep (v v' : Value) (x y : ProjT) (S S' : Nat → Prop) (w : World) (hx : aggR projR S w v x) (hy : aggR projR S' w v' y) (hS : ∀ b, S b → b < w.heap.size) (hS' : ∀ b, S' b → b < w.heap.size) :
    Calls Tryz.prog 12 #[v, v'] w fun e w' => e = .returned (.bool (decide (x = y))) ∧ Bel w w' := by
  obtain ⟨cs, rfl, hx⟩ := hx
  obtain ⟨cs', rfl, hy⟩ := hy
  obtain ⟨c1, c2, c3, c4, rfl, q0, q1, q2, q3, q4⟩ := projR_open hx
  obtain ⟨d1, d2, d3, d4, rfl, p0, p1, p2, p3, p4⟩ := projR_open hy
  clear hx hy
  have HS := Lib.hid hS
  have HS' := Lib.hid hS'
  clear hS hS'
  show Calls Tryz.prog 12 #[.agg #[.int .i64 x.1, c1, c2, c3, c4], .agg #[.int .i64 y.1, d1, d2, d3, d4]] w _
  go_enter Tryz.func12, Tryz.ntmps12
  by_cases c0e : x.1 = y.1
  · have b0e : (x.1 != y.1) = false := by simp [c0e]
    have C0 := Lib.hid c0e; clear c0e
    go_wp2_with fail
    refine (eqActivityS_rep _ _ x.2.1 y.2.1 S S' _ (actsR_good.bel q1 (by (repeat (first | exact Bel.refl _ | apply Bel.drew | apply Bel.alloc | refine Bel.trans ?_ (by assumption)))) HS.out) (actsR_good.bel p1 (by (repeat (first | exact Bel.refl _ | apply Bel.drew | apply Bel.alloc | refine Bel.trans ?_ (by assumption)))) HS'.out) (fun b hb => Nat.lt_of_lt_of_le (HS.out b hb) (Bel.size (by (repeat (first | exact Bel.refl _ | apply Bel.drew | apply Bel.alloc | refine Bel.trans ?_ (by assumption)))))) (fun b hb => Nat.lt_of_lt_of_le (HS'.out b hb) (Bel.size (by (repeat (first | exact Bel.refl _ | apply Bel.drew | apply Bel.alloc | refine Bel.trans ?_ (by assumption))))))).mono ?_
    rintro e w1 ⟨rfl, g⟩
    have G1 : Bel w w1 := by (repeat (first | exact Bel.refl _ | apply Bel.drew | apply Bel.alloc | refine Bel.trans ?_ (by assumption)))
    obtain ⟨hc1, hf1⟩ := g.rules
    have hz1 : w.heap.size + 1 < w1.heap.size := by have := g.size; simp only [World.size_alloc] at this; omega
    have hy1 : w.heap.size < w1.heap.size := by omega
    clear g
    by_cases c1e : x.2.1 = y.2.1
    · rw [decide_eq_true c1e]
      have C1 := Lib.hid c1e; clear c1e
      go_wp2_with fail
      refine (eqLinkS_rep _ _ x.2.2.1 y.2.2.1 S S' _ (linksR_good.bel q2 (by (repeat (first | exact Bel.refl _ | apply Bel.drew | apply Bel.alloc | refine Bel.trans ?_ (by assumption)))) HS.out) (linksR_good.bel p2 (by (repeat (first | exact Bel.refl _ | apply Bel.drew | apply Bel.alloc | refine Bel.trans ?_ (by assumption)))) HS'.out) (fun b hb => Nat.lt_of_lt_of_le (HS.out b hb) (Bel.size (by (repeat (first | exact Bel.refl _ | apply Bel.drew | apply Bel.alloc | refine Bel.trans ?_ (by assumption)))))) (fun b hb => Nat.lt_of_lt_of_le (HS'.out b hb) (Bel.size (by (repeat (first | exact Bel.refl _ | apply Bel.drew | apply Bel.alloc | refine Bel.trans ?_ (by assumption))))))).mono ?_
      rintro e w2 ⟨rfl, g⟩
      have G2 : Bel w w2 := by (repeat (first | exact Bel.refl _ | apply Bel.drew | apply Bel.alloc | refine Bel.trans ?_ (by assumption)))
      obtain ⟨hc2, hf2⟩ := g.rules
      have hz2 : w.heap.size + 1 < w2.heap.size := by have := g.size; omega
      have hy2 : w.heap.size < w2.heap.size := by omega
      clear g
      by_cases c2e : x.2.2.1 = y.2.2.1
      · rw [decide_eq_true c2e]
        have C2 := Lib.hid c2e; clear c2e
        go_wp2_with fail
        refine (eqResourceS_rep _ _ x.2.2.2.1 y.2.2.2.1 S S' _ (ressR_good.bel q3 (by (repeat (first | exact Bel.refl _ | apply Bel.drew | apply Bel.alloc | refine Bel.trans ?_ (by assumption)))) HS.out) (ressR_good.bel p3 (by (repeat (first | exact Bel.refl _ | apply Bel.drew | apply Bel.alloc | refine Bel.trans ?_ (by assumption)))) HS'.out) (fun b hb => Nat.lt_of_lt_of_le (HS.out b hb) (Bel.size (by (repeat (first | exact Bel.refl _ | apply Bel.drew | apply Bel.alloc | refine Bel.trans ?_ (by assumption)))))) (fun b hb => Nat.lt_of_lt_of_le (HS'.out b hb) (Bel.size (by (repeat (first | exact Bel.refl _ | apply Bel.drew | apply Bel.alloc | refine Bel.trans ?_ (by assumption))))))).mono ?_
        rintro e w3 ⟨rfl, g⟩
        have G3 : Bel w w3 := by (repeat (first | exact Bel.refl _ | apply Bel.drew | apply Bel.alloc | refine Bel.trans ?_ (by assumption)))
        obtain ⟨hc3, hf3⟩ := g.rules
        have hz3 : w.heap.size + 1 < w3.heap.size := by have := g.size; omega
        have hy3 : w.heap.size < w3.heap.size := by omega
        clear g
        by_cases c3e : x.2.2.2.1 = y.2.2.2.1
        · rw [decide_eq_true c3e]
          have C3 := Lib.hid c3e; clear c3e
          go_wp2_with fail
          refine (eqIntS_rep _ _ x.2.2.2.2 y.2.2.2.2 S S' _ (intsR_good.bel q4 (by (repeat (first | exact Bel.refl _ | apply Bel.drew | apply Bel.alloc | refine Bel.trans ?_ (by assumption)))) HS.out) (intsR_good.bel p4 (by (repeat (first | exact Bel.refl _ | apply Bel.drew | apply Bel.alloc | refine Bel.trans ?_ (by assumption)))) HS'.out) (fun b hb => Nat.lt_of_lt_of_le (HS.out b hb) (Bel.size (by (repeat (first | exact Bel.refl _ | apply Bel.drew | apply Bel.alloc | refine Bel.trans ?_ (by assumption)))))) (fun b hb => Nat.lt_of_lt_of_le (HS'.out b hb) (Bel.size (by (repeat (first | exact Bel.refl _ | apply Bel.drew | apply Bel.alloc | refine Bel.trans ?_ (by assumption))))))).mono ?_
          rintro e w4 ⟨rfl, g⟩
          have G4 : Bel w w4 := by (repeat (first | exact Bel.refl _ | apply Bel.drew | apply Bel.alloc | refine Bel.trans ?_ (by assumption)))
          obtain ⟨hc4, hf4⟩ := g.rules
          have hz4 : w.heap.size + 1 < w4.heap.size := by have := g.size; omega
          have hy4 : w.heap.size < w4.heap.size := by omega
          clear g
          by_cases c4e : x.2.2.2.2 = y.2.2.2.2
          · rw [decide_eq_true c4e]
            have C4 := Lib.hid c4e; clear c4e
            go_wp2
            go_ret
            exact ⟨ret_bool (decide_eq_true (Prod.ext C0.out (Prod.ext C1.out (Prod.ext C2.out (Prod.ext C3.out (C4.out)))))).symm, by (repeat (first | exact Bel.refl _ | apply Bel.drew | apply Bel.alloc | refine Bel.trans ?_ (by assumption)))⟩
          · rw [decide_eq_false c4e]
            have C4 := Lib.hid c4e; clear c4e
            go_wp2
            go_ret
            exact ⟨ret_bool (decide_eq_false fun h => C4.out (by rw [h])).symm, by (repeat (first | exact Bel.refl _ | apply Bel.drew | apply Bel.alloc | refine Bel.trans ?_ (by assumption)))⟩
        · rw [decide_eq_false c3e]
          have C3 := Lib.hid c3e; clear c3e
          go_wp2
          go_ret
          exact ⟨ret_bool (decide_eq_false fun h => C3.out (by rw [h])).symm, by (repeat (first | exact Bel.refl _ | apply Bel.drew | apply Bel.alloc | refine Bel.trans ?_ (by assumption)))⟩
      · rw [decide_eq_false c2e]
        have C2 := Lib.hid c2e; clear c2e
        go_wp2
        go_ret
        exact ⟨ret_bool (decide_eq_false fun h => C2.out (by rw [h])).symm, by (repeat (first | exact Bel.refl _ | apply Bel.drew | apply Bel.alloc | refine Bel.trans ?_ (by assumption)))⟩
    · rw [decide_eq_false c1e]
      have C1 := Lib.hid c1e; clear c1e
      go_wp2
      go_ret
      exact ⟨ret_bool (decide_eq_false fun h => C1.out (by rw [h])).symm, by (repeat (first | exact Bel.refl _ | apply Bel.drew | apply Bel.alloc | refine Bel.trans ?_ (by assumption)))⟩
  · have b0e : (x.1 != y.1) = true := by simp [c0e]
    have C0 := Lib.hid c0e; clear c0e
    go_wp2
    go_ret
    exact ⟨ret_bool (decide_eq_false fun h => C0.out (by rw [h])).symm, by (repeat (first | exact Bel.refl _ | apply Bel.drew | apply Bel.alloc | refine Bel.trans ?_ (by assumption)))⟩

end Go.Proofs.YtkfpciggolkjeaaGreatDoor
