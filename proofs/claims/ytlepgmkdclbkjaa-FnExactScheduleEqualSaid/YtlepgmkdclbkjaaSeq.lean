/- Contracts: two slices are the same, element by element (SetEqual, ClauseEqual, slices.Equal). -/
import Derived.Test.YtlepgmkdclbkjaaEq
import Derived.Test.YtlepgmkdclbkjaaLit
import Derived.Laws.StructEq
namespace Go.Proofs.Ytlepgmkdclbkjaa
open Go.ChangeShapes Go.WideShapes Go.ChangeAt Go.RowKit
set_option linter.unusedVariables false

theorem eqLitB_dec (X Y : LitT) : eqLitB X.1 X.2.1 X.2.2 Y.1 Y.2.1 Y.2.2 = decide (X = Y) := by
  rw [Bool.eq_iff_iff]; simp [eqLitB, Prod.ext_iff]
set_option maxHeartbeats 400000 in
theorem sSetEqual_any (v v' : Value) (xs ys : List (Int)) (S S' : Nat → Prop) (w : World) (hx : intsR S w [v] xs) (hy : intsR S' w [v'] ys) :
    Calls Try.prog 36 #[v, v'] w fun e w' => e = .returned (.bool (decide (xs = ys))) ∧ Bel w w' := by
  obtain ⟨p, cap, rfl, h1, h2, h3⟩ := sliceR_open hx
  obtain ⟨p', cap', rfl, h1', h2', h3'⟩ := sliceR_open hy
  unfold maxLen at h2 h2'
  clear hx hy
  by_cases hE : xs.length = ys.length
  · have HE := Lib.hid hE
    have hne : (((xs.length : Nat) : Int) != ((ys.length : Nat) : Int)) = false := by simp [hE]
    clear hE
    go_enter Try.func36, Try.ntmps36
    go_wp2_with fail
    go_loopw [13] (fun i wr => ∃ k : Nat, k ≤ xs.length ∧ i = .int .i64 k ∧ Bel w wr ∧ ∀ j, j < k → xs[j]? = ys[j]?) (fun i _ => xs.length - (intOf i).toNat)
    case atStart => exact ⟨0, Nat.zero_le _, rfl, Bel.refl _, fun j hj => by omega⟩
    case round =>
      obtain ⟨k, hk, rfl, hB, hall⟩ := hrel
      have HA := Lib.hid hall; clear hall
      by_cases hlt : k < xs.length
      · have hlt' : k < ys.length := by rw [← HE.out]; exact hlt
        obtain ⟨b, off, ecs, rfl, hSb, hlen, hrow, hel⟩ := h3 k hlt
        obtain ⟨b', off', ecs', rfl, hSb', hlen', hrow', hel'⟩ := h3' k hlt'
        obtain ⟨rfl, _⟩ := hel
        obtain ⟨rfl, _⟩ := hel'
        have d0 := hB.cell (hrow 0 (by simp)).1
        simp only [List.getElem_cons_zero, Nat.mul_one, Nat.add_zero] at d0
        have f0 := hB.cell (hrow' 0 (by simp)).1
        simp only [List.getElem_cons_zero, Nat.mul_one, Nat.add_zero] at f0
        generalize hkx : xs[k] = X at *
        generalize hky : ys[k] = Y at *
        have HKX := Lib.hid hkx; clear hkx
        have HKY := Lib.hid hky; clear hky
        clear hlen hlen' hrow hrow' h3 h3'
        by_cases hXY : X = Y
        · have bne : (X != Y) = false := by simp [hXY]
          have HQ := Lib.hid hXY; clear hXY
          go_wp2_with fail
          go_quiet (fail)
          go_wp2
          go_roundw
          case rel =>
            refine ⟨k + 1, by omega, by go_num, hB.drewN _, fun j hj => ?_⟩
            by_cases e : j < k
            · exact HA.out j e
            · obtain rfl : j = k := by omega
              rw [List.getElem?_eq_getElem hlt, List.getElem?_eq_getElem hlt', HKX.out, HKY.out, HQ.out]
          case measure => simp [intOf]; omega
        · have bne : (X != Y) = true := by simp [hXY]
          have HQ := Lib.hid hXY; clear hXY
          go_wp2_with fail
          go_quiet (fail)
          go_wp2
          go_ret
          refine ⟨ret_bool ?_, hB.drewN _⟩
          symm
          rw [decide_eq_false_iff_not]
          intro h
          subst h
          exact HQ.out (by rw [← HKX.out, ← HKY.out])
      · go_wp2
        go_ret
        refine ⟨ret_bool ?_, hB⟩
        symm
        rw [decide_eq_true_eq]
        refine List.ext_getElem? fun j => ?_
        by_cases e : j < k
        · exact HA.out j e
        · have h1 : xs.length ≤ j := by omega
          rw [List.getElem?_eq_none h1, List.getElem?_eq_none (by rw [← HE.out]; exact h1)]
  · have hne : (((xs.length : Nat) : Int) != ((ys.length : Nat) : Int)) = true := by simp; omega
    have HE := Lib.hid hE; clear hE
    go_enter Try.func36, Try.ntmps36
    go_wp2
    go_ret
    refine ⟨ret_bool ?_, Bel.refl _⟩
    symm
    rw [decide_eq_false_iff_not]
    intro h
    exact HE.out (by rw [h])

set_option maxHeartbeats 400000 in
theorem equalInts_any (v v' : Value) (xs ys : List (Int)) (S S' : Nat → Prop) (w : World) (hx : intsR S w [v] xs) (hy : intsR S' w [v'] ys) :
    Calls Try.prog 38 #[v, v'] w fun e w' => e = .returned (.bool (decide (xs = ys))) ∧ Bel w w' := by
  obtain ⟨p, cap, rfl, h1, h2, h3⟩ := sliceR_open hx
  obtain ⟨p', cap', rfl, h1', h2', h3'⟩ := sliceR_open hy
  unfold maxLen at h2 h2'
  clear hx hy
  by_cases hE : xs.length = ys.length
  · have HE := Lib.hid hE
    have hne : (((xs.length : Nat) : Int) != ((ys.length : Nat) : Int)) = false := by simp [hE]
    clear hE
    go_enter Try.func38, Try.ntmps38
    go_wp2_with fail
    go_loopw [13] (fun i wr => ∃ k : Nat, k ≤ xs.length ∧ i = .int .i64 k ∧ Bel w wr ∧ ∀ j, j < k → xs[j]? = ys[j]?) (fun i _ => xs.length - (intOf i).toNat)
    case atStart => exact ⟨0, Nat.zero_le _, rfl, Bel.refl _, fun j hj => by omega⟩
    case round =>
      obtain ⟨k, hk, rfl, hB, hall⟩ := hrel
      have HA := Lib.hid hall; clear hall
      by_cases hlt : k < xs.length
      · have hlt' : k < ys.length := by rw [← HE.out]; exact hlt
        obtain ⟨b, off, ecs, rfl, hSb, hlen, hrow, hel⟩ := h3 k hlt
        obtain ⟨b', off', ecs', rfl, hSb', hlen', hrow', hel'⟩ := h3' k hlt'
        obtain ⟨rfl, _⟩ := hel
        obtain ⟨rfl, _⟩ := hel'
        have d0 := hB.cell (hrow 0 (by simp)).1
        simp only [List.getElem_cons_zero, Nat.mul_one, Nat.add_zero] at d0
        have f0 := hB.cell (hrow' 0 (by simp)).1
        simp only [List.getElem_cons_zero, Nat.mul_one, Nat.add_zero] at f0
        generalize hkx : xs[k] = X at *
        generalize hky : ys[k] = Y at *
        have HKX := Lib.hid hkx; clear hkx
        have HKY := Lib.hid hky; clear hky
        clear hlen hlen' hrow hrow' h3 h3'
        by_cases hXY : X = Y
        · have bne : (X != Y) = false := by simp [hXY]
          have HQ := Lib.hid hXY; clear hXY
          go_wp2_with fail
          go_quiet (fail)
          go_wp2
          go_roundw
          case rel =>
            refine ⟨k + 1, by omega, by go_num, hB.drewN _, fun j hj => ?_⟩
            by_cases e : j < k
            · exact HA.out j e
            · obtain rfl : j = k := by omega
              rw [List.getElem?_eq_getElem hlt, List.getElem?_eq_getElem hlt', HKX.out, HKY.out, HQ.out]
          case measure => simp [intOf]; omega
        · have bne : (X != Y) = true := by simp [hXY]
          have HQ := Lib.hid hXY; clear hXY
          go_wp2_with fail
          go_quiet (fail)
          go_wp2
          go_ret
          refine ⟨ret_bool ?_, hB.drewN _⟩
          symm
          rw [decide_eq_false_iff_not]
          intro h
          subst h
          exact HQ.out (by rw [← HKX.out, ← HKY.out])
      · go_wp2
        go_ret
        refine ⟨ret_bool ?_, hB⟩
        symm
        rw [decide_eq_true_eq]
        refine List.ext_getElem? fun j => ?_
        by_cases e : j < k
        · exact HA.out j e
        · have h1 : xs.length ≤ j := by omega
          rw [List.getElem?_eq_none h1, List.getElem?_eq_none (by rw [← HE.out]; exact h1)]
  · have hne : (((xs.length : Nat) : Int) != ((ys.length : Nat) : Int)) = true := by simp; omega
    have HE := Lib.hid hE; clear hE
    go_enter Try.func38, Try.ntmps38
    go_wp2
    go_ret
    refine ⟨ret_bool ?_, Bel.refl _⟩
    symm
    rw [decide_eq_false_iff_not]
    intro h
    exact HE.out (by rw [h])

-- for function 34
theorem litFields : Try.prog.fieldsOf 26 = #[⟨ "Kind", 3, 0, false, "", "", 0⟩, ⟨ "Activity", 3, 1, false, "", "", 8⟩, ⟨ "Value", 3, 2, false, "", "", 16⟩] := by kernel_rfl
theorem litStood : Try.prog.stoodInHeld 26 = false := by kernel_rfl
theorem litGuard : Try.prog.eqGuardType Try.prog.depth 26 = false := by kernel_rfl
theorem run_neq_lit (a b c a' b' c' : Int) (w : World) : Sem.run Try.prog (binOp .neq 26 (.agg #[.int .i64 a, .int .i64 b, .int .i64 c]) (.agg #[.int .i64 a', .int .i64 b', .int .i64 c'])) w = .ok (.bool (!eqLitB a b c a' b' c')) w := by
  have h3 := Try.underlying3
  rw [run_neq_struct, run_equalIn_agg (d := 9999) w _ _ _ (by rw [litFields]; exact Try.underlying26) litStood, litFields]
  simp [Op.eqFields, go_sem, h3, eqLitB]
  repeat' (first | rfl | split)
  all_goals simp_all
theorem run_guard_lit (op : BinOp) (x y : Operand) (xs ys : Array Value) (w : World) : Sem.run Try.prog (eqGuard op 26 x y (.agg xs) (.agg ys)) w = .ok () w := run_eqGuard_agg w op 26 x y xs ys litGuard

set_option maxHeartbeats 400000 in
theorem equalLits_any (v v' : Value) (xs ys : List (LitT)) (S S' : Nat → Prop) (w : World) (hx : litsR S w [v] xs) (hy : litsR S' w [v'] ys) :
    Calls Try.prog 34 #[v, v'] w fun e w' => e = .returned (.bool (decide (xs = ys))) ∧ Bel w w' := by
  obtain ⟨p, cap, rfl, h1, h2, h3⟩ := sliceR_open hx
  obtain ⟨p', cap', rfl, h1', h2', h3'⟩ := sliceR_open hy
  unfold maxLen at h2 h2'
  clear hx hy
  have rn := run_neq_lit
  have rg := run_guard_lit
  by_cases hE : xs.length = ys.length
  · have HE := Lib.hid hE
    have hne : (((xs.length : Nat) : Int) != ((ys.length : Nat) : Int)) = false := by simp [hE]
    clear hE
    go_enter Try.func34, Try.ntmps34
    go_wp2_with fail
    go_loopw [13] (fun i wr => ∃ k : Nat, k ≤ xs.length ∧ i = .int .i64 k ∧ Bel w wr ∧ ∀ j, j < k → xs[j]? = ys[j]?) (fun i _ => xs.length - (intOf i).toNat)
    case atStart => exact ⟨0, Nat.zero_le _, rfl, Bel.refl _, fun j hj => by omega⟩
    case round =>
      obtain ⟨k, hk, rfl, hB, hall⟩ := hrel
      have HA := Lib.hid hall; clear hall
      by_cases hlt : k < xs.length
      · have hlt' : k < ys.length := by rw [← HE.out]; exact hlt
        obtain ⟨b, off, ecs, rfl, hSb, hlen, hrow, hel⟩ := h3 k hlt
        obtain ⟨b', off', ecs', rfl, hSb', hlen', hrow', hel'⟩ := h3' k hlt'
        obtain ⟨rfl, q0, q1, q2⟩ := litR_open hel
        obtain ⟨rfl, p0, p1, p2⟩ := litR_open hel'
        have d0 := hB.cell (hrow 0 (by simp)).1
        have d1 := hB.cell (hrow 1 (by simp)).1
        have d2 := hB.cell (hrow 2 (by simp)).1
        simp only [List.getElem_cons_zero, List.getElem_cons_succ, Nat.add_zero] at d0 d1 d2
        have f0 := hB.cell (hrow' 0 (by simp)).1
        have f1 := hB.cell (hrow' 1 (by simp)).1
        have f2 := hB.cell (hrow' 2 (by simp)).1
        simp only [List.getElem_cons_zero, List.getElem_cons_succ, Nat.add_zero] at f0 f1 f2
        generalize hkx : xs[k] = X at *
        generalize hky : ys[k] = Y at *
        have HKX := Lib.hid hkx; clear hkx
        have HKY := Lib.hid hky; clear hky
        clear hlen hlen' hrow hrow' h3 h3'
        by_cases hXY : X = Y
        · have bne : eqLitB X.1 X.2.1 X.2.2 Y.1 Y.2.1 Y.2.2 = true := by rw [eqLitB_dec]; exact decide_eq_true hXY
          have HQ := Lib.hid hXY; clear hXY
          go_wp2_with fail
          go_quiet (fail)
          go_wp2
          go_roundw
          case rel =>
            refine ⟨k + 1, by omega, by go_num, hB.drewN _, fun j hj => ?_⟩
            by_cases e : j < k
            · exact HA.out j e
            · obtain rfl : j = k := by omega
              rw [List.getElem?_eq_getElem hlt, List.getElem?_eq_getElem hlt', HKX.out, HKY.out, HQ.out]
          case measure => simp [intOf]; omega
        · have bne : eqLitB X.1 X.2.1 X.2.2 Y.1 Y.2.1 Y.2.2 = false := by rw [eqLitB_dec]; exact decide_eq_false hXY
          have HQ := Lib.hid hXY; clear hXY
          go_wp2_with fail
          go_quiet (fail)
          go_wp2
          go_ret
          refine ⟨ret_bool ?_, hB.drewN _⟩
          symm
          rw [decide_eq_false_iff_not]
          intro h
          subst h
          exact HQ.out (by rw [← HKX.out, ← HKY.out])
      · go_wp2
        go_ret
        refine ⟨ret_bool ?_, hB⟩
        symm
        rw [decide_eq_true_eq]
        refine List.ext_getElem? fun j => ?_
        by_cases e : j < k
        · exact HA.out j e
        · have h1 : xs.length ≤ j := by omega
          rw [List.getElem?_eq_none h1, List.getElem?_eq_none (by rw [← HE.out]; exact h1)]
  · have hne : (((xs.length : Nat) : Int) != ((ys.length : Nat) : Int)) = true := by simp; omega
    have HE := Lib.hid hE; clear hE
    go_enter Try.func34, Try.ntmps34
    go_wp2
    go_ret
    refine ⟨ret_bool ?_, Bel.refl _⟩
    symm
    rw [decide_eq_false_iff_not]
    intro h
    exact HE.out (by rw [h])

set_option maxHeartbeats 400000 in
theorem sClauseEqual_loop (v v' : Value) (xs ys : List (LitT)) (S S' : Nat → Prop) (w : World) (hx : litsR S w [v] xs) (hy : litsR S' w [v'] ys) :
    Calls Try.prog 20 #[v, v'] w fun e w' => e = .returned (.bool (decide (xs = ys))) ∧ Bel w w' := by
  obtain ⟨p, cap, rfl, h1, h2, h3⟩ := sliceR_open hx
  obtain ⟨p', cap', rfl, h1', h2', h3'⟩ := sliceR_open hy
  unfold maxLen at h2 h2'
  clear hx hy
  have rn := run_neq_lit
  have rg := run_guard_lit
  by_cases hE : xs.length = ys.length
  · have HE := Lib.hid hE
    have hne : (((xs.length : Nat) : Int) != ((ys.length : Nat) : Int)) = false := by simp [hE]
    clear hE
    go_enter Try.func20, Try.ntmps20
    go_wp2_with fail
    go_loopw [14] (fun i wr => ∃ k : Nat, k ≤ xs.length ∧ i = .int .i64 k ∧ Bel w wr ∧ ∀ j, j < k → xs[j]? = ys[j]?) (fun i _ => xs.length - (intOf i).toNat)
    case atStart => exact ⟨0, Nat.zero_le _, rfl, Bel.refl _, fun j hj => by omega⟩
    case round =>
      obtain ⟨k, hk, rfl, hB, hall⟩ := hrel
      have HA := Lib.hid hall; clear hall
      by_cases hlt : k < xs.length
      · have hlt' : k < ys.length := by rw [← HE.out]; exact hlt
        obtain ⟨b, off, ecs, rfl, hSb, hlen, hrow, hel⟩ := h3 k hlt
        obtain ⟨b', off', ecs', rfl, hSb', hlen', hrow', hel'⟩ := h3' k hlt'
        obtain ⟨rfl, q0, q1, q2⟩ := litR_open hel
        obtain ⟨rfl, p0, p1, p2⟩ := litR_open hel'
        have d0 := hB.cell (hrow 0 (by simp)).1
        have d1 := hB.cell (hrow 1 (by simp)).1
        have d2 := hB.cell (hrow 2 (by simp)).1
        simp only [List.getElem_cons_zero, List.getElem_cons_succ, Nat.add_zero] at d0 d1 d2
        have f0 := hB.cell (hrow' 0 (by simp)).1
        have f1 := hB.cell (hrow' 1 (by simp)).1
        have f2 := hB.cell (hrow' 2 (by simp)).1
        simp only [List.getElem_cons_zero, List.getElem_cons_succ, Nat.add_zero] at f0 f1 f2
        generalize hkx : xs[k] = X at *
        generalize hky : ys[k] = Y at *
        have HKX := Lib.hid hkx; clear hkx
        have HKY := Lib.hid hky; clear hky
        clear hlen hlen' hrow hrow' h3 h3'
        have g0 := fun o => ((Bel.refl wr).alloc o).cell f0
        have g1 := fun o => ((Bel.refl wr).alloc o).cell f1
        have g2 := fun o => ((Bel.refl wr).alloc o).cell f2
        by_cases hXY : X = Y
        · have bne : eqLitB X.1 X.2.1 X.2.2 Y.1 Y.2.1 Y.2.2 = true := by rw [eqLitB_dec]; exact decide_eq_true hXY
          have HQ := Lib.hid hXY; clear hXY
          go_wp2_with fail
          go_quiet (fail)
          go_wp2
          go_roundw
          case rel =>
            refine ⟨k + 1, by omega, by go_num, (hB.alloc _).drewN _, fun j hj => ?_⟩
            by_cases e : j < k
            · exact HA.out j e
            · obtain rfl : j = k := by omega
              rw [List.getElem?_eq_getElem hlt, List.getElem?_eq_getElem hlt', HKX.out, HKY.out, HQ.out]
          case measure => simp [intOf]; omega
        · have bne : eqLitB X.1 X.2.1 X.2.2 Y.1 Y.2.1 Y.2.2 = false := by rw [eqLitB_dec]; exact decide_eq_false hXY
          have HQ := Lib.hid hXY; clear hXY
          go_wp2_with fail
          go_quiet (fail)
          go_wp2
          go_ret
          refine ⟨ret_bool ?_, (hB.alloc _).drewN _⟩
          symm
          rw [decide_eq_false_iff_not]
          intro h
          subst h
          exact HQ.out (by rw [← HKX.out, ← HKY.out])
      · go_wp2
        go_ret
        refine ⟨ret_bool ?_, hB⟩
        symm
        rw [decide_eq_true_eq]
        refine List.ext_getElem? fun j => ?_
        by_cases e : j < k
        · exact HA.out j e
        · have h1 : xs.length ≤ j := by omega
          rw [List.getElem?_eq_none h1, List.getElem?_eq_none (by rw [← HE.out]; exact h1)]
  · have hne : (((xs.length : Nat) : Int) != ((ys.length : Nat) : Int)) = true := by simp; omega
    have HE := Lib.hid hE; clear hE
    go_enter Try.func20, Try.ntmps20
    go_wp2
    go_ret
    refine ⟨ret_bool ?_, Bel.refl _⟩
    symm
    rw [decide_eq_false_iff_not]
    intro h
    exact HE.out (by rw [h])


theorem iClauseEqual_in (v v' : Value) (xs ys : List (LitT)) (S S' : Nat → Prop) (w : World) (hx : litsR S w [v] xs) (hy : litsR S' w [v'] ys) :
    Calls Try.prog 22 #[v, v'] w fun e w' => e = .returned (.bool (decide (xs = ys))) ∧ Bel w w' := by
  have hx0 := hx
  have hy0 := hy
  obtain ⟨p, cap, rfl, _⟩ := sliceR_open hx
  obtain ⟨p', cap', rfl, _⟩ := sliceR_open hy
  go_enter Try.func22, Try.ntmps22
  go_wp2_with fail
  refine (equalLits_any _ _ xs ys _ _ _ hx0 hy0).mono ?_
  rintro e w1 ⟨rfl, g⟩
  go_wp2
  go_ret
  exact ⟨rfl, g⟩

theorem sClauseEqual_any (v0 : Value) (x0 : List (LitT)) (S0 : Nat → Prop) (v1 : Value) (x1 : List (LitT)) (S1 : Nat → Prop) (w : World) (h0 : litsR S0 w [v0] x0) (_hS0 : ∀ b, S0 b → b < w.heap.size) (_hn0 : bulkLiteralS x0 ≤ 1048576) (h1 : litsR S1 w [v1] x1) (_hS1 : ∀ b, S1 b → b < w.heap.size) (_hn1 : bulkLiteralS x1 ≤ 1048576) :
    Calls Try.prog 20 #[v0, v1] w fun e w' => e = .returned (.bool (decide (x0 = x1))) ∧ Bel w w' := sClauseEqual_loop v0 v1 x0 x1 S0 S1 w h0 h1

theorem iClauseEqual_any (v0 : Value) (x0 : List (LitT)) (S0 : Nat → Prop) (v1 : Value) (x1 : List (LitT)) (S1 : Nat → Prop) (w : World) (h0 : litsR S0 w [v0] x0) (_hS0 : ∀ b, S0 b → b < w.heap.size) (_hn0 : bulkLiteralS x0 ≤ 1048576) (h1 : litsR S1 w [v1] x1) (_hS1 : ∀ b, S1 b → b < w.heap.size) (_hn1 : bulkLiteralS x1 ≤ 1048576) :
    Calls Try.prog 22 #[v0, v1] w fun e w' => e = .returned (.bool (decide (x0 = x1))) ∧ Bel w w' := iClauseEqual_in v0 v1 x0 x1 S0 S1 w h0 h1

end Go.Proofs.Ytlepgmkdclbkjaa
