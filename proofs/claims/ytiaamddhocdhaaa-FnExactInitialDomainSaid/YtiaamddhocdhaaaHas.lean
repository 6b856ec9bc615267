/- Contracts: membership and subsets of lists of ints; min, max, clamped. -/
import Derived.Test.YtiaamddhocdhaaaIn
import Derived.Test.YtiaamddhocdhaaaShape
import Derived.Test.YtiaamddhocdhaaaBlk
namespace Go.Proofs.Ytiaamddhocdhaaa
open Go.ChangeShapes Go.WideShapes Go.ChangeAt Go.RowKit
set_option linter.unusedVariables false

def maxI (x y : Int) : Int := if y < x then x else y
def minI (x y : Int) : Int := if x < y then x else y
/-- A number brought between -2 and 62. -/
def clampI (n : Int) : Int := maxI (-2) (minI 62 n)
theorem clampI_bd (n : Int) : -2 ≤ clampI n ∧ clampI n ≤ 62 := by unfold clampI maxI minI; split <;> split <;> omega
def hasB (n : Int) (xs : List Int) : Bool := decide (n ∈ xs)
def subB (xs ys : List Int) : Bool := xs.all fun n => hasB n ys
theorem hasB_false {n : Int} {xs : List Int} (h : ∀ j, j < xs.length → xs.getD j 0 ≠ n) : hasB n xs = false := by
  unfold hasB
  rw [decide_eq_false_iff_not]
  intro hm
  obtain ⟨j, hj, e⟩ := List.getElem_of_mem hm
  exact h j hj (by simp [List.getD, hj, e])
theorem hasB_true {n : Int} {xs : List Int} {j : Nat} (hj : j < xs.length) (h : xs.getD j 0 = n) : hasB n xs = true := by
  unfold hasB
  rw [decide_eq_true_eq]
  have : xs[j] = n := by simpa [List.getD, hj] using h
  rw [← this]
  exact List.getElem_mem hj
theorem subB_true {xs ys : List Int} (h : ∀ j, j < xs.length → hasB (xs.getD j 0) ys = true) : subB xs ys = true := by
  unfold subB
  rw [List.all_eq_true]
  intro x hx
  obtain ⟨j, hj, e⟩ := List.getElem_of_mem hx
  have h2 := h j hj
  simp only [List.getD, List.getElem?_eq_getElem hj, Option.getD_some, e] at h2
  exact h2
theorem subB_false {xs ys : List Int} {j : Nat} (hj : j < xs.length) (h : hasB (xs.getD j 0) ys = false) : subB xs ys = false := by
  unfold subB
  rw [List.all_eq_false]
  refine ⟨xs[j], List.getElem_mem hj, ?_⟩
  simp only [List.getD, List.getElem?_eq_getElem hj, Option.getD_some] at h
  simp [h]

theorem l02Max_any (x y : Int) (w : World) : Calls Try.prog 151 #[.int .i64 x, .int .i64 y] w fun e w' => e = .returned (.int .i64 (maxI x y)) ∧ w = w' := by
  go_enter Try.func151, Try.ntmps151
  go_wp2
  all_goals go_ret
  all_goals exact ⟨ret_int (by unfold maxI; split <;> omega), rfl⟩




def sliceAddr : Value → Option Addr
  | .slice p _ _ => p
  | _ => none
theorem intsR_at' {S : Nat → Prop} {w : World} {v : Value} {xs : List Int} (h : intsR S w [v] xs) {i : Nat} (hi : i < xs.length) :
    ∃ b off, sliceAddr v = some ⟨b, off, none⟩ ∧ w.cell? ⟨b, off + i, none⟩ = some (.int .i64 (xs.getD i 0)) := by
  obtain ⟨p', cap', rfl, _, _, h4⟩ := sliceR_open h
  obtain ⟨b, off, ecs, e1, e2, e3, e4, e5, e6⟩ := h4 i hi
  subst e5
  have := (e4 0 (by simp)).1
  simp only [List.getElem_cons_zero, Nat.mul_one, Nat.add_zero] at this
  have e7 : xs.getD i 0 = xs[i] := by simp [List.getD, hi]
  rw [e7]
  exact ⟨b, off, e1, this⟩

theorem sSetHas_any (v : Value) (xs : List Int) (n : Int) (S : Nat → Prop) (w : World) (hx : intsR S w [v] xs) :
    Calls Try.prog 67 #[v, .int .i64 n] w fun e w' => e = .returned (.bool (hasB n xs)) ∧ w = w' := by
  have hx0 := Lib.hid (fun i hi => intsR_at' hx (i := i) hi)
  obtain ⟨p, cap, rfl, h1, h2, _⟩ := sliceR_open hx
  unfold maxLen at h2
  clear hx
  go_enter Try.func67, Try.ntmps67
  go_wp2_with fail
  go_loop [9] (fun i => ∃ k : Nat, k ≤ xs.length ∧ i = .int .i64 k ∧ ∀ j, j < k → xs.getD j 0 ≠ n) (fun i => xs.length - (intOf i).toNat)
  case atStart => exact ⟨0, Nat.zero_le _, rfl, fun j hj => by omega⟩
  case round =>
    obtain ⟨k, hk, rfl, hall⟩ := hrel
    have HA := Lib.hid hall; clear hall
    by_cases hlt : k < xs.length
    · obtain ⟨b, off, rfl, d0⟩ := hx0.out k hlt
      generalize hX : xs.getD k 0 = X at *
      have HX := Lib.hid hX; clear hX
      by_cases hXn : X = n
      · have HN := Lib.hid hXn
        have bne : (X == n) = true := by simp [hXn]
        clear hXn
        go_wp2
        go_ret
        exact ⟨ret_bool (hasB_true hlt (by rw [HX.out]; exact HN.out)).symm, rfl⟩
      · have HN := Lib.hid hXn
        have bne : (X == n) = false := by simpa using hXn
        clear hXn
        go_wp2
        go_round
        case rel =>
          refine ⟨k + 1, by omega, by go_num, fun j hj => ?_⟩
          by_cases e : j < k
          · exact HA.out j e
          · obtain rfl : j = k := by omega
            rw [HX.out]; exact HN.out
        case measure => simp [intOf]; omega
    · go_wp2
      go_ret
      exact ⟨ret_bool (hasB_false fun j hj => HA.out j (by omega)).symm, rfl⟩

/-- slices.Index: whether it is found is hasB. -/
def Found (n : Int) (xs : List Int) (e : Ending) : Prop := ∃ r : Int, e = .returned (.int .i64 r) ∧ decide (0 ≤ r) = hasB n xs
-- 135

theorem indexInts_any (v : Value) (xs : List Int) (n : Int) (S : Nat → Prop) (w : World) (hx : intsR S w [v] xs) :
    Calls Try.prog 135 #[v, .int .i64 n] w fun e w' => Found n xs e ∧ w = w' := by
  have hx0 := Lib.hid (fun i hi => intsR_at' hx (i := i) hi)
  obtain ⟨p, cap, rfl, h1, h2, _⟩ := sliceR_open hx
  unfold maxLen at h2
  clear hx
  go_enter Try.func135, Try.ntmps135
  go_wp2_with fail
  go_loop [8] (fun i => ∃ k : Nat, k ≤ xs.length ∧ i = .int .i64 k ∧ ∀ j, j < k → xs.getD j 0 ≠ n) (fun i => xs.length - (intOf i).toNat)
  case atStart => exact ⟨0, Nat.zero_le _, rfl, fun j hj => by omega⟩
  case round =>
    obtain ⟨k, hk, rfl, hall⟩ := hrel
    have HA := Lib.hid hall; clear hall
    by_cases hlt : k < xs.length
    · obtain ⟨b, off, rfl, d0⟩ := hx0.out k hlt
      generalize hX : xs.getD k 0 = X at *
      have HX := Lib.hid hX; clear hX
      by_cases hXn : X = n
      · have HN := Lib.hid hXn
        have bne : (n == X) = true := by simp [hXn]
        clear hXn
        go_wp2
        go_ret
        exact ⟨⟨k, rfl, by rw [hasB_true hlt (by rw [HX.out]; exact HN.out)]; simp⟩, rfl⟩
      · have HN := Lib.hid hXn
        have bne : (n == X) = false := by simp; exact fun h => hXn h.symm
        clear hXn
        go_wp2
        go_round
        case rel =>
          refine ⟨k + 1, by omega, by go_num, fun j hj => ?_⟩
          by_cases e : j < k
          · exact HA.out j e
          · obtain rfl : j = k := by omega
            rw [HX.out]; exact HN.out
        case measure => simp [intOf]; omega
    · go_wp2
      go_ret
      exact ⟨⟨-1, rfl, by rw [hasB_false fun j hj => HA.out j (by omega)]; rfl⟩, rfl⟩

theorem containsInts_any (v : Value) (xs : List Int) (n : Int) (S : Nat → Prop) (w : World) (hx : intsR S w [v] xs) :
    Calls Try.prog 73 #[v, .int .i64 n] w fun e w' => e = .returned (.bool (hasB n xs)) ∧ w = w' := by
  have hx0 := hx
  obtain ⟨p, cap, rfl, _⟩ := sliceR_open hx
  clear hx
  go_enter Try.func73, Try.ntmps73
  go_wp2_with fail
  refine (indexInts_any _ xs n S _ hx0).mono ?_
  rintro e w1 ⟨⟨r, rfl, hr⟩, rfl⟩
  have HR := Lib.hid hr; clear hr
  go_wp2
  go_ret
  exact ⟨ret_bool HR.out, rfl⟩

theorem iSetHas_any (v : Value) (xs : List Int) (n : Int) (S : Nat → Prop) (w : World) (hx : intsR S w [v] xs) :
    Calls Try.prog 40 #[v, .int .i64 n] w fun e w' => e = .returned (.bool (hasB n xs)) ∧ w = w' := by
  have hx0 := hx
  obtain ⟨p, cap, rfl, _⟩ := sliceR_open hx
  clear hx
  go_enter Try.func40, Try.ntmps40
  go_wp2_with fail
  refine (containsInts_any _ xs n S _ hx0).mono ?_
  rintro e w1 ⟨rfl, rfl⟩
  go_wp2
  go_ret
  exact ⟨rfl, rfl⟩



end Go.Proofs.Ytiaamddhocdhaaa

/- The rows of a slice of rows, in cells. -/
namespace Go.Proofs.Ytiaamddhocdhaaa
open Go.ChangeShapes Go.WideShapes Go.ChangeAt Go.RowKit
set_option linter.unusedVariables false

/-- The cell of the i-th row of a slice of rows: the row's own slice. -/
theorem rowsR_at {S : Nat → Prop} {w : World} {v : Value} {xs : List (List Int)} (h : rowsR S w [v] xs) {i : Nat} (hi : i < xs.length) :
    ∃ b off p cap, sliceAddr v = some ⟨b, off, none⟩ ∧ w.cell? ⟨b, off + i, none⟩ = some (.slice p (xs.getD i []).length cap) ∧ (xs.getD i []).length ≤ cap ∧ cap ≤ maxLen ∧ intsR S w [.slice p (xs.getD i []).length cap] (xs.getD i []) := by
  obtain ⟨p', cap', rfl, _, _, h4⟩ := sliceR_open h
  obtain ⟨b, off, ecs, e1, e2, e3, e4, e5⟩ := h4 i hi
  have e7 : xs.getD i [] = xs[i] := by simp [List.getD, hi]
  rw [e7]
  have e6 := e5
  obtain ⟨p, cap, rfl, l1, l2, _⟩ := e5
  have := (e4 0 (by simp)).1
  simp only [List.getElem_cons_zero, Nat.mul_one, Nat.add_zero] at this
  exact ⟨b, off, p, cap, e1, this, l1, l2, e6⟩

end Go.Proofs.Ytiaamddhocdhaaa
