/- Contracts of DomainEmpty. -/
import Derived.Test.YtcbiknpbbldmbaaHas
namespace Go.Proofs.Ytcbiknpbbldmbaa
open Go.ChangeShapes Go.WideShapes Go.ChangeAt Go.RowKit
set_option linter.unusedVariables false

def anyEmpty (ms : List (List Int)) : Bool := ms.any fun r => decide (r.length = 0)
def crossed (ls us : List Int) (i : Nat) : Bool := decide (i < us.length) && decide (us.getD i 0 < ls.getD i 0)
def domEmpty (x : DomT) : Bool := (List.range x.1.length).any (crossed x.1 x.2.1) || anyEmpty x.2.2
theorem anyEmpty_true {ms : List (List Int)} {k : Nat} (hk : k < ms.length) (h : (ms.getD k []).length = 0) : anyEmpty ms = true := by
  unfold anyEmpty
  rw [List.any_eq_true]
  exact ⟨ms[k], List.getElem_mem hk, by simpa [List.getD, hk] using h⟩
theorem anyEmpty_false {ms : List (List Int)} (h : ∀ j, j < ms.length → (ms.getD j []).length ≠ 0) : anyEmpty ms = false := by
  unfold anyEmpty
  rw [List.any_eq_false]
  intro r hr
  obtain ⟨j, hj, e⟩ := List.getElem_of_mem hr
  have h2 := h j hj
  simp only [List.getD, List.getElem?_eq_getElem hj, Option.getD_some, e] at h2
  simpa using h2
theorem domEmpty_cross {ls us : List Int} {ms : List (List Int)} {k : Nat} (hk : k < ls.length) (h : crossed ls us k = true) : domEmpty (ls, us, ms) = true := by
  unfold domEmpty
  rw [Bool.or_eq_true]
  exact Or.inl (List.any_eq_true.2 ⟨k, List.mem_range.2 hk, h⟩)
theorem domEmpty_rest {ls us : List Int} {ms : List (List Int)} (h : ∀ j, j < ls.length → crossed ls us j = false) : domEmpty (ls, us, ms) = anyEmpty ms := by
  unfold domEmpty
  have : (List.range ls.length).any (crossed ls us) = false := by
    rw [List.any_eq_false]
    intro j hj
    have := h j (List.mem_range.1 hj)
    simp [this]
  simp [this]
/-- The cell of the i-th row of a slice of rows: the row's own slice. -/
theorem rowsR_at {S : Nat → Prop} {w : World} {v : Value} {xs : List (List Int)} (h : rowsR S w [v] xs) {i : Nat} (hi : i < xs.length) :
    ∃ b off p cap, sliceAddr v = some ⟨b, off, none⟩ ∧ w.cell? ⟨b, off + i, none⟩ = some (.slice p (xs.getD i []).length cap) ∧ (xs.getD i []).length ≤ cap ∧ cap ≤ maxLen ∧ intsR S w [.slice p (xs.getD i []).length cap] (xs.getD i []) := by
  obtain ⟨p', cap', rfl, _, _, h4⟩ := sliceR_open h
  obtain ⟨b, off, ecs, e1, e2, e3, e4, e5⟩ := h4 i hi
  have e7 : xs.getD i [] = xs[i] := by simp [List.getD, hi]
  rw [e7]
  have e6 := e5
  obtain ⟨p, cap, rfl, l1, l2, _⟩ := e5
  have := (e4 0 (by simp)).1
  simp only [List.getElem_cons_zero, Nat.mul_one, Nat.add_zero] at this
  exact ⟨b, off, p, cap, e1, this, l1, l2, e6⟩

theorem isEmptyRow_any (p : Option Addr) (n cap : Nat) (w : World) (hn : n ≤ cap) (hc : cap ≤ maxLen) :
    Calls Try.prog 70 #[.slice p n cap] w fun e w' => e = .returned (.bool (decide (n = 0))) ∧ w = w' := by
  unfold maxLen at hc
  by_cases h : n = 0
  · subst h
    go_enter Try.func70, Try.ntmps70
    go_wp2
    go_ret
    exact ⟨rfl, rfl⟩
  · have h2 : (((n : Nat) : Int) == 0) = false := by simp; omega
    have H := Lib.hid h; clear h
    go_enter Try.func70, Try.ntmps70
    go_wp2
    go_ret
    exact ⟨ret_bool (decide_eq_false H.out).symm, rfl⟩

def FoundEmpty (ms : List (List Int)) (e : Ending) : Prop := ∃ r : Int, e = .returned (.int .i64 r) ∧ decide (0 ≤ r) = anyEmpty ms
theorem indexEmpty_any (v : Value) (xs : List (List Int)) (S : Nat → Prop) (w : World) (hx : rowsR S w [v] xs) :
    Calls Try.prog 102 #[v, .func (.func 70) #[] #[]] w fun e w' => FoundEmpty xs e ∧ w = w' := by
  have hx0 := Lib.hid (fun i hi => rowsR_at hx (i := i) hi)
  obtain ⟨p, cap, rfl, h1, h2, _⟩ := sliceR_open hx
  unfold maxLen at h2
  clear hx
  go_enter Try.func102, Try.ntmps102
  go_wp2_with fail
  go_loop [8] (fun i => ∃ k : Nat, k ≤ xs.length ∧ i = .int .i64 k ∧ ∀ j, j < k → (xs.getD j []).length ≠ 0) (fun i => xs.length - (intOf i).toNat)
  case atStart => exact ⟨0, Nat.zero_le _, rfl, fun j hj => by omega⟩
  case round =>
    obtain ⟨k, hk, rfl, hall⟩ := hrel
    have HA := Lib.hid hall; clear hall
    by_cases hlt : k < xs.length
    · obtain ⟨b, off, rp, rcap, rfl, d0, l1, l2, _⟩ := hx0.out k hlt
      generalize hX : (xs.getD k []).length = X at *
      have HX := Lib.hid hX; clear hX
      go_wp2_with fail
      refine (isEmptyRow_any _ _ _ _ l1 l2).mono ?_
      rintro e w1 ⟨rfl, rfl⟩
      by_cases hX0 : X = 0
      · have HN := Lib.hid hX0
        rw [decide_eq_true hX0]
        clear hX0
        go_wp2
        go_ret
        exact ⟨⟨k, rfl, by rw [anyEmpty_true hlt (by rw [HX.out]; exact HN.out)]; simp⟩, rfl⟩
      · have HN := Lib.hid hX0
        rw [decide_eq_false hX0]
        clear hX0
        go_wp2
        go_round
        case rel =>
          refine ⟨k + 1, by omega, by go_num, fun j hj => ?_⟩
          by_cases e : j < k
          · exact HA.out j e
          · obtain rfl : j = k := by omega
            rw [HX.out]; exact HN.out
        case measure => simp [intOf]; omega
    · go_wp2
      go_ret
      exact ⟨⟨-1, rfl, by rw [anyEmpty_false fun j hj => HA.out j (by omega)]; rfl⟩, rfl⟩
theorem containsEmpty_any (v : Value) (xs : List (List Int)) (S : Nat → Prop) (w : World) (hx : rowsR S w [v] xs) :
    Calls Try.prog 69 #[v, .func (.func 70) #[] #[]] w fun e w' => e = .returned (.bool (anyEmpty xs)) ∧ w = w' := by
  have hx0 := hx
  obtain ⟨p, cap, rfl, _⟩ := sliceR_open hx
  clear hx
  go_enter Try.func69, Try.ntmps69
  go_wp2_with fail
  refine (indexEmpty_any _ xs S _ hx0).mono ?_
  rintro e w1 ⟨⟨r, rfl, hr⟩, rfl⟩
  have HR := Lib.hid hr; clear hr
  go_wp2
  go_ret
  exact ⟨ret_bool HR.out, rfl⟩

set_option maxHeartbeats 800000 in
theorem sDomainEmpty_any (v0 : Value) (x0 : DomT) (S0 : Nat → Prop) (w : World) (h0 : aggR domR S0 w v0 x0) (_hS0 : ∀ b, S0 b → b < w.heap.size) (_hn0 : bulkDomain x0 ≤ 1048576) :
    Calls Try.prog 29 #[v0] w fun e w' => e = .returned (.bool (domEmpty x0)) ∧ Bel w w' := by
  obtain ⟨cs0, rfl, h0⟩ := h0
  obtain ⟨c0, c1, c2, rfl, q00, q01, q02⟩ := domR_open h0
  obtain ⟨ls, us, ms⟩ := x0
  simp only at q00 q01 q02
  have A00 := Lib.hid (fun i hi => intsR_at' q00 (i := i) hi)
  have A01 := Lib.hid (fun i hi => intsR_at' q01 (i := i) hi)
  obtain ⟨p00, cap00, rfl, l00, l00', _⟩ := sliceR_open q00
  obtain ⟨p01, cap01, rfl, l01, l01', _⟩ := sliceR_open q01
  have Q02 := Lib.hid q02
  obtain ⟨p02, cap02, rfl, l02, l02', _⟩ := sliceR_open q02
  unfold maxLen at l00' l01' l02'
  clear h0 q00 q01 q02
  have HSS := Lib.hid _hS0
  clear _hS0 _hn0
  show Calls Try.prog 29 #[.agg #[.slice p00 ls.length cap00, .slice p01 us.length cap01, .slice p02 ms.length cap02]] w _
  go_enter Try.func29, Try.ntmps29
  go_wp2_with fail
  go_loop [10] (fun i => ∃ k : Nat, k ≤ ls.length ∧ i = .int .i64 k ∧ ∀ j, j < k → crossed ls us j = false) (fun i => ls.length - (intOf i).toNat)
  case atStart => exact ⟨0, Nat.zero_le _, rfl, fun j hj => by omega⟩
  case round =>
    obtain ⟨k, hk, rfl, hall⟩ := hrel
    have HA := Lib.hid hall; clear hall
    by_cases hlt : k < ls.length
    · obtain ⟨ba, oa, ea, da⟩ := A00.out k hlt
      obtain rfl : p00 = some ⟨ba, oa, none⟩ := ea
      have da := fun o => ((Bel.refl w).alloc o).cell da
      by_cases hlu : k < us.length
      · obtain ⟨bb, ob, eb, db⟩ := A01.out k hlu
        obtain rfl : p01 = some ⟨bb, ob, none⟩ := eb
        have db := fun o => ((Bel.refl w).alloc o).cell db
        have hi1 : (k : Int) < (us.length : Int) := by omega
        have HX := Lib.hid (show crossed ls us k = decide (us.getD k 0 < ls.getD k 0) from by simp [crossed, hlu])
        generalize ls.getD k 0 = X at *
        generalize us.getD k 0 = Y at *
        by_cases hc : Y < X
        · have HC := Lib.hid hc
          go_wp2
          go_ret
          exact ⟨ret_bool (domEmpty_cross hlt (by rw [HX.out]; exact decide_eq_true HC.out)).symm, by (repeat (first | exact Bel.refl _ | apply Bel.drewN | apply Bel.drew | apply Bel.alloc | refine Bel.trans ?_ (by assumption)))⟩
        · have HC := Lib.hid hc
          go_wp2
          go_round
          case rel =>
            refine ⟨k + 1, by omega, by go_num, fun j hj => ?_⟩
            by_cases e : j < k
            · exact HA.out j e
            · obtain rfl : j = k := by omega
              rw [HX.out]; exact decide_eq_false HC.out
          case measure => simp [intOf]; omega
      · have hi1 : ¬ (k : Int) < (us.length : Int) := by omega
        have HX := Lib.hid (show crossed ls us k = false from by simp [crossed, hlu])
        generalize ls.getD k 0 = X at *
        go_wp2
        go_round
        case rel =>
          refine ⟨k + 1, by omega, by go_num, fun j hj => ?_⟩
          by_cases e : j < k
          · exact HA.out j e
          · obtain rfl : j = k := by omega
            exact HX.out
        case measure => simp [intOf]; omega
    · have HR := Lib.hid (show domEmpty (ls, us, ms) = anyEmpty ms from domEmpty_rest fun j hj => HA.out j (by omega))
      have hx0 := Lib.hid (fun i hi => rowsR_at Q02.out (i := i) hi)
      go_wp2_with fail
      go_loop [33] (fun i => ∃ k : Nat, k ≤ ms.length ∧ i = .int .i64 k ∧ ∀ j, j < k → (ms.getD j []).length ≠ 0) (fun i => ms.length - (intOf i).toNat)
      case atStart => exact ⟨0, Nat.zero_le _, rfl, fun j hj => by omega⟩
      case round =>
        obtain ⟨k2, hk2, rfl, hall2⟩ := hrel
        have HA2 := Lib.hid hall2; clear hall2
        by_cases hlt2 : k2 < ms.length
        · obtain ⟨b, off, rp, rcap, em, d0, l1, l2, _⟩ := hx0.out k2 hlt2
          obtain rfl : p02 = some ⟨b, off, none⟩ := em
          have d0 := fun o => ((Bel.refl w).alloc o).cell d0
          unfold maxLen at l2
          generalize hX : (ms.getD k2 []).length = X at *
          have HX := Lib.hid hX; clear hX
          by_cases hX0 : X = 0
          · have HN := Lib.hid hX0
            subst hX0
            go_wp2
            go_ret
            exact ⟨ret_bool (by rw [HR.out, anyEmpty_true hlt2 HX.out]), by (repeat (first | exact Bel.refl _ | apply Bel.drewN | apply Bel.drew | apply Bel.alloc | refine Bel.trans ?_ (by assumption)))⟩
          · have HN := Lib.hid hX0
            have hne : (((X : Nat) : Int) == 0) = false := by simp; omega
            clear hX0
            go_wp2
            go_round
            case rel =>
              refine ⟨k2 + 1, by omega, by go_num, fun j hj => ?_⟩
              by_cases e : j < k2
              · exact HA2.out j e
              · obtain rfl : j = k2 := by omega
                rw [HX.out]; exact HN.out
            case measure => simp [intOf]; omega
        · go_wp2
          go_ret
          exact ⟨ret_bool (by rw [HR.out, anyEmpty_false fun j hj => HA2.out j (by omega)]), by (repeat (first | exact Bel.refl _ | apply Bel.drewN | apply Bel.drew | apply Bel.alloc | refine Bel.trans ?_ (by assumption)))⟩

set_option maxHeartbeats 800000 in
theorem iDomainEmpty_any (v0 : Value) (x0 : DomT) (S0 : Nat → Prop) (w : World) (h0 : aggR domR S0 w v0 x0) (_hS0 : ∀ b, S0 b → b < w.heap.size) (_hn0 : bulkDomain x0 ≤ 1048576) :
    Calls Try.prog 31 #[v0] w fun e w' => e = .returned (.bool (domEmpty x0)) ∧ Bel w w' := by
  obtain ⟨cs0, rfl, h0⟩ := h0
  obtain ⟨c0, c1, c2, rfl, q00, q01, q02⟩ := domR_open h0
  obtain ⟨ls, us, ms⟩ := x0
  simp only at q00 q01 q02
  have A00 := Lib.hid (fun i hi => intsR_at' q00 (i := i) hi)
  have A01 := Lib.hid (fun i hi => intsR_at' q01 (i := i) hi)
  obtain ⟨p00, cap00, rfl, l00, l00', _⟩ := sliceR_open q00
  obtain ⟨p01, cap01, rfl, l01, l01', _⟩ := sliceR_open q01
  have Q02 := Lib.hid q02
  obtain ⟨p02, cap02, rfl, l02, l02', _⟩ := sliceR_open q02
  unfold maxLen at l00' l01' l02'
  clear h0 q00 q01 q02
  have HSS := Lib.hid _hS0
  clear _hS0 _hn0
  show Calls Try.prog 31 #[.agg #[.slice p00 ls.length cap00, .slice p01 us.length cap01, .slice p02 ms.length cap02]] w _
  go_enter Try.func31, Try.ntmps31
  go_wp2_with fail
  go_loop [8] (fun i => ∃ k : Nat, k ≤ ls.length ∧ i = .int .i64 k ∧ ∀ j, j < k → crossed ls us j = false) (fun i => ls.length - (intOf i).toNat)
  case atStart => exact ⟨0, Nat.zero_le _, rfl, fun j hj => by omega⟩
  case round =>
    obtain ⟨k, hk, rfl, hall⟩ := hrel
    have HA := Lib.hid hall; clear hall
    by_cases hlt : k < ls.length
    · obtain ⟨ba, oa, ea, da⟩ := A00.out k hlt
      obtain rfl : p00 = some ⟨ba, oa, none⟩ := ea
      have da := fun o => ((Bel.refl w).alloc o).cell da
      by_cases hlu : k < us.length
      · obtain ⟨bb, ob, eb, db⟩ := A01.out k hlu
        obtain rfl : p01 = some ⟨bb, ob, none⟩ := eb
        have db := fun o => ((Bel.refl w).alloc o).cell db
        have hi1 : (k : Int) < (us.length : Int) := by omega
        have HX := Lib.hid (show crossed ls us k = decide (us.getD k 0 < ls.getD k 0) from by simp [crossed, hlu])
        generalize ls.getD k 0 = X at *
        generalize us.getD k 0 = Y at *
        by_cases hc : Y < X
        · have HC := Lib.hid hc
          go_wp2
          go_ret
          exact ⟨ret_bool (domEmpty_cross hlt (by rw [HX.out]; exact decide_eq_true HC.out)).symm, by (repeat (first | exact Bel.refl _ | apply Bel.drewN | apply Bel.drew | apply Bel.alloc | refine Bel.trans ?_ (by assumption)))⟩
        · have HC := Lib.hid hc
          go_wp2
          go_round
          case rel =>
            refine ⟨k + 1, by omega, by go_num, fun j hj => ?_⟩
            by_cases e : j < k
            · exact HA.out j e
            · obtain rfl : j = k := by omega
              rw [HX.out]; exact decide_eq_false HC.out
          case measure => simp [intOf]; omega
      · have hi1 : ¬ (k : Int) < (us.length : Int) := by omega
        have HX := Lib.hid (show crossed ls us k = false from by simp [crossed, hlu])
        generalize ls.getD k 0 = X at *
        go_wp2
        go_round
        case rel =>
          refine ⟨k + 1, by omega, by go_num, fun j hj => ?_⟩
          by_cases e : j < k
          · exact HA.out j e
          · obtain rfl : j = k := by omega
            exact HX.out
        case measure => simp [intOf]; omega
    · have HR := Lib.hid (show domEmpty (ls, us, ms) = anyEmpty ms from domEmpty_rest fun j hj => HA.out j (by omega))
      go_wp2_with fail
      refine (containsEmpty_any _ ms S0 _ (rowsR_good.bel Q02.out (by (repeat (first | exact Bel.refl _ | apply Bel.drewN | apply Bel.drew | apply Bel.alloc | refine Bel.trans ?_ (by assumption)))) HSS.out)).mono ?_
      rintro e w1 ⟨rfl, rfl⟩
      go_wp2
      go_ret
      exact ⟨ret_bool HR.out.symm, by (repeat (first | exact Bel.refl _ | apply Bel.drewN | apply Bel.drew | apply Bel.alloc | refine Bel.trans ?_ (by assumption)))⟩

end Go.Proofs.Ytcbiknpbbldmbaa
