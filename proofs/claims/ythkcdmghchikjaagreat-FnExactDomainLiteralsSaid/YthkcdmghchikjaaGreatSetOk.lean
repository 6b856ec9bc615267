/- Contracts of SetOk. -/
import Derived.Test.YthkcdmghchikjaaGreatProjF
import Derived.Test.YthkcdmghchikjaaGreatHas
namespace Go.Proofs.YthkcdmghchikjaaGreat
open Go.ChangeShapes Go.WideShapes Go.ChangeAt Go.RowKit
set_option linter.unusedVariables false

def okAt (l : List Int) (i : Nat) : Bool := if i = 0 then true else decide (l.getD (i - 1) 0 < l.getD i 0)
def setOkB (l : List Int) : Bool := (List.range l.length).all (okAt l)
theorem okAt_zero (l : List Int) : ∀ j, j < 0 + 1 → j < l.length → okAt l j = true := by
  intro j hj _
  obtain rfl : j = 0 := by omega
  rfl
theorem okAt_next (l : List Int) (m : Nat) : okAt l (m + 1) = decide (l.getD m 0 < l.getD (m + 1) 0) := by unfold okAt; simp

set_option maxHeartbeats 400000 in
theorem iSetOk_any (v : Value) (l : List Int) (S : Nat → Prop) (w : World) (hx : intsR S w [v] l) :
    Calls Tryz.prog 118 #[v] w fun e w' => e = .returned (.bool (setOkB l)) ∧ ∃ n, w' = w.drewN n := by
  have HX := Lib.hid (fun i hi => intsR_at' hx (i := i) hi)
  obtain ⟨p, cap, rfl, l1, l2, -⟩ := sliceR_open hx
  unfold maxLen at l2
  clear hx
  go_enter Tryz.func118, Tryz.ntmps118
  go_wp2_with fail
  go_loopw [3] (fun i wr => ∃ (m q : Nat), m ≤ l.length ∧ i = .int .i64 ((m : Int) + 1) ∧ (∀ j, j < m + 1 → j < l.length → okAt l j = true) ∧ wr = w.drewN q) (fun i _ => l.length - (intOf i).toNat)
  case atStart => exact ⟨0, 0, Nat.zero_le _, rfl, okAt_zero l, rfl⟩
  case round =>
    obtain ⟨m, q, hm, rfl, hall, rfl⟩ := hrel
    have HA := Lib.hid hall; clear hall
    by_cases hlt : m + 1 < l.length
    · obtain ⟨b, off, e1, d1⟩ := HX.out (m + 1) hlt
      obtain ⟨b', off', e2, d2⟩ := HX.out m (by omega)
      obtain rfl : p = some ⟨b, off, none⟩ := e1
      obtain ⟨rfl, rfl⟩ : b = b' ∧ off = off' := by simpa [sliceAddr] using e2
      have HN := Lib.hid (okAt_next l m)
      generalize l.getD (m + 1) 0 = X at *
      generalize l.getD m 0 = Y at *
      clear e2
      have hm0 : (m : Int) < (l.length : Int) := by omega
      have hm1 : (m : Int) + 1 < (l.length : Int) := by omega
      have hw0 : IntKind.i64.wrap (m : Int) = (m : Int) := IntWalk.i64_in _ (by omega)
      by_cases hd : X ≤ Y
      · have HF := Lib.hid (show setOkB l = false from all_false hlt (by rw [HN.out]; exact decide_eq_false (by omega)))
        go_wp2_with fail
        go_quiet (fail)
        go_wp2
        go_ret
        exact ⟨ret_bool HF.out.symm, _, World.drewN_drewN _ _ _⟩
      · have HY := Lib.hid (show okAt l (m + 1) = true from by rw [HN.out]; exact decide_eq_true (by omega))
        have hd1 : decide (X ≤ Y) = false := decide_eq_false hd
        go_wp2_with fail
        go_quiet (fail)
        go_wp2
        go_roundw
        case rel =>
          refine ⟨m + 1, _, by omega, by go_num, fun j hj hjl => ?_, rfl⟩
          by_cases e : j < m + 1
          · exact HA.out j e hjl
          · obtain rfl : j = m + 1 := by omega
            exact HY.out
        case measure => simp [intOf]; omega
    · have HF := Lib.hid (show setOkB l = true from all_true fun j hj => HA.out j (by omega) hj)
      have hlt1 : ¬ ((m : Int) + 1 < (l.length : Int)) := by omega
      go_wp2
      go_ret
      exact ⟨ret_bool HF.out.symm, _, rfl⟩

set_option maxHeartbeats 400000 in
theorem sSetOk_any (v : Value) (l : List Int) (S : Nat → Prop) (w : World) (hx : intsR S w [v] l) :
    Calls Tryz.prog 112 #[v] w fun e w' => e = .returned (.bool (setOkB l)) ∧ ∃ n, w' = w.drewN n := by
  have HX := Lib.hid (fun i hi => intsR_at' hx (i := i) hi)
  obtain ⟨p, cap, rfl, l1, l2, -⟩ := sliceR_open hx
  unfold maxLen at l2
  clear hx
  go_enter Tryz.func112, Tryz.ntmps112
  go_wp2_with fail
  go_loopw [6] (fun i wr => ∃ (k q : Nat), k ≤ l.length ∧ i = .int .i64 k ∧ (∀ j, j < k → okAt l j = true) ∧ wr = w.drewN q) (fun i _ => l.length - (intOf i).toNat)
  case atStart => exact ⟨0, 0, Nat.zero_le _, rfl, fun j hj => by omega, rfl⟩
  case round =>
    obtain ⟨k, q, hk, rfl, hall, rfl⟩ := hrel
    have HA := Lib.hid hall; clear hall
    by_cases hlt : k < l.length
    · cases k with
      | zero =>
        have hk0 : decide ((0 : Int) < ((0 : Nat) : Int)) = false := by simp
        go_wp2_with fail
        go_quiet (fail)
        go_wp2
        go_roundw
        case rel =>
          refine ⟨0 + 1, _, by omega, by go_num, fun j hj => ?_, rfl⟩
          obtain rfl : j = 0 := by omega
          rfl
        case measure => simp [intOf]; omega
      | succ m =>
        obtain ⟨b, off, e1, d1⟩ := HX.out (m + 1) hlt
        obtain ⟨b', off', e2, d2⟩ := HX.out m (by omega)
        obtain rfl : p = some ⟨b, off, none⟩ := e1
        obtain ⟨rfl, rfl⟩ : b = b' ∧ off = off' := by simpa [sliceAddr] using e2
        have HN := Lib.hid (okAt_next l m)
        generalize l.getD (m + 1) 0 = X at *
        generalize l.getD m 0 = Y at *
        clear e2
        have hm0 : (m : Int) < (l.length : Int) := by omega
        have hm1 : (m : Int) + 1 < (l.length : Int) := by omega
        have hw0 : IntKind.i64.wrap (m : Int) = (m : Int) := IntWalk.i64_in _ (by omega)
        have hk0 : (0 : Int) < ((m + 1 : Nat) : Int) := by omega
        have hk1 : (0 : Int) < (m : Int) + 1 := by omega
        by_cases hd : X ≤ Y
        · have HF := Lib.hid (show setOkB l = false from all_false hlt (by rw [HN.out]; exact decide_eq_false (by omega)))
          go_wp2_with fail
          go_quiet (fail)
          go_wp2
          go_ret
          exact ⟨ret_bool HF.out.symm, _, World.drewN_drewN _ _ _⟩
        · have HY := Lib.hid (show okAt l (m + 1) = true from by rw [HN.out]; exact decide_eq_true (by omega))
          have hd1 : decide (X ≤ Y) = false := decide_eq_false hd
          go_wp2_with fail
          go_quiet (fail)
          go_wp2
          go_roundw
          case rel =>
            refine ⟨m + 1 + 1, _, by omega, by go_num, fun j hj => ?_, rfl⟩
            by_cases e : j < m + 1
            · exact HA.out j e
            · obtain rfl : j = m + 1 := by omega
              exact HY.out
          case measure => simp [intOf]; omega
    · have HF := Lib.hid (show setOkB l = true from all_true fun j hj => HA.out j (by omega))
      go_wp2
      go_ret
      exact ⟨ret_bool HF.out.symm, _, rfl⟩

end Go.Proofs.YthkcdmghchikjaaGreat
