/- Contracts of IsName. -/
import Derived.Test.YtkfpciggolkjeaaGreatDoorAmt
namespace Go.Proofs.YtkfpciggolkjeaaGreatDoor
open Go.ChangeShapes Go.WideShapes Go.ChangeAt Go.RowKit
set_option linter.unusedVariables false

theorem byteAt_eq (s : ByteArray) (k : Nat) (h : k < s.size) : byteAt s k = s[k].toNat := by
  unfold byteAt
  obtain ⟨⟨l⟩⟩ := s
  have h' : k < l.length := h
  simp only [List.getD, List.getElem?_eq_getElem h', Option.getD_some]
  rfl

set_option maxHeartbeats 800000 in
theorem iIsName_any (s : ByteArray) (w : World) (hs : s.size ≤ maxLen) :
    Calls Tryz.prog 128 #[.string s] w fun e w' => e = .returned (.bool (isNameB s)) ∧ w = w' := by
  unfold maxLen at hs
  go_enter Tryz.func128, Tryz.ntmps128
  go_wp2_with fail
  go_loop [7] (fun i => ∃ k : Nat, k ≤ s.size ∧ i = .int .i64 k ∧ ∀ j, j < k → nameAt s j = true) (fun i => s.size - (intOf i).toNat)
  case atStart => exact ⟨0, Nat.zero_le _, rfl, fun j hj => by omega⟩
  case round =>
    obtain ⟨k, hk, rfl, hall⟩ := hrel
    have HA := Lib.hid hall; clear hall
    by_cases hlt : k < s.size
    · have HB := Lib.hid (byteAt_eq s k hlt)
      by_cases a1 : (97 : Int) ≤ (s[k].toNat : Int)
      · by_cases a2 : (s[k].toNat : Int) ≤ 122
        · have HN := Lib.hid (show nameAt s k = true from by unfold nameAt smallB digitB; rw [HB.out]; simp; omega)
          go_wp2
          go_round
          case rel =>
            refine ⟨k + 1, by omega, by go_num, fun j hj => ?_⟩
            by_cases e : j < k
            · exact HA.out j e
            · obtain rfl : j = k := by omega
              exact HN.out
          case measure => simp [intOf]; omega
        · have a3 : (57 : Int) < (s[k].toNat : Int) := by omega
          have a4 : ¬ (s[k].toNat : Int) < 48 := by omega
          by_cases hk0 : k = 0
          · subst hk0
            have HN := Lib.hid (show isNameB s = false from by unfold isNameB; rw [all_false hlt (show nameAt s 0 = false from by unfold nameAt smallB digitB; rw [HB.out]; simp; omega)]; rfl)
            go_wp2
            go_ret
            exact ⟨ret_bool HN.out.symm, rfl⟩
          · have hk1 : (((k : Nat) : Int) == 0) = false := by simp; omega
            have HN := Lib.hid (show isNameB s = false from by unfold isNameB; rw [all_false hlt (show nameAt s k = false from by unfold nameAt smallB digitB; rw [HB.out]; simp; omega)]; rfl)
            go_wp2
            go_ret
            exact ⟨ret_bool HN.out.symm, rfl⟩
      · by_cases hk0 : k = 0
        · subst hk0
          have HN := Lib.hid (show isNameB s = false from by unfold isNameB; rw [all_false hlt (show nameAt s 0 = false from by unfold nameAt smallB digitB; rw [HB.out]; simp; omega)]; rfl)
          go_wp2
          go_ret
          exact ⟨ret_bool HN.out.symm, rfl⟩
        · have hk1 : (((k : Nat) : Int) == 0) = false := by simp; omega
          by_cases a3 : (s[k].toNat : Int) < 48
          · have HN := Lib.hid (show isNameB s = false from by unfold isNameB; rw [all_false hlt (show nameAt s k = false from by unfold nameAt smallB digitB; rw [HB.out]; simp; omega)]; rfl)
            go_wp2
            go_ret
            exact ⟨ret_bool HN.out.symm, rfl⟩
          · by_cases a4 : (57 : Int) < (s[k].toNat : Int)
            · have HN := Lib.hid (show isNameB s = false from by unfold isNameB; rw [all_false hlt (show nameAt s k = false from by unfold nameAt smallB digitB; rw [HB.out]; simp; omega)]; rfl)
              go_wp2
              go_ret
              exact ⟨ret_bool HN.out.symm, rfl⟩
            · have HN := Lib.hid (show nameAt s k = true from by unfold nameAt smallB digitB; rw [HB.out]; simp; omega)
              go_wp2
              go_round
              case rel =>
                refine ⟨k + 1, by omega, by go_num, fun j hj => ?_⟩
                by_cases e : j < k
                · exact HA.out j e
                · obtain rfl : j = k := by omega
                  exact HN.out
              case measure => simp [intOf]; omega
    · have HN := Lib.hid (show isNameB s = inB s.size 1 8 from by unfold isNameB; rw [all_true fun j hj => HA.out j (by omega)]; rfl)
      go_wp2_with (go_at_call 71; refine (within_any _ _ _ _).mono ?_; rintro e w' ⟨rfl, rfl⟩)
      go_ret
      exact ⟨ret_bool HN.out.symm, rfl⟩

set_option maxHeartbeats 800000 in
theorem sIsName_any (s : ByteArray) (w : World) (hs : s.size ≤ maxLen) :
    Calls Tryz.prog 123 #[.string s] w fun e w' => e = .returned (.bool (isNameB s)) ∧ w = w' := by
  unfold maxLen at hs
  go_enter Tryz.func123, Tryz.ntmps123
  go_wp2_with fail
  go_loop [3] (fun i => ∃ k : Nat, k ≤ s.size ∧ i = .int .i64 k ∧ ∀ j, j < k → nameAt s j = true) (fun i => s.size - (intOf i).toNat)
  case atStart => exact ⟨0, Nat.zero_le _, rfl, fun j hj => by omega⟩
  case round =>
    obtain ⟨k, hk, rfl, hall⟩ := hrel
    have HA := Lib.hid hall; clear hall
    by_cases hlt : k < s.size
    · have HB := Lib.hid (byteAt_eq s k hlt)
      by_cases a1 : (97 : Int) ≤ (s[k].toNat : Int)
      · by_cases a2 : (s[k].toNat : Int) ≤ 122
        · have HN := Lib.hid (show nameAt s k = true from by unfold nameAt smallB digitB; rw [HB.out]; simp; omega)
          go_wp2
          go_round
          case rel =>
            refine ⟨k + 1, by omega, by go_num, fun j hj => ?_⟩
            by_cases e : j < k
            · exact HA.out j e
            · obtain rfl : j = k := by omega
              exact HN.out
          case measure => simp [intOf]; omega
        · have a3 : (57 : Int) < (s[k].toNat : Int) := by omega
          have a4 : ¬ (s[k].toNat : Int) < 48 := by omega
          by_cases hk0 : k = 0
          · subst hk0
            have HN := Lib.hid (show isNameB s = false from by unfold isNameB; rw [all_false hlt (show nameAt s 0 = false from by unfold nameAt smallB digitB; rw [HB.out]; simp; omega)]; rfl)
            go_wp2
            go_ret
            exact ⟨ret_bool HN.out.symm, rfl⟩
          · have hk1 : (((k : Nat) : Int) == 0) = false := by simp; omega
            have HN := Lib.hid (show isNameB s = false from by unfold isNameB; rw [all_false hlt (show nameAt s k = false from by unfold nameAt smallB digitB; rw [HB.out]; simp; omega)]; rfl)
            go_wp2
            go_ret
            exact ⟨ret_bool HN.out.symm, rfl⟩
      · by_cases hk0 : k = 0
        · subst hk0
          have HN := Lib.hid (show isNameB s = false from by unfold isNameB; rw [all_false hlt (show nameAt s 0 = false from by unfold nameAt smallB digitB; rw [HB.out]; simp; omega)]; rfl)
          go_wp2
          go_ret
          exact ⟨ret_bool HN.out.symm, rfl⟩
        · have hk1 : (((k : Nat) : Int) == 0) = false := by simp; omega
          by_cases a3 : (s[k].toNat : Int) < 48
          · have HN := Lib.hid (show isNameB s = false from by unfold isNameB; rw [all_false hlt (show nameAt s k = false from by unfold nameAt smallB digitB; rw [HB.out]; simp; omega)]; rfl)
            go_wp2
            go_ret
            exact ⟨ret_bool HN.out.symm, rfl⟩
          · by_cases a4 : (57 : Int) < (s[k].toNat : Int)
            · have HN := Lib.hid (show isNameB s = false from by unfold isNameB; rw [all_false hlt (show nameAt s k = false from by unfold nameAt smallB digitB; rw [HB.out]; simp; omega)]; rfl)
              go_wp2
              go_ret
              exact ⟨ret_bool HN.out.symm, rfl⟩
            · have HN := Lib.hid (show nameAt s k = true from by unfold nameAt smallB digitB; rw [HB.out]; simp; omega)
              go_wp2
              go_round
              case rel =>
                refine ⟨k + 1, by omega, by go_num, fun j hj => ?_⟩
                by_cases e : j < k
                · exact HA.out j e
                · obtain rfl : j = k := by omega
                  exact HN.out
              case measure => simp [intOf]; omega
    · have HN := Lib.hid (show isNameB s = inB s.size 1 8 from by unfold isNameB; rw [all_true fun j hj => HA.out j (by omega)]; rfl)
      go_wp2_with (go_at_call 65; refine (l01In_any _ _ _ _).mono ?_; rintro e w' ⟨rfl, rfl⟩)
      go_ret
      exact ⟨ret_bool HN.out.symm, rfl⟩

end Go.Proofs.YtkfpciggolkjeaaGreatDoor
