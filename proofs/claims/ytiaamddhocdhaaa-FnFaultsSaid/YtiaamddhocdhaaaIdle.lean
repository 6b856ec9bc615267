/- Contracts of the capacity at a time, IdleCapacity. -/
import Derived.Test.YtiaamddhocdhaaaUse
import Derived.Deep.RegionHeld3
namespace Go.Proofs.Ytiaamddhocdhaaa
open Go.ChangeShapes Go.WideShapes Go.ChangeAt Go.RowKit
set_option linter.unusedVariables false

set_option maxHeartbeats 400000 in
theorem capacityAt_any (v : Value) (l : List StepT) (t : Int) (S : Nat → Prop) (w : World) (hx : stepsR S w [v] l) :
    Calls Try.prog 94 #[v, .int .i64 t] w fun e w' => e = .returned (.int .i64 (capV l t)) ∧ Bel w w' := by
  have HX := Lib.hid (fun i hi => sliceR_at zStep hx (i := i) hi)
  obtain ⟨p, cap, rfl, l1, l2, -⟩ := sliceR_open hx
  unfold maxLen at l2
  clear hx
  go_enter Try.func94, Try.ntmps94
  go_wp2_with fail
  go_loopw [5, 10] (fun n i wr => ∃ (k : Nat) (c : Int), k ≤ l.length ∧ i = .int .i64 k ∧ n = .int .i64 c ∧ c = capTo l t k ∧ Bel w wr) (fun _ i _ => l.length - (intOf i).toNat)
  case atStart => exact ⟨0, 0, Nat.zero_le _, rfl, rfl, rfl, by (repeat (first | assumption | exact Bel.refl _ | apply Bel.drewN | apply Bel.drew | apply Bel.alloc | refine Bel.trans ?_ (by assumption)))⟩
  case round =>
    obtain ⟨k, c, hk, rfl, rfl, hc, hB⟩ := hrel
    have HC := Lib.hid hc; clear hc
    by_cases hlt : k < l.length
    · obtain ⟨b, off, ecs, ea, hrow, hel⟩ := HX.out k hlt
      obtain rfl : p = some ⟨b, off, none⟩ := ea
      obtain ⟨rfl, _, _⟩ := stepR_open hel
      have ed0 := hB.cell (hrow 0 (by simp)).1
      have ed1 := hB.cell (hrow 1 (by simp)).1
      simp only [List.getElem_cons_zero, List.getElem_cons_succ, Nat.add_zero] at ed0 ed1
      clear hrow hel
      obtain ⟨a, d, hX⟩ : ∃ a d, l.getD k zStep = (a, d) := ⟨_, _, rfl⟩
      rw [hX] at ed0 ed1
      simp only at ed0 ed1
      have HXe := Lib.hid hX; clear hX
      by_cases hat : a ≤ t
      · have HAT := Lib.hid hat
        go_wp2
        go_roundw
        case rel => exact ⟨k + 1, d, by omega, by go_num, rfl, by simp only [capTo]; rw [HXe.out, if_pos HAT.out], by (repeat (first | assumption | exact Bel.refl _ | apply Bel.drewN | apply Bel.drew | apply Bel.alloc | refine Bel.trans ?_ (by assumption)))⟩
        case measure => simp [intOf]; omega
      · have HAT := Lib.hid (show ¬ (a, d).1 ≤ t from hat)
        go_wp2
        go_roundw
        case rel => exact ⟨k + 1, c, by omega, by go_num, rfl, by simp only [capTo]; rw [HXe.out, if_neg HAT.out]; exact HC.out, by (repeat (first | assumption | exact Bel.refl _ | apply Bel.drewN | apply Bel.drew | apply Bel.alloc | refine Bel.trans ?_ (by assumption)))⟩
        case measure => simp [intOf]; omega
    · have hkn : k = l.length := by omega
      have HD := Lib.hid (show c = capV l t from by rw [HC.out, hkn]; rfl)
      clear hkn
      go_wp2
      go_ret
      exact ⟨ret_int HD.out, by (repeat (first | assumption | exact Bel.refl _ | apply Bel.drewN | apply Bel.drew | apply Bel.alloc | refine Bel.trans ?_ (by assumption)))⟩





end Go.Proofs.Ytiaamddhocdhaaa
