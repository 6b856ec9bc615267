/- Contracts of markTS and heldTS for slices of ints and of structs of ints. -/
import Derived.Test.YtjeeajgijdcdbaaIn
import Derived.Test.YtjeeajgijdcdbaaMut
namespace Go.Proofs.Ytjeeajgijdcdbaa
open Go.ChangeShapes Go.WideShapes Go.ChangeAt Go.RowKit
set_option linter.unusedVariables false

set_option maxHeartbeats 400000 in
theorem markIntS_any (v : Value) (xs : List (Int)) (S : Nat → Prop) (k : Int) (w : World) (hx : intsR S w [v] xs) (h0 : 0 ≤ k) (h1 : k ≤ 1099511627776) (hl : xs.length ≤ 1099511627776) :
    Calls Try.prog 18 #[v, .int .i64 k] w fun e w' => e = .returned (.int .i64 (k + (1 * xs.length : Nat))) ∧ intsR S w' [v] (mkIntS k xs.length) ∧ Mut S w w' := by
  obtain ⟨p, cap, hv, hrest⟩ := sliceR_open hx
  clear hrest
  subst hv
  obtain ⟨_, l1, l2, hcase⟩ := intsR_cells hx
  have L2 := Lib.hid l2
  unfold maxLen at l2
  rcases hcase with hz | ⟨b, off, f, rfl, hS, hI⟩
  · have HX := Lib.hid hx
    have hz' : xs = [] := List.length_eq_zero_iff.1 hz
    subst hz'
    clear hx
    go_enter Try.func18, Try.ntmps18
    go_wp2_with fail
    go_loopw [1, 5] (fun kk i wr => i = .int .i64 0 ∧ kk = .int .i64 k ∧ wr = w) (fun _ _ _ => 0)
    case atStart => exact ⟨rfl, rfl, rfl⟩
    case round =>
      obtain ⟨rfl, rfl, rfl⟩ := hrel
      go_wp2
      go_ret
      exact ⟨ret_int (by simp), HX.out, Mut.refl _ _⟩
  · have HI0 := Lib.hid hI
    clear hx hI
    generalize hlen : xs.length = len at *
    have HL := Lib.hid hlen; clear hlen
    go_enter Try.func18, Try.ntmps18
    go_wp2_with fail
    go_loopw [1, 5] (fun kk i wr => ∃ (j : Nat) (g : Nat → Int), j ≤ len ∧ i = .int .i64 j ∧ kk = .int .i64 (k + (1 * j : Nat)) ∧ IntCells wr b off g (len * 1) ∧ (∀ m, m < j * 1 → g m = k + m) ∧ Mut S w wr) (fun _ i _ => len - (intOf i).toNat)
    case atStart => exact ⟨0, f, Nat.zero_le _, rfl, by simp, HI0.out, fun m hm => by omega, Mut.refl _ _⟩
    case round =>
      obtain ⟨i, g, hi, rfl, rfl, hI, hg, hM⟩ := hrel
      have HI := Lib.hid hI
      have HG := Lib.hid hg
      have HM := Lib.hid hM
      clear hI hg hM
      by_cases hlt : i < len
      · have hii : (i : Int) < (len : Int) := by omega
        obtain ⟨u0, v0⟩ := HI.out (i * 1 + 0) (by omega)
        rw [Nat.add_zero, Nat.mul_one] at u0 v0
        go_wp2
        go_roundw
        case rel =>
          refine ⟨i + 1, _, by omega, by go_num, by go_num, (IntCells.set HI.out (m := i * 1 + 0) (by omega) (by omega) _), fun m hm => ?_, HM.out.trans ((Mut.refl _ _).set b _ _ hS)⟩
          by_cases e : m < i * 1
          · have h9 := HG.out m e
            simp only [upd]
            repeat (first | rw [if_neg (by omega)])
            exact h9
          · have hc : m = i * 1 + 0 := by omega
            simp only [upd]
            rcases hc with hc
            all_goals
              subst hc
              simp
              try omega
        case measure => simp [intOf]; omega
      · go_wp2
        go_ret
        obtain rfl : i = len := by omega
        refine ⟨ret_int (by omega), intsR_marked HI.out HG.out hS l1 L2.out h0 (by omega), HM.out⟩

set_option maxHeartbeats 400000 in
theorem heldIntS_any (v : Value) (len : Nat) (S : Nat → Prop) (k : Int) (w : World) (hx : intsR S w [v] (mkIntS k len)) (h0 : 0 ≤ k) (h1 : k ≤ 1099511627776) (hl : len ≤ 1099511627776) :
    Calls Try.prog 20 #[v, .int .i64 k] w fun e w' => e = .returned (.int .i64 (k + (1 * len : Nat))) ∧ w = w' := by
  have hx0 := hx
  obtain ⟨p, cap, rfl, l1, l2, h4⟩ := sliceR_open hx
  rw [mkIntS_length] at l1
  unfold maxLen at l2
  have H4 := Lib.hid h4
  have hlen : (mkIntS k len).length = len := mkIntS_length k len
  clear hx hx0 h4
  rw [hlen]
  have HL := Lib.hid hlen; clear hlen
  go_enter Try.func20, Try.ntmps20
  go_wp2_with fail
  go_loop [1, 5] (fun kk i => ∃ (j : Nat), j ≤ len ∧ i = .int .i64 j ∧ kk = .int .i64 (k + (1 * j : Nat))) (fun _ i => len - (intOf i).toNat)
  case atStart => exact ⟨0, Nat.zero_le _, rfl, by simp⟩
  case round =>
    obtain ⟨i, hi, rfl, rfl⟩ := hrel
    by_cases hlt : i < len
    · have hii : (i : Int) < (len : Int) := by omega
      obtain ⟨b, off, ecs, rfl, _, _, hrow, hel⟩ := H4.out i (by rw [HL.out]; exact hlt)
      rw [mkIntS_at] at hel
      obtain ⟨rfl, _⟩ := hel
      have u0 := (hrow 0 (by simp)).1
      simp only [List.getElem_cons_zero, Nat.mul_one, Nat.add_zero] at u0
      clear hrow
      go_wp2
      go_round
      case rel => exact ⟨i + 1, by omega, by go_num, by go_num⟩
      case measure => simp [intOf]; omega
    · go_wp2
      go_ret
      obtain rfl : i = len := by omega
      exact ⟨rfl, rfl⟩







end Go.Proofs.Ytjeeajgijdcdbaa
