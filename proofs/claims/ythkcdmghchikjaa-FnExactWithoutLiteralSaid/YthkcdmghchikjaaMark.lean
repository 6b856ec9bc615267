/- Contracts of markTS and heldTS for slices of ints and of structs of ints. -/
import Derived.Test.YthkcdmghchikjaaIn
import Derived.Test.YthkcdmghchikjaaMut
namespace Go.Proofs.Ythkcdmghchikjaa
open Go.ChangeShapes Go.WideShapes Go.ChangeAt Go.RowKit
set_option linter.unusedVariables false



set_option maxHeartbeats 400000 in
theorem markLiteralS_any (v : Value) (xs : List (LitT)) (S : Nat → Prop) (k : Int) (w : World) (hx : litsR S w [v] xs) (h0 : 0 ≤ k) (h1 : k ≤ 1099511627776) (hl : xs.length ≤ 1099511627776) :
    Calls Try.prog 14 #[v, .int .i64 k] w fun e w' => e = .returned (.int .i64 (k + (3 * xs.length : Nat))) ∧ litsR S w' [v] (mkLiteralS k xs.length) ∧ Mut S w w' := by
  obtain ⟨p, cap, hv, hrest⟩ := sliceR_open hx
  clear hrest
  subst hv
  obtain ⟨_, l1, l2, hcase⟩ := litsR_cells hx
  have L2 := Lib.hid l2
  unfold maxLen at l2
  rcases hcase with hz | ⟨b, off, f, rfl, hS, hI⟩
  · have HX := Lib.hid hx
    have hz' : xs = [] := List.length_eq_zero_iff.1 hz
    subst hz'
    clear hx
    go_enter Try.func14, Try.ntmps14
    go_wp2_with fail
    go_loopw [1, 5] (fun kk i wr => i = .int .i64 0 ∧ kk = .int .i64 k ∧ wr = w) (fun _ _ _ => 0)
    case atStart => exact ⟨rfl, rfl, rfl⟩
    case round =>
      obtain ⟨rfl, rfl, rfl⟩ := hrel
      go_wp2
      go_ret
      exact ⟨ret_int (by simp), HX.out, Mut.refl _ _⟩
  · have HI0 := Lib.hid hI
    clear hx hI
    generalize hlen : xs.length = len at *
    have HL := Lib.hid hlen; clear hlen
    go_enter Try.func14, Try.ntmps14
    go_wp2_with fail
    go_loopw [1, 5] (fun kk i wr => ∃ (j : Nat) (g : Nat → Int), j ≤ len ∧ i = .int .i64 j ∧ kk = .int .i64 (k + (3 * j : Nat)) ∧ IntCells wr b off g (len * 3) ∧ (∀ m, m < j * 3 → g m = k + m) ∧ Mut S w wr) (fun _ i _ => len - (intOf i).toNat)
    case atStart => exact ⟨0, f, Nat.zero_le _, rfl, by simp, HI0.out, fun m hm => by omega, Mut.refl _ _⟩
    case round =>
      obtain ⟨i, g, hi, rfl, rfl, hI, hg, hM⟩ := hrel
      have HI := Lib.hid hI
      have HG := Lib.hid hg
      have HM := Lib.hid hM
      clear hI hg hM
      by_cases hlt : i < len
      · have hii : (i : Int) < (len : Int) := by omega
        obtain ⟨u0, v0⟩ := HI.out (i * 3 + 0) (by omega)
        rw [Nat.add_zero] at u0 v0
        obtain ⟨u1, v1⟩ := HI.out (i * 3 + 1) (by omega)
        rw [← Nat.add_assoc] at u1 v1
        obtain ⟨u2, v2⟩ := HI.out (i * 3 + 2) (by omega)
        rw [← Nat.add_assoc] at u2 v2
        go_wp2
        go_roundw
        case rel =>
          refine ⟨i + 1, _, by omega, by go_num, by go_num, (IntCells.set (IntCells.set (IntCells.set HI.out (m := i * 3 + 0) (by omega) (by omega) _) (m := i * 3 + 1) (by omega) (by omega) _) (m := i * 3 + 2) (by omega) (by omega) _), fun m hm => ?_, HM.out.trans ((((Mut.refl _ _).set b _ _ hS).set b _ _ hS).set b _ _ hS)⟩
          by_cases e : m < i * 3
          · have h9 := HG.out m e
            simp only [upd]
            repeat (first | rw [if_neg (by omega)])
            exact h9
          · have hc : m = i * 3 + 0 ∨ m = i * 3 + 1 ∨ m = i * 3 + 2 := by omega
            simp only [upd]
            rcases hc with hc | hc | hc
            all_goals
              subst hc
              simp
              try omega
        case measure => simp [intOf]; omega
      · go_wp2
        go_ret
        obtain rfl : i = len := by omega
        refine ⟨ret_int (by omega), litsR_marked HI.out HG.out hS l1 L2.out h0 (by omega), HM.out⟩

set_option maxHeartbeats 400000 in
theorem heldLiteralS_any (v : Value) (len : Nat) (S : Nat → Prop) (k : Int) (w : World) (hx : litsR S w [v] (mkLiteralS k len)) (h0 : 0 ≤ k) (h1 : k ≤ 1099511627776) (hl : len ≤ 1099511627776) :
    Calls Try.prog 15 #[v, .int .i64 k] w fun e w' => e = .returned (.int .i64 (k + (3 * len : Nat))) ∧ w = w' := by
  have hx0 := hx
  obtain ⟨p, cap, rfl, l1, l2, h4⟩ := sliceR_open hx
  rw [mkLiteralS_length] at l1
  unfold maxLen at l2
  have H4 := Lib.hid h4
  have hlen : (mkLiteralS k len).length = len := mkLiteralS_length k len
  clear hx hx0 h4
  rw [hlen]
  have HL := Lib.hid hlen; clear hlen
  go_enter Try.func15, Try.ntmps15
  go_wp2_with fail
  go_loop [1, 5] (fun kk i => ∃ (j : Nat), j ≤ len ∧ i = .int .i64 j ∧ kk = .int .i64 (k + (3 * j : Nat))) (fun _ i => len - (intOf i).toNat)
  case atStart => exact ⟨0, Nat.zero_le _, rfl, by simp⟩
  case round =>
    obtain ⟨i, hi, rfl, rfl⟩ := hrel
    by_cases hlt : i < len
    · have hii : (i : Int) < (len : Int) := by omega
      obtain ⟨b, off, ecs, rfl, _, _, hrow, hel⟩ := H4.out i (by rw [HL.out]; exact hlt)
      rw [mkLiteralS_at] at hel
      obtain ⟨rfl, _⟩ := litR_open hel
      have u0 := (hrow 0 (by simp)).1
      have u1 := (hrow 1 (by simp)).1
      have u2 := (hrow 2 (by simp)).1
      simp only [List.getElem_cons_zero, List.getElem_cons_succ, Nat.add_zero] at u0 u1 u2
      clear hrow hel
      go_wp2
      go_round
      case rel => exact ⟨i + 1, by omega, by go_num, by go_num⟩
      case measure => simp [intOf]; omega
    · go_wp2
      go_ret
      obtain rfl : i = len := by omega
      exact ⟨rfl, rfl⟩





end Go.Proofs.Ythkcdmghchikjaa
