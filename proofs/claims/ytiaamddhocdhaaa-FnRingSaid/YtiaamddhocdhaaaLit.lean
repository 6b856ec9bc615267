/- Contracts over one literal: toLiteral, eqLiteral, Negate, CompareLiterals. -/
import Derived.Test.YtiaamddhocdhaaaIn
import Derived.Test.YtiaamddhocdhaaaReps
namespace Go.Proofs.Ytiaamddhocdhaaa
open Go.ChangeShapes Go.WideShapes Go.ChangeAt Go.RowKit
set_option linter.unusedVariables false




def eqLitB (k a v k' a' v' : Int) : Bool := k == k' && (a == a' && v == v')


def negL (k a v : Int) : Int × Int × Int :=
  if inB v (-100000) 100000 then
    if k = 1 then (2, a, v - 1) else if k = 2 then (1, a, v + 1) else if k = 3 then (4, a, v) else if k = 4 then (3, a, v) else (0, 0, 0)
  else (0, 0, 0)
def litV (t : Int × Int × Int) : Value := .agg #[.int .i64 t.1, .int .i64 t.2.1, .int .i64 t.2.2]



theorem iNegate (k a v : Int) (w : World) :
    Calls Try.prog 18 #[.agg #[.int .i64 k, .int .i64 a, .int .i64 v]] w fun e w' => e = .returned (litV (negL k a v)) ∧ Bel w w' := by
  cases hb : inB v (-100000) 100000
  · have HF := Lib.hid (show negL k a v = (0, 0, 0) from by simp [negL, hb])
    go_enter Try.func18, Try.ntmps18
    go_wp2_with (go_at_call 82; refine (within_any _ _ _ _).mono ?_; rintro e w' ⟨rfl, rfl⟩)
    rw [HF.out]
    exact bodyPost_ret (v := litV (0, 0, 0)) (by simp [results, Try.results18, go_sem, litV]) rfl ⟨rfl, by repeat (first | exact Bel.refl _ | apply Bel.drew | apply Bel.alloc)⟩
  · have hv : -100000 ≤ v ∧ v ≤ 100000 := by simpa [inB] using hb
    obtain ⟨hv1, hv2⟩ := hv
    by_cases c1 : k = 1
    · have HF := Lib.hid (show negL k a v = (2, a, v - 1) from by simp [negL, hb, c1])
      subst c1
      go_enter Try.func18, Try.ntmps18
      go_wp2_with (go_at_call 82; refine (within_any _ _ _ _).mono ?_; rintro e w' ⟨rfl, rfl⟩)
      rw [HF.out]
      exact bodyPost_ret (v := litV (2, a, v - 1)) (by simp [results, Try.results18, go_sem, litV]) rfl ⟨rfl, by repeat (first | exact Bel.refl _ | apply Bel.drew | apply Bel.alloc)⟩
    by_cases c2 : k = 2
    · have HF := Lib.hid (show negL k a v = (1, a, v + 1) from by simp [negL, hb, c2])
      subst c2
      go_enter Try.func18, Try.ntmps18
      go_wp2_with (go_at_call 82; refine (within_any _ _ _ _).mono ?_; rintro e w' ⟨rfl, rfl⟩)
      rw [HF.out]
      exact bodyPost_ret (v := litV (1, a, v + 1)) (by simp [results, Try.results18, go_sem, litV]) rfl ⟨rfl, by repeat (first | exact Bel.refl _ | apply Bel.drew | apply Bel.alloc)⟩
    by_cases c3 : k = 3
    · have HF := Lib.hid (show negL k a v = (4, a, v) from by simp [negL, hb, c3])
      subst c3
      go_enter Try.func18, Try.ntmps18
      go_wp2_with (go_at_call 82; refine (within_any _ _ _ _).mono ?_; rintro e w' ⟨rfl, rfl⟩)
      rw [HF.out]
      exact bodyPost_ret (v := litV (4, a, v)) (by simp [results, Try.results18, go_sem, litV]) rfl ⟨rfl, by repeat (first | exact Bel.refl _ | apply Bel.drew | apply Bel.alloc)⟩
    by_cases c4 : k = 4
    · have HF := Lib.hid (show negL k a v = (3, a, v) from by simp [negL, hb, c4])
      subst c4
      go_enter Try.func18, Try.ntmps18
      go_wp2_with (go_at_call 82; refine (within_any _ _ _ _).mono ?_; rintro e w' ⟨rfl, rfl⟩)
      rw [HF.out]
      exact bodyPost_ret (v := litV (3, a, v)) (by simp [results, Try.results18, go_sem, litV]) rfl ⟨rfl, by repeat (first | exact Bel.refl _ | apply Bel.drew | apply Bel.alloc)⟩
    have HF := Lib.hid (show negL k a v = (0, 0, 0) from by simp [negL, hb, c1, c2, c3, c4])
    have d1 : (k == 1) = false := by simpa using c1
    have d2 : (k == 2) = false := by simpa using c2
    have d3 : (k == 3) = false := by simpa using c3
    have d4 : (k == 4) = false := by simpa using c4
    clear c1 c2 c3 c4
    go_enter Try.func18, Try.ntmps18
    go_wp2_with (go_at_call 82; refine (within_any _ _ _ _).mono ?_; rintro e w' ⟨rfl, rfl⟩)
    rw [HF.out]
    exact bodyPost_ret (v := litV (0, 0, 0)) (by simp [results, Try.results18, go_sem, litV]) rfl ⟨rfl, by repeat (first | exact Bel.refl _ | apply Bel.drew | apply Bel.alloc)⟩

theorem iNegate' {k a v n1 n2 n3 : Int} (H : Hid (negL k a v = (n1, n2, n3))) (w : World) :
    Calls Try.prog 18 #[.agg #[.int .i64 k, .int .i64 a, .int .i64 v]] w fun e w' => e = .returned (.agg #[.int .i64 n1, .int .i64 n2, .int .i64 n3]) ∧ Bel w w' := by
  have h := iNegate k a v w
  rw [H.out] at h
  exact h


theorem eqLitB_self (a b c : Int) : eqLitB a b c a b c = true := by simp [eqLitB]

end Go.Proofs.Ytiaamddhocdhaaa
