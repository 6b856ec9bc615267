/- The walks of the laws FnExactRuleName, FnExactLiteralSign, FnExactNegate, FnExactCompareLiterals. -/
import Derived.Test.YtlepgmkdclbkjaaLit
import Derived.Test.YtlepgmkdclbkjaaReps
namespace Go.Proofs.Ytlepgmkdclbkjaa
open Go.ChangeShapes Go.WideShapes Go.ChangeAt Go.RowKit
set_option linter.unusedVariables false

theorem fnExactRuleName_walk (v0 : Value) (x0 : Int) (w : World) (h0 : intR (Old w) w [v0] x0) :
    Calls Try.prog 3 #[v0] w fun e w' => e = .returned (.bool true) ∧ Bel w w' := by
  obtain ⟨h0, _⟩ := h0
  obtain rfl : v0 = .int .i64 x0 := by simpa using h0
  clear h0
  go_enter Try.func3, Try.ntmps3
  go_wp2_with fail
  refine (sRuleName _ _).mono ?_
  rintro e w1 ⟨rfl, g1⟩
  go_wp2_with fail
  refine (iRuleName _ _).mono ?_
  rintro e w2 ⟨rfl, g2⟩
  go_wp2_with fail
  go_ret
  exact ⟨rfl, g1.trans g2⟩

theorem fnExactLiteralSign_walk (v0 : Value) (x0 : Int) (w : World) (h0 : intR (Old w) w [v0] x0) :
    Calls Try.prog 4 #[v0] w fun e w' => e = .returned (.bool true) ∧ Bel w w' := by
  obtain ⟨h0, _⟩ := h0
  obtain rfl : v0 = .int .i64 x0 := by simpa using h0
  clear h0
  go_enter Try.func4, Try.ntmps4
  go_wp2_with fail
  refine (sLiteralSign _ _).mono ?_
  rintro e w1 ⟨rfl, g1⟩
  go_wp2_with fail
  refine (iLiteralSign _ _).mono ?_
  rintro e w2 ⟨rfl, rfl⟩
  go_wp2_with fail
  go_ret
  exact ⟨rfl, g1⟩

theorem iNegate' {k a v n1 n2 n3 : Int} (H : Hid (negL k a v = (n1, n2, n3))) (w : World) :
    Calls Try.prog 15 #[.agg #[.int .i64 k, .int .i64 a, .int .i64 v]] w fun e w' => e = .returned (.agg #[.int .i64 n1, .int .i64 n2, .int .i64 n3]) ∧ Bel w w' := by
  have h := iNegate k a v w
  rw [H.out] at h
  exact h
theorem sNegate' {k a v n1 n2 n3 : Int} (H : Hid (negL k a v = (n1, n2, n3))) (w : World) :
    Calls Try.prog 13 #[.agg #[.int .i64 k, .int .i64 a, .int .i64 v]] w fun e w' => e = .returned (.agg #[.int .i64 n1, .int .i64 n2, .int .i64 n3]) ∧ Bel w w' := by
  have h := sNegate k a v w
  rw [H.out] at h
  exact h
theorem eqLitB_self (a b c : Int) : eqLitB a b c a b c = true := by simp [eqLitB]
theorem eqLiteral_self (k a v : Int) (w : World) :
    Calls Try.prog 16 #[.agg #[.int .i64 k, .int .i64 a, .int .i64 v], .agg #[.int .i64 k, .int .i64 a, .int .i64 v]] w fun e w' => e = .returned (.bool true) ∧ Bel w w' := by
  have h := eqLiteral_any k a v k a v w
  rw [eqLitB_self] at h
  exact h

theorem fnExactNegate_walk (v0 : Value) (x0 : LitT) (w : World) (h0 : aggR litR (Old w) w v0 x0) :
    Calls Try.prog 5 #[v0] w fun e w' => e = .returned (.bool true) ∧ Bel w w' := by
  obtain ⟨cs, rfl, c0, r0, rfl, ⟨e0, _⟩, c1, r1, rfl, ⟨e1, _⟩, e2, _⟩ := h0
  obtain ⟨k, a, v⟩ := x0
  simp only [List.cons.injEq, and_true] at e0 e1
  subst e0 e1 e2
  show Calls Try.prog 5 #[.agg #[.int .i64 k, .int .i64 a, .int .i64 v]] w _
  obtain ⟨n1, n2, n3, hn⟩ : ∃ n1 n2 n3, negL k a v = (n1, n2, n3) := ⟨_, _, _, rfl⟩
  have HN := Lib.hid hn; clear hn
  go_enter Try.func5, Try.ntmps5
  go_wp2_with fail
  refine (toLiteral_any _ _ _ _).mono ?_
  rintro e w1 ⟨rfl, g1⟩
  have hz1 := g1.size
  simp only [World.size_alloc] at hz1
  obtain ⟨hc1, hf1⟩ := g1.rules
  go_wp2_with fail
  refine (sNegate' HN _).mono ?_
  rintro e w2 ⟨rfl, g2⟩
  have hz2 := g2.size
  obtain ⟨hc2, hf2⟩ := g2.rules
  have hlt : w.heap.size < w2.heap.size := by omega
  have hlt1 : w.heap.size < w1.heap.size := by omega
  go_wp2_with fail
  refine (toLiteral_any _ _ _ _).mono ?_
  rintro e w3 ⟨rfl, g3⟩
  have hz3 := g3.size
  simp only [World.size_alloc] at hz3
  obtain ⟨hc3, hf3⟩ := g3.rules
  go_wp2_with fail
  refine (iNegate' HN _).mono ?_
  rintro e w4 ⟨rfl, g4⟩
  have hz4 := g4.size
  obtain ⟨hc4, hf4⟩ := g4.rules
  have hlt2 : w2.heap.size < w3.heap.size := by omega
  have hlt3 : w2.heap.size < w4.heap.size := by omega
  go_wp2_with fail
  refine (eqLiteral_self _ _ _ _).mono ?_
  rintro e w5 ⟨rfl, g5⟩
  go_wp2_with fail
  go_ret
  exact ⟨rfl, (((((((Bel.refl w).alloc _).trans g1).trans g2).alloc _).trans g3).trans g4 |>.alloc _).trans g5⟩
end Go.Proofs.Ytlepgmkdclbkjaa
