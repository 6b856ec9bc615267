/- Contracts of CompareLiterals on both sides. -/
import Derived.Test.YtlepgmkdclbkjaaLit
import Derived.Test.YtlepgmkdclbkjaaReps
import Derived.Test.YtlepgmkdclbkjaaKeep
import Derived.Deep.RegionHeld3
namespace Go.Proofs.Ytlepgmkdclbkjaa
open Go.ChangeShapes Go.WideShapes Go.ChangeAt Go.RowKit
set_option linter.unusedVariables false

def cmpI (a b : Int) : Int := if a < b then -1 else if b < a then 1 else 0

theorem ret_int {k : IntKind} {a b : Int} (h : a = b) : Ending.returned (.int k a) = .returned (.int k b) := by rw [h]

theorem l11Sign_any (a b : Int) (w : World) :
    Calls Try.prog 31 #[.int .i64 a, .int .i64 b] w fun e w' => e = .returned (.int .i64 (cmpI a b)) ∧ w = w' := by
  go_enter Try.func31, Try.ntmps31
  go_wp2
  all_goals go_ret
  all_goals exact ⟨ret_int (by unfold cmpI; split <;> (try split) <;> omega), rfl⟩

theorem compareInt_any (a b : Int) (w : World) :
    Calls Try.prog 33 #[.int .i64 a, .int .i64 b] w fun e w' => e = .returned (.int .i64 (cmpI a b)) ∧ w = w' := by
  go_enter Try.func33, Try.ntmps33
  go_wp2
  all_goals go_ret
  all_goals exact ⟨ret_int (by unfold cmpI; split <;> (try split) <;> omega), rfl⟩

def or3 (a b c : Int) : Int := if a ≠ 0 then a else if b ≠ 0 then b else c

theorem or3_any (a b c : Int) (bl cap : Nat) (w : World) (h0 : w.cell? ⟨bl, 0, none⟩ = some (.int .i64 a)) (h1 : w.cell? ⟨bl, 1, none⟩ = some (.int .i64 b)) (h2 : w.cell? ⟨bl, 2, none⟩ = some (.int .i64 c)) :
    Calls Try.prog 32 #[.slice (some ⟨bl, 0, none⟩) 3 cap] w fun e w' => e = .returned (.int .i64 (or3 a b c)) ∧ w = w' := by
  by_cases ha : a = 0
  · subst ha
    by_cases hb : b = 0
    · subst hb
      by_cases hc : c = 0
      · subst hc
        go_enter Try.func32, Try.ntmps32
        go_wp2
        refine wp_loop_rounds 4 ?_
        iterate 4 (rw [rounds_succ]; go_wp2)
        go_ret
        exact ⟨rfl, rfl⟩
      · have hc' : (c != 0) = true := by simpa using hc
        go_enter Try.func32, Try.ntmps32
        go_wp2
        refine wp_loop_rounds 4 ?_
        iterate 3 (rw [rounds_succ]; go_wp2)
        go_ret
        exact ⟨rfl, rfl⟩
    · have hb' : (b != 0) = true := by simpa using hb
      have HF := Lib.hid (show or3 0 b c = b from by simp [or3, hb])
      go_enter Try.func32, Try.ntmps32
      go_wp2
      refine wp_loop_rounds 4 ?_
      iterate 2 (rw [rounds_succ]; go_wp2)
      go_ret
      exact ⟨ret_int HF.out.symm, rfl⟩
  · have ha' : (a != 0) = true := by simpa using ha
    have HF := Lib.hid (show or3 a b c = a from by simp [or3, ha])
    go_enter Try.func32, Try.ntmps32
    go_wp2
    refine wp_loop_rounds 4 ?_
    rw [rounds_succ]; go_wp2
    go_ret
    exact ⟨ret_int HF.out.symm, rfl⟩

def cmpL (k a v k' a' v' : Int) : Int := or3 (cmpI a a') (cmpI k k') (cmpI v v')

theorem iCompareLiterals (k a v k' a' v' : Int) (w : World) :
    Calls Try.prog 18 #[.agg #[.int .i64 k, .int .i64 a, .int .i64 v], .agg #[.int .i64 k', .int .i64 a', .int .i64 v']] w fun e w' => e = .returned (.int .i64 (cmpL k a v k' a' v')) ∧ Bel w w' := by
  go_enter Try.func18, Try.ntmps18
  go_wp2_with fail
  go_region_held3 (fun w' => w'.cell? ⟨w.heap.size, 0, none⟩ = some (.int .i64 k) ∧ w'.cell? ⟨w.heap.size, 1, none⟩ = some (.int .i64 a) ∧ w'.cell? ⟨w.heap.size, 2, none⟩ = some (.int .i64 v) ∧ w'.cell? ⟨w.heap.size + 1, 0, none⟩ = some (.int .i64 k') ∧ w'.cell? ⟨w.heap.size + 1, 1, none⟩ = some (.int .i64 a') ∧ w'.cell? ⟨w.heap.size + 1, 2, none⟩ = some (.int .i64 v')) (go_keep)
    (first | (go_at_call 33; refine (compareInt_any _ _ _).mono ?_; rintro e w' ⟨rfl, rfl⟩) | (go_at_call 32; refine (or3_any (cmpI a a') (cmpI k k') (cmpI v v') _ _ _ ?h0 ?h1 ?h2).mono ?_; (case h0 => simp [go_sem]); (case h1 => simp [go_sem]); (case h2 => simp [go_sem]); rintro e w' ⟨rfl, rfl⟩))
  all_goals go_wp2
  all_goals go_ret
  all_goals exact ⟨rfl, by repeat (first | exact Bel.refl _ | apply Bel.drew | apply Bel.alloc)⟩

theorem sCompareLiterals (k a v k' a' v' : Int) (w : World) :
    Calls Try.prog 17 #[.agg #[.int .i64 k, .int .i64 a, .int .i64 v], .agg #[.int .i64 k', .int .i64 a', .int .i64 v']] w fun e w' => e = .returned (.int .i64 (cmpL k a v k' a' v')) ∧ Bel w w' := by
  go_enter Try.func17, Try.ntmps17
  go_wp2_with (go_at_call 31; refine (l11Sign_any _ _ _).mono ?_; rintro e w' ⟨rfl, rfl⟩)
  all_goals go_ret
  all_goals refine ⟨ret_int ?_, by repeat (first | exact Bel.refl _ | apply Bel.drew | apply Bel.alloc)⟩
  all_goals simp_all [cmpL, or3, cmpI]
  all_goals omega

theorem fnExactCompareLiterals_walk (v0 : Value) (x0 : LitT) (v1 : Value) (x1 : LitT) (w : World) (h0 : aggR litR (Old w) w v0 x0) (h1 : aggR litR (Old w) w v1 x1) :
    Calls Try.prog 6 #[v0, v1] w fun e w' => e = .returned (.bool true) ∧ Bel w w' := by
  obtain ⟨cs, rfl, c0, r0, rfl, ⟨e0, _⟩, c1, r1, rfl, ⟨e1, _⟩, e2, _⟩ := h0
  obtain ⟨cs', rfl, c0', r0', rfl, ⟨e0', _⟩, c1', r1', rfl, ⟨e1', _⟩, e2', _⟩ := h1
  obtain ⟨k, a, v⟩ := x0
  obtain ⟨k', a', v'⟩ := x1
  simp only [List.cons.injEq, and_true] at e0 e1 e0' e1'
  subst e0 e1 e2 e0' e1' e2'
  show Calls Try.prog 6 #[.agg #[.int .i64 k, .int .i64 a, .int .i64 v], .agg #[.int .i64 k', .int .i64 a', .int .i64 v']] w _
  go_enter Try.func6, Try.ntmps6
  go_wp2_with fail
  go_region_held3 (fun w' => w'.cell? ⟨w.heap.size, 0, none⟩ = some (.int .i64 k) ∧ w'.cell? ⟨w.heap.size, 1, none⟩ = some (.int .i64 a) ∧ w'.cell? ⟨w.heap.size, 2, none⟩ = some (.int .i64 v) ∧ w'.cell? ⟨w.heap.size + 1, 0, none⟩ = some (.int .i64 k') ∧ w'.cell? ⟨w.heap.size + 1, 1, none⟩ = some (.int .i64 a') ∧ w'.cell? ⟨w.heap.size + 1, 2, none⟩ = some (.int .i64 v')) (first | exact keep6 (by assumption) (by assumption) | go_keep)
    (first | (go_at_call 14; refine (toLiteral_any _ _ _ _).mono ?_; rintro e w1 ⟨rfl, g1⟩) | (go_at_call 17; refine (sCompareLiterals _ _ _ _ _ _ _).mono ?_; rintro e w1 ⟨rfl, g1⟩))
  rename_i hS
  have G : Bel w w1 := by (repeat (first | exact Bel.refl _ | apply Bel.drew | apply Bel.alloc | refine Bel.trans ?_ (by assumption)))
  clear g1
  go_wp2_with fail
  go_region_held3 (fun w' => w'.cell? ⟨w.heap.size, 0, none⟩ = some (.int .i64 k) ∧ w'.cell? ⟨w.heap.size, 1, none⟩ = some (.int .i64 a) ∧ w'.cell? ⟨w.heap.size, 2, none⟩ = some (.int .i64 v) ∧ w'.cell? ⟨w.heap.size + 1, 0, none⟩ = some (.int .i64 k') ∧ w'.cell? ⟨w.heap.size + 1, 1, none⟩ = some (.int .i64 a') ∧ w'.cell? ⟨w.heap.size + 1, 2, none⟩ = some (.int .i64 v')) (first | exact keep6 (by assumption) (by assumption) | go_keep)
    (first | (go_at_call 14; refine (toLiteral_any _ _ _ _).mono ?_; rintro e w1 ⟨rfl, g1⟩) | (go_at_call 18; refine (iCompareLiterals _ _ _ _ _ _ _).mono ?_; rintro e w1 ⟨rfl, g1⟩))
  go_wp2
  go_ret
  exact ⟨rfl, by (repeat (first | exact Bel.refl _ | apply Bel.drew | apply Bel.alloc | refine Bel.trans ?_ (by assumption)))⟩
end Go.Proofs.Ytlepgmkdclbkjaa
