/- Contracts of CompareLiterals on both sides. -/
import Derived.Test.YtiaamddhocdhaaaLit
import Derived.Test.YtiaamddhocdhaaaReps
import Derived.Test.YtiaamddhocdhaaaKeep
import Derived.Deep.RegionHeld3
namespace Go.Proofs.Ytiaamddhocdhaaa
open Go.ChangeShapes Go.WideShapes Go.ChangeAt Go.RowKit
set_option linter.unusedVariables false

def cmpI (a b : Int) : Int := if a < b then -1 else if b < a then 1 else 0



theorem compareInt_any (a b : Int) (w : World) :
    Calls Try.prog 84 #[.int .i64 a, .int .i64 b] w fun e w' => e = .returned (.int .i64 (cmpI a b)) ∧ w = w' := by
  go_enter Try.func84, Try.ntmps84
  go_wp2
  all_goals go_ret
  all_goals exact ⟨ret_int (by unfold cmpI; split <;> (try split) <;> omega), rfl⟩

def or3 (a b c : Int) : Int := if a ≠ 0 then a else if b ≠ 0 then b else c

theorem or3_any (a b c : Int) (bl cap : Nat) (w : World) (h0 : w.cell? ⟨bl, 0, none⟩ = some (.int .i64 a)) (h1 : w.cell? ⟨bl, 1, none⟩ = some (.int .i64 b)) (h2 : w.cell? ⟨bl, 2, none⟩ = some (.int .i64 c)) :
    Calls Try.prog 83 #[.slice (some ⟨bl, 0, none⟩) 3 cap] w fun e w' => e = .returned (.int .i64 (or3 a b c)) ∧ w = w' := by
  by_cases ha : a = 0
  · subst ha
    by_cases hb : b = 0
    · subst hb
      by_cases hc : c = 0
      · subst hc
        go_enter Try.func83, Try.ntmps83
        go_wp2
        refine wp_loop_rounds 4 ?_
        iterate 4 (rw [rounds_succ]; go_wp2)
        go_ret
        exact ⟨rfl, rfl⟩
      · have hc' : (c != 0) = true := by simpa using hc
        go_enter Try.func83, Try.ntmps83
        go_wp2
        refine wp_loop_rounds 4 ?_
        iterate 3 (rw [rounds_succ]; go_wp2)
        go_ret
        exact ⟨rfl, rfl⟩
    · have hb' : (b != 0) = true := by simpa using hb
      have HF := Lib.hid (show or3 0 b c = b from by simp [or3, hb])
      go_enter Try.func83, Try.ntmps83
      go_wp2
      refine wp_loop_rounds 4 ?_
      iterate 2 (rw [rounds_succ]; go_wp2)
      go_ret
      exact ⟨ret_int HF.out.symm, rfl⟩
  · have ha' : (a != 0) = true := by simpa using ha
    have HF := Lib.hid (show or3 a b c = a from by simp [or3, ha])
    go_enter Try.func83, Try.ntmps83
    go_wp2
    refine wp_loop_rounds 4 ?_
    rw [rounds_succ]; go_wp2
    go_ret
    exact ⟨ret_int HF.out.symm, rfl⟩

def cmpL (k a v k' a' v' : Int) : Int := or3 (cmpI a a') (cmpI k k') (cmpI v v')

theorem iCompareLiterals (k a v k' a' v' : Int) (w : World) :
    Calls Try.prog 21 #[.agg #[.int .i64 k, .int .i64 a, .int .i64 v], .agg #[.int .i64 k', .int .i64 a', .int .i64 v']] w fun e w' => e = .returned (.int .i64 (cmpL k a v k' a' v')) ∧ Bel w w' := by
  go_enter Try.func21, Try.ntmps21
  go_wp2_with fail
  go_region_held3 (fun w' => w'.cell? ⟨w.heap.size, 0, none⟩ = some (.int .i64 k) ∧ w'.cell? ⟨w.heap.size, 1, none⟩ = some (.int .i64 a) ∧ w'.cell? ⟨w.heap.size, 2, none⟩ = some (.int .i64 v) ∧ w'.cell? ⟨w.heap.size + 1, 0, none⟩ = some (.int .i64 k') ∧ w'.cell? ⟨w.heap.size + 1, 1, none⟩ = some (.int .i64 a') ∧ w'.cell? ⟨w.heap.size + 1, 2, none⟩ = some (.int .i64 v')) (go_keep)
    (first | (go_at_call 84; refine (compareInt_any _ _ _).mono ?_; rintro e w' ⟨rfl, rfl⟩) | (go_at_call 83; refine (or3_any (cmpI a a') (cmpI k k') (cmpI v v') _ _ _ ?h0 ?h1 ?h2).mono ?_; (case h0 => simp [go_sem]); (case h1 => simp [go_sem]); (case h2 => simp [go_sem]); rintro e w' ⟨rfl, rfl⟩))
  all_goals go_wp2
  all_goals go_ret
  all_goals exact ⟨rfl, by repeat (first | exact Bel.refl _ | apply Bel.drew | apply Bel.alloc)⟩



end Go.Proofs.Ytiaamddhocdhaaa
