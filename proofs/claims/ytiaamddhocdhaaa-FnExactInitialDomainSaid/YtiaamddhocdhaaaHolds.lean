/- Contracts of LiteralHolds. -/
import Derived.Test.YtiaamddhocdhaaaIn
import Derived.Test.YtiaamddhocdhaaaShape
import Derived.Test.YtiaamddhocdhaaaBlk
namespace Go.Proofs.Ytiaamddhocdhaaa
open Go.ChangeShapes Go.WideShapes Go.ChangeAt Go.RowKit
set_option linter.unusedVariables false

/-- Whether a literal holds of a start and a mode. -/
def holdsB (k v s m : Int) : Bool := if k = 1 then decide (v ≤ s) else if k = 2 then decide (s ≤ v) else if k = 3 then decide (m = v) else if k = 4 then decide (m ≠ v) else false
def litHolds (l : LitT) (x : SchT) : Bool :=
  if inB l.2.1 0 ((x.1.length : Int) - 1) && inB l.2.1 0 ((x.2.length : Int) - 1) then holdsB l.1 l.2.2 (x.1.getD l.2.1.toNat 0) (x.2.getD l.2.1.toNat 0) else false
theorem inB_idx {n : Int} {m : Nat} (h : inB n 0 ((m : Int) - 1) = true) : ∃ k : Nat, n = k ∧ k < m := by
  simp only [inB, Bool.and_eq_true, decide_eq_true_eq] at h
  obtain ⟨k, rfl⟩ := Int.eq_ofNat_of_zero_le h.1
  exact ⟨k, rfl, by omega⟩
theorem inB_lt {k m : Nat} (h : k < m) : inB (k : Int) 0 ((m : Int) - 1) = true := by
  simp only [inB, Bool.and_eq_true, decide_eq_true_eq]; omega
theorem inB_ge {k m : Nat} (h : ¬ k < m) : inB (k : Int) 0 ((m : Int) - 1) = false := by
  simp only [inB, Bool.and_eq_false_iff, decide_eq_false_iff_not]; omega
/-- The cell of the i-th number of a slice of ints. -/
theorem intsR_at {S : Nat → Prop} {w : World} {p : Option Addr} {len cap : Nat} {xs : List Int} (h : intsR S w [.slice p len cap] xs) {i : Nat} (hi : i < xs.length) :
    ∃ b off, p = some ⟨b, off, none⟩ ∧ S b ∧ w.cell? ⟨b, off + i, none⟩ = some (.int .i64 (xs.getD i 0)) ∧ I64 (xs.getD i 0) := by
  obtain ⟨p', cap', e, _, _, h4⟩ := sliceR_open h
  obtain ⟨b, off, ecs, e1, e2, e3, e4, e5, e6⟩ := h4 i hi
  obtain ⟨rfl, _, _⟩ : p = p' ∧ len = xs.length ∧ cap = cap' := by simpa using e
  subst e5
  have := (e4 0 (by simp)).1
  simp only [List.getElem_cons_zero, Nat.mul_one, Nat.add_zero] at this
  have e7 : xs.getD i 0 = xs[i] := by simp [List.getD, hi]
  rw [e7]
  exact ⟨b, off, e1, e2, this, e6⟩


set_option maxHeartbeats 800000 in
theorem iLiteralHolds_any (x0 : LitT) (v1 : Value) (x1 : SchT) (S1 : Nat → Prop) (w : World) (h1 : aggR schR S1 w v1 x1) (_hS1 : ∀ b, S1 b → b < w.heap.size) (_hn1 : bulkSchedule x1 ≤ 1048576) :
    Calls Try.prog 20 #[.agg #[.int .i64 x0.1, .int .i64 x0.2.1, .int .i64 x0.2.2], v1] w fun e w' => e = .returned (.bool (litHolds x0 x1)) ∧ Bel w w' := by
  obtain ⟨cs, rfl, h1⟩ := h1
  obtain ⟨c0, c1, rfl, q0, q1⟩ := schR_open h1
  obtain ⟨p0, cap0, rfl, l0, l0', _⟩ := sliceR_open q0
  obtain ⟨p1, cap1, rfl, l1, l1', _⟩ := sliceR_open q1
  unfold maxLen at l0' l1'
  obtain ⟨ki, ac, va⟩ := x0
  obtain ⟨ss, ms⟩ := x1
  simp only at l0 l1 q0 q1
  clear h1 _hn1 _hS1
  show Calls Try.prog 20 #[.agg #[.int .i64 ki, .int .i64 ac, .int .i64 va], .agg #[.slice p0 ss.length cap0, .slice p1 ms.length cap1]] w _
  cases hb0 : inB ac 0 ((ss.length : Int) - 1)
  · have HF := Lib.hid (show litHolds (ki, ac, va) (ss, ms) = false from by simp [litHolds, hb0])
    clear q0 q1
    go_enter Try.func20, Try.ntmps20
    go_wp2_with (go_at_call 82; refine (within_any _ _ _ _).mono ?_; rintro e w' ⟨rfl, rfl⟩)
    go_ret
    exact ⟨ret_bool HF.out.symm, by (repeat (first | exact Bel.refl _ | apply Bel.drew | apply Bel.alloc | refine Bel.trans ?_ (by assumption)))⟩
  cases hb1 : inB ac 0 ((ms.length : Int) - 1)
  · have HF := Lib.hid (show litHolds (ki, ac, va) (ss, ms) = false from by simp [litHolds, hb1])
    clear q0 q1
    go_enter Try.func20, Try.ntmps20
    go_wp2_with (go_at_call 82; refine (within_any _ _ _ _).mono ?_; rintro e w' ⟨rfl, rfl⟩)
    go_ret
    exact ⟨ret_bool HF.out.symm, by (repeat (first | exact Bel.refl _ | apply Bel.drew | apply Bel.alloc | refine Bel.trans ?_ (by assumption)))⟩
  have HF := Lib.hid (show litHolds (ki, ac, va) (ss, ms) = holdsB ki va (ss.getD ac.toNat 0) (ms.getD ac.toNat 0) from by simp [litHolds, hb0, hb1])
  obtain ⟨k, rfl, hk⟩ := inB_idx hb0
  obtain ⟨k', hk'e, hk'⟩ := inB_idx hb1
  obtain rfl : k = k' := by omega
  clear hk'e
  obtain ⟨b, off, rfl, _, d0, _⟩ := intsR_at q0 hk
  obtain ⟨b', off', rfl, _, d1, _⟩ := intsR_at q1 hk'
  have hi0 : (k : Int) < (ss.length : Int) := by omega
  have hi1 : (k : Int) < (ms.length : Int) := by omega
  have g0 := fun o1 o2 => (((Bel.refl w).alloc o1).alloc o2).cell d0
  have g1 := fun o1 o2 => (((Bel.refl w).alloc o1).alloc o2).cell d1
  clear q0 q1 d0 d1
  rw [show ((k : Nat) : Int).toNat = k from rfl] at HF
  generalize ss.getD k 0 = s at *
  generalize ms.getD k 0 = m at *
  by_cases c1 : ki = 1
  · subst c1
    go_enter Try.func20, Try.ntmps20
    go_wp2_with (go_at_call 82; refine (within_any _ _ _ _).mono ?_; rintro e w' ⟨rfl, rfl⟩)
    all_goals go_quiet (fail)
    all_goals go_wp2
    all_goals go_ret
    all_goals exact ⟨ret_bool (by rw [HF.out, Bool.eq_iff_iff]; simp [holdsB]), by (repeat (first | exact Bel.refl _ | apply Bel.drew | apply Bel.drewN | apply Bel.alloc))⟩
  by_cases c2 : ki = 2
  · subst c2
    go_enter Try.func20, Try.ntmps20
    go_wp2_with (go_at_call 82; refine (within_any _ _ _ _).mono ?_; rintro e w' ⟨rfl, rfl⟩)
    all_goals go_quiet (fail)
    all_goals go_wp2
    all_goals go_ret
    all_goals exact ⟨ret_bool (by rw [HF.out, Bool.eq_iff_iff]; simp [holdsB]), by (repeat (first | exact Bel.refl _ | apply Bel.drew | apply Bel.drewN | apply Bel.alloc))⟩
  by_cases c3 : ki = 3
  · subst c3
    go_enter Try.func20, Try.ntmps20
    go_wp2_with (go_at_call 82; refine (within_any _ _ _ _).mono ?_; rintro e w' ⟨rfl, rfl⟩)
    all_goals go_quiet (fail)
    all_goals go_wp2
    all_goals go_ret
    all_goals exact ⟨ret_bool (by rw [HF.out, Bool.eq_iff_iff]; simp [holdsB]), by (repeat (first | exact Bel.refl _ | apply Bel.drew | apply Bel.drewN | apply Bel.alloc))⟩
  by_cases c4 : ki = 4
  · subst c4
    go_enter Try.func20, Try.ntmps20
    go_wp2_with (go_at_call 82; refine (within_any _ _ _ _).mono ?_; rintro e w' ⟨rfl, rfl⟩)
    all_goals go_quiet (fail)
    all_goals go_wp2
    all_goals go_ret
    all_goals exact ⟨ret_bool (by rw [HF.out, Bool.eq_iff_iff]; simp [holdsB]), by (repeat (first | exact Bel.refl _ | apply Bel.drew | apply Bel.drewN | apply Bel.alloc))⟩
  have e1 : (ki == 1) = false := by simpa using c1
  have e2 : (ki == 2) = false := by simpa using c2
  have e3 : (ki == 3) = false := by simpa using c3
  have e4 : (ki == 4) = false := by simpa using c4
  have HG := Lib.hid (show holdsB ki va s m = false from by simp [holdsB, c1, c2, c3, c4])
  clear c1 c2 c3 c4
  go_enter Try.func20, Try.ntmps20
  go_wp2_with (go_at_call 82; refine (within_any _ _ _ _).mono ?_; rintro e w' ⟨rfl, rfl⟩)
  go_quiet (fail)
  go_wp2
  go_ret
  exact ⟨ret_bool (by rw [HF.out, HG.out]), by (repeat (first | exact Bel.refl _ | apply Bel.drew | apply Bel.drewN | apply Bel.alloc))⟩

end Go.Proofs.Ytiaamddhocdhaaa
