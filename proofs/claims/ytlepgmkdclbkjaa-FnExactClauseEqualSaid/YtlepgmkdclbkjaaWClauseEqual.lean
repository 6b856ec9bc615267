/- The walk of laws.FnExactClauseEqual. -/
import Derived.Test.YtlepgmkdclbkjaaSeq
import Derived.Test.YtlepgmkdclbkjaaSz
import Derived.Test.YtlepgmkdclbkjaaTo
import Derived.Deep.RegionHeld3
namespace Go.Proofs.Ytlepgmkdclbkjaa
open Go.ChangeShapes Go.WideShapes Go.ChangeAt Go.RowKit
set_option linter.unusedVariables false

set_option maxHeartbeats 1000000 in
theorem fnExactClauseEqual_walk (v0 : Value) (x0 : List (LitT)) (v1 : Value) (x1 : List (LitT)) (w : World) (h0 : litsR (Old w) w [v0] x0) (h1 : litsR (Old w) w [v1] x1) :
    Calls Try.prog 7 #[v0, v1] w fun e w' => e = .returned (.bool true) ∧ Bel w w' := by
  have H0 := Lib.hid (show ∀ W, Bel w W → litsR (Old w) W [v0] x0 ∧ (∀ b, Old w b → b < W.heap.size) from fun W hW => ⟨litsR_good.bel h0 hW (fun b hb => hb), fun b hb => Nat.lt_of_lt_of_le hb hW.size⟩)
  obtain ⟨p0, cap0, rfl, _⟩ := sliceR_open h0
  clear h0
  have H1 := Lib.hid (show ∀ W, Bel w W → litsR (Old w) W [v1] x1 ∧ (∀ b, Old w b → b < W.heap.size) from fun W hW => ⟨litsR_good.bel h1 hW (fun b hb => hb), fun b hb => Nat.lt_of_lt_of_le hb hW.size⟩)
  obtain ⟨p1, cap1, rfl, _⟩ := sliceR_open h1
  clear h1
  obtain ⟨m0, hm0⟩ : ∃ m, bulkLiteralS x0 = m := ⟨_, rfl⟩
  have HM0 := Lib.hid hm0; clear hm0
  obtain ⟨m1, hm1⟩ : ∃ m, bulkLiteralS x1 = m := ⟨_, rfl⟩
  have HM1 := Lib.hid hm1; clear hm1
  show Calls Try.prog 7 #[.slice p0 x0.length cap0, .slice p1 x1.length cap1] w _
  go_enter Try.func7, Try.ntmps7
  go_wp2_with fail
  refine (szLiteralS_any _ x0 _ _ _ (H0.out _ (by (repeat (first | exact Bel.refl _ | apply Bel.drew | apply Bel.alloc | refine Bel.trans ?_ (by assumption))))).1 (H0.out _ (by (repeat (first | exact Bel.refl _ | apply Bel.drew | apply Bel.alloc | refine Bel.trans ?_ (by assumption))))).2 (by omega) (by omega)).mono ?_
  rintro e w1 ⟨rfl, gw1⟩
  rw [HM0.out]
  by_cases hfit0 : (m0 : Int) ≤ 1048576
  rotate_left
  · rw [szN_no (by omega)]
    go_wp2
    go_ret
    exact ⟨rfl, by (repeat (first | exact Bel.refl _ | apply Bel.drew | apply Bel.alloc | refine Bel.trans ?_ (by assumption)))⟩
  rw [szN_ok hfit0]
  go_wp2_with fail
  refine (szLiteralS_any _ x1 _ _ _ (H1.out _ (by (repeat (first | exact Bel.refl _ | apply Bel.drew | apply Bel.alloc | refine Bel.trans ?_ (by assumption))))).1 (H1.out _ (by (repeat (first | exact Bel.refl _ | apply Bel.drew | apply Bel.alloc | refine Bel.trans ?_ (by assumption))))).2 (by omega) (by omega)).mono ?_
  rintro e w2 ⟨rfl, gw2⟩
  rw [HM1.out]
  by_cases hfit1 : (m1 : Int) ≤ 1048576 - m0
  rotate_left
  · rw [szN_no (by omega)]
    go_wp2
    go_ret
    exact ⟨rfl, by (repeat (first | exact Bel.refl _ | apply Bel.drew | apply Bel.alloc | refine Bel.trans ?_ (by assumption)))⟩
  rw [szN_ok hfit1]
  go_wp2_with fail
  go_at_call 21; (with_reducible refine (toLiteralS_rep _ x0 _ _ (H0.out _ (by (repeat (first | exact Bel.refl _ | apply Bel.drew | apply Bel.alloc | refine Bel.trans ?_ (by assumption))))).1 (H0.out _ (by (repeat (first | exact Bel.refl _ | apply Bel.drew | apply Bel.alloc | refine Bel.trans ?_ (by assumption))))).2 (by rw [HM0.out]; omega)).mono ?_); rintro e wt ⟨vz, rfl, hr, gt⟩; obtain ⟨zs0p, zs0c, rfl, _⟩ := sliceR_open hr; have Ts0 := Lib.hid (stays_one litsR_good hr); clear hr
  go_wp2_with fail
  go_at_call 21; (with_reducible refine (toLiteralS_rep _ x1 _ _ (H1.out _ (by (repeat (first | exact Bel.refl _ | apply Bel.drew | apply Bel.alloc | refine Bel.trans ?_ (by assumption))))).1 (H1.out _ (by (repeat (first | exact Bel.refl _ | apply Bel.drew | apply Bel.alloc | refine Bel.trans ?_ (by assumption))))).2 (by rw [HM1.out]; omega)).mono ?_); rintro e wt ⟨vz, rfl, hr, gt⟩; obtain ⟨zs1p, zs1c, rfl, _⟩ := sliceR_open hr; have Ts1 := Lib.hid (stays_one litsR_good hr); clear hr
  go_wp2_with fail
  go_at_call 20; (with_reducible refine (sClauseEqual_any _ x0 _ _ x1 _ _ (Ts0.out _ (by (repeat (first | exact Bel.refl _ | apply Bel.drew | apply Bel.alloc | refine Bel.trans ?_ (by assumption))))).1 (Ts0.out _ (by (repeat (first | exact Bel.refl _ | apply Bel.drew | apply Bel.alloc | refine Bel.trans ?_ (by assumption))))).2 (by rw [HM0.out]; omega) (Ts1.out _ (by (repeat (first | exact Bel.refl _ | apply Bel.drew | apply Bel.alloc | refine Bel.trans ?_ (by assumption))))).1 (Ts1.out _ (by (repeat (first | exact Bel.refl _ | apply Bel.drew | apply Bel.alloc | refine Bel.trans ?_ (by assumption))))).2 (by rw [HM1.out]; omega)).mono ?_); rintro e wt ⟨rfl, gt⟩
  obtain ⟨w3, hw3⟩ : ∃ W, W = wt := ⟨wt, rfl⟩
  subst hw3
  go_wp2_with fail
  go_at_call 21; (with_reducible refine (toLiteralS_rep _ x0 _ _ (H0.out _ (by (repeat (first | exact Bel.refl _ | apply Bel.drew | apply Bel.alloc | refine Bel.trans ?_ (by assumption))))).1 (H0.out _ (by (repeat (first | exact Bel.refl _ | apply Bel.drew | apply Bel.alloc | refine Bel.trans ?_ (by assumption))))).2 (by rw [HM0.out]; omega)).mono ?_); rintro e wt ⟨vz, rfl, hr, gt⟩; obtain ⟨zx0p, zx0c, rfl, _⟩ := sliceR_open hr; have Tx0 := Lib.hid (stays_one litsR_good hr); clear hr
  obtain ⟨w4, hw4⟩ : ∃ W, W = wt := ⟨wt, rfl⟩
  subst hw4
  have gw4 := gt; clear gt
  go_wp2_with fail
  go_at_call 21; (with_reducible refine (toLiteralS_rep _ x1 _ _ (H1.out _ (by (repeat (first | exact Bel.refl _ | apply Bel.drew | apply Bel.alloc | refine Bel.trans ?_ (by assumption))))).1 (H1.out _ (by (repeat (first | exact Bel.refl _ | apply Bel.drew | apply Bel.alloc | refine Bel.trans ?_ (by assumption))))).2 (by rw [HM1.out]; omega)).mono ?_); rintro e wt ⟨vz, rfl, hr, gt⟩; obtain ⟨zx1p, zx1c, rfl, _⟩ := sliceR_open hr; have Tx1 := Lib.hid (stays_one litsR_good hr); clear hr
  obtain ⟨w5, hw5⟩ : ∃ W, W = wt := ⟨wt, rfl⟩
  subst hw5
  have gw5 := gt; clear gt
  go_wp2_with fail
  go_at_call 22; (with_reducible refine (iClauseEqual_any _ x0 _ _ x1 _ _ (Tx0.out _ (by (repeat (first | exact Bel.refl _ | apply Bel.drew | apply Bel.alloc | refine Bel.trans ?_ (by assumption))))).1 (Tx0.out _ (by (repeat (first | exact Bel.refl _ | apply Bel.drew | apply Bel.alloc | refine Bel.trans ?_ (by assumption))))).2 (by rw [HM0.out]; omega) (Tx1.out _ (by (repeat (first | exact Bel.refl _ | apply Bel.drew | apply Bel.alloc | refine Bel.trans ?_ (by assumption))))).1 (Tx1.out _ (by (repeat (first | exact Bel.refl _ | apply Bel.drew | apply Bel.alloc | refine Bel.trans ?_ (by assumption))))).2 (by rw [HM1.out]; omega)).mono ?_); rintro e wt ⟨rfl, gt⟩
  obtain ⟨w6, hw6⟩ : ∃ W, W = wt := ⟨wt, rfl⟩
  subst hw6
  have gw6 := gt; clear gt
  go_wp2_with fail
  go_at_call 21; (with_reducible refine (toLiteralS_rep _ x0 _ _ (H0.out _ (by (repeat (first | exact Bel.refl _ | apply Bel.drew | apply Bel.alloc | refine Bel.trans ?_ (by assumption))))).1 (H0.out _ (by (repeat (first | exact Bel.refl _ | apply Bel.drew | apply Bel.alloc | refine Bel.trans ?_ (by assumption))))).2 (by rw [HM0.out]; omega)).mono ?_); rintro e wt ⟨vz, rfl, hr, gt⟩; obtain ⟨ze00p, ze00c, rfl, _⟩ := sliceR_open hr; have Te00 := Lib.hid (stays_one litsR_good hr); clear hr
  obtain ⟨w7, hw7⟩ : ∃ W, W = wt := ⟨wt, rfl⟩
  subst hw7
  have gw7 := gt; clear gt
  go_wp2_with fail
  go_at_call 23; (with_reducible refine (eqLiteralS_rep _ _ x0 x0 _ _ _ (Tx0.out _ (by (repeat (first | exact Bel.refl _ | apply Bel.drew | apply Bel.alloc | refine Bel.trans ?_ (by assumption))))).1 (Te00.out _ (by (repeat (first | exact Bel.refl _ | apply Bel.drew | apply Bel.alloc | refine Bel.trans ?_ (by assumption))))).1 (Tx0.out _ (by (repeat (first | exact Bel.refl _ | apply Bel.drew | apply Bel.alloc | refine Bel.trans ?_ (by assumption))))).2 (Te00.out _ (by (repeat (first | exact Bel.refl _ | apply Bel.drew | apply Bel.alloc | refine Bel.trans ?_ (by assumption))))).2).mono ?_); rintro e wt ⟨rfl, gt⟩
  obtain ⟨w8, hw8⟩ : ∃ W, W = wt := ⟨wt, rfl⟩
  subst hw8
  have gw8 := gt; clear gt
  rw [decide_eq_true rfl]
  go_wp2_with fail
  go_at_call 21; (with_reducible refine (toLiteralS_rep _ x1 _ _ (H1.out _ (by (repeat (first | exact Bel.refl _ | apply Bel.drew | apply Bel.alloc | refine Bel.trans ?_ (by assumption))))).1 (H1.out _ (by (repeat (first | exact Bel.refl _ | apply Bel.drew | apply Bel.alloc | refine Bel.trans ?_ (by assumption))))).2 (by rw [HM1.out]; omega)).mono ?_); rintro e wt ⟨vz, rfl, hr, gt⟩; obtain ⟨ze11p, ze11c, rfl, _⟩ := sliceR_open hr; have Te11 := Lib.hid (stays_one litsR_good hr); clear hr
  obtain ⟨w9, hw9⟩ : ∃ W, W = wt := ⟨wt, rfl⟩
  subst hw9
  have gw9 := gt; clear gt
  go_wp2_with fail
  go_at_call 23; (with_reducible refine (eqLiteralS_rep _ _ x1 x1 _ _ _ (Tx1.out _ (by (repeat (first | exact Bel.refl _ | apply Bel.drew | apply Bel.alloc | refine Bel.trans ?_ (by assumption))))).1 (Te11.out _ (by (repeat (first | exact Bel.refl _ | apply Bel.drew | apply Bel.alloc | refine Bel.trans ?_ (by assumption))))).1 (Tx1.out _ (by (repeat (first | exact Bel.refl _ | apply Bel.drew | apply Bel.alloc | refine Bel.trans ?_ (by assumption))))).2 (Te11.out _ (by (repeat (first | exact Bel.refl _ | apply Bel.drew | apply Bel.alloc | refine Bel.trans ?_ (by assumption))))).2).mono ?_); rintro e wt ⟨rfl, gt⟩
  obtain ⟨w10, hw10⟩ : ∃ W, W = wt := ⟨wt, rfl⟩
  subst hw10
  have gw10 := gt; clear gt
  rw [decide_eq_true rfl]
  go_wp2
  go_ret
  exact ⟨rfl, by (repeat (first | exact Bel.refl _ | apply Bel.drew | apply Bel.alloc | refine Bel.trans ?_ (by assumption)))⟩
end Go.Proofs.Ytlepgmkdclbkjaa
