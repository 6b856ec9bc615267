/- The walk of laws.FnExactWithoutLiteral. -/
import Derived.Test.YthkcdmghchikjaaWo
import Derived.Test.YthkcdmghchikjaaMarkK
import Derived.Test.YthkcdmghchikjaaMark
import Derived.Test.YthkcdmghchikjaaEq
import Derived.Test.YthkcdmghchikjaaSz
import Derived.Test.YthkcdmghchikjaaTo
import Derived.Deep.RegionHeld3
namespace Go.Proofs.Ythkcdmghchikjaa
open Go.ChangeShapes Go.WideShapes Go.ChangeAt Go.RowKit
set_option linter.unusedVariables false

set_option maxHeartbeats 1000000 in
theorem fnExactWithoutLiteral_walk (v0 : Value) (x0 : List (LitT)) (v1 : Value) (x1 : Int) (w : World) (h0 : litsR (Old w) w [v0] x0) (h1 : intR (Old w) w [v1] x1) :
    Calls Try.prog 3 #[v0, v1] w fun e w' => e = .returned (.bool true) ∧ Bel w w' := by
  have H0 := Lib.hid (show ∀ W, Bel w W → litsR (Old w) W [v0] x0 ∧ (∀ b, Old w b → b < W.heap.size) from fun W hW => ⟨litsR_good.bel h0 hW (fun b hb => hb), fun b hb => Nat.lt_of_lt_of_le hb hW.size⟩)
  obtain ⟨p0, cap0, rfl, _⟩ := sliceR_open h0
  clear h0
  obtain ⟨h1, _⟩ := h1
  obtain rfl : v1 = .int .i64 x1 := by simpa using h1
  clear h1
  obtain ⟨m0, hm0⟩ : ∃ m, bulkLiteralS x0 = m := ⟨_, rfl⟩
  have HM0 := Lib.hid hm0; clear hm0
  show Calls Try.prog 3 #[.slice p0 x0.length cap0, .int .i64 x1] w _
  go_enter Try.func3, Try.ntmps3
  go_wp2_with fail
  refine (szLiteralS_any _ x0 _ _ _ (H0.out _ (by (repeat (first | exact Bel.refl _ | apply Bel.drew | apply Bel.alloc | refine Bel.trans ?_ (by assumption))))).1 (H0.out _ (by (repeat (first | exact Bel.refl _ | apply Bel.drew | apply Bel.alloc | refine Bel.trans ?_ (by assumption))))).2 (by omega) (by omega)).mono ?_
  rintro e w1 ⟨rfl, gw1⟩
  rw [HM0.out]
  by_cases hfit0 : (m0 : Int) ≤ 1048576
  rotate_left
  · rw [szN_no (by omega)]
    go_wp2
    go_ret
    exact ⟨rfl, by (repeat (first | exact Bel.refl _ | apply Bel.drew | apply Bel.alloc | refine Bel.trans ?_ (by assumption)))⟩
  rw [szN_ok hfit0]
  obtain ⟨LR, hLR⟩ : ∃ LR, (woR x0 x1) = LR := ⟨_, rfl⟩
  have HLR := Lib.hid hLR; clear hLR
  have HLL := Lib.hid (show LR.length ≤ 1048576 from by rw [← HLR.out]; exact woR_len x0 x1)
  go_wp2_with fail
  go_at_call 11; (with_reducible refine (toLiteralS_rep _ x0 _ _ (H0.out _ (by (repeat (first | exact Bel.refl _ | apply Bel.drew | apply Bel.alloc | refine Bel.trans ?_ (by assumption))))).1 (H0.out _ (by (repeat (first | exact Bel.refl _ | apply Bel.drew | apply Bel.alloc | refine Bel.trans ?_ (by assumption))))).2 (by rw [HM0.out]; omega)).mono ?_); rintro e wt ⟨vz, rfl, hr, gt⟩; obtain ⟨zs0p, zs0c, rfl, _⟩ := sliceR_open hr; have Ts0 := Lib.hid (stays_one litsR_good hr); clear hr
  go_wp2_with fail
  go_at_call 10; (with_reducible refine (sWithoutLiteral_any _ x0 _ x1 _ (Ts0.out _ (by (repeat (first | exact Bel.refl _ | apply Bel.drew | apply Bel.alloc | refine Bel.trans ?_ (by assumption))))).1 (Ts0.out _ (by (repeat (first | exact Bel.refl _ | apply Bel.drew | apply Bel.alloc | refine Bel.trans ?_ (by assumption))))).2 (by rw [HM0.out]; omega)).mono ?_); rintro e wt ⟨vr, rfl, hr, gt⟩; rw [HLR.out] at hr; obtain ⟨Wp, Wk, rfl, -⟩ := sliceR_open hr; have TW := Lib.hid (stays_one litsR_good hr); clear hr
  obtain ⟨w2, hw2⟩ : ∃ W, W = wt := ⟨wt, rfl⟩
  subst hw2
  go_wp2_with fail
  go_at_call 11; (with_reducible refine (toLiteralS_rep _ x0 _ _ (H0.out _ (by (repeat (first | exact Bel.refl _ | apply Bel.drew | apply Bel.alloc | refine Bel.trans ?_ (by assumption))))).1 (H0.out _ (by (repeat (first | exact Bel.refl _ | apply Bel.drew | apply Bel.alloc | refine Bel.trans ?_ (by assumption))))).2 (by rw [HM0.out]; omega)).mono ?_); rintro e wt ⟨vz, rfl, hr, gt⟩; obtain ⟨zx0p, zx0c, rfl, _⟩ := sliceR_open hr; have Tx0 := Lib.hid (stays_ival (lo := w2.heap.size) litsR_good hr (Bel.size (by (repeat (first | exact Bel.refl _ | apply Bel.drew | apply Bel.alloc | refine Bel.trans ?_ (by assumption)))))); clear hr
  obtain ⟨w3, hw3⟩ : ∃ W, W = wt := ⟨wt, rfl⟩
  subst hw3
  have gw3 := gt; clear gt
  go_wp2_with fail
  go_at_call 12; (with_reducible refine (iWithoutLiteral_any _ x0 _ x1 _ (Tx0.out _ (by (repeat (first | exact Bel.refl _ | apply Bel.drew | apply Bel.alloc | refine Bel.trans ?_ (by assumption))))).1 (Tx0.out _ (by (repeat (first | exact Bel.refl _ | apply Bel.drew | apply Bel.alloc | refine Bel.trans ?_ (by assumption))))).2 (by rw [HM0.out]; omega)).mono ?_); rintro e wt ⟨vr, rfl, hr, gt⟩; rw [HLR.out] at hr; obtain ⟨Gp, Gk, rfl, -⟩ := sliceR_open hr; have TG := Lib.hid (stays_ival (lo := w3.heap.size) litsR_good hr (Bel.size (by (repeat (first | exact Bel.refl _ | apply Bel.drew | apply Bel.alloc | refine Bel.trans ?_ (by assumption)))))); clear hr
  obtain ⟨w4, hw4⟩ : ∃ W, W = wt := ⟨wt, rfl⟩
  subst hw4
  have gw4 := gt; clear gt
  go_wp2_with fail
  go_at_call 13; (with_reducible refine (eqLiteralS_rep _ _ LR LR _ _ _ (TG.out _ (by (repeat (first | exact Bel.refl _ | apply Bel.drew | apply Bel.alloc | refine Bel.trans ?_ (by assumption))))).1 (TW.out _ (by (repeat (first | exact Bel.refl _ | apply Bel.drew | apply Bel.alloc | refine Bel.trans ?_ (by assumption))))).1 (TG.out _ (by (repeat (first | exact Bel.refl _ | apply Bel.drew | apply Bel.alloc | refine Bel.trans ?_ (by assumption))))).2 (TW.out _ (by (repeat (first | exact Bel.refl _ | apply Bel.drew | apply Bel.alloc | refine Bel.trans ?_ (by assumption))))).2).mono ?_); rintro e wt ⟨rfl, gt⟩
  obtain ⟨w5, hw5⟩ : ∃ W, W = wt := ⟨wt, rfl⟩
  subst hw5
  have gw5 := gt; clear gt
  try rw [decide_eq_true rfl]
  go_wp2_with fail
  go_at_call 11; (with_reducible refine (toLiteralS_rep _ x0 _ _ (H0.out _ (by (repeat (first | exact Bel.refl _ | apply Bel.drew | apply Bel.alloc | refine Bel.trans ?_ (by assumption))))).1 (H0.out _ (by (repeat (first | exact Bel.refl _ | apply Bel.drew | apply Bel.alloc | refine Bel.trans ?_ (by assumption))))).2 (by rw [HM0.out]; omega)).mono ?_); rintro e wt ⟨vz, rfl, hr, gt⟩; obtain ⟨ze00p, ze00c, rfl, _⟩ := sliceR_open hr; have Te00 := Lib.hid (stays_one litsR_good hr); clear hr
  obtain ⟨w6, hw6⟩ : ∃ W, W = wt := ⟨wt, rfl⟩
  subst hw6
  have gw6 := gt; clear gt
  go_wp2_with fail
  go_at_call 13; (with_reducible refine (eqLiteralS_rep _ _ x0 x0 _ _ _ (Tx0.out _ (by (repeat (first | exact Bel.refl _ | apply Bel.drew | apply Bel.alloc | refine Bel.trans ?_ (by assumption))))).1 (Te00.out _ (by (repeat (first | exact Bel.refl _ | apply Bel.drew | apply Bel.alloc | refine Bel.trans ?_ (by assumption))))).1 (Tx0.out _ (by (repeat (first | exact Bel.refl _ | apply Bel.drew | apply Bel.alloc | refine Bel.trans ?_ (by assumption))))).2 (Te00.out _ (by (repeat (first | exact Bel.refl _ | apply Bel.drew | apply Bel.alloc | refine Bel.trans ?_ (by assumption))))).2).mono ?_); rintro e wt ⟨rfl, gt⟩
  obtain ⟨w7, hw7⟩ : ∃ W, W = wt := ⟨wt, rfl⟩
  subst hw7
  have gw7 := gt; clear gt
  try rw [decide_eq_true rfl]
  have HRG := Lib.hid (TG.out w7 (by (repeat (first | exact Bel.refl _ | apply Bel.drew | apply Bel.alloc | refine Bel.trans ?_ (by assumption))))).1
  have HRX0 := Lib.hid (Tx0.out w7 (by (repeat (first | exact Bel.refl _ | apply Bel.drew | apply Bel.alloc | refine Bel.trans ?_ (by assumption))))).1
  obtain ⟨bz0, bz1, bz2, bz3, bz4, bz5, bz6, bz7, bz8⟩ : Bel w2 w7 ∧ Bel w w7 ∧ Bel w w1 ∧ Bel w1 w2 ∧ Bel w2 w3 ∧ Bel w3 w4 ∧ Bel w4 w5 ∧ Bel w5 w6 ∧ Bel w6 w7 := ⟨by (repeat (first | exact Bel.refl _ | apply Bel.drew | apply Bel.alloc | refine Bel.trans ?_ (by assumption))), by (repeat (first | exact Bel.refl _ | apply Bel.drew | apply Bel.alloc | refine Bel.trans ?_ (by assumption))), by (repeat (first | exact Bel.refl _ | apply Bel.drew | apply Bel.alloc | refine Bel.trans ?_ (by assumption))), by (repeat (first | exact Bel.refl _ | apply Bel.drew | apply Bel.alloc | refine Bel.trans ?_ (by assumption))), by (repeat (first | exact Bel.refl _ | apply Bel.drew | apply Bel.alloc | refine Bel.trans ?_ (by assumption))), by (repeat (first | exact Bel.refl _ | apply Bel.drew | apply Bel.alloc | refine Bel.trans ?_ (by assumption))), by (repeat (first | exact Bel.refl _ | apply Bel.drew | apply Bel.alloc | refine Bel.trans ?_ (by assumption))), by (repeat (first | exact Bel.refl _ | apply Bel.drew | apply Bel.alloc | refine Bel.trans ?_ (by assumption))), by (repeat (first | exact Bel.refl _ | apply Bel.drew | apply Bel.alloc | refine Bel.trans ?_ (by assumption)))⟩
  have HBS := Lib.hid bz0
  have HBW := Lib.hid bz1
  have Zw1 := bz2.size
  have Zw2 := bz3.size
  have Zw3 := bz4.size
  have Zw4 := bz5.size
  have Zw5 := bz6.size
  have Zw6 := bz7.size
  have Zw7 := bz8.size
  clear bz0 bz1 bz2 bz3 bz4 bz5 bz6 bz7 bz8
  have hzw7 : w7.heap.size ≤ w7.heap.size := Nat.le_refl _
  have hbk0 : bulkLiteralS x0 ≤ 1048576 := (by rw [HM0.out]; omega)
  unfold bulkLiteralS at hbk0
  go_wp2_with fail
  refine (markLiteralS_any _ x0 (Ival w2.heap.size w3.heap.size) _ _ HRX0.out (by omega) (by omega) (by omega)).mono ?_
  rintro e v0 ⟨rfl, -, M⟩
  obtain ⟨k0, hkk⟩ : ∃ z : Int, (1 : Int) + ((3 * x0.length : Nat) : Int) = z := ⟨_, rfl⟩
  rw [hkk]
  have hk0 : 0 ≤ k0 := by omega
  have hku0 : k0 ≤ 16777216 := by omega
  clear hkk
  have HBW := Lib.hid (Mut.bel HBW.out M (fun b hb => by have := hb.1; omega))
  have HBS := Lib.hid (Mut.bel HBS.out M (fun b hb => by have := hb.1; omega))
  have HRG := Lib.hid (M.keep litsR_good HRG.out (fun b hb => ⟨by have := hb.2; omega, fun hh => by have := hb.1; have := hb.2; have := hh.1; have := hh.2; omega⟩))
  have hzv0 : w7.heap.size ≤ v0.heap.size := Nat.le_trans hzw7 M.size
  clear M
  go_wp2_with fail
  refine (eqLiteralS_rep _ _ LR LR _ _ _ HRG.out (TW.out _ HBS.out).1 (fun b hb => by have := hb.2; have := hzv0; omega) (TW.out _ HBS.out).2).mono ?_
  rintro e va ⟨rfl, gq⟩
  rw [decide_eq_true rfl]
  have HBW := Lib.hid (HBW.out.trans gq)
  have HBS := Lib.hid (HBS.out.trans gq)
  have hzva : w7.heap.size ≤ va.heap.size := Nat.le_trans hzv0 gq.size
  have HRG := Lib.hid (litsR_good.bel HRG.out gq (fun b hb => by have := hb.2; have := hzv0; omega))
  clear gq
  have hll := HLL.out
  obtain ⟨mm, hmm⟩ : ∃ z : Int, (1 : Int) + ((3 * LR.length : Nat) : Int) = z := ⟨_, rfl⟩
  have hm0 : 0 ≤ mm := by omega
  have HMM := Lib.hid hmm; clear hmm
  go_wp2_with fail
  refine (markLiteralS_any _ LR _ 1 _ HRG.out (by decide) (by decide) (by omega)).mono ?_
  rintro e vb ⟨rfl, RM, M⟩
  rw [HMM.out]
  have HBW := Lib.hid (Mut.bel HBW.out M (fun b hb => by have := hb.1; omega))
  have HBS := Lib.hid (Mut.bel HBS.out M (fun b hb => by have := hb.1; omega))
  have HRM := Lib.hid RM; clear RM
  have hzvb : w7.heap.size ≤ vb.heap.size := Nat.le_trans hzva M.size
  clear M
  go_wp2_with fail
  refine (heldLiteralS_any _ LR.length _ 1 _ HRM.out (by decide) (by decide) (by omega)).mono ?_
  rintro e w' ⟨rfl, rfl⟩
  rw [HMM.out]
  have BW1 := HBW.out
  have BS1 := HBS.out
  obtain ⟨vb1, hvb⟩ : ∃ W, W = vb := ⟨vb, rfl⟩
  subst hvb
  go_wp2_with fail
  go_at_call 11; (with_reducible refine (toLiteralS_rep _ x0 _ _ (H0.out _ (by (repeat (first | exact Bel.refl _ | apply Bel.drew | apply Bel.alloc | refine Bel.trans ?_ (by assumption))))).1 (H0.out _ (by (repeat (first | exact Bel.refl _ | apply Bel.drew | apply Bel.alloc | refine Bel.trans ?_ (by assumption))))).2 (by rw [HM0.out]; omega)).mono ?_); rintro e wt ⟨vz, rfl, hr, gt⟩; obtain ⟨zh0p, zh0c, rfl, _⟩ := sliceR_open hr; have Th0 := Lib.hid (stays_one litsR_good hr); clear hr
  go_wp2_with fail
  go_at_call 12; (with_reducible refine (iWithoutLiteral_any _ x0 _ x1 _ (Th0.out _ (by (repeat (first | exact Bel.refl _ | apply Bel.drew | apply Bel.alloc | refine Bel.trans ?_ (by assumption))))).1 (Th0.out _ (by (repeat (first | exact Bel.refl _ | apply Bel.drew | apply Bel.alloc | refine Bel.trans ?_ (by assumption))))).2 (by rw [HM0.out]; omega)).mono ?_); rintro e wt ⟨vr, rfl, hr, gt⟩; rw [HLR.out] at hr; obtain ⟨Hp, Hk, rfl, -⟩ := sliceR_open hr; have TH := Lib.hid (stays_one litsR_good hr); clear hr
  have GH : Bel vb1 wt := by (repeat (first | exact Bel.refl _ | apply Bel.drew | apply Bel.alloc | refine Bel.trans ?_ (by assumption)))
  have HBS := Lib.hid (HBS.out.trans GH)
  have HRM := Lib.hid (litsR_good.bel HRM.out GH (fun b hb => by have := hb.2; omega))
  have TH1 := TH.out _ (Bel.refl _)
  go_wp2_with fail
  refine (eqLiteralS_rep _ _ LR LR _ _ _ TH1.1 (TW.out _ HBS.out).1 TH1.2 (TW.out _ HBS.out).2).mono ?_
  rintro e vc ⟨rfl, gq⟩
  rw [decide_eq_true rfl]
  have hzwt : vb1.heap.size ≤ wt.heap.size := GH.size
  have HRM := Lib.hid (litsR_good.bel HRM.out gq (fun b hb => by have := hb.2; omega))
  go_wp2_with fail
  refine (heldLiteralS_any _ LR.length _ 1 _ HRM.out (by decide) (by decide) (by omega)).mono ?_
  rintro e w' ⟨rfl, rfl⟩
  rw [HMM.out]
  have BF : Bel w vc := HBW.out.trans (GH.trans gq)
  go_wp2
  go_ret
  exact ⟨rfl, BF⟩
end Go.Proofs.Ythkcdmghchikjaa
