/- The walk of laws.FnExactDomainLiterals. -/
import Derived.Test.YthkcdmghchikjaaGreatDomLit
import Derived.Test.YthkcdmghchikjaaGreatMarkK
import Derived.Test.YthkcdmghchikjaaGreatMark
import Derived.Test.YthkcdmghchikjaaGreatEq
import Derived.Test.YthkcdmghchikjaaGreatSz
import Derived.Test.YthkcdmghchikjaaGreatTo
import Derived.Deep.RegionHeld3
namespace Go.Proofs.YthkcdmghchikjaaGreat
open Go.ChangeShapes Go.WideShapes Go.ChangeAt Go.RowKit
set_option linter.unusedVariables false

set_option maxHeartbeats 1000000 in
theorem fnExactDomainLiterals_walk (v0 : Value) (x0 : ProjT) (v1 : Value) (x1 : DomT) (w : World) (h0 : aggR projR (Old w) w v0 x0) (h1 : aggR domR (Old w) w v1 x1) :
    Calls Tryz.prog 5 #[v0, v1] w fun e w' => e = .returned (.bool true) ∧ Bel w w' := by
  obtain ⟨cs0, rfl, h0⟩ := h0
  have k0 := h0
  obtain ⟨c0_1, c0_2, c0_3, c0_4, rfl, q0_0, q0_1, q0_2, q0_3, q0_4⟩ := projR_open h0
  have H0 := Lib.hid (show ∀ W, Bel w W → aggR projR (Old w) W (.agg #[.int .i64 x0.1, c0_1, c0_2, c0_3, c0_4]) x0 ∧ (∀ b, Old w b → b < W.heap.size) from fun W hW => ⟨aggR_mk (projR_good.bel k0 hW (fun b hb => hb)), fun b hb => Nat.lt_of_lt_of_le hb hW.size⟩)
  clear k0
  clear h0
  clear q0_0 q0_1 q0_2 q0_3 q0_4
  obtain ⟨cs1, rfl, h1⟩ := h1
  have k1 := h1
  obtain ⟨c1_0, c1_1, c1_2, rfl, q1_0, q1_1, q1_2⟩ := domR_open h1
  have H1 := Lib.hid (show ∀ W, Bel w W → aggR domR (Old w) W (.agg #[c1_0, c1_1, c1_2]) x1 ∧ (∀ b, Old w b → b < W.heap.size) from fun W hW => ⟨aggR_mk (domR_good.bel k1 hW (fun b hb => hb)), fun b hb => Nat.lt_of_lt_of_le hb hW.size⟩)
  clear k1
  clear h1
  clear q1_0 q1_1 q1_2
  obtain ⟨m0, hm0⟩ : ∃ m, bulkProject x0 = m := ⟨_, rfl⟩
  have HM0 := Lib.hid hm0; clear hm0
  obtain ⟨m1, hm1⟩ : ∃ m, bulkDomain x1 = m := ⟨_, rfl⟩
  have HM1 := Lib.hid hm1; clear hm1
  show Calls Tryz.prog 5 #[.agg #[.int .i64 x0.1, c0_1, c0_2, c0_3, c0_4], .agg #[c1_0, c1_1, c1_2]] w _
  go_enter Tryz.func5, Tryz.ntmps5
  go_wp2_with fail
  refine (szProject_any _ x0 _ _ _ (H0.out _ (by (repeat (first | exact Bel.refl _ | apply Bel.drew | apply Bel.alloc | refine Bel.trans ?_ (by assumption))))).1 (H0.out _ (by (repeat (first | exact Bel.refl _ | apply Bel.drew | apply Bel.alloc | refine Bel.trans ?_ (by assumption))))).2 (by omega) (by omega)).mono ?_
  rintro e w1 ⟨rfl, gw1⟩
  rw [HM0.out]
  have HB := Lib.hid (show ∀ W, Bel w1 W → W.cell? ⟨w.heap.size, 0, none⟩ = some (.int .i64 x0.1) ∧ W.cell? ⟨w.heap.size, 1, none⟩ = some (c0_1) ∧ W.cell? ⟨w.heap.size, 2, none⟩ = some (c0_2) ∧ W.cell? ⟨w.heap.size, 3, none⟩ = some (c0_3) ∧ W.cell? ⟨w.heap.size, 4, none⟩ = some (c0_4) ∧ W.cell? ⟨w.heap.size + 1, 0, none⟩ = some (c1_0) ∧ W.cell? ⟨w.heap.size + 1, 1, none⟩ = some (c1_1) ∧ W.cell? ⟨w.heap.size + 1, 2, none⟩ = some (c1_2) from fun W hW => ⟨hW.cell (gw1.cell (by simp [go_sem])), hW.cell (gw1.cell (by simp [go_sem])), hW.cell (gw1.cell (by simp [go_sem])), hW.cell (gw1.cell (by simp [go_sem])), hW.cell (gw1.cell (by simp [go_sem])), hW.cell (gw1.cell (by simp [go_sem])), hW.cell (gw1.cell (by simp [go_sem])), hW.cell (gw1.cell (by simp [go_sem]))⟩)
  obtain ⟨bc0, bc1, bc2, bc3, bc4, bc5, bc6, bc7⟩ := HB.out w1 (by (repeat (first | exact Bel.refl _ | apply Bel.drew | apply Bel.alloc | refine Bel.trans ?_ (by assumption))))
  by_cases hfit0 : (m0 : Int) ≤ 1048576
  rotate_left
  · rw [szN_no (by omega)]
    go_wp2
    go_ret
    exact ⟨rfl, by (repeat (first | exact Bel.refl _ | apply Bel.drew | apply Bel.alloc | refine Bel.trans ?_ (by assumption)))⟩
  rw [szN_ok hfit0]
  go_wp2_with fail
  refine (szDomain_any _ x1 _ _ _ (H1.out _ (by (repeat (first | exact Bel.refl _ | apply Bel.drew | apply Bel.alloc | refine Bel.trans ?_ (by assumption))))).1 (H1.out _ (by (repeat (first | exact Bel.refl _ | apply Bel.drew | apply Bel.alloc | refine Bel.trans ?_ (by assumption))))).2 (by omega) (by omega)).mono ?_
  rintro e w2 ⟨rfl, gw2⟩
  rw [HM1.out]
  obtain ⟨bc0, bc1, bc2, bc3, bc4, bc5, bc6, bc7⟩ := HB.out w2 (by (repeat (first | exact Bel.refl _ | apply Bel.drew | apply Bel.alloc | refine Bel.trans ?_ (by assumption))))
  by_cases hfit1 : (m1 : Int) ≤ 1048576 - m0
  rotate_left
  · rw [szN_no (by omega)]
    go_wp2
    go_ret
    exact ⟨rfl, by (repeat (first | exact Bel.refl _ | apply Bel.drew | apply Bel.alloc | refine Bel.trans ?_ (by assumption)))⟩
  rw [szN_ok hfit1]
  obtain ⟨LR, hLR⟩ : ∃ LR, (dlV x0 x1) = LR := ⟨_, rfl⟩
  have HLR := Lib.hid hLR; clear hLR
  have HLL := Lib.hid (show LR.length ≤ 1048576 from by rw [← HLR.out]; exact dlV_len x0 x1)
  go_wp2_with fail
  go_region_held3 (fun W => W.cell? ⟨w.heap.size, 0, none⟩ = some (.int .i64 x0.1) ∧ W.cell? ⟨w.heap.size, 1, none⟩ = some (c0_1) ∧ W.cell? ⟨w.heap.size, 2, none⟩ = some (c0_2) ∧ W.cell? ⟨w.heap.size, 3, none⟩ = some (c0_3) ∧ W.cell? ⟨w.heap.size, 4, none⟩ = some (c0_4) ∧ W.cell? ⟨w.heap.size + 1, 0, none⟩ = some (c1_0) ∧ W.cell? ⟨w.heap.size + 1, 1, none⟩ = some (c1_1) ∧ W.cell? ⟨w.heap.size + 1, 2, none⟩ = some (c1_2)) (first | exact keep8 (by assumption) (by assumption) | go_keep)
    (first | (go_at_call 12; (with_reducible refine (toProject_rep _ x0 _ _ (H0.out _ (by (repeat (first | exact Bel.refl _ | apply Bel.drew | apply Bel.alloc | refine Bel.trans ?_ (by assumption))))).1 (H0.out _ (by (repeat (first | exact Bel.refl _ | apply Bel.drew | apply Bel.alloc | refine Bel.trans ?_ (by assumption))))).2 (by rw [HM0.out]; omega)).mono ?_); rintro e wt ⟨es, rfl, hr, gt⟩; have hr0 := hr; obtain ⟨zs0_1, zs0_2, zs0_3, zs0_4, rfl, qq0, qq1, qq2, qq3, qq4⟩ := projR_open hr; obtain ⟨zs0_1p, zs0_1c, rfl, _⟩ := sliceR_open qq1; obtain ⟨zs0_2p, zs0_2c, rfl, _⟩ := sliceR_open qq2; obtain ⟨zs0_3p, zs0_3c, rfl, _⟩ := sliceR_open qq3; obtain ⟨zs0_4p, zs0_4c, rfl, _⟩ := sliceR_open qq4; have Ts0 := Lib.hid (stays_agg projR_good hr0); clear hr hr0) | (go_at_call 26; (with_reducible refine (toDomain_rep _ x1 _ _ (H1.out _ (by (repeat (first | exact Bel.refl _ | apply Bel.drew | apply Bel.alloc | refine Bel.trans ?_ (by assumption))))).1 (H1.out _ (by (repeat (first | exact Bel.refl _ | apply Bel.drew | apply Bel.alloc | refine Bel.trans ?_ (by assumption))))).2 (by rw [HM1.out]; omega)).mono ?_); rintro e wt ⟨es, rfl, hr, gt⟩; have hr0 := hr; obtain ⟨zs1_0, zs1_1, zs1_2, rfl, qq0, qq1, qq2⟩ := domR_open hr; obtain ⟨zs1_0p, zs1_0c, rfl, _⟩ := sliceR_open qq0; obtain ⟨zs1_1p, zs1_1c, rfl, _⟩ := sliceR_open qq1; obtain ⟨zs1_2p, zs1_2c, rfl, _⟩ := sliceR_open qq2; have Ts1 := Lib.hid (stays_agg domR_good hr0); clear hr hr0) | (go_at_call 25; (with_reducible refine (sDomainLiterals_any _ x0 _ _ x1 _ _ (Ts0.out _ (by (repeat (first | exact Bel.refl _ | apply Bel.drew | apply Bel.alloc | refine Bel.trans ?_ (by assumption))))).1 (Ts0.out _ (by (repeat (first | exact Bel.refl _ | apply Bel.drew | apply Bel.alloc | refine Bel.trans ?_ (by assumption))))).2 (by rw [HM0.out]; omega) (Ts1.out _ (by (repeat (first | exact Bel.refl _ | apply Bel.drew | apply Bel.alloc | refine Bel.trans ?_ (by assumption))))).1 (Ts1.out _ (by (repeat (first | exact Bel.refl _ | apply Bel.drew | apply Bel.alloc | refine Bel.trans ?_ (by assumption))))).2 (by rw [HM1.out]; omega)).mono ?_); rintro e wt ⟨vr, rfl, hr, gt⟩; rw [HLR.out] at hr; obtain ⟨Wp, Wk, rfl, -⟩ := sliceR_open hr; have TW := Lib.hid (stays_one litsR_good hr); clear hr))
  clear bc0 bc1 bc2 bc3 bc4 bc5 bc6 bc7
  obtain ⟨w3, hw3⟩ : ∃ W, W = wt := ⟨wt, rfl⟩
  subst hw3
  obtain ⟨bc0, bc1, bc2, bc3, bc4, bc5, bc6, bc7⟩ := HB.out w3 (by (repeat (first | exact Bel.refl _ | apply Bel.drew | apply Bel.alloc | refine Bel.trans ?_ (by assumption))))
  go_wp2_with fail
  go_at_call 12; (with_reducible refine (toProject_rep _ x0 _ _ (H0.out _ (by (repeat (first | exact Bel.refl _ | apply Bel.drew | apply Bel.alloc | refine Bel.trans ?_ (by assumption))))).1 (H0.out _ (by (repeat (first | exact Bel.refl _ | apply Bel.drew | apply Bel.alloc | refine Bel.trans ?_ (by assumption))))).2 (by rw [HM0.out]; omega)).mono ?_); rintro e wt ⟨es, rfl, hr, gt⟩; have hr0 := hr; obtain ⟨zx0_1, zx0_2, zx0_3, zx0_4, rfl, qq0, qq1, qq2, qq3, qq4⟩ := projR_open hr; obtain ⟨zx0_1p, zx0_1c, rfl, _⟩ := sliceR_open qq1; obtain ⟨zx0_2p, zx0_2c, rfl, _⟩ := sliceR_open qq2; obtain ⟨zx0_3p, zx0_3c, rfl, _⟩ := sliceR_open qq3; obtain ⟨zx0_4p, zx0_4c, rfl, _⟩ := sliceR_open qq4; have Tx0 := Lib.hid (stays_ival_agg (lo := w3.heap.size) projR_good hr0 (Bel.size (by (repeat (first | exact Bel.refl _ | apply Bel.drew | apply Bel.alloc | refine Bel.trans ?_ (by assumption)))))); clear hr hr0
  obtain ⟨w4, hw4⟩ : ∃ W, W = wt := ⟨wt, rfl⟩
  subst hw4
  have gw4 := gt; clear gt
  clear bc0 bc1 bc2 bc3 bc4 bc5 bc6 bc7
  obtain ⟨bc0, bc1, bc2, bc3, bc4, bc5, bc6, bc7⟩ := HB.out w4 (by (repeat (first | exact Bel.refl _ | apply Bel.drew | apply Bel.alloc | refine Bel.trans ?_ (by assumption))))
  have abc0 := fun o => ((Bel.refl w4).alloc o).cell bc0
  have abc1 := fun o => ((Bel.refl w4).alloc o).cell bc1
  have abc2 := fun o => ((Bel.refl w4).alloc o).cell bc2
  have abc3 := fun o => ((Bel.refl w4).alloc o).cell bc3
  have abc4 := fun o => ((Bel.refl w4).alloc o).cell bc4
  have abc5 := fun o => ((Bel.refl w4).alloc o).cell bc5
  have abc6 := fun o => ((Bel.refl w4).alloc o).cell bc6
  have abc7 := fun o => ((Bel.refl w4).alloc o).cell bc7
  go_wp2_with fail
  go_at_call 26; (with_reducible refine (toDomain_rep _ x1 _ _ (H1.out _ (by (repeat (first | exact Bel.refl _ | apply Bel.drew | apply Bel.alloc | refine Bel.trans ?_ (by assumption))))).1 (H1.out _ (by (repeat (first | exact Bel.refl _ | apply Bel.drew | apply Bel.alloc | refine Bel.trans ?_ (by assumption))))).2 (by rw [HM1.out]; omega)).mono ?_); rintro e wt ⟨es, rfl, hr, gt⟩; have hr0 := hr; obtain ⟨zx1_0, zx1_1, zx1_2, rfl, qq0, qq1, qq2⟩ := domR_open hr; obtain ⟨zx1_0p, zx1_0c, rfl, _⟩ := sliceR_open qq0; obtain ⟨zx1_1p, zx1_1c, rfl, _⟩ := sliceR_open qq1; obtain ⟨zx1_2p, zx1_2c, rfl, _⟩ := sliceR_open qq2; have Tx1 := Lib.hid (stays_ival_agg (lo := w4.heap.size) domR_good hr0 (Bel.size (by (repeat (first | exact Bel.refl _ | apply Bel.drew | apply Bel.alloc | refine Bel.trans ?_ (by assumption)))))); clear hr hr0
  obtain ⟨w5, hw5⟩ : ∃ W, W = wt := ⟨wt, rfl⟩
  subst hw5
  have gw5 := gt; clear gt
  clear abc0 abc1 abc2 abc3 abc4 abc5 abc6 abc7 bc0 bc1 bc2 bc3 bc4 bc5 bc6 bc7
  have HX0 := Lib.hid (show ∀ W, Bel w5 W → W.cell? ⟨w4.heap.size, 0, none⟩ = some (.int .i64 x0.1) ∧ W.cell? ⟨w4.heap.size, 1, none⟩ = some (.slice zx0_1p (x0.2.1).length zx0_1c) ∧ W.cell? ⟨w4.heap.size, 2, none⟩ = some (.slice zx0_2p (x0.2.2.1).length zx0_2c) ∧ W.cell? ⟨w4.heap.size, 3, none⟩ = some (.slice zx0_3p (x0.2.2.2.1).length zx0_3c) ∧ W.cell? ⟨w4.heap.size, 4, none⟩ = some (.slice zx0_4p (x0.2.2.2.2).length zx0_4c) from fun W hW => ⟨hW.cell (gw5.cell (by simp [go_sem])), hW.cell (gw5.cell (by simp [go_sem])), hW.cell (gw5.cell (by simp [go_sem])), hW.cell (gw5.cell (by simp [go_sem])), hW.cell (gw5.cell (by simp [go_sem]))⟩)
  obtain ⟨bc0, bc1, bc2, bc3, bc4, bc5, bc6, bc7⟩ := HB.out w5 (by (repeat (first | exact Bel.refl _ | apply Bel.drew | apply Bel.alloc | refine Bel.trans ?_ (by assumption))))
  obtain ⟨xc0_0, xc0_1, xc0_2, xc0_3, xc0_4⟩ := HX0.out w5 (by (repeat (first | exact Bel.refl _ | apply Bel.drew | apply Bel.alloc | refine Bel.trans ?_ (by assumption))))
  have abc0 := fun o => ((Bel.refl w5).alloc o).cell bc0
  have abc1 := fun o => ((Bel.refl w5).alloc o).cell bc1
  have abc2 := fun o => ((Bel.refl w5).alloc o).cell bc2
  have abc3 := fun o => ((Bel.refl w5).alloc o).cell bc3
  have abc4 := fun o => ((Bel.refl w5).alloc o).cell bc4
  have abc5 := fun o => ((Bel.refl w5).alloc o).cell bc5
  have abc6 := fun o => ((Bel.refl w5).alloc o).cell bc6
  have abc7 := fun o => ((Bel.refl w5).alloc o).cell bc7
  have axc0_0 := fun o => ((Bel.refl w5).alloc o).cell xc0_0
  have axc0_1 := fun o => ((Bel.refl w5).alloc o).cell xc0_1
  have axc0_2 := fun o => ((Bel.refl w5).alloc o).cell xc0_2
  have axc0_3 := fun o => ((Bel.refl w5).alloc o).cell xc0_3
  have axc0_4 := fun o => ((Bel.refl w5).alloc o).cell xc0_4
  go_wp2_with fail
  go_at_call 27; (with_reducible refine (iDomainLiterals_any _ x0 _ _ x1 _ _ (Tx0.out _ (by (repeat (first | exact Bel.refl _ | apply Bel.drew | apply Bel.alloc | refine Bel.trans ?_ (by assumption))))).1 (Tx0.out _ (by (repeat (first | exact Bel.refl _ | apply Bel.drew | apply Bel.alloc | refine Bel.trans ?_ (by assumption))))).2 (by rw [HM0.out]; omega) (Tx1.out _ (by (repeat (first | exact Bel.refl _ | apply Bel.drew | apply Bel.alloc | refine Bel.trans ?_ (by assumption))))).1 (Tx1.out _ (by (repeat (first | exact Bel.refl _ | apply Bel.drew | apply Bel.alloc | refine Bel.trans ?_ (by assumption))))).2 (by rw [HM1.out]; omega)).mono ?_); rintro e wt ⟨vr, rfl, hr, gt⟩; rw [HLR.out] at hr; obtain ⟨Gp, Gk, rfl, -⟩ := sliceR_open hr; have TG := Lib.hid (stays_ival (lo := w5.heap.size) litsR_good hr (Bel.size (by (repeat (first | exact Bel.refl _ | apply Bel.drew | apply Bel.alloc | refine Bel.trans ?_ (by assumption)))))); clear hr
  obtain ⟨w6, hw6⟩ : ∃ W, W = wt := ⟨wt, rfl⟩
  subst hw6
  have gw6 := gt; clear gt
  clear abc0 abc1 abc2 abc3 abc4 abc5 abc6 abc7 axc0_0 axc0_1 axc0_2 axc0_3 axc0_4 bc0 bc1 bc2 bc3 bc4 bc5 bc6 bc7 xc0_0 xc0_1 xc0_2 xc0_3 xc0_4
  have HX1 := Lib.hid (show ∀ W, Bel w6 W → W.cell? ⟨w5.heap.size, 0, none⟩ = some (.slice zx1_0p (x1.1).length zx1_0c) ∧ W.cell? ⟨w5.heap.size, 1, none⟩ = some (.slice zx1_1p (x1.2.1).length zx1_1c) ∧ W.cell? ⟨w5.heap.size, 2, none⟩ = some (.slice zx1_2p (x1.2.2).length zx1_2c) from fun W hW => ⟨hW.cell (gw6.cell (by simp [go_sem])), hW.cell (gw6.cell (by simp [go_sem])), hW.cell (gw6.cell (by simp [go_sem]))⟩)
  obtain ⟨bc0, bc1, bc2, bc3, bc4, bc5, bc6, bc7⟩ := HB.out w6 (by (repeat (first | exact Bel.refl _ | apply Bel.drew | apply Bel.alloc | refine Bel.trans ?_ (by assumption))))
  obtain ⟨xc0_0, xc0_1, xc0_2, xc0_3, xc0_4⟩ := HX0.out w6 (by (repeat (first | exact Bel.refl _ | apply Bel.drew | apply Bel.alloc | refine Bel.trans ?_ (by assumption))))
  obtain ⟨xc1_0, xc1_1, xc1_2⟩ := HX1.out w6 (by (repeat (first | exact Bel.refl _ | apply Bel.drew | apply Bel.alloc | refine Bel.trans ?_ (by assumption))))
  go_wp2_with fail
  go_at_call 28; (with_reducible refine (eqLiteralS_rep _ _ LR LR _ _ _ (TG.out _ (by (repeat (first | exact Bel.refl _ | apply Bel.drew | apply Bel.alloc | refine Bel.trans ?_ (by assumption))))).1 (TW.out _ (by (repeat (first | exact Bel.refl _ | apply Bel.drew | apply Bel.alloc | refine Bel.trans ?_ (by assumption))))).1 (TG.out _ (by (repeat (first | exact Bel.refl _ | apply Bel.drew | apply Bel.alloc | refine Bel.trans ?_ (by assumption))))).2 (TW.out _ (by (repeat (first | exact Bel.refl _ | apply Bel.drew | apply Bel.alloc | refine Bel.trans ?_ (by assumption))))).2).mono ?_); rintro e wt ⟨rfl, gt⟩
  obtain ⟨w7, hw7⟩ : ∃ W, W = wt := ⟨wt, rfl⟩
  subst hw7
  have gw7 := gt; clear gt
  clear bc0 bc1 bc2 bc3 bc4 bc5 bc6 bc7 xc0_0 xc0_1 xc0_2 xc0_3 xc0_4 xc1_0 xc1_1 xc1_2
  obtain ⟨bc0, bc1, bc2, bc3, bc4, bc5, bc6, bc7⟩ := HB.out w7 (by (repeat (first | exact Bel.refl _ | apply Bel.drew | apply Bel.alloc | refine Bel.trans ?_ (by assumption))))
  obtain ⟨xc0_0, xc0_1, xc0_2, xc0_3, xc0_4⟩ := HX0.out w7 (by (repeat (first | exact Bel.refl _ | apply Bel.drew | apply Bel.alloc | refine Bel.trans ?_ (by assumption))))
  obtain ⟨xc1_0, xc1_1, xc1_2⟩ := HX1.out w7 (by (repeat (first | exact Bel.refl _ | apply Bel.drew | apply Bel.alloc | refine Bel.trans ?_ (by assumption))))
  try rw [decide_eq_true rfl]
  go_wp2_with fail
  go_region_held3 (fun W => W.cell? ⟨w4.heap.size, 0, none⟩ = some (.int .i64 x0.1) ∧ W.cell? ⟨w4.heap.size, 1, none⟩ = some (.slice zx0_1p (x0.2.1).length zx0_1c) ∧ W.cell? ⟨w4.heap.size, 2, none⟩ = some (.slice zx0_2p (x0.2.2.1).length zx0_2c) ∧ W.cell? ⟨w4.heap.size, 3, none⟩ = some (.slice zx0_3p (x0.2.2.2.1).length zx0_3c) ∧ W.cell? ⟨w4.heap.size, 4, none⟩ = some (.slice zx0_4p (x0.2.2.2.2).length zx0_4c) ∧ W.cell? ⟨w.heap.size, 0, none⟩ = some (.int .i64 x0.1) ∧ W.cell? ⟨w.heap.size, 1, none⟩ = some (c0_1) ∧ W.cell? ⟨w.heap.size, 2, none⟩ = some (c0_2) ∧ W.cell? ⟨w.heap.size, 3, none⟩ = some (c0_3) ∧ W.cell? ⟨w.heap.size, 4, none⟩ = some (c0_4)) (first | exact keep10 (by assumption) (by assumption) | go_keep)
    (first | (go_at_call 12; (with_reducible refine (toProject_rep _ x0 _ _ (H0.out _ (by (repeat (first | exact Bel.refl _ | apply Bel.drew | apply Bel.alloc | refine Bel.trans ?_ (by assumption))))).1 (H0.out _ (by (repeat (first | exact Bel.refl _ | apply Bel.drew | apply Bel.alloc | refine Bel.trans ?_ (by assumption))))).2 (by rw [HM0.out]; omega)).mono ?_); rintro e wt ⟨es, rfl, hr, gt⟩; have hr0 := hr; obtain ⟨ze00_1, ze00_2, ze00_3, ze00_4, rfl, qq0, qq1, qq2, qq3, qq4⟩ := projR_open hr; obtain ⟨ze00_1p, ze00_1c, rfl, _⟩ := sliceR_open qq1; obtain ⟨ze00_2p, ze00_2c, rfl, _⟩ := sliceR_open qq2; obtain ⟨ze00_3p, ze00_3c, rfl, _⟩ := sliceR_open qq3; obtain ⟨ze00_4p, ze00_4c, rfl, _⟩ := sliceR_open qq4; have Te00 := Lib.hid (stays_agg projR_good hr0); clear hr hr0) | (go_at_call 15; (with_reducible refine (eqProject_rep _ _ x0 x0 _ _ _ (Tx0.out _ (by (repeat (first | exact Bel.refl _ | apply Bel.drew | apply Bel.alloc | refine Bel.trans ?_ (by assumption))))).1 (Te00.out _ (by (repeat (first | exact Bel.refl _ | apply Bel.drew | apply Bel.alloc | refine Bel.trans ?_ (by assumption))))).1 (Tx0.out _ (by (repeat (first | exact Bel.refl _ | apply Bel.drew | apply Bel.alloc | refine Bel.trans ?_ (by assumption))))).2 (Te00.out _ (by (repeat (first | exact Bel.refl _ | apply Bel.drew | apply Bel.alloc | refine Bel.trans ?_ (by assumption))))).2).mono ?_); rintro e wt ⟨rfl, gt⟩))
  clear bc0 bc1 bc2 bc3 bc4 bc5 bc6 bc7 xc0_0 xc0_1 xc0_2 xc0_3 xc0_4 xc1_0 xc1_1 xc1_2
  obtain ⟨w8, hw8⟩ : ∃ W, W = wt := ⟨wt, rfl⟩
  subst hw8
  obtain ⟨bc0, bc1, bc2, bc3, bc4, bc5, bc6, bc7⟩ := HB.out w8 (by (repeat (first | exact Bel.refl _ | apply Bel.drew | apply Bel.alloc | refine Bel.trans ?_ (by assumption))))
  obtain ⟨xc0_0, xc0_1, xc0_2, xc0_3, xc0_4⟩ := HX0.out w8 (by (repeat (first | exact Bel.refl _ | apply Bel.drew | apply Bel.alloc | refine Bel.trans ?_ (by assumption))))
  obtain ⟨xc1_0, xc1_1, xc1_2⟩ := HX1.out w8 (by (repeat (first | exact Bel.refl _ | apply Bel.drew | apply Bel.alloc | refine Bel.trans ?_ (by assumption))))
  try rw [decide_eq_true rfl]
  go_wp2_with fail
  go_region_held3 (fun W => W.cell? ⟨w5.heap.size, 0, none⟩ = some (.slice zx1_0p (x1.1).length zx1_0c) ∧ W.cell? ⟨w5.heap.size, 1, none⟩ = some (.slice zx1_1p (x1.2.1).length zx1_1c) ∧ W.cell? ⟨w5.heap.size, 2, none⟩ = some (.slice zx1_2p (x1.2.2).length zx1_2c) ∧ W.cell? ⟨w.heap.size + 1, 0, none⟩ = some (c1_0) ∧ W.cell? ⟨w.heap.size + 1, 1, none⟩ = some (c1_1) ∧ W.cell? ⟨w.heap.size + 1, 2, none⟩ = some (c1_2)) (first | exact keep6 (by assumption) (by assumption) | go_keep)
    (first | (go_at_call 26; (with_reducible refine (toDomain_rep _ x1 _ _ (H1.out _ (by (repeat (first | exact Bel.refl _ | apply Bel.drew | apply Bel.alloc | refine Bel.trans ?_ (by assumption))))).1 (H1.out _ (by (repeat (first | exact Bel.refl _ | apply Bel.drew | apply Bel.alloc | refine Bel.trans ?_ (by assumption))))).2 (by rw [HM1.out]; omega)).mono ?_); rintro e wt ⟨es, rfl, hr, gt⟩; have hr0 := hr; obtain ⟨ze11_0, ze11_1, ze11_2, rfl, qq0, qq1, qq2⟩ := domR_open hr; obtain ⟨ze11_0p, ze11_0c, rfl, _⟩ := sliceR_open qq0; obtain ⟨ze11_1p, ze11_1c, rfl, _⟩ := sliceR_open qq1; obtain ⟨ze11_2p, ze11_2c, rfl, _⟩ := sliceR_open qq2; have Te11 := Lib.hid (stays_agg domR_good hr0); clear hr hr0) | (go_at_call 29; (with_reducible refine (eqDomain_rep _ _ x1 x1 _ _ _ (Tx1.out _ (by (repeat (first | exact Bel.refl _ | apply Bel.drew | apply Bel.alloc | refine Bel.trans ?_ (by assumption))))).1 (Te11.out _ (by (repeat (first | exact Bel.refl _ | apply Bel.drew | apply Bel.alloc | refine Bel.trans ?_ (by assumption))))).1 (Tx1.out _ (by (repeat (first | exact Bel.refl _ | apply Bel.drew | apply Bel.alloc | refine Bel.trans ?_ (by assumption))))).2 (Te11.out _ (by (repeat (first | exact Bel.refl _ | apply Bel.drew | apply Bel.alloc | refine Bel.trans ?_ (by assumption))))).2).mono ?_); rintro e wt ⟨rfl, gt⟩))
  clear bc0 bc1 bc2 bc3 bc4 bc5 bc6 bc7 xc0_0 xc0_1 xc0_2 xc0_3 xc0_4 xc1_0 xc1_1 xc1_2
  obtain ⟨w9, hw9⟩ : ∃ W, W = wt := ⟨wt, rfl⟩
  subst hw9
  obtain ⟨bc0, bc1, bc2, bc3, bc4, bc5, bc6, bc7⟩ := HB.out w9 (by (repeat (first | exact Bel.refl _ | apply Bel.drew | apply Bel.alloc | refine Bel.trans ?_ (by assumption))))
  obtain ⟨xc0_0, xc0_1, xc0_2, xc0_3, xc0_4⟩ := HX0.out w9 (by (repeat (first | exact Bel.refl _ | apply Bel.drew | apply Bel.alloc | refine Bel.trans ?_ (by assumption))))
  obtain ⟨xc1_0, xc1_1, xc1_2⟩ := HX1.out w9 (by (repeat (first | exact Bel.refl _ | apply Bel.drew | apply Bel.alloc | refine Bel.trans ?_ (by assumption))))
  try rw [decide_eq_true rfl]
  have HRG := Lib.hid (TG.out w9 (by (repeat (first | exact Bel.refl _ | apply Bel.drew | apply Bel.alloc | refine Bel.trans ?_ (by assumption))))).1
  have HRX0 := Lib.hid (Tx0.out w9 (by (repeat (first | exact Bel.refl _ | apply Bel.drew | apply Bel.alloc | refine Bel.trans ?_ (by assumption))))).1
  have HRX1 := Lib.hid (Tx1.out w9 (by (repeat (first | exact Bel.refl _ | apply Bel.drew | apply Bel.alloc | refine Bel.trans ?_ (by assumption))))).1
  have HKX0 := Lib.hid (show w9.cell? ⟨w4.heap.size, 0, none⟩ = some (.int .i64 x0.1) ∧ w9.cell? ⟨w4.heap.size, 1, none⟩ = some (.slice zx0_1p (x0.2.1).length zx0_1c) ∧ w9.cell? ⟨w4.heap.size, 2, none⟩ = some (.slice zx0_2p (x0.2.2.1).length zx0_2c) ∧ w9.cell? ⟨w4.heap.size, 3, none⟩ = some (.slice zx0_3p (x0.2.2.2.1).length zx0_3c) ∧ w9.cell? ⟨w4.heap.size, 4, none⟩ = some (.slice zx0_4p (x0.2.2.2.2).length zx0_4c) from HX0.out w9 (by (repeat (first | exact Bel.refl _ | apply Bel.drew | apply Bel.alloc | refine Bel.trans ?_ (by assumption)))))
  have HKX1 := Lib.hid (show w9.cell? ⟨w5.heap.size, 0, none⟩ = some (.slice zx1_0p (x1.1).length zx1_0c) ∧ w9.cell? ⟨w5.heap.size, 1, none⟩ = some (.slice zx1_1p (x1.2.1).length zx1_1c) ∧ w9.cell? ⟨w5.heap.size, 2, none⟩ = some (.slice zx1_2p (x1.2.2).length zx1_2c) from HX1.out w9 (by (repeat (first | exact Bel.refl _ | apply Bel.drew | apply Bel.alloc | refine Bel.trans ?_ (by assumption)))))
  obtain ⟨bz0, bz1, bz2, bz3, bz4, bz5, bz6, bz7, bz8, bz9, bz10, bz11⟩ : Bel w3 w9 ∧ Bel w w9 ∧ Bel w1 w9 ∧ Bel w w1 ∧ Bel w1 w2 ∧ Bel w2 w3 ∧ Bel w3 w4 ∧ Bel w4 w5 ∧ Bel w5 w6 ∧ Bel w6 w7 ∧ Bel w7 w8 ∧ Bel w8 w9 := ⟨by (repeat (first | exact Bel.refl _ | apply Bel.drew | apply Bel.alloc | refine Bel.trans ?_ (by assumption))), by (repeat (first | exact Bel.refl _ | apply Bel.drew | apply Bel.alloc | refine Bel.trans ?_ (by assumption))), by (repeat (first | exact Bel.refl _ | apply Bel.drew | apply Bel.alloc | refine Bel.trans ?_ (by assumption))), by (repeat (first | exact Bel.refl _ | apply Bel.drew | apply Bel.alloc | refine Bel.trans ?_ (by assumption))), by (repeat (first | exact Bel.refl _ | apply Bel.drew | apply Bel.alloc | refine Bel.trans ?_ (by assumption))), by (repeat (first | exact Bel.refl _ | apply Bel.drew | apply Bel.alloc | refine Bel.trans ?_ (by assumption))), by (repeat (first | exact Bel.refl _ | apply Bel.drew | apply Bel.alloc | refine Bel.trans ?_ (by assumption))), by (repeat (first | exact Bel.refl _ | apply Bel.drew | apply Bel.alloc | refine Bel.trans ?_ (by assumption))), by (repeat (first | exact Bel.refl _ | apply Bel.drew | apply Bel.alloc | refine Bel.trans ?_ (by assumption))), by (repeat (first | exact Bel.refl _ | apply Bel.drew | apply Bel.alloc | refine Bel.trans ?_ (by assumption))), by (repeat (first | exact Bel.refl _ | apply Bel.drew | apply Bel.alloc | refine Bel.trans ?_ (by assumption))), by (repeat (first | exact Bel.refl _ | apply Bel.drew | apply Bel.alloc | refine Bel.trans ?_ (by assumption)))⟩
  have HBS := Lib.hid bz0
  have HBW := Lib.hid bz1
  have HBB := Lib.hid bz2
  have Zw1 := bz3.size
  have Zw2 := bz4.size
  have Zw3 := bz5.size
  have Zw4 := bz6.size
  have Zw5 := bz7.size
  have Zw6 := bz8.size
  have Zw7 := bz9.size
  have Zw8 := bz10.size
  have Zw9 := bz11.size
  clear bz0 bz1 bz2 bz3 bz4 bz5 bz6 bz7 bz8 bz9 bz10 bz11
  clear bc0 bc1 bc2 bc3 bc4 bc5 bc6 bc7 xc0_0 xc0_1 xc0_2 xc0_3 xc0_4 xc1_0 xc1_1 xc1_2
  have hzw9 : w9.heap.size ≤ w9.heap.size := Nat.le_refl _
  obtain ⟨yb0_0, yb0_1, yb0_2, yb0_3, yb0_4⟩ := HKX0.out
  have hcn0 := cntProj_le x0
  have hbk0 : bulkProject x0 ≤ 1048576 := (by rw [HM0.out]; omega)
  go_wp2_with fail
  refine (markProject_kin _ x0 (Ival w3.heap.size w4.heap.size) _ _ 16777216 (by decide) HRX0.out (by omega) (by omega)).mono ?_
  rintro e v0 ⟨k0, rfl, hk0, hku0, M⟩
  clear yb0_0 yb0_1 yb0_2 yb0_3 yb0_4
  have HBW := Lib.hid (Mut.bel HBW.out M (fun b hb => by have := hb.1; omega))
  have HBS := Lib.hid (Mut.bel HBS.out M (fun b hb => by have := hb.1; omega))
  have HBB := Lib.hid (Mut.bel HBB.out M (fun b hb => by have := hb.1; omega))
  have HRG := Lib.hid (M.keep litsR_good HRG.out (fun b hb => ⟨by have := hb.2; omega, fun hh => by have := hb.1; have := hb.2; have := hh.1; have := hh.2; omega⟩))
  have HRX1 := Lib.hid (M.keepAgg domR_good HRX1.out (fun b hb => ⟨by have := hb.2; omega, fun hh => by have := hb.1; have := hb.2; have := hh.1; have := hh.2; omega⟩))
  have HKX1 := Lib.hid (show v0.cell? ⟨w5.heap.size, 0, none⟩ = some (.slice zx1_0p (x1.1).length zx1_0c) ∧ v0.cell? ⟨w5.heap.size, 1, none⟩ = some (.slice zx1_1p (x1.2.1).length zx1_1c) ∧ v0.cell? ⟨w5.heap.size, 2, none⟩ = some (.slice zx1_2p (x1.2.2).length zx1_2c) from by obtain ⟨z0, z1, z2⟩ := HKX1.out; exact ⟨M.cell z0 (fun hh => by have := hh.1; have := hh.2; omega), M.cell z1 (fun hh => by have := hh.1; have := hh.2; omega), M.cell z2 (fun hh => by have := hh.1; have := hh.2; omega)⟩)
  have hzv0 : w9.heap.size ≤ v0.heap.size := Nat.le_trans hzw9 M.size
  clear M
  obtain ⟨yb1_0, yb1_1, yb1_2⟩ := HKX1.out
  have hcn1 := cntDom_le x1
  have hbk1 : bulkDomain x1 ≤ 1048576 := (by rw [HM1.out]; omega)
  go_wp2_with fail
  refine (markDomain_kin _ x1 (Ival w4.heap.size w5.heap.size) _ _ 25165824 (by decide) HRX1.out (by omega) (by omega)).mono ?_
  rintro e v1 ⟨k1, rfl, hk1, hku1, M⟩
  clear yb1_0 yb1_1 yb1_2
  have HBW := Lib.hid (Mut.bel HBW.out M (fun b hb => by have := hb.1; omega))
  have HBS := Lib.hid (Mut.bel HBS.out M (fun b hb => by have := hb.1; omega))
  have HBB := Lib.hid (Mut.bel HBB.out M (fun b hb => by have := hb.1; omega))
  have HRG := Lib.hid (M.keep litsR_good HRG.out (fun b hb => ⟨by have := hb.2; omega, fun hh => by have := hb.1; have := hb.2; have := hh.1; have := hh.2; omega⟩))
  have hzv1 : w9.heap.size ≤ v1.heap.size := Nat.le_trans hzv0 M.size
  clear M
  go_wp2_with fail
  refine (eqLiteralS_rep _ _ LR LR _ _ _ HRG.out (TW.out _ HBS.out).1 (fun b hb => by have := hb.2; have := hzv1; omega) (TW.out _ HBS.out).2).mono ?_
  rintro e va ⟨rfl, gq⟩
  rw [decide_eq_true rfl]
  have HBW := Lib.hid (HBW.out.trans gq)
  have HBS := Lib.hid (HBS.out.trans gq)
  have HBB := Lib.hid (HBB.out.trans gq)
  have hzva : w9.heap.size ≤ va.heap.size := Nat.le_trans hzv1 gq.size
  have HRG := Lib.hid (litsR_good.bel HRG.out gq (fun b hb => by have := hb.2; have := hzv1; omega))
  clear gq
  have hll := HLL.out
  obtain ⟨mm, hmm⟩ : ∃ z : Int, (1 : Int) + ((3 * LR.length : Nat) : Int) = z := ⟨_, rfl⟩
  have hm0 : 0 ≤ mm := by omega
  have HMM := Lib.hid hmm; clear hmm
  go_wp2_with fail
  refine (markLiteralS_any _ LR _ 1 _ HRG.out (by decide) (by decide) (by omega)).mono ?_
  rintro e vb ⟨rfl, RM, M⟩
  rw [HMM.out]
  have HBW := Lib.hid (Mut.bel HBW.out M (fun b hb => by have := hb.1; omega))
  have HBS := Lib.hid (Mut.bel HBS.out M (fun b hb => by have := hb.1; omega))
  have HBB := Lib.hid (Mut.bel HBB.out M (fun b hb => by have := hb.1; omega))
  have HRM := Lib.hid RM; clear RM
  have hzvb : w9.heap.size ≤ vb.heap.size := Nat.le_trans hzva M.size
  clear M
  go_wp2_with fail
  refine (heldLiteralS_any _ LR.length _ 1 _ HRM.out (by decide) (by decide) (by omega)).mono ?_
  rintro e w' ⟨rfl, rfl⟩
  rw [HMM.out]
  have BW1 := HBW.out
  have BS1 := HBS.out
  have BB1 := HBB.out
  obtain ⟨bc0, bc1, bc2, bc3, bc4, bc5, bc6, bc7⟩ := HB.out _ HBB.out
  obtain ⟨vb1, hvb⟩ : ∃ W, W = vb := ⟨vb, rfl⟩
  subst hvb
  go_wp2_with fail
  go_region_held3 (fun W => W.cell? ⟨w.heap.size, 0, none⟩ = some (.int .i64 x0.1) ∧ W.cell? ⟨w.heap.size, 1, none⟩ = some (c0_1) ∧ W.cell? ⟨w.heap.size, 2, none⟩ = some (c0_2) ∧ W.cell? ⟨w.heap.size, 3, none⟩ = some (c0_3) ∧ W.cell? ⟨w.heap.size, 4, none⟩ = some (c0_4) ∧ W.cell? ⟨w.heap.size + 1, 0, none⟩ = some (c1_0) ∧ W.cell? ⟨w.heap.size + 1, 1, none⟩ = some (c1_1) ∧ W.cell? ⟨w.heap.size + 1, 2, none⟩ = some (c1_2)) (first | exact keep8 (by assumption) (by assumption) | go_keep)
    (first | (go_at_call 12; (with_reducible refine (toProject_rep _ x0 _ _ (H0.out _ (by (repeat (first | exact Bel.refl _ | apply Bel.drew | apply Bel.alloc | refine Bel.trans ?_ (by assumption))))).1 (H0.out _ (by (repeat (first | exact Bel.refl _ | apply Bel.drew | apply Bel.alloc | refine Bel.trans ?_ (by assumption))))).2 (by rw [HM0.out]; omega)).mono ?_); rintro e wt ⟨es, rfl, hr, gt⟩; have hr0 := hr; obtain ⟨zh0_1, zh0_2, zh0_3, zh0_4, rfl, qq0, qq1, qq2, qq3, qq4⟩ := projR_open hr; obtain ⟨zh0_1p, zh0_1c, rfl, _⟩ := sliceR_open qq1; obtain ⟨zh0_2p, zh0_2c, rfl, _⟩ := sliceR_open qq2; obtain ⟨zh0_3p, zh0_3c, rfl, _⟩ := sliceR_open qq3; obtain ⟨zh0_4p, zh0_4c, rfl, _⟩ := sliceR_open qq4; have Th0 := Lib.hid (stays_agg projR_good hr0); clear hr hr0) | (go_at_call 26; (with_reducible refine (toDomain_rep _ x1 _ _ (H1.out _ (by (repeat (first | exact Bel.refl _ | apply Bel.drew | apply Bel.alloc | refine Bel.trans ?_ (by assumption))))).1 (H1.out _ (by (repeat (first | exact Bel.refl _ | apply Bel.drew | apply Bel.alloc | refine Bel.trans ?_ (by assumption))))).2 (by rw [HM1.out]; omega)).mono ?_); rintro e wt ⟨es, rfl, hr, gt⟩; have hr0 := hr; obtain ⟨zh1_0, zh1_1, zh1_2, rfl, qq0, qq1, qq2⟩ := domR_open hr; obtain ⟨zh1_0p, zh1_0c, rfl, _⟩ := sliceR_open qq0; obtain ⟨zh1_1p, zh1_1c, rfl, _⟩ := sliceR_open qq1; obtain ⟨zh1_2p, zh1_2c, rfl, _⟩ := sliceR_open qq2; have Th1 := Lib.hid (stays_agg domR_good hr0); clear hr hr0) | (go_at_call 27; (with_reducible refine (iDomainLiterals_any _ x0 _ _ x1 _ _ (Th0.out _ (by (repeat (first | exact Bel.refl _ | apply Bel.drew | apply Bel.alloc | refine Bel.trans ?_ (by assumption))))).1 (Th0.out _ (by (repeat (first | exact Bel.refl _ | apply Bel.drew | apply Bel.alloc | refine Bel.trans ?_ (by assumption))))).2 (by rw [HM0.out]; omega) (Th1.out _ (by (repeat (first | exact Bel.refl _ | apply Bel.drew | apply Bel.alloc | refine Bel.trans ?_ (by assumption))))).1 (Th1.out _ (by (repeat (first | exact Bel.refl _ | apply Bel.drew | apply Bel.alloc | refine Bel.trans ?_ (by assumption))))).2 (by rw [HM1.out]; omega)).mono ?_); rintro e wt ⟨vr, rfl, hr, gt⟩; rw [HLR.out] at hr; obtain ⟨Hp, Hk, rfl, -⟩ := sliceR_open hr; have TH := Lib.hid (stays_one litsR_good hr); clear hr))
  have GH : Bel vb1 wt := by (repeat (first | exact Bel.refl _ | apply Bel.drew | apply Bel.alloc | refine Bel.trans ?_ (by assumption)))
  have HBS := Lib.hid (HBS.out.trans GH)
  have HRM := Lib.hid (litsR_good.bel HRM.out GH (fun b hb => by have := hb.2; omega))
  have TH1 := TH.out _ (Bel.refl _)
  go_wp2_with fail
  refine (eqLiteralS_rep _ _ LR LR _ _ _ TH1.1 (TW.out _ HBS.out).1 TH1.2 (TW.out _ HBS.out).2).mono ?_
  rintro e vc ⟨rfl, gq⟩
  rw [decide_eq_true rfl]
  have hzwt : vb1.heap.size ≤ wt.heap.size := GH.size
  have HRM := Lib.hid (litsR_good.bel HRM.out gq (fun b hb => by have := hb.2; omega))
  go_wp2_with fail
  refine (heldLiteralS_any _ LR.length _ 1 _ HRM.out (by decide) (by decide) (by omega)).mono ?_
  rintro e w' ⟨rfl, rfl⟩
  rw [HMM.out]
  have BF : Bel w vc := HBW.out.trans (GH.trans gq)
  go_wp2
  go_ret
  exact ⟨rfl, BF⟩
end Go.Proofs.YthkcdmghchikjaaGreat
