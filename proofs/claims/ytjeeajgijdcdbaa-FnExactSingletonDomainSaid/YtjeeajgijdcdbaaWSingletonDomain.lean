/- The walk of laws.FnExactSingletonDomain. -/
import Derived.Test.YtjeeajgijdcdbaaSing
import Derived.Test.YtjeeajgijdcdbaaMarkK
import Derived.Test.YtjeeajgijdcdbaaMark
import Derived.Test.YtjeeajgijdcdbaaEq
import Derived.Test.YtjeeajgijdcdbaaSz
import Derived.Test.YtjeeajgijdcdbaaTo
import Derived.Test.YtjeeajgijdcdbaaKeep
import Derived.Test.YtjeeajgijdcdbaaDomM
import Derived.Deep.RegionHeld3
namespace Go.Proofs.Ytjeeajgijdcdbaa
open Go.ChangeShapes Go.WideShapes Go.ChangeAt Go.RowKit
set_option linter.unusedVariables false

set_option maxHeartbeats 1000000 in
theorem fnExactSingletonDomain_walk (v0 : Value) (x0 : SchT) (w : World) (h0 : aggR schR (Old w) w v0 x0) :
    Calls Try.prog 3 #[v0] w fun e w' => e = .returned (.bool true) ∧ Bel w w' := by
  obtain ⟨cs0, rfl, h0⟩ := h0
  have k0 := h0
  obtain ⟨c0_0, c0_1, rfl, q0_0, q0_1⟩ := schR_open h0
  have H0 := Lib.hid (show ∀ W, Bel w W → aggR schR (Old w) W (.agg #[c0_0, c0_1]) x0 ∧ (∀ b, Old w b → b < W.heap.size) from fun W hW => ⟨aggR_mk (schR_good.bel k0 hW (fun b hb => hb)), fun b hb => Nat.lt_of_lt_of_le hb hW.size⟩)
  clear k0
  clear h0
  clear q0_0 q0_1
  obtain ⟨m0, hm0⟩ : ∃ m, bulkSchedule x0 = m := ⟨_, rfl⟩
  have HM0 := Lib.hid hm0; clear hm0
  show Calls Try.prog 3 #[.agg #[c0_0, c0_1]] w _
  go_enter Try.func3, Try.ntmps3
  go_wp2_with fail
  refine (szSchedule_any _ x0 _ _ _ (H0.out _ (by (repeat (first | exact Bel.refl _ | apply Bel.drew | apply Bel.alloc | refine Bel.trans ?_ (by assumption))))).1 (H0.out _ (by (repeat (first | exact Bel.refl _ | apply Bel.drew | apply Bel.alloc | refine Bel.trans ?_ (by assumption))))).2 (by omega) (by omega)).mono ?_
  rintro e w1 ⟨rfl, gw1⟩
  rw [HM0.out]
  have HB := Lib.hid (show ∀ W, Bel w1 W → W.cell? ⟨w.heap.size, 0, none⟩ = some (c0_0) ∧ W.cell? ⟨w.heap.size, 1, none⟩ = some (c0_1) from fun W hW => ⟨hW.cell (gw1.cell (by simp [go_sem])), hW.cell (gw1.cell (by simp [go_sem]))⟩)
  obtain ⟨bc0, bc1⟩ := HB.out w1 (by (repeat (first | exact Bel.refl _ | apply Bel.drew | apply Bel.alloc | refine Bel.trans ?_ (by assumption))))
  by_cases hfit0 : (m0 : Int) ≤ 1048576
  rotate_left
  · rw [szN_no (by omega)]
    go_wp2
    go_ret
    exact ⟨rfl, by (repeat (first | exact Bel.refl _ | apply Bel.drew | apply Bel.alloc | refine Bel.trans ?_ (by assumption)))⟩
  rw [szN_ok hfit0]
  obtain ⟨DV, hDV⟩ : ∃ D, singV x0 = D := ⟨_, rfl⟩
  have HDL := Lib.hid (show domC (domN DV) ≤ 4194304 from by rw [← hDV]; exact singV_len x0 (by rw [HM0.out]; omega))
  have HDV := Lib.hid hDV; clear hDV
  go_wp2_with fail
  go_at_call 6; (with_reducible refine (toSchedule_rep _ x0 _ _ (H0.out _ (by (repeat (first | exact Bel.refl _ | apply Bel.drew | apply Bel.alloc | refine Bel.trans ?_ (by assumption))))).1 (H0.out _ (by (repeat (first | exact Bel.refl _ | apply Bel.drew | apply Bel.alloc | refine Bel.trans ?_ (by assumption))))).2 (by rw [HM0.out]; omega)).mono ?_); rintro e wt ⟨es, rfl, hr, gt⟩; have hr0 := hr; obtain ⟨zs0_0, zs0_1, rfl, qq0, qq1⟩ := schR_open hr; obtain ⟨zs0_0p, zs0_0c, rfl, _⟩ := sliceR_open qq0; obtain ⟨zs0_1p, zs0_1c, rfl, _⟩ := sliceR_open qq1; have Ts0 := Lib.hid (stays_agg schR_good hr0); clear hr hr0
  go_wp2_with fail
  go_at_call 5
  (with_reducible refine (sSingletonDomain_any _ x0 _ _ (Ts0.out _ (by (repeat (first | exact Bel.refl _ | apply Bel.drew | apply Bel.alloc | refine Bel.trans ?_ (by assumption))))).1 (Ts0.out _ (by (repeat (first | exact Bel.refl _ | apply Bel.drew | apply Bel.alloc | refine Bel.trans ?_ (by assumption))))).2 (by rw [HM0.out]; omega)).mono ?_)
  rintro e w2 ⟨cs, rfl, hr, gt2⟩
  rw [HDV.out] at hr
  have TW0 := Lib.hid hr
  obtain ⟨y0, y1, y2, S1, S2, S3, rfl, t0, t1, t2, -⟩ := hr
  obtain ⟨Wp0, Wc0, rfl, -⟩ := sliceR_open t0
  obtain ⟨Wp1, Wc1, rfl, -⟩ := sliceR_open t1
  obtain ⟨Wp2, Wc2, rfl, -⟩ := matR_open t2
  clear t0 t1 t2
  have TW := Lib.hid (stays_agg domM_good TW0.out)
  have G2 : Bel w1 w2 := by (repeat (first | exact Bel.refl _ | apply Bel.drew | apply Bel.alloc | refine Bel.trans ?_ (by assumption)))
  clear gt gt2 bc0 bc1
  obtain ⟨bc0, bc1⟩ := HB.out w2 G2
  obtain ⟨U2, hU2⟩ : ∃ W, W = w2.alloc (.cells #[.slice Wp0 DV.1.length Wc0, .slice Wp1 DV.2.1.length Wc1, .slice Wp2 DV.2.2.length Wc2] 28) := ⟨_, rfl⟩
  have B2 : Bel w2 U2 := by rw [hU2]; exact (Bel.refl _).alloc _
  have Z2 : w2.heap.size + 1 ≤ U2.heap.size := by rw [hU2]; simp
  have HWB := Lib.hid (show ∀ W, Bel U2 W → W.cell? ⟨w2.heap.size, 0, none⟩ = some (.slice Wp0 DV.1.length Wc0) ∧ W.cell? ⟨w2.heap.size, 1, none⟩ = some (.slice Wp1 DV.2.1.length Wc1) ∧ W.cell? ⟨w2.heap.size, 2, none⟩ = some (.slice Wp2 DV.2.2.length Wc2) from fun W hW => by rw [hU2] at hW; exact ⟨hW.cell (by simp [go_sem]), hW.cell (by simp [go_sem]), hW.cell (by simp [go_sem])⟩)
  have HU2 := Lib.hid hU2
  clear hU2
  have abc0 := fun o => ((Bel.refl w2).alloc o).cell bc0
  have abc1 := fun o => ((Bel.refl w2).alloc o).cell bc1
  go_wp2_with fail
  rw [← HU2.out]
  clear abc0 abc1
  go_at_call 6; (with_reducible refine (toSchedule_rep _ x0 _ _ (H0.out _ (by (repeat (first | exact Bel.refl _ | apply Bel.drew | apply Bel.alloc | refine Bel.trans ?_ (by assumption))))).1 (H0.out _ (by (repeat (first | exact Bel.refl _ | apply Bel.drew | apply Bel.alloc | refine Bel.trans ?_ (by assumption))))).2 (by rw [HM0.out]; omega)).mono ?_); rintro e wt ⟨es, rfl, hr, gt⟩; have hr0 := hr; obtain ⟨zx0_0, zx0_1, rfl, qq0, qq1⟩ := schR_open hr; obtain ⟨zx0_0p, zx0_0c, rfl, _⟩ := sliceR_open qq0; obtain ⟨zx0_1p, zx0_1c, rfl, _⟩ := sliceR_open qq1; have Tx0 := Lib.hid (stays_ival_agg (lo := U2.heap.size) schR_good hr0 (Bel.size (by (repeat (first | exact Bel.refl _ | apply Bel.drew | apply Bel.alloc | refine Bel.trans ?_ (by assumption)))))); clear hr hr0
  obtain ⟨w3, hw3⟩ : ∃ W, W = wt := ⟨wt, rfl⟩
  subst hw3
  have G3 : Bel U2 w3 := by (repeat (first | exact Bel.refl _ | apply Bel.drew | apply Bel.alloc | refine Bel.trans ?_ (by assumption)))
  clear gt bc0 bc1
  obtain ⟨U3, hU3⟩ : ∃ W, W = w3.alloc (.cells #[.slice zx0_0p (x0.1).length zx0_0c, .slice zx0_1p (x0.2).length zx0_1c] 30) := ⟨_, rfl⟩
  have B3 : Bel w3 U3 := by rw [hU3]; exact (Bel.refl _).alloc _
  have Z3 : w3.heap.size + 1 ≤ U3.heap.size := by rw [hU3]; simp
  have HXB := Lib.hid (show ∀ W, Bel U3 W → W.cell? ⟨w3.heap.size, 0, none⟩ = some (.slice zx0_0p (x0.1).length zx0_0c) ∧ W.cell? ⟨w3.heap.size, 1, none⟩ = some (.slice zx0_1p (x0.2).length zx0_1c) from fun W hW => by rw [hU3] at hW; exact ⟨hW.cell (by simp [go_sem]), hW.cell (by simp [go_sem])⟩)
  have HU3 := Lib.hid hU3
  clear hU3
  obtain ⟨xc0, xc1⟩ := HXB.out U3 (Bel.refl _)
  go_wp2_with fail
  rw [← HU3.out]
  go_at_call 7
  (with_reducible refine (iSingletonDomain_any _ x0 _ _ (Tx0.out _ (by (repeat (first | exact Bel.refl _ | apply Bel.drew | apply Bel.alloc | refine Bel.trans ?_ (by assumption))))).1 (Tx0.out _ (by (repeat (first | exact Bel.refl _ | apply Bel.drew | apply Bel.alloc | refine Bel.trans ?_ (by assumption))))).2 (by rw [HM0.out]; omega)).mono ?_)
  rintro e w4 ⟨cs, rfl, hr, gt4⟩
  rw [HDV.out] at hr
  have TG0 := Lib.hid hr
  obtain ⟨y0, y1, y2, S1, S2, S3, rfl, t0, t1, t2, -⟩ := hr
  obtain ⟨Gp0, Gc0, rfl, -⟩ := sliceR_open t0
  obtain ⟨Gp1, Gc1, rfl, -⟩ := sliceR_open t1
  obtain ⟨Gp2, Gc2, rfl, -⟩ := matR_open t2
  clear t0 t1 t2
  have G4 : Bel U3 w4 := by (repeat (first | exact Bel.refl _ | apply Bel.drew | apply Bel.alloc | refine Bel.trans ?_ (by assumption)))
  have TG := Lib.hid (stays_ival_agg (lo := U3.heap.size) domM_good TG0.out (Nat.le_refl _))
  clear gt4 xc0 xc1
  obtain ⟨U4, hU4⟩ : ∃ W, W = w4.alloc (.cells #[.slice Gp0 DV.1.length Gc0, .slice Gp1 DV.2.1.length Gc1, .slice Gp2 DV.2.2.length Gc2] 28) := ⟨_, rfl⟩
  have B4 : Bel w4 U4 := by rw [hU4]; exact (Bel.refl _).alloc _
  have Z4 : w4.heap.size + 1 ≤ U4.heap.size := by rw [hU4]; simp
  have HGB := Lib.hid (show ∀ W, Bel U4 W → W.cell? ⟨w4.heap.size, 0, none⟩ = some (.slice Gp0 DV.1.length Gc0) ∧ W.cell? ⟨w4.heap.size, 1, none⟩ = some (.slice Gp1 DV.2.1.length Gc1) ∧ W.cell? ⟨w4.heap.size, 2, none⟩ = some (.slice Gp2 DV.2.2.length Gc2) from fun W hW => by rw [hU4] at hW; exact ⟨hW.cell (by simp [go_sem]), hW.cell (by simp [go_sem]), hW.cell (by simp [go_sem])⟩)
  have HU4 := Lib.hid hU4
  clear hU4
  obtain ⟨gc0, gc1, gc2⟩ := HGB.out U4 (Bel.refl _)
  have CH := Lib.hid (show Bel U2 U4 ∧ Bel U3 U4 ∧ Bel w1 U4 ∧ Bel w U4 ∧ True from ⟨by (repeat (first | exact Bel.refl _ | apply Bel.drew | apply Bel.alloc | refine Bel.trans ?_ (by assumption))), by (repeat (first | exact Bel.refl _ | apply Bel.drew | apply Bel.alloc | refine Bel.trans ?_ (by assumption))), by (repeat (first | exact Bel.refl _ | apply Bel.drew | apply Bel.alloc | refine Bel.trans ?_ (by assumption))), by (repeat (first | exact Bel.refl _ | apply Bel.drew | apply Bel.alloc | refine Bel.trans ?_ (by assumption))), trivial⟩)
  obtain ⟨wc0, wc1, wc2⟩ := HWB.out w4 (by (repeat (first | exact Bel.refl _ | apply Bel.drew | apply Bel.alloc | refine Bel.trans ?_ (by assumption))))
  have awc0 := fun o => ((Bel.refl w4).alloc o).cell wc0
  have awc1 := fun o => ((Bel.refl w4).alloc o).cell wc1
  have awc2 := fun o => ((Bel.refl w4).alloc o).cell wc2
  go_wp2_with fail
  rw [← HU4.out]
  clear awc0 awc1 awc2
  go_at_call 8
  (with_reducible refine (eqDomain_m _ _ DV DV _ _ _ (TG.out _ B4).1 (TW.out _ (by (repeat (first | exact Bel.refl _ | apply Bel.drew | apply Bel.alloc | refine Bel.trans ?_ (by assumption))))).1 (TG.out _ B4).2 (TW.out _ (by (repeat (first | exact Bel.refl _ | apply Bel.drew | apply Bel.alloc | refine Bel.trans ?_ (by assumption))))).2).mono ?_)
  rintro e w5 ⟨rfl, gq⟩
  rw [decide_eq_true rfl]
  have G5 : Bel U4 w5 := by (repeat (first | exact Bel.refl _ | apply Bel.drew | apply Bel.alloc | refine Bel.trans ?_ (by assumption)))
  clear gq gc0 gc1 gc2 wc0 wc1 wc2
  obtain ⟨bc0, bc1⟩ := HB.out w5 (by (repeat (first | exact Bel.refl _ | apply Bel.drew | apply Bel.alloc | refine Bel.trans ?_ (by assumption))))
  obtain ⟨xc0, xc1⟩ := HXB.out w5 (by (repeat (first | exact Bel.refl _ | apply Bel.drew | apply Bel.alloc | refine Bel.trans ?_ (by assumption))))
  go_wp2_with fail
  go_region_held3 (fun W => W.cell? ⟨w3.heap.size, 0, none⟩ = some (.slice zx0_0p (x0.1).length zx0_0c) ∧ W.cell? ⟨w3.heap.size, 1, none⟩ = some (.slice zx0_1p (x0.2).length zx0_1c) ∧ W.cell? ⟨w.heap.size, 0, none⟩ = some (c0_0) ∧ W.cell? ⟨w.heap.size, 1, none⟩ = some (c0_1)) (first | exact keep4 (by assumption) (by assumption) | go_keep)
    (first | (go_at_call 6; (with_reducible refine (toSchedule_rep _ x0 _ _ (H0.out _ (by (repeat (first | exact Bel.refl _ | apply Bel.drew | apply Bel.alloc | refine Bel.trans ?_ (by assumption))))).1 (H0.out _ (by (repeat (first | exact Bel.refl _ | apply Bel.drew | apply Bel.alloc | refine Bel.trans ?_ (by assumption))))).2 (by rw [HM0.out]; omega)).mono ?_); rintro e wt ⟨es, rfl, hr, gt⟩; have hr0 := hr; obtain ⟨ze00_0, ze00_1, rfl, qq0, qq1⟩ := schR_open hr; obtain ⟨ze00_0p, ze00_0c, rfl, _⟩ := sliceR_open qq0; obtain ⟨ze00_1p, ze00_1c, rfl, _⟩ := sliceR_open qq1; have Te00 := Lib.hid (stays_agg schR_good hr0); clear hr hr0) | (go_at_call 9; (with_reducible refine (eqSchedule_rep _ _ x0 x0 _ _ _ (Tx0.out _ (by (repeat (first | exact Bel.refl _ | apply Bel.drew | apply Bel.alloc | refine Bel.trans ?_ (by assumption))))).1 (Te00.out _ (by (repeat (first | exact Bel.refl _ | apply Bel.drew | apply Bel.alloc | refine Bel.trans ?_ (by assumption))))).1 (Tx0.out _ (by (repeat (first | exact Bel.refl _ | apply Bel.drew | apply Bel.alloc | refine Bel.trans ?_ (by assumption))))).2 (Te00.out _ (by (repeat (first | exact Bel.refl _ | apply Bel.drew | apply Bel.alloc | refine Bel.trans ?_ (by assumption))))).2).mono ?_); rintro e wt ⟨rfl, gt⟩) | fail)
  clear bc0 bc1 xc0 xc1
  obtain ⟨w6, hw6⟩ : ∃ W, W = wt := ⟨wt, rfl⟩
  subst hw6
  try rw [decide_eq_true rfl]
  obtain ⟨bz0, bz1, bz2, bz3, bz4⟩ : Bel U2 w6 ∧ Bel w w6 ∧ Bel w1 w6 ∧ Bel U3 w6 ∧ Bel U4 w6 := ⟨by (repeat (first | exact Bel.refl _ | apply Bel.drew | apply Bel.alloc | refine Bel.trans ?_ (by assumption))), by (repeat (first | exact Bel.refl _ | apply Bel.drew | apply Bel.alloc | refine Bel.trans ?_ (by assumption))), by (repeat (first | exact Bel.refl _ | apply Bel.drew | apply Bel.alloc | refine Bel.trans ?_ (by assumption))), by (repeat (first | exact Bel.refl _ | apply Bel.drew | apply Bel.alloc | refine Bel.trans ?_ (by assumption))), by (repeat (first | exact Bel.refl _ | apply Bel.drew | apply Bel.alloc | refine Bel.trans ?_ (by assumption)))⟩
  have HBS := Lib.hid bz0
  have HBW := Lib.hid bz1
  have HBB := Lib.hid bz2
  have HRG := Lib.hid (TG.out w6 (B4.trans bz4)).1
  have HRX := Lib.hid (Tx0.out w6 (B3.trans bz3)).1
  obtain ⟨xc0, xc1⟩ := HXB.out w6 bz3
  have HKG := Lib.hid (HGB.out w6 bz4)
  have q1 : w.heap.size ≤ w1.heap.size := Bel.size (by (repeat (first | exact Bel.refl _ | apply Bel.drew | apply Bel.alloc | refine Bel.trans ?_ (by assumption))))
  have q2 := G2.size
  have q3 := G3.size
  have q4 := G4.size
  have q5 := bz4.size
  clear bz0 bz1 bz2 bz3 bz4
  have hcn0 := cntSch_le x0
  have hbk0 : bulkSchedule x0 ≤ 1048576 := (by rw [HM0.out]; omega)
  go_wp2_with fail
  refine (markSchedule_kin _ x0 (Ival U2.heap.size w3.heap.size) _ _ 16777216 (by decide) HRX.out (by omega) (by omega)).mono ?_
  rintro e v0 ⟨k0, rfl, hk0, hku0, M⟩
  have HBW := Lib.hid (Mut.bel HBW.out M (fun b hb => by have := hb.1; omega))
  have HBS := Lib.hid (Mut.bel HBS.out M (fun b hb => by have := hb.1; omega))
  have HBB := Lib.hid (Mut.bel HBB.out M (fun b hb => by have := hb.1; omega))
  have HRG := Lib.hid (M.keepAgg domM_good HRG.out (fun b hb => ⟨by have := hb.2; omega, fun hh => by have := hb.1; have := hh.2; omega⟩))
  have HKG := Lib.hid (show v0.cell? ⟨w4.heap.size, 0, none⟩ = some (.slice Gp0 DV.1.length Gc0) ∧ v0.cell? ⟨w4.heap.size, 1, none⟩ = some (.slice Gp1 DV.2.1.length Gc1) ∧ v0.cell? ⟨w4.heap.size, 2, none⟩ = some (.slice Gp2 DV.2.2.length Gc2) from by obtain ⟨z0, z1, z2⟩ := HKG.out; exact ⟨M.cell z0 (fun hh => by have := hh.2; omega), M.cell z1 (fun hh => by have := hh.2; omega), M.cell z2 (fun hh => by have := hh.2; omega)⟩)
  have hzv0 : w6.heap.size ≤ v0.heap.size := M.size
  clear M xc0 xc1
  obtain ⟨gc0, gc1, gc2⟩ := HKG.out
  obtain ⟨wc0, wc1, wc2⟩ := HWB.out v0 HBS.out
  have hk0n : ¬ k0 < 0 := by omega
  have HSG := Lib.hid (show ∀ b, Ival U3.heap.size w4.heap.size b → b < v0.heap.size from fun b hb => by have := hb.2; omega)
  go_wp2_with fail
  go_at_call 8
  (with_reducible refine (eqDomain_m _ _ DV DV (Ival U3.heap.size w4.heap.size) _ _ HRG.out (TW.out _ (B2.trans HBS.out)).1 HSG.out (TW.out _ (B2.trans HBS.out)).2).mono ?_)
  rintro e va ⟨rfl, gq⟩
  rw [decide_eq_true rfl]
  have HBW := Lib.hid (HBW.out.trans gq)
  have HBS := Lib.hid (HBS.out.trans gq)
  have HBB := Lib.hid (HBB.out.trans gq)
  have HRG := Lib.hid (aggR_bel domM_good HRG.out gq (fun b hb => by have := hb.2; omega))
  have HKG := Lib.hid (show va.cell? ⟨w4.heap.size, 0, none⟩ = some (.slice Gp0 DV.1.length Gc0) ∧ va.cell? ⟨w4.heap.size, 1, none⟩ = some (.slice Gp1 DV.2.1.length Gc1) ∧ va.cell? ⟨w4.heap.size, 2, none⟩ = some (.slice Gp2 DV.2.2.length Gc2) from ⟨gq.cell gc0, gq.cell gc1, gq.cell gc2⟩)
  have hzva : w6.heap.size ≤ va.heap.size := Nat.le_trans hzv0 gq.size
  clear gq gc0 gc1 gc2 wc0 wc1 wc2
  obtain ⟨gc0, gc1, gc2⟩ := HKG.out
  have hdl := HDL.out
  obtain ⟨mm, hmm⟩ : ∃ z : Int, (1 : Int) + ((domC (domN DV) : Nat) : Int) = z := ⟨_, rfl⟩
  have hm0 : 0 ≤ mm := by omega
  have hm1 : ¬ mm < 0 := by omega
  have HMM := Lib.hid hmm; clear hmm
  go_wp2_with fail
  refine (markDomain_m _ DV (Ival U3.heap.size w4.heap.size) 1 _ HRG.out (fun b hb => by have := hb.2; omega) (by decide) (by omega)).mono ?_
  rintro e vb ⟨rfl, RM, M⟩
  rw [HMM.out]
  have HBW := Lib.hid (Mut.bel HBW.out M (fun b hb => by have := hb.1; omega))
  have HBS := Lib.hid (Mut.bel HBS.out M (fun b hb => by have := hb.1; omega))
  have HBB := Lib.hid (Mut.bel HBB.out M (fun b hb => by have := hb.1; omega))
  have HRM := Lib.hid RM; clear RM
  have HKG := Lib.hid (show vb.cell? ⟨w4.heap.size, 0, none⟩ = some (.slice Gp0 DV.1.length Gc0) ∧ vb.cell? ⟨w4.heap.size, 1, none⟩ = some (.slice Gp1 DV.2.1.length Gc1) ∧ vb.cell? ⟨w4.heap.size, 2, none⟩ = some (.slice Gp2 DV.2.2.length Gc2) from ⟨M.cell gc0 (fun hh => by have := hh.2; omega), M.cell gc1 (fun hh => by have := hh.2; omega), M.cell gc2 (fun hh => by have := hh.2; omega)⟩)
  have hzvb : w6.heap.size ≤ vb.heap.size := Nat.le_trans hzva M.size
  clear M gc0 gc1 gc2
  obtain ⟨gc0, gc1, gc2⟩ := HKG.out
  go_wp2_with fail
  refine (heldDomain_m _ (domN DV) (Ival U3.heap.size w4.heap.size) 1 _ HRM.out (fun b hb => by have := hb.2; omega) (by decide) (by omega)).mono ?_
  rintro e vc ⟨rfl, gq⟩
  rw [HMM.out]
  have HKG := Lib.hid (show ∀ W, Bel vc W → W.cell? ⟨w4.heap.size, 0, none⟩ = some (.slice Gp0 DV.1.length Gc0) ∧ W.cell? ⟨w4.heap.size, 1, none⟩ = some (.slice Gp1 DV.2.1.length Gc1) ∧ W.cell? ⟨w4.heap.size, 2, none⟩ = some (.slice Gp2 DV.2.2.length Gc2) from fun W hW => ⟨hW.cell (gq.cell gc0), hW.cell (gq.cell gc1), hW.cell (gq.cell gc2)⟩)
  have HRM := Lib.hid (show ∀ W, Bel vc W → aggR domM (Ival U3.heap.size w4.heap.size) W _ _ from fun W hW => aggR_bel domM_good HRM.out (gq.trans hW) (fun b hb => by have := hb.2; omega))
  have HBW := Lib.hid (HBW.out.trans gq)
  have HBS := Lib.hid (HBS.out.trans gq)
  have HBB := Lib.hid (HBB.out.trans gq)
  have hzvc : w6.heap.size ≤ vc.heap.size := Nat.le_trans hzvb gq.size
  clear gq gc0 gc1 gc2
  obtain ⟨bc0, bc1⟩ := HB.out _ HBB.out
  have BW1 := HBW.out
  have hne : (mm != mm) = false := bne_self_eq_false mm
  go_wp2_with fail
  go_at_call 6; (with_reducible refine (toSchedule_rep _ x0 _ _ (H0.out _ (by (repeat (first | exact Bel.refl _ | apply Bel.drew | apply Bel.alloc | refine Bel.trans ?_ (by assumption))))).1 (H0.out _ (by (repeat (first | exact Bel.refl _ | apply Bel.drew | apply Bel.alloc | refine Bel.trans ?_ (by assumption))))).2 (by rw [HM0.out]; omega)).mono ?_); rintro e wt ⟨es, rfl, hr, gt⟩; have hr0 := hr; obtain ⟨zh0_0, zh0_1, rfl, qq0, qq1⟩ := schR_open hr; obtain ⟨zh0_0p, zh0_0c, rfl, _⟩ := sliceR_open qq0; obtain ⟨zh0_1p, zh0_1c, rfl, _⟩ := sliceR_open qq1; have Th0 := Lib.hid (stays_agg schR_good hr0); clear hr hr0
  go_wp2_with fail
  go_at_call 7
  (with_reducible refine (iSingletonDomain_any _ x0 _ _ (Th0.out _ (by (repeat (first | exact Bel.refl _ | apply Bel.drew | apply Bel.alloc | refine Bel.trans ?_ (by assumption))))).1 (Th0.out _ (by (repeat (first | exact Bel.refl _ | apply Bel.drew | apply Bel.alloc | refine Bel.trans ?_ (by assumption))))).2 (by rw [HM0.out]; omega)).mono ?_)
  rintro e w8 ⟨cs, rfl, hr, gt8⟩
  rw [HDV.out] at hr
  have TH0 := Lib.hid hr
  obtain ⟨y0, y1, y2, S1, S2, S3, rfl, t0, t1, t2, -⟩ := hr
  obtain ⟨Hp0, Hc0, rfl, -⟩ := sliceR_open t0
  obtain ⟨Hp1, Hc1, rfl, -⟩ := sliceR_open t1
  obtain ⟨Hp2, Hc2, rfl, -⟩ := matR_open t2
  clear t0 t1 t2
  have TH := Lib.hid (stays_agg domM_good TH0.out)
  have G8 : Bel vc w8 := by (repeat (first | exact Bel.refl _ | apply Bel.drew | apply Bel.alloc | refine Bel.trans ?_ (by assumption)))
  clear gt gt8 bc0 bc1
  obtain ⟨U8, hU8⟩ : ∃ W, W = w8.alloc (.cells #[.slice Hp0 DV.1.length Hc0, .slice Hp1 DV.2.1.length Hc1, .slice Hp2 DV.2.2.length Hc2] 28) := ⟨_, rfl⟩
  have B8 : Bel w8 U8 := by rw [hU8]; exact (Bel.refl _).alloc _
  have HHB : U8.cell? ⟨w8.heap.size, 0, none⟩ = some (.slice Hp0 DV.1.length Hc0) ∧ U8.cell? ⟨w8.heap.size, 1, none⟩ = some (.slice Hp1 DV.2.1.length Hc1) ∧ U8.cell? ⟨w8.heap.size, 2, none⟩ = some (.slice Hp2 DV.2.2.length Hc2) := by rw [hU8]; exact ⟨by simp [go_sem], by simp [go_sem], by simp [go_sem]⟩
  have HU8 := Lib.hid hU8
  have CH := Lib.hid (show Bel vc U8 ∧ True from ⟨G8.trans B8, trivial⟩)
  clear hU8
  obtain ⟨hc0, hc1, hc2⟩ := HHB
  obtain ⟨wc0, wc1, wc2⟩ := HWB.out w8 (HBS.out.trans G8)
  have awc0 := fun o => ((Bel.refl w8).alloc o).cell wc0
  have awc1 := fun o => ((Bel.refl w8).alloc o).cell wc1
  have awc2 := fun o => ((Bel.refl w8).alloc o).cell wc2
  go_wp2_with fail
  rw [← HU8.out]
  clear awc0 awc1 awc2
  go_at_call 8
  (with_reducible refine (eqDomain_m _ _ DV DV _ _ _ (TH.out _ B8).1 (TW.out _ (B2.trans (HBS.out.trans CH.out.1))).1 (TH.out _ B8).2 (TW.out _ (B2.trans (HBS.out.trans CH.out.1))).2).mono ?_)
  rintro e w9 ⟨rfl, gq⟩
  rw [decide_eq_true rfl]
  have G9 : Bel U8 w9 := by (repeat (first | exact Bel.refl _ | apply Bel.drew | apply Bel.alloc | refine Bel.trans ?_ (by assumption)))
  clear gq hc0 hc1 hc2 wc0 wc1 wc2
  obtain ⟨gc0, gc1, gc2⟩ := HKG.out w9 (CH.out.1.trans G9)
  have hq9 := (CH.out.1.trans G9).size
  go_wp2_with fail
  refine (heldDomain_m _ (domN DV) (Ival U3.heap.size w4.heap.size) 1 _ (HRM.out w9 (CH.out.1.trans G9)) (fun b hb => by have := hb.2; omega) (by decide) (by omega)).mono ?_
  rintro e wz ⟨rfl, gz⟩
  rw [HMM.out]
  have BF : Bel w wz := HBW.out.trans ((CH.out.1.trans G9).trans gz)
  go_wp2
  go_ret
  exact ⟨rfl, BF⟩
end Go.Proofs.Ytjeeajgijdcdbaa
