/- The walk of laws.FnExactFormatSchedule. -/
import Derived.Test.YtkfpciggolkjeaaDoorFmtSch
import Derived.Test.YtkfpciggolkjeaaDoorSz
import Derived.Test.YtkfpciggolkjeaaDoorTo
import Derived.Test.YtkfpciggolkjeaaDoorEq
import Derived.Test.YtkfpciggolkjeaaDoorKeep
import Derived.Test.YtkfpciggolkjeaaDoorSchForm
import Derived.Deep.RegionHeld3
namespace Go.Proofs.YtkfpciggolkjeaaDoor
open Go.ChangeShapes Go.WideShapes Go.ChangeAt Go.RowKit
set_option linter.unusedVariables false

set_option maxHeartbeats 1000000 in
theorem fnExactFormatSchedule_walk (v0 : Value) (x0 : ProjT) (v1 : Value) (x1 : SchT) (w : World) (h0 : aggR projR (Old w) w v0 x0) (h1 : aggR schR (Old w) w v1 x1) (htab : Lib.TabIs Tryd.prog w "internal/strconv.uint64pow10" .u64 Lib.pow10Tab) :
    Calls Tryd.prog 4 #[v0, v1] w fun e w' => e = .returned (.bool true) ∧ Bel w w' := by
  have HTB := Lib.hid htab
  clear htab
  obtain ⟨cs0, rfl, h0⟩ := h0
  have k0 := h0
  obtain ⟨c0_1, c0_2, c0_3, c0_4, rfl, q0_0, q0_1, q0_2, q0_3, q0_4⟩ := projR_open h0
  have H0 := Lib.hid (show ∀ W, Bel w W → aggR projR (Old w) W (.agg #[.int .i64 x0.1, c0_1, c0_2, c0_3, c0_4]) x0 ∧ (∀ b, Old w b → b < W.heap.size) from fun W hW => ⟨aggR_mk (projR_good.bel k0 hW (fun b hb => hb)), fun b hb => Nat.lt_of_lt_of_le hb hW.size⟩)
  clear k0
  clear h0
  clear q0_0 q0_1 q0_2 q0_3 q0_4
  obtain ⟨cs1, rfl, h1⟩ := h1
  have k1 := h1
  obtain ⟨c1_0, c1_1, rfl, q1_0, q1_1⟩ := schR_open h1
  have H1 := Lib.hid (show ∀ W, Bel w W → aggR schR (Old w) W (.agg #[c1_0, c1_1]) x1 ∧ (∀ b, Old w b → b < W.heap.size) from fun W hW => ⟨aggR_mk (schR_good.bel k1 hW (fun b hb => hb)), fun b hb => Nat.lt_of_lt_of_le hb hW.size⟩)
  clear k1
  clear h1
  clear q1_0 q1_1
  obtain ⟨m0, hm0⟩ : ∃ m, bulkProject x0 = m := ⟨_, rfl⟩
  have HM0 := Lib.hid hm0; clear hm0
  obtain ⟨m1, hm1⟩ : ∃ m, bulkSchedule x1 = m := ⟨_, rfl⟩
  have HM1 := Lib.hid hm1; clear hm1
  show Calls Tryd.prog 4 #[.agg #[.int .i64 x0.1, c0_1, c0_2, c0_3, c0_4], .agg #[c1_0, c1_1]] w _
  go_enter Tryd.func4, Tryd.ntmps4
  go_wp2_with fail
  refine (szProject_any _ x0 _ _ _ (H0.out _ (by (repeat (first | exact Bel.refl _ | apply Bel.drew | apply Bel.alloc | refine Bel.trans ?_ (by assumption))))).1 (H0.out _ (by (repeat (first | exact Bel.refl _ | apply Bel.drew | apply Bel.alloc | refine Bel.trans ?_ (by assumption))))).2 (by omega) (by omega)).mono ?_
  rintro e w1 ⟨rfl, gw1⟩
  rw [HM0.out]
  have HB := Lib.hid (show ∀ W, Bel w1 W → W.cell? ⟨w.heap.size, 0, none⟩ = some (.int .i64 x0.1) ∧ W.cell? ⟨w.heap.size, 1, none⟩ = some (c0_1) ∧ W.cell? ⟨w.heap.size, 2, none⟩ = some (c0_2) ∧ W.cell? ⟨w.heap.size, 3, none⟩ = some (c0_3) ∧ W.cell? ⟨w.heap.size, 4, none⟩ = some (c0_4) ∧ W.cell? ⟨w.heap.size + 1, 0, none⟩ = some (c1_0) ∧ W.cell? ⟨w.heap.size + 1, 1, none⟩ = some (c1_1) from fun W hW => ⟨hW.cell (gw1.cell (by simp [go_sem])), hW.cell (gw1.cell (by simp [go_sem])), hW.cell (gw1.cell (by simp [go_sem])), hW.cell (gw1.cell (by simp [go_sem])), hW.cell (gw1.cell (by simp [go_sem])), hW.cell (gw1.cell (by simp [go_sem])), hW.cell (gw1.cell (by simp [go_sem]))⟩)
  obtain ⟨bc0, bc1, bc2, bc3, bc4, bc5, bc6⟩ := HB.out w1 (by (repeat (first | exact Bel.refl _ | apply Bel.drew | apply Bel.alloc | refine Bel.trans ?_ (by assumption))))
  by_cases hfit0 : (m0 : Int) ≤ 1048576
  rotate_left
  · rw [szN_no (by omega)]
    go_wp2
    go_ret
    exact ⟨rfl, by (repeat (first | exact Bel.refl _ | apply Bel.drew | apply Bel.alloc | refine Bel.trans ?_ (by assumption)))⟩
  rw [szN_ok hfit0]
  go_wp2_with fail
  refine (szSchedule_any _ x1 _ _ _ (H1.out _ (by (repeat (first | exact Bel.refl _ | apply Bel.drew | apply Bel.alloc | refine Bel.trans ?_ (by assumption))))).1 (H1.out _ (by (repeat (first | exact Bel.refl _ | apply Bel.drew | apply Bel.alloc | refine Bel.trans ?_ (by assumption))))).2 (by omega) (by omega)).mono ?_
  rintro e w2 ⟨rfl, gw2⟩
  rw [HM1.out]
  obtain ⟨bc0, bc1, bc2, bc3, bc4, bc5, bc6⟩ := HB.out w2 (by (repeat (first | exact Bel.refl _ | apply Bel.drew | apply Bel.alloc | refine Bel.trans ?_ (by assumption))))
  by_cases hfit1 : (m1 : Int) ≤ 1048576 - m0
  rotate_left
  · rw [szN_no (by omega)]
    go_wp2
    go_ret
    exact ⟨rfl, by (repeat (first | exact Bel.refl _ | apply Bel.drew | apply Bel.alloc | refine Bel.trans ?_ (by assumption)))⟩
  rw [szN_ok hfit1]
  go_wp2_with fail
  go_region_held3 (fun W => W.cell? ⟨w.heap.size, 0, none⟩ = some (.int .i64 x0.1) ∧ W.cell? ⟨w.heap.size, 1, none⟩ = some (c0_1) ∧ W.cell? ⟨w.heap.size, 2, none⟩ = some (c0_2) ∧ W.cell? ⟨w.heap.size, 3, none⟩ = some (c0_3) ∧ W.cell? ⟨w.heap.size, 4, none⟩ = some (c0_4) ∧ W.cell? ⟨w.heap.size + 1, 0, none⟩ = some (c1_0) ∧ W.cell? ⟨w.heap.size + 1, 1, none⟩ = some (c1_1)) (first | exact keep7 (by assumption) (by assumption) | go_keep)
    (first | (go_at_call 7; (with_reducible refine (toProject_rep _ x0 _ _ (H0.out _ (by (repeat (first | exact Bel.refl _ | apply Bel.drew | apply Bel.alloc | refine Bel.trans ?_ (by assumption))))).1 (H0.out _ (by (repeat (first | exact Bel.refl _ | apply Bel.drew | apply Bel.alloc | refine Bel.trans ?_ (by assumption))))).2 (by rw [HM0.out]; omega)).mono ?_); rintro e wt ⟨es, rfl, hr, gt⟩; have hr0 := hr; obtain ⟨zs0_1, zs0_2, zs0_3, zs0_4, rfl, qq0, qq1, qq2, qq3, qq4⟩ := projR_open hr; obtain ⟨zs0_1p, zs0_1c, rfl, _⟩ := sliceR_open qq1; obtain ⟨zs0_2p, zs0_2c, rfl, _⟩ := sliceR_open qq2; obtain ⟨zs0_3p, zs0_3c, rfl, _⟩ := sliceR_open qq3; obtain ⟨zs0_4p, zs0_4c, rfl, _⟩ := sliceR_open qq4; have Ts0 := Lib.hid (stays_agg projR_good hr0); clear hr hr0) | (go_at_call 13; (with_reducible refine (toSchedule_rep _ x1 _ _ (H1.out _ (by (repeat (first | exact Bel.refl _ | apply Bel.drew | apply Bel.alloc | refine Bel.trans ?_ (by assumption))))).1 (H1.out _ (by (repeat (first | exact Bel.refl _ | apply Bel.drew | apply Bel.alloc | refine Bel.trans ?_ (by assumption))))).2 (by rw [HM1.out]; omega)).mono ?_); rintro e wt ⟨es, rfl, hr, gt⟩; have hr0 := hr; obtain ⟨zs1_0, zs1_1, rfl, qq0, qq1⟩ := schR_open hr; obtain ⟨zs1_0p, zs1_0c, rfl, _⟩ := sliceR_open qq0; obtain ⟨zs1_1p, zs1_1c, rfl, _⟩ := sliceR_open qq1; have Ts1 := Lib.hid (stays_agg schR_good hr0); clear hr hr0) | (go_at_call 12; (with_reducible refine (sFormatSchedule_any _ x0 _ _ x1 _ _ (Ts0.out _ (by (repeat (first | exact Bel.refl _ | apply Bel.drew | apply Bel.alloc | refine Bel.trans ?_ (by assumption))))).1 (Ts0.out _ (by (repeat (first | exact Bel.refl _ | apply Bel.drew | apply Bel.alloc | refine Bel.trans ?_ (by assumption))))).2 (by rw [HM0.out]; omega) (Ts1.out _ (by (repeat (first | exact Bel.refl _ | apply Bel.drew | apply Bel.alloc | refine Bel.trans ?_ (by assumption))))).1 (Ts1.out _ (by (repeat (first | exact Bel.refl _ | apply Bel.drew | apply Bel.alloc | refine Bel.trans ?_ (by assumption))))).2 (by rw [HM1.out]; omega)).mono ?_); rintro e wt ⟨rfl, gt⟩))
  clear bc0 bc1 bc2 bc3 bc4 bc5 bc6
  obtain ⟨w3, hw3⟩ : ∃ W, W = wt := ⟨wt, rfl⟩
  subst hw3
  obtain ⟨bc0, bc1, bc2, bc3, bc4, bc5, bc6⟩ := HB.out w3 (by (repeat (first | exact Bel.refl _ | apply Bel.drew | apply Bel.alloc | refine Bel.trans ?_ (by assumption))))
  go_wp2_with fail
  go_at_call 7; (with_reducible refine (toProject_rep _ x0 _ _ (H0.out _ (by (repeat (first | exact Bel.refl _ | apply Bel.drew | apply Bel.alloc | refine Bel.trans ?_ (by assumption))))).1 (H0.out _ (by (repeat (first | exact Bel.refl _ | apply Bel.drew | apply Bel.alloc | refine Bel.trans ?_ (by assumption))))).2 (by rw [HM0.out]; omega)).mono ?_); rintro e wt ⟨es, rfl, hr, gt⟩; have hr0 := hr; obtain ⟨zx0_1, zx0_2, zx0_3, zx0_4, rfl, qq0, qq1, qq2, qq3, qq4⟩ := projR_open hr; obtain ⟨zx0_1p, zx0_1c, rfl, _⟩ := sliceR_open qq1; obtain ⟨zx0_2p, zx0_2c, rfl, _⟩ := sliceR_open qq2; obtain ⟨zx0_3p, zx0_3c, rfl, _⟩ := sliceR_open qq3; obtain ⟨zx0_4p, zx0_4c, rfl, _⟩ := sliceR_open qq4; have Tx0 := Lib.hid (stays_agg projR_good hr0); clear hr hr0
  obtain ⟨w4, hw4⟩ : ∃ W, W = wt := ⟨wt, rfl⟩
  subst hw4
  have gw4 := gt; clear gt
  clear bc0 bc1 bc2 bc3 bc4 bc5 bc6
  obtain ⟨bc0, bc1, bc2, bc3, bc4, bc5, bc6⟩ := HB.out w4 (by (repeat (first | exact Bel.refl _ | apply Bel.drew | apply Bel.alloc | refine Bel.trans ?_ (by assumption))))
  have abc0 := fun o => ((Bel.refl w4).alloc o).cell bc0
  have abc1 := fun o => ((Bel.refl w4).alloc o).cell bc1
  have abc2 := fun o => ((Bel.refl w4).alloc o).cell bc2
  have abc3 := fun o => ((Bel.refl w4).alloc o).cell bc3
  have abc4 := fun o => ((Bel.refl w4).alloc o).cell bc4
  have abc5 := fun o => ((Bel.refl w4).alloc o).cell bc5
  have abc6 := fun o => ((Bel.refl w4).alloc o).cell bc6
  go_wp2_with fail
  go_at_call 13; (with_reducible refine (toSchedule_rep _ x1 _ _ (H1.out _ (by (repeat (first | exact Bel.refl _ | apply Bel.drew | apply Bel.alloc | refine Bel.trans ?_ (by assumption))))).1 (H1.out _ (by (repeat (first | exact Bel.refl _ | apply Bel.drew | apply Bel.alloc | refine Bel.trans ?_ (by assumption))))).2 (by rw [HM1.out]; omega)).mono ?_); rintro e wt ⟨es, rfl, hr, gt⟩; have hr0 := hr; obtain ⟨zx1_0, zx1_1, rfl, qq0, qq1⟩ := schR_open hr; obtain ⟨zx1_0p, zx1_0c, rfl, _⟩ := sliceR_open qq0; obtain ⟨zx1_1p, zx1_1c, rfl, _⟩ := sliceR_open qq1; have Tx1 := Lib.hid (stays_agg schR_good hr0); clear hr hr0
  obtain ⟨w5, hw5⟩ : ∃ W, W = wt := ⟨wt, rfl⟩
  subst hw5
  have gw5 := gt; clear gt
  clear abc0 abc1 abc2 abc3 abc4 abc5 abc6 bc0 bc1 bc2 bc3 bc4 bc5 bc6
  have HX0 := Lib.hid (show ∀ W, Bel w5 W → W.cell? ⟨w4.heap.size, 0, none⟩ = some (.int .i64 x0.1) ∧ W.cell? ⟨w4.heap.size, 1, none⟩ = some (.slice zx0_1p (x0.2.1).length zx0_1c) ∧ W.cell? ⟨w4.heap.size, 2, none⟩ = some (.slice zx0_2p (x0.2.2.1).length zx0_2c) ∧ W.cell? ⟨w4.heap.size, 3, none⟩ = some (.slice zx0_3p (x0.2.2.2.1).length zx0_3c) ∧ W.cell? ⟨w4.heap.size, 4, none⟩ = some (.slice zx0_4p (x0.2.2.2.2).length zx0_4c) from fun W hW => ⟨hW.cell (gw5.cell (by simp [go_sem])), hW.cell (gw5.cell (by simp [go_sem])), hW.cell (gw5.cell (by simp [go_sem])), hW.cell (gw5.cell (by simp [go_sem])), hW.cell (gw5.cell (by simp [go_sem]))⟩)
  obtain ⟨bc0, bc1, bc2, bc3, bc4, bc5, bc6⟩ := HB.out w5 (by (repeat (first | exact Bel.refl _ | apply Bel.drew | apply Bel.alloc | refine Bel.trans ?_ (by assumption))))
  obtain ⟨xc0_0, xc0_1, xc0_2, xc0_3, xc0_4⟩ := HX0.out w5 (by (repeat (first | exact Bel.refl _ | apply Bel.drew | apply Bel.alloc | refine Bel.trans ?_ (by assumption))))
  have abc0 := fun o => ((Bel.refl w5).alloc o).cell bc0
  have abc1 := fun o => ((Bel.refl w5).alloc o).cell bc1
  have abc2 := fun o => ((Bel.refl w5).alloc o).cell bc2
  have abc3 := fun o => ((Bel.refl w5).alloc o).cell bc3
  have abc4 := fun o => ((Bel.refl w5).alloc o).cell bc4
  have abc5 := fun o => ((Bel.refl w5).alloc o).cell bc5
  have abc6 := fun o => ((Bel.refl w5).alloc o).cell bc6
  have axc0_0 := fun o => ((Bel.refl w5).alloc o).cell xc0_0
  have axc0_1 := fun o => ((Bel.refl w5).alloc o).cell xc0_1
  have axc0_2 := fun o => ((Bel.refl w5).alloc o).cell xc0_2
  have axc0_3 := fun o => ((Bel.refl w5).alloc o).cell xc0_3
  have axc0_4 := fun o => ((Bel.refl w5).alloc o).cell xc0_4
  go_wp2_with fail
  go_at_call 14; (with_reducible refine (iFormatSchedule_any _ x0 _ _ x1 _ _ (Tx0.out _ (by (repeat (first | exact Bel.refl _ | apply Bel.drew | apply Bel.alloc | refine Bel.trans ?_ (by assumption))))).1 (Tx0.out _ (by (repeat (first | exact Bel.refl _ | apply Bel.drew | apply Bel.alloc | refine Bel.trans ?_ (by assumption))))).2 (by rw [HM0.out]; omega) (Tx1.out _ (by (repeat (first | exact Bel.refl _ | apply Bel.drew | apply Bel.alloc | refine Bel.trans ?_ (by assumption))))).1 (Tx1.out _ (by (repeat (first | exact Bel.refl _ | apply Bel.drew | apply Bel.alloc | refine Bel.trans ?_ (by assumption))))).2 (by rw [HM1.out]; omega) (tabIs_bel HTB.out (by (repeat (first | exact Bel.refl _ | apply Bel.drew | apply Bel.alloc | refine Bel.trans ?_ (by assumption)))))).mono ?_); rintro e wt ⟨rfl, gt⟩
  obtain ⟨w6, hw6⟩ : ∃ W, W = wt := ⟨wt, rfl⟩
  subst hw6
  have gw6 := gt; clear gt
  clear abc0 abc1 abc2 abc3 abc4 abc5 abc6 axc0_0 axc0_1 axc0_2 axc0_3 axc0_4 bc0 bc1 bc2 bc3 bc4 bc5 bc6 xc0_0 xc0_1 xc0_2 xc0_3 xc0_4
  have HX1 := Lib.hid (show ∀ W, Bel w6 W → W.cell? ⟨w5.heap.size, 0, none⟩ = some (.slice zx1_0p (x1.1).length zx1_0c) ∧ W.cell? ⟨w5.heap.size, 1, none⟩ = some (.slice zx1_1p (x1.2).length zx1_1c) from fun W hW => ⟨hW.cell (gw6.cell (by simp [go_sem])), hW.cell (gw6.cell (by simp [go_sem]))⟩)
  obtain ⟨bc0, bc1, bc2, bc3, bc4, bc5, bc6⟩ := HB.out w6 (by (repeat (first | exact Bel.refl _ | apply Bel.drew | apply Bel.alloc | refine Bel.trans ?_ (by assumption))))
  obtain ⟨xc0_0, xc0_1, xc0_2, xc0_3, xc0_4⟩ := HX0.out w6 (by (repeat (first | exact Bel.refl _ | apply Bel.drew | apply Bel.alloc | refine Bel.trans ?_ (by assumption))))
  obtain ⟨xc1_0, xc1_1⟩ := HX1.out w6 (by (repeat (first | exact Bel.refl _ | apply Bel.drew | apply Bel.alloc | refine Bel.trans ?_ (by assumption))))
  go_wp2_with fail
  go_region_held3 (fun W => W.cell? ⟨w4.heap.size, 0, none⟩ = some (.int .i64 x0.1) ∧ W.cell? ⟨w4.heap.size, 1, none⟩ = some (.slice zx0_1p (x0.2.1).length zx0_1c) ∧ W.cell? ⟨w4.heap.size, 2, none⟩ = some (.slice zx0_2p (x0.2.2.1).length zx0_2c) ∧ W.cell? ⟨w4.heap.size, 3, none⟩ = some (.slice zx0_3p (x0.2.2.2.1).length zx0_3c) ∧ W.cell? ⟨w4.heap.size, 4, none⟩ = some (.slice zx0_4p (x0.2.2.2.2).length zx0_4c) ∧ W.cell? ⟨w.heap.size, 0, none⟩ = some (.int .i64 x0.1) ∧ W.cell? ⟨w.heap.size, 1, none⟩ = some (c0_1) ∧ W.cell? ⟨w.heap.size, 2, none⟩ = some (c0_2) ∧ W.cell? ⟨w.heap.size, 3, none⟩ = some (c0_3) ∧ W.cell? ⟨w.heap.size, 4, none⟩ = some (c0_4)) (first | exact keep10 (by assumption) (by assumption) | go_keep)
    (first | (go_at_call 7; (with_reducible refine (toProject_rep _ x0 _ _ (H0.out _ (by (repeat (first | exact Bel.refl _ | apply Bel.drew | apply Bel.alloc | refine Bel.trans ?_ (by assumption))))).1 (H0.out _ (by (repeat (first | exact Bel.refl _ | apply Bel.drew | apply Bel.alloc | refine Bel.trans ?_ (by assumption))))).2 (by rw [HM0.out]; omega)).mono ?_); rintro e wt ⟨es, rfl, hr, gt⟩; have hr0 := hr; obtain ⟨ze00_1, ze00_2, ze00_3, ze00_4, rfl, qq0, qq1, qq2, qq3, qq4⟩ := projR_open hr; obtain ⟨ze00_1p, ze00_1c, rfl, _⟩ := sliceR_open qq1; obtain ⟨ze00_2p, ze00_2c, rfl, _⟩ := sliceR_open qq2; obtain ⟨ze00_3p, ze00_3c, rfl, _⟩ := sliceR_open qq3; obtain ⟨ze00_4p, ze00_4c, rfl, _⟩ := sliceR_open qq4; have Te00 := Lib.hid (stays_agg projR_good hr0); clear hr hr0) | (go_at_call 10; (with_reducible refine (eqProject_rep _ _ x0 x0 _ _ _ (Tx0.out _ (by (repeat (first | exact Bel.refl _ | apply Bel.drew | apply Bel.alloc | refine Bel.trans ?_ (by assumption))))).1 (Te00.out _ (by (repeat (first | exact Bel.refl _ | apply Bel.drew | apply Bel.alloc | refine Bel.trans ?_ (by assumption))))).1 (Tx0.out _ (by (repeat (first | exact Bel.refl _ | apply Bel.drew | apply Bel.alloc | refine Bel.trans ?_ (by assumption))))).2 (Te00.out _ (by (repeat (first | exact Bel.refl _ | apply Bel.drew | apply Bel.alloc | refine Bel.trans ?_ (by assumption))))).2).mono ?_); rintro e wt ⟨rfl, gt⟩))
  clear bc0 bc1 bc2 bc3 bc4 bc5 bc6 xc0_0 xc0_1 xc0_2 xc0_3 xc0_4 xc1_0 xc1_1
  obtain ⟨w7, hw7⟩ : ∃ W, W = wt := ⟨wt, rfl⟩
  subst hw7
  obtain ⟨bc0, bc1, bc2, bc3, bc4, bc5, bc6⟩ := HB.out w7 (by (repeat (first | exact Bel.refl _ | apply Bel.drew | apply Bel.alloc | refine Bel.trans ?_ (by assumption))))
  obtain ⟨xc0_0, xc0_1, xc0_2, xc0_3, xc0_4⟩ := HX0.out w7 (by (repeat (first | exact Bel.refl _ | apply Bel.drew | apply Bel.alloc | refine Bel.trans ?_ (by assumption))))
  obtain ⟨xc1_0, xc1_1⟩ := HX1.out w7 (by (repeat (first | exact Bel.refl _ | apply Bel.drew | apply Bel.alloc | refine Bel.trans ?_ (by assumption))))
  try rw [decide_eq_true rfl]
  go_wp2_with fail
  go_region_held3 (fun W => W.cell? ⟨w5.heap.size, 0, none⟩ = some (.slice zx1_0p (x1.1).length zx1_0c) ∧ W.cell? ⟨w5.heap.size, 1, none⟩ = some (.slice zx1_1p (x1.2).length zx1_1c) ∧ W.cell? ⟨w.heap.size + 1, 0, none⟩ = some (c1_0) ∧ W.cell? ⟨w.heap.size + 1, 1, none⟩ = some (c1_1)) (first | exact keep4 (by assumption) (by assumption) | go_keep)
    (first | (go_at_call 13; (with_reducible refine (toSchedule_rep _ x1 _ _ (H1.out _ (by (repeat (first | exact Bel.refl _ | apply Bel.drew | apply Bel.alloc | refine Bel.trans ?_ (by assumption))))).1 (H1.out _ (by (repeat (first | exact Bel.refl _ | apply Bel.drew | apply Bel.alloc | refine Bel.trans ?_ (by assumption))))).2 (by rw [HM1.out]; omega)).mono ?_); rintro e wt ⟨es, rfl, hr, gt⟩; have hr0 := hr; obtain ⟨ze11_0, ze11_1, rfl, qq0, qq1⟩ := schR_open hr; obtain ⟨ze11_0p, ze11_0c, rfl, _⟩ := sliceR_open qq0; obtain ⟨ze11_1p, ze11_1c, rfl, _⟩ := sliceR_open qq1; have Te11 := Lib.hid (stays_agg schR_good hr0); clear hr hr0) | (go_at_call 15; (with_reducible refine (eqSchedule_rep _ _ x1 x1 _ _ _ (Tx1.out _ (by (repeat (first | exact Bel.refl _ | apply Bel.drew | apply Bel.alloc | refine Bel.trans ?_ (by assumption))))).1 (Te11.out _ (by (repeat (first | exact Bel.refl _ | apply Bel.drew | apply Bel.alloc | refine Bel.trans ?_ (by assumption))))).1 (Tx1.out _ (by (repeat (first | exact Bel.refl _ | apply Bel.drew | apply Bel.alloc | refine Bel.trans ?_ (by assumption))))).2 (Te11.out _ (by (repeat (first | exact Bel.refl _ | apply Bel.drew | apply Bel.alloc | refine Bel.trans ?_ (by assumption))))).2).mono ?_); rintro e wt ⟨rfl, gt⟩))
  clear bc0 bc1 bc2 bc3 bc4 bc5 bc6 xc0_0 xc0_1 xc0_2 xc0_3 xc0_4 xc1_0 xc1_1
  obtain ⟨w8, hw8⟩ : ∃ W, W = wt := ⟨wt, rfl⟩
  subst hw8
  obtain ⟨bc0, bc1, bc2, bc3, bc4, bc5, bc6⟩ := HB.out w8 (by (repeat (first | exact Bel.refl _ | apply Bel.drew | apply Bel.alloc | refine Bel.trans ?_ (by assumption))))
  obtain ⟨xc0_0, xc0_1, xc0_2, xc0_3, xc0_4⟩ := HX0.out w8 (by (repeat (first | exact Bel.refl _ | apply Bel.drew | apply Bel.alloc | refine Bel.trans ?_ (by assumption))))
  obtain ⟨xc1_0, xc1_1⟩ := HX1.out w8 (by (repeat (first | exact Bel.refl _ | apply Bel.drew | apply Bel.alloc | refine Bel.trans ?_ (by assumption))))
  try rw [decide_eq_true rfl]
  go_wp2
  go_ret
  exact ⟨rfl, by (repeat (first | exact Bel.refl _ | apply Bel.drew | apply Bel.alloc | refine Bel.trans ?_ (by assumption)))⟩
end Go.Proofs.YtkfpciggolkjeaaDoor
