/- The walk of laws.FnExactClauseStatus. -/
import Derived.Test.YtcbiknpbbldmbaaClStat
import Derived.Test.YtcbiknpbbldmbaaLit
import Derived.Test.YtcbiknpbbldmbaaEq
import Derived.Test.YtcbiknpbbldmbaaSz
import Derived.Test.YtcbiknpbbldmbaaTo
import Derived.Deep.RegionHeld3
namespace Go.Proofs.Ytcbiknpbbldmbaa
open Go.ChangeShapes Go.WideShapes Go.ChangeAt Go.RowKit
set_option linter.unusedVariables false

set_option maxHeartbeats 1000000 in
theorem fnExactClauseStatus_walk (v0 : Value) (x0 : DomT) (v1 : Value) (x1 : List (LitT)) (w : World) (h0 : aggR domR (Old w) w v0 x0) (h1 : litsR (Old w) w [v1] x1) :
    Calls Try.prog 13 #[v0, v1] w fun e w' => e = .returned (.bool true) ∧ Bel w w' := by
  obtain ⟨cs0, rfl, h0⟩ := h0
  have k0 := h0
  obtain ⟨c0_0, c0_1, c0_2, rfl, q0_0, q0_1, q0_2⟩ := domR_open h0
  have H0 := Lib.hid (show ∀ W, Bel w W → aggR domR (Old w) W (.agg #[c0_0, c0_1, c0_2]) x0 ∧ (∀ b, Old w b → b < W.heap.size) from fun W hW => ⟨aggR_mk (domR_good.bel k0 hW (fun b hb => hb)), fun b hb => Nat.lt_of_lt_of_le hb hW.size⟩)
  clear k0
  clear h0
  clear q0_0 q0_1 q0_2
  have H1 := Lib.hid (show ∀ W, Bel w W → litsR (Old w) W [v1] x1 ∧ (∀ b, Old w b → b < W.heap.size) from fun W hW => ⟨litsR_good.bel h1 hW (fun b hb => hb), fun b hb => Nat.lt_of_lt_of_le hb hW.size⟩)
  obtain ⟨p1, cap1, rfl, _⟩ := sliceR_open h1
  clear h1
  obtain ⟨m0, hm0⟩ : ∃ m, bulkDomain x0 = m := ⟨_, rfl⟩
  have HM0 := Lib.hid hm0; clear hm0
  obtain ⟨m1, hm1⟩ : ∃ m, bulkLiteralS x1 = m := ⟨_, rfl⟩
  have HM1 := Lib.hid hm1; clear hm1
  show Calls Try.prog 13 #[.agg #[c0_0, c0_1, c0_2], .slice p1 x1.length cap1] w _
  go_enter Try.func13, Try.ntmps13
  go_wp2_with fail
  refine (szDomain_any _ x0 _ _ _ (H0.out _ (by (repeat (first | exact Bel.refl _ | apply Bel.drew | apply Bel.alloc | refine Bel.trans ?_ (by assumption))))).1 (H0.out _ (by (repeat (first | exact Bel.refl _ | apply Bel.drew | apply Bel.alloc | refine Bel.trans ?_ (by assumption))))).2 (by omega) (by omega)).mono ?_
  rintro e w1 ⟨rfl, gw1⟩
  rw [HM0.out]
  have HB := Lib.hid (show ∀ W, Bel w1 W → W.cell? ⟨w.heap.size, 0, none⟩ = some (c0_0) ∧ W.cell? ⟨w.heap.size, 1, none⟩ = some (c0_1) ∧ W.cell? ⟨w.heap.size, 2, none⟩ = some (c0_2) from fun W hW => ⟨hW.cell (gw1.cell (by simp [go_sem])), hW.cell (gw1.cell (by simp [go_sem])), hW.cell (gw1.cell (by simp [go_sem]))⟩)
  obtain ⟨bc0, bc1, bc2⟩ := HB.out w1 (by (repeat (first | exact Bel.refl _ | apply Bel.drew | apply Bel.alloc | refine Bel.trans ?_ (by assumption))))
  by_cases hfit0 : (m0 : Int) ≤ 1048576
  rotate_left
  · rw [szN_no (by omega)]
    go_wp2
    go_ret
    exact ⟨rfl, by (repeat (first | exact Bel.refl _ | apply Bel.drew | apply Bel.alloc | refine Bel.trans ?_ (by assumption)))⟩
  rw [szN_ok hfit0]
  go_wp2_with fail
  refine (szLiteralS_any _ x1 _ _ _ (H1.out _ (by (repeat (first | exact Bel.refl _ | apply Bel.drew | apply Bel.alloc | refine Bel.trans ?_ (by assumption))))).1 (H1.out _ (by (repeat (first | exact Bel.refl _ | apply Bel.drew | apply Bel.alloc | refine Bel.trans ?_ (by assumption))))).2 (by omega) (by omega)).mono ?_
  rintro e w2 ⟨rfl, gw2⟩
  rw [HM1.out]
  obtain ⟨bc0, bc1, bc2⟩ := HB.out w2 (by (repeat (first | exact Bel.refl _ | apply Bel.drew | apply Bel.alloc | refine Bel.trans ?_ (by assumption))))
  by_cases hfit1 : (m1 : Int) ≤ 1048576 - m0
  rotate_left
  · rw [szN_no (by omega)]
    go_wp2
    go_ret
    exact ⟨rfl, by (repeat (first | exact Bel.refl _ | apply Bel.drew | apply Bel.alloc | refine Bel.trans ?_ (by assumption)))⟩
  rw [szN_ok hfit1]
  go_wp2_with fail
  go_at_call 30; (with_reducible refine (toDomain_rep _ x0 _ _ (H0.out _ (by (repeat (first | exact Bel.refl _ | apply Bel.drew | apply Bel.alloc | refine Bel.trans ?_ (by assumption))))).1 (H0.out _ (by (repeat (first | exact Bel.refl _ | apply Bel.drew | apply Bel.alloc | refine Bel.trans ?_ (by assumption))))).2 (by rw [HM0.out]; omega)).mono ?_); rintro e wt ⟨es, rfl, hr, gt⟩; have hr0 := hr; obtain ⟨zs0_0, zs0_1, zs0_2, rfl, qq0, qq1, qq2⟩ := domR_open hr; obtain ⟨zs0_0p, zs0_0c, rfl, _⟩ := sliceR_open qq0; obtain ⟨zs0_1p, zs0_1c, rfl, _⟩ := sliceR_open qq1; obtain ⟨zs0_2p, zs0_2c, rfl, _⟩ := sliceR_open qq2; have Ts0 := Lib.hid (stays_agg domR_good hr0); clear hr hr0
  go_wp2_with fail
  go_at_call 23; (with_reducible refine (toLiteralS_rep _ x1 _ _ (H1.out _ (by (repeat (first | exact Bel.refl _ | apply Bel.drew | apply Bel.alloc | refine Bel.trans ?_ (by assumption))))).1 (H1.out _ (by (repeat (first | exact Bel.refl _ | apply Bel.drew | apply Bel.alloc | refine Bel.trans ?_ (by assumption))))).2 (by rw [HM1.out]; omega)).mono ?_); rintro e wt ⟨vz, rfl, hr, gt⟩; obtain ⟨zs1p, zs1c, rfl, _⟩ := sliceR_open hr; have Ts1 := Lib.hid (stays_one litsR_good hr); clear hr
  go_wp2_with fail
  go_at_call 50; (with_reducible refine (sClauseStatus_any _ x0 _ _ x1 _ _ (Ts0.out _ (by (repeat (first | exact Bel.refl _ | apply Bel.drew | apply Bel.alloc | refine Bel.trans ?_ (by assumption))))).1 (Ts0.out _ (by (repeat (first | exact Bel.refl _ | apply Bel.drew | apply Bel.alloc | refine Bel.trans ?_ (by assumption))))).2 (by rw [HM0.out]; omega) (Ts1.out _ (by (repeat (first | exact Bel.refl _ | apply Bel.drew | apply Bel.alloc | refine Bel.trans ?_ (by assumption))))).1 (Ts1.out _ (by (repeat (first | exact Bel.refl _ | apply Bel.drew | apply Bel.alloc | refine Bel.trans ?_ (by assumption))))).2 (by rw [HM1.out]; omega)).mono ?_); rintro e wt ⟨rfl, gt⟩
  clear bc0 bc1 bc2
  obtain ⟨w3, hw3⟩ : ∃ W, W = wt := ⟨wt, rfl⟩
  subst hw3
  obtain ⟨bc0, bc1, bc2⟩ := HB.out w3 (by (repeat (first | exact Bel.refl _ | apply Bel.drew | apply Bel.alloc | refine Bel.trans ?_ (by assumption))))
  have abc0 := fun o => ((Bel.refl w3).alloc o).cell bc0
  have abc1 := fun o => ((Bel.refl w3).alloc o).cell bc1
  have abc2 := fun o => ((Bel.refl w3).alloc o).cell bc2
  go_wp2_with fail
  go_at_call 30; (with_reducible refine (toDomain_rep _ x0 _ _ (H0.out _ (by (repeat (first | exact Bel.refl _ | apply Bel.drew | apply Bel.alloc | refine Bel.trans ?_ (by assumption))))).1 (H0.out _ (by (repeat (first | exact Bel.refl _ | apply Bel.drew | apply Bel.alloc | refine Bel.trans ?_ (by assumption))))).2 (by rw [HM0.out]; omega)).mono ?_); rintro e wt ⟨es, rfl, hr, gt⟩; have hr0 := hr; obtain ⟨zx0_0, zx0_1, zx0_2, rfl, qq0, qq1, qq2⟩ := domR_open hr; obtain ⟨zx0_0p, zx0_0c, rfl, _⟩ := sliceR_open qq0; obtain ⟨zx0_1p, zx0_1c, rfl, _⟩ := sliceR_open qq1; obtain ⟨zx0_2p, zx0_2c, rfl, _⟩ := sliceR_open qq2; have Tx0 := Lib.hid (stays_agg domR_good hr0); clear hr hr0
  obtain ⟨w4, hw4⟩ : ∃ W, W = wt := ⟨wt, rfl⟩
  subst hw4
  have gw4 := gt; clear gt
  clear abc0 abc1 abc2 bc0 bc1 bc2
  have HRS := Lib.hid (show ∀ W, Bel w4 W → W.cell? ⟨w3.heap.size, 0, none⟩ = some (.int .i64 (clStatus x0 x1).2.1) ∧ W.cell? ⟨w3.heap.size, 1, none⟩ = some (.int .i64 (clStatus x0 x1).2.2.1) ∧ W.cell? ⟨w3.heap.size, 2, none⟩ = some (.int .i64 (clStatus x0 x1).2.2.2) from fun W hW => ⟨hW.cell (gw4.cell (by simp [go_sem])), hW.cell (gw4.cell (by simp [go_sem])), hW.cell (gw4.cell (by simp [go_sem]))⟩)
  obtain ⟨bc0, bc1, bc2⟩ := HB.out w4 (by (repeat (first | exact Bel.refl _ | apply Bel.drew | apply Bel.alloc | refine Bel.trans ?_ (by assumption))))
  obtain ⟨rs0, rs1, rs2⟩ := HRS.out w4 (by (repeat (first | exact Bel.refl _ | apply Bel.drew | apply Bel.alloc | refine Bel.trans ?_ (by assumption))))
  have abc0 := fun o => ((Bel.refl w4).alloc o).cell bc0
  have abc1 := fun o => ((Bel.refl w4).alloc o).cell bc1
  have abc2 := fun o => ((Bel.refl w4).alloc o).cell bc2
  have ars0 := fun o => ((Bel.refl w4).alloc o).cell rs0
  have ars1 := fun o => ((Bel.refl w4).alloc o).cell rs1
  have ars2 := fun o => ((Bel.refl w4).alloc o).cell rs2
  go_wp2_with fail
  go_at_call 23; (with_reducible refine (toLiteralS_rep _ x1 _ _ (H1.out _ (by (repeat (first | exact Bel.refl _ | apply Bel.drew | apply Bel.alloc | refine Bel.trans ?_ (by assumption))))).1 (H1.out _ (by (repeat (first | exact Bel.refl _ | apply Bel.drew | apply Bel.alloc | refine Bel.trans ?_ (by assumption))))).2 (by rw [HM1.out]; omega)).mono ?_); rintro e wt ⟨vz, rfl, hr, gt⟩; obtain ⟨zx1p, zx1c, rfl, _⟩ := sliceR_open hr; have Tx1 := Lib.hid (stays_one litsR_good hr); clear hr
  obtain ⟨w5, hw5⟩ : ∃ W, W = wt := ⟨wt, rfl⟩
  subst hw5
  have gw5 := gt; clear gt
  clear abc0 abc1 abc2 ars0 ars1 ars2 bc0 bc1 bc2 rs0 rs1 rs2
  have HX0 := Lib.hid (show ∀ W, Bel w5 W → W.cell? ⟨w4.heap.size, 0, none⟩ = some (.slice zx0_0p (x0.1).length zx0_0c) ∧ W.cell? ⟨w4.heap.size, 1, none⟩ = some (.slice zx0_1p (x0.2.1).length zx0_1c) ∧ W.cell? ⟨w4.heap.size, 2, none⟩ = some (.slice zx0_2p (x0.2.2).length zx0_2c) from fun W hW => ⟨hW.cell (gw5.cell (by simp [go_sem])), hW.cell (gw5.cell (by simp [go_sem])), hW.cell (gw5.cell (by simp [go_sem]))⟩)
  obtain ⟨bc0, bc1, bc2⟩ := HB.out w5 (by (repeat (first | exact Bel.refl _ | apply Bel.drew | apply Bel.alloc | refine Bel.trans ?_ (by assumption))))
  obtain ⟨rs0, rs1, rs2⟩ := HRS.out w5 (by (repeat (first | exact Bel.refl _ | apply Bel.drew | apply Bel.alloc | refine Bel.trans ?_ (by assumption))))
  obtain ⟨xc0_0, xc0_1, xc0_2⟩ := HX0.out w5 (by (repeat (first | exact Bel.refl _ | apply Bel.drew | apply Bel.alloc | refine Bel.trans ?_ (by assumption))))
  go_wp2_with fail
  go_at_call 51; (with_reducible refine (iClauseStatus_any _ x0 _ _ x1 _ _ (Tx0.out _ (by (repeat (first | exact Bel.refl _ | apply Bel.drew | apply Bel.alloc | refine Bel.trans ?_ (by assumption))))).1 (Tx0.out _ (by (repeat (first | exact Bel.refl _ | apply Bel.drew | apply Bel.alloc | refine Bel.trans ?_ (by assumption))))).2 (by rw [HM0.out]; omega) (Tx1.out _ (by (repeat (first | exact Bel.refl _ | apply Bel.drew | apply Bel.alloc | refine Bel.trans ?_ (by assumption))))).1 (Tx1.out _ (by (repeat (first | exact Bel.refl _ | apply Bel.drew | apply Bel.alloc | refine Bel.trans ?_ (by assumption))))).2 (by rw [HM1.out]; omega)).mono ?_); rintro e wt ⟨rfl, gt⟩
  obtain ⟨w6, hw6⟩ : ∃ W, W = wt := ⟨wt, rfl⟩
  subst hw6
  have gw6 := gt; clear gt
  clear bc0 bc1 bc2 rs0 rs1 rs2 xc0_0 xc0_1 xc0_2
  obtain ⟨bc0, bc1, bc2⟩ := HB.out w6 (by (repeat (first | exact Bel.refl _ | apply Bel.drew | apply Bel.alloc | refine Bel.trans ?_ (by assumption))))
  obtain ⟨rs0, rs1, rs2⟩ := HRS.out w6 (by (repeat (first | exact Bel.refl _ | apply Bel.drew | apply Bel.alloc | refine Bel.trans ?_ (by assumption))))
  obtain ⟨xc0_0, xc0_1, xc0_2⟩ := HX0.out w6 (by (repeat (first | exact Bel.refl _ | apply Bel.drew | apply Bel.alloc | refine Bel.trans ?_ (by assumption))))
  have abc0 := fun o => ((Bel.refl w6).alloc o).cell bc0
  have abc1 := fun o => ((Bel.refl w6).alloc o).cell bc1
  have abc2 := fun o => ((Bel.refl w6).alloc o).cell bc2
  have ars0 := fun o => ((Bel.refl w6).alloc o).cell rs0
  have ars1 := fun o => ((Bel.refl w6).alloc o).cell rs1
  have ars2 := fun o => ((Bel.refl w6).alloc o).cell rs2
  have axc0_0 := fun o => ((Bel.refl w6).alloc o).cell xc0_0
  have axc0_1 := fun o => ((Bel.refl w6).alloc o).cell xc0_1
  have axc0_2 := fun o => ((Bel.refl w6).alloc o).cell xc0_2
  go_wp2_with fail
  go_at_call 52; (with_reducible refine (eqLiteral_self _ _ _ _).mono ?_); rintro e wt ⟨rfl, gt⟩
  obtain ⟨w7, hw7⟩ : ∃ W, W = wt := ⟨wt, rfl⟩
  subst hw7
  have gw7 := gt; clear gt
  clear abc0 abc1 abc2 ars0 ars1 ars2 axc0_0 axc0_1 axc0_2 bc0 bc1 bc2 rs0 rs1 rs2 xc0_0 xc0_1 xc0_2
  have HRI := Lib.hid (show ∀ W, Bel w7 W → W.cell? ⟨w6.heap.size, 0, none⟩ = some (.int .i64 (clStatus x0 x1).2.1) ∧ W.cell? ⟨w6.heap.size, 1, none⟩ = some (.int .i64 (clStatus x0 x1).2.2.1) ∧ W.cell? ⟨w6.heap.size, 2, none⟩ = some (.int .i64 (clStatus x0 x1).2.2.2) from fun W hW => ⟨hW.cell (gw7.cell (by simp [go_sem])), hW.cell (gw7.cell (by simp [go_sem])), hW.cell (gw7.cell (by simp [go_sem]))⟩)
  obtain ⟨bc0, bc1, bc2⟩ := HB.out w7 (by (repeat (first | exact Bel.refl _ | apply Bel.drew | apply Bel.alloc | refine Bel.trans ?_ (by assumption))))
  obtain ⟨rs0, rs1, rs2⟩ := HRS.out w7 (by (repeat (first | exact Bel.refl _ | apply Bel.drew | apply Bel.alloc | refine Bel.trans ?_ (by assumption))))
  obtain ⟨xc0_0, xc0_1, xc0_2⟩ := HX0.out w7 (by (repeat (first | exact Bel.refl _ | apply Bel.drew | apply Bel.alloc | refine Bel.trans ?_ (by assumption))))
  obtain ⟨ri0, ri1, ri2⟩ := HRI.out w7 (by (repeat (first | exact Bel.refl _ | apply Bel.drew | apply Bel.alloc | refine Bel.trans ?_ (by assumption))))
  go_wp2_with fail
  go_region_held3 (fun W => W.cell? ⟨w4.heap.size, 0, none⟩ = some (.slice zx0_0p (x0.1).length zx0_0c) ∧ W.cell? ⟨w4.heap.size, 1, none⟩ = some (.slice zx0_1p (x0.2.1).length zx0_1c) ∧ W.cell? ⟨w4.heap.size, 2, none⟩ = some (.slice zx0_2p (x0.2.2).length zx0_2c) ∧ W.cell? ⟨w.heap.size, 0, none⟩ = some (c0_0) ∧ W.cell? ⟨w.heap.size, 1, none⟩ = some (c0_1) ∧ W.cell? ⟨w.heap.size, 2, none⟩ = some (c0_2)) (first | exact keep6 (by assumption) (by assumption) | go_keep)
    (first | (go_at_call 30; (with_reducible refine (toDomain_rep _ x0 _ _ (H0.out _ (by (repeat (first | exact Bel.refl _ | apply Bel.drew | apply Bel.alloc | refine Bel.trans ?_ (by assumption))))).1 (H0.out _ (by (repeat (first | exact Bel.refl _ | apply Bel.drew | apply Bel.alloc | refine Bel.trans ?_ (by assumption))))).2 (by rw [HM0.out]; omega)).mono ?_); rintro e wt ⟨es, rfl, hr, gt⟩; have hr0 := hr; obtain ⟨ze00_0, ze00_1, ze00_2, rfl, qq0, qq1, qq2⟩ := domR_open hr; obtain ⟨ze00_0p, ze00_0c, rfl, _⟩ := sliceR_open qq0; obtain ⟨ze00_1p, ze00_1c, rfl, _⟩ := sliceR_open qq1; obtain ⟨ze00_2p, ze00_2c, rfl, _⟩ := sliceR_open qq2; have Te00 := Lib.hid (stays_agg domR_good hr0); clear hr hr0) | (go_at_call 32; (with_reducible refine (eqDomain_rep _ _ x0 x0 _ _ _ (Tx0.out _ (by (repeat (first | exact Bel.refl _ | apply Bel.drew | apply Bel.alloc | refine Bel.trans ?_ (by assumption))))).1 (Te00.out _ (by (repeat (first | exact Bel.refl _ | apply Bel.drew | apply Bel.alloc | refine Bel.trans ?_ (by assumption))))).1 (Tx0.out _ (by (repeat (first | exact Bel.refl _ | apply Bel.drew | apply Bel.alloc | refine Bel.trans ?_ (by assumption))))).2 (Te00.out _ (by (repeat (first | exact Bel.refl _ | apply Bel.drew | apply Bel.alloc | refine Bel.trans ?_ (by assumption))))).2).mono ?_); rintro e wt ⟨rfl, gt⟩))
  clear bc0 bc1 bc2 rs0 rs1 rs2 xc0_0 xc0_1 xc0_2 ri0 ri1 ri2
  obtain ⟨w8, hw8⟩ : ∃ W, W = wt := ⟨wt, rfl⟩
  subst hw8
  obtain ⟨bc0, bc1, bc2⟩ := HB.out w8 (by (repeat (first | exact Bel.refl _ | apply Bel.drew | apply Bel.alloc | refine Bel.trans ?_ (by assumption))))
  obtain ⟨rs0, rs1, rs2⟩ := HRS.out w8 (by (repeat (first | exact Bel.refl _ | apply Bel.drew | apply Bel.alloc | refine Bel.trans ?_ (by assumption))))
  obtain ⟨xc0_0, xc0_1, xc0_2⟩ := HX0.out w8 (by (repeat (first | exact Bel.refl _ | apply Bel.drew | apply Bel.alloc | refine Bel.trans ?_ (by assumption))))
  obtain ⟨ri0, ri1, ri2⟩ := HRI.out w8 (by (repeat (first | exact Bel.refl _ | apply Bel.drew | apply Bel.alloc | refine Bel.trans ?_ (by assumption))))
  try rw [decide_eq_true rfl]
  go_wp2_with fail
  go_at_call 23; (with_reducible refine (toLiteralS_rep _ x1 _ _ (H1.out _ (by (repeat (first | exact Bel.refl _ | apply Bel.drew | apply Bel.alloc | refine Bel.trans ?_ (by assumption))))).1 (H1.out _ (by (repeat (first | exact Bel.refl _ | apply Bel.drew | apply Bel.alloc | refine Bel.trans ?_ (by assumption))))).2 (by rw [HM1.out]; omega)).mono ?_); rintro e wt ⟨vz, rfl, hr, gt⟩; obtain ⟨ze11p, ze11c, rfl, _⟩ := sliceR_open hr; have Te11 := Lib.hid (stays_one litsR_good hr); clear hr
  obtain ⟨w9, hw9⟩ : ∃ W, W = wt := ⟨wt, rfl⟩
  subst hw9
  have gw9 := gt; clear gt
  clear bc0 bc1 bc2 rs0 rs1 rs2 xc0_0 xc0_1 xc0_2 ri0 ri1 ri2
  obtain ⟨bc0, bc1, bc2⟩ := HB.out w9 (by (repeat (first | exact Bel.refl _ | apply Bel.drew | apply Bel.alloc | refine Bel.trans ?_ (by assumption))))
  obtain ⟨rs0, rs1, rs2⟩ := HRS.out w9 (by (repeat (first | exact Bel.refl _ | apply Bel.drew | apply Bel.alloc | refine Bel.trans ?_ (by assumption))))
  obtain ⟨xc0_0, xc0_1, xc0_2⟩ := HX0.out w9 (by (repeat (first | exact Bel.refl _ | apply Bel.drew | apply Bel.alloc | refine Bel.trans ?_ (by assumption))))
  obtain ⟨ri0, ri1, ri2⟩ := HRI.out w9 (by (repeat (first | exact Bel.refl _ | apply Bel.drew | apply Bel.alloc | refine Bel.trans ?_ (by assumption))))
  go_wp2_with fail
  go_at_call 25; (with_reducible refine (eqLiteralS_rep _ _ x1 x1 _ _ _ (Tx1.out _ (by (repeat (first | exact Bel.refl _ | apply Bel.drew | apply Bel.alloc | refine Bel.trans ?_ (by assumption))))).1 (Te11.out _ (by (repeat (first | exact Bel.refl _ | apply Bel.drew | apply Bel.alloc | refine Bel.trans ?_ (by assumption))))).1 (Tx1.out _ (by (repeat (first | exact Bel.refl _ | apply Bel.drew | apply Bel.alloc | refine Bel.trans ?_ (by assumption))))).2 (Te11.out _ (by (repeat (first | exact Bel.refl _ | apply Bel.drew | apply Bel.alloc | refine Bel.trans ?_ (by assumption))))).2).mono ?_); rintro e wt ⟨rfl, gt⟩
  obtain ⟨w10, hw10⟩ : ∃ W, W = wt := ⟨wt, rfl⟩
  subst hw10
  have gw10 := gt; clear gt
  clear bc0 bc1 bc2 rs0 rs1 rs2 xc0_0 xc0_1 xc0_2 ri0 ri1 ri2
  obtain ⟨bc0, bc1, bc2⟩ := HB.out w10 (by (repeat (first | exact Bel.refl _ | apply Bel.drew | apply Bel.alloc | refine Bel.trans ?_ (by assumption))))
  obtain ⟨rs0, rs1, rs2⟩ := HRS.out w10 (by (repeat (first | exact Bel.refl _ | apply Bel.drew | apply Bel.alloc | refine Bel.trans ?_ (by assumption))))
  obtain ⟨xc0_0, xc0_1, xc0_2⟩ := HX0.out w10 (by (repeat (first | exact Bel.refl _ | apply Bel.drew | apply Bel.alloc | refine Bel.trans ?_ (by assumption))))
  obtain ⟨ri0, ri1, ri2⟩ := HRI.out w10 (by (repeat (first | exact Bel.refl _ | apply Bel.drew | apply Bel.alloc | refine Bel.trans ?_ (by assumption))))
  try rw [decide_eq_true rfl]
  go_wp2
  go_ret
  exact ⟨rfl, by (repeat (first | exact Bel.refl _ | apply Bel.drew | apply Bel.alloc | refine Bel.trans ?_ (by assumption)))⟩
end Go.Proofs.Ytcbiknpbbldmbaa
