/- The walk of laws.FnExactParseRule. -/
import Derived.Test.YtkfpciggolkjeaaGreatDoorRulS
import Derived.Test.YtkfpciggolkjeaaGreatDoorRulI
import Derived.Test.YtkfpciggolkjeaaGreatDoorRuleEq
import Derived.Test.YtkfpciggolkjeaaGreatDoorSz
import Derived.Test.YtkfpciggolkjeaaGreatDoorTo
import Derived.Test.YtkfpciggolkjeaaGreatDoorEq
import Derived.Test.YtkfpciggolkjeaaGreatDoorKeep
import Derived.Deep.RegionHeld3
namespace Go.Proofs.YtkfpciggolkjeaaGreatDoor
open Go.ChangeShapes Go.WideShapes Go.ChangeAt Go.RowKit
set_option linter.unusedVariables false

set_option maxHeartbeats 1000000 in
theorem fnExactParseRule_walk (v0 : Value) (x0 : ProjT) (v1 : Value) (x1 : ByteArray) (w : World) (h0 : aggR projR (Old w) w v0 x0) (h1 : strR (Old w) w [v1] x1) (htab : Lib.TabIs Tryz.prog w "internal/strconv.uint64pow10" .u64 Lib.pow10Tab) (herr : ErrVars w) :
    Calls Tryz.prog 5 #[v0, v1] w fun e w' => e = .returned (.bool true) ∧ Bel w w' := by
  have HTB := Lib.hid htab
  clear htab
  have HER := Lib.hid herr
  clear herr
  obtain ⟨cs0, rfl, h0⟩ := h0
  have k0 := h0
  obtain ⟨c0_1, c0_2, c0_3, c0_4, rfl, q0_0, q0_1, q0_2, q0_3, q0_4⟩ := projR_open h0
  have H0 := Lib.hid (show ∀ W, Bel w W → aggR projR (Old w) W (.agg #[.int .i64 x0.1, c0_1, c0_2, c0_3, c0_4]) x0 ∧ (∀ b, Old w b → b < W.heap.size) from fun W hW => ⟨aggR_mk (projR_good.bel k0 hW (fun b hb => hb)), fun b hb => Nat.lt_of_lt_of_le hb hW.size⟩)
  clear k0
  clear h0
  clear q0_0 q0_1 q0_2 q0_3 q0_4
  obtain ⟨h1, u1⟩ := h1
  obtain rfl : v1 = .string x1 := by simpa using h1
  clear h1
  unfold maxLen at u1
  obtain ⟨m0, hm0⟩ : ∃ m, bulkProject x0 = m := ⟨_, rfl⟩
  have HM0 := Lib.hid hm0; clear hm0
  show Calls Tryz.prog 5 #[.agg #[.int .i64 x0.1, c0_1, c0_2, c0_3, c0_4], .string x1] w _
  go_enter Tryz.func5, Tryz.ntmps5
  by_cases hfl1 : (x1.size : Int) ≤ 1048576
  rotate_left
  · go_wp2
    go_ret
    exact ⟨rfl, by (repeat (first | exact Bel.refl _ | apply Bel.drew | apply Bel.alloc | refine Bel.trans ?_ (by assumption)))⟩
  have HMF1 := Lib.hid (show x1.size ≤ 1048576 from by omega)
  go_wp2_with fail
  refine (szProject_any _ x0 _ _ _ (H0.out _ (by (repeat (first | exact Bel.refl _ | apply Bel.drew | apply Bel.alloc | refine Bel.trans ?_ (by assumption))))).1 (H0.out _ (by (repeat (first | exact Bel.refl _ | apply Bel.drew | apply Bel.alloc | refine Bel.trans ?_ (by assumption))))).2 (by omega) (by omega)).mono ?_
  rintro e w1 ⟨rfl, gw1⟩
  rw [HM0.out]
  have HB := Lib.hid (show ∀ W, Bel w1 W → W.cell? ⟨w.heap.size, 0, none⟩ = some (.int .i64 x0.1) ∧ W.cell? ⟨w.heap.size, 1, none⟩ = some (c0_1) ∧ W.cell? ⟨w.heap.size, 2, none⟩ = some (c0_2) ∧ W.cell? ⟨w.heap.size, 3, none⟩ = some (c0_3) ∧ W.cell? ⟨w.heap.size, 4, none⟩ = some (c0_4) from fun W hW => ⟨hW.cell (gw1.cell (by simp [go_sem])), hW.cell (gw1.cell (by simp [go_sem])), hW.cell (gw1.cell (by simp [go_sem])), hW.cell (gw1.cell (by simp [go_sem])), hW.cell (gw1.cell (by simp [go_sem]))⟩)
  obtain ⟨bc0, bc1, bc2, bc3, bc4⟩ := HB.out w1 (by (repeat (first | exact Bel.refl _ | apply Bel.drew | apply Bel.alloc | refine Bel.trans ?_ (by assumption))))
  by_cases hfit0 : (m0 : Int) ≤ 1048576
  rotate_left
  · rw [szN_no (by omega)]
    go_wp2
    go_ret
    exact ⟨rfl, by (repeat (first | exact Bel.refl _ | apply Bel.drew | apply Bel.alloc | refine Bel.trans ?_ (by assumption)))⟩
  rw [szN_ok hfit0]
  obtain ⟨PL, hPL⟩ : ∃ z, parseRuleV x0 x1 = z := ⟨_, rfl⟩
  have HPL := Lib.hid hPL; clear hPL
  have hbb : (PL.2 != PL.2) = false := bne_self_eq_false PL.2
  go_wp2_with fail
  go_at_call 9; (with_reducible refine (toProject_rep _ x0 _ _ (H0.out _ (by (repeat (first | exact Bel.refl _ | apply Bel.drew | apply Bel.alloc | refine Bel.trans ?_ (by assumption))))).1 (H0.out _ (by (repeat (first | exact Bel.refl _ | apply Bel.drew | apply Bel.alloc | refine Bel.trans ?_ (by assumption))))).2 (by rw [HM0.out]; omega)).mono ?_); rintro e wt ⟨es, rfl, hr, gt⟩; have hr0 := hr; obtain ⟨zs0_1, zs0_2, zs0_3, zs0_4, rfl, qq0, qq1, qq2, qq3, qq4⟩ := projR_open hr; obtain ⟨zs0_1p, zs0_1c, rfl, _⟩ := sliceR_open qq1; obtain ⟨zs0_2p, zs0_2c, rfl, _⟩ := sliceR_open qq2; obtain ⟨zs0_3p, zs0_3c, rfl, _⟩ := sliceR_open qq3; obtain ⟨zs0_4p, zs0_4c, rfl, _⟩ := sliceR_open qq4; have Ts0 := Lib.hid (stays_agg projR_good hr0); clear hr hr0
  go_wp2_with fail
  go_at_call 16; (with_reducible refine (sParseRule_any _ x0 _ x1 _ (Ts0.out _ (by (repeat (first | exact Bel.refl _ | apply Bel.drew | apply Bel.alloc | refine Bel.trans ?_ (by assumption))))).1 (Ts0.out _ (by (repeat (first | exact Bel.refl _ | apply Bel.drew | apply Bel.alloc | refine Bel.trans ?_ (by assumption))))).2 (by rw [HM0.out]; omega) HMF1.out).mono ?_); rintro e wt ⟨rfl, gt⟩; rw [HPL.out]
  clear bc0 bc1 bc2 bc3 bc4
  obtain ⟨w2, hw2⟩ : ∃ W, W = wt := ⟨wt, rfl⟩
  subst hw2
  obtain ⟨bc0, bc1, bc2, bc3, bc4⟩ := HB.out w2 (by (repeat (first | exact Bel.refl _ | apply Bel.drew | apply Bel.alloc | refine Bel.trans ?_ (by assumption))))
  have abc0 := fun o => ((Bel.refl w2).alloc o).cell bc0
  have abc1 := fun o => ((Bel.refl w2).alloc o).cell bc1
  have abc2 := fun o => ((Bel.refl w2).alloc o).cell bc2
  have abc3 := fun o => ((Bel.refl w2).alloc o).cell bc3
  have abc4 := fun o => ((Bel.refl w2).alloc o).cell bc4
  go_wp2_with fail
  go_at_call 9; (with_reducible refine (toProject_rep _ x0 _ _ (H0.out _ (by (repeat (first | exact Bel.refl _ | apply Bel.drew | apply Bel.alloc | refine Bel.trans ?_ (by assumption))))).1 (H0.out _ (by (repeat (first | exact Bel.refl _ | apply Bel.drew | apply Bel.alloc | refine Bel.trans ?_ (by assumption))))).2 (by rw [HM0.out]; omega)).mono ?_); rintro e wt ⟨es, rfl, hr, gt⟩; have hr0 := hr; obtain ⟨zx0_1, zx0_2, zx0_3, zx0_4, rfl, qq0, qq1, qq2, qq3, qq4⟩ := projR_open hr; obtain ⟨zx0_1p, zx0_1c, rfl, _⟩ := sliceR_open qq1; obtain ⟨zx0_2p, zx0_2c, rfl, _⟩ := sliceR_open qq2; obtain ⟨zx0_3p, zx0_3c, rfl, _⟩ := sliceR_open qq3; obtain ⟨zx0_4p, zx0_4c, rfl, _⟩ := sliceR_open qq4; have Tx0 := Lib.hid (stays_agg projR_good hr0); clear hr hr0
  obtain ⟨w3, hw3⟩ : ∃ W, W = wt := ⟨wt, rfl⟩
  subst hw3
  have gw3 := gt; clear gt
  clear abc0 abc1 abc2 abc3 abc4 bc0 bc1 bc2 bc3 bc4
  have HRS := Lib.hid (show ∀ W, Bel w3 W → W.cell? ⟨w2.heap.size, 0, none⟩ = some (.int .i64 PL.1.1) ∧ W.cell? ⟨w2.heap.size, 1, none⟩ = some (.int .i64 PL.1.2.1) ∧ W.cell? ⟨w2.heap.size, 2, none⟩ = some (.int .i64 PL.1.2.2.1) ∧ W.cell? ⟨w2.heap.size, 3, none⟩ = some (.int .i64 PL.1.2.2.2) from fun W hW => ⟨hW.cell (gw3.cell (by simp [go_sem])), hW.cell (gw3.cell (by simp [go_sem])), hW.cell (gw3.cell (by simp [go_sem])), hW.cell (gw3.cell (by simp [go_sem]))⟩)
  obtain ⟨bc0, bc1, bc2, bc3, bc4⟩ := HB.out w3 (by (repeat (first | exact Bel.refl _ | apply Bel.drew | apply Bel.alloc | refine Bel.trans ?_ (by assumption))))
  obtain ⟨rs0, rs1, rs2, rs3⟩ := HRS.out w3 (by (repeat (first | exact Bel.refl _ | apply Bel.drew | apply Bel.alloc | refine Bel.trans ?_ (by assumption))))
  have abc0 := fun o => ((Bel.refl w3).alloc o).cell bc0
  have abc1 := fun o => ((Bel.refl w3).alloc o).cell bc1
  have abc2 := fun o => ((Bel.refl w3).alloc o).cell bc2
  have abc3 := fun o => ((Bel.refl w3).alloc o).cell bc3
  have abc4 := fun o => ((Bel.refl w3).alloc o).cell bc4
  have ars0 := fun o => ((Bel.refl w3).alloc o).cell rs0
  have ars1 := fun o => ((Bel.refl w3).alloc o).cell rs1
  have ars2 := fun o => ((Bel.refl w3).alloc o).cell rs2
  have ars3 := fun o => ((Bel.refl w3).alloc o).cell rs3
  go_wp2_with fail
  go_at_call 17; (with_reducible refine (iParseRule_any _ x0 _ x1 _ (Tx0.out _ (by (repeat (first | exact Bel.refl _ | apply Bel.drew | apply Bel.alloc | refine Bel.trans ?_ (by assumption))))).1 (Tx0.out _ (by (repeat (first | exact Bel.refl _ | apply Bel.drew | apply Bel.alloc | refine Bel.trans ?_ (by assumption))))).2 (by rw [HM0.out]; omega) HMF1.out (tabIs_bel HTB.out (by (repeat (first | exact Bel.refl _ | apply Bel.drew | apply Bel.alloc | refine Bel.trans ?_ (by assumption))))) (errVars_bel HER.out (by (repeat (first | exact Bel.refl _ | apply Bel.drew | apply Bel.alloc | refine Bel.trans ?_ (by assumption)))))).mono ?_); rintro e wt ⟨rfl, gt⟩; rw [HPL.out]
  obtain ⟨w4, hw4⟩ : ∃ W, W = wt := ⟨wt, rfl⟩
  subst hw4
  have gw4 := gt; clear gt
  clear abc0 abc1 abc2 abc3 abc4 ars0 ars1 ars2 ars3 bc0 bc1 bc2 bc3 bc4 rs0 rs1 rs2 rs3
  have HX0 := Lib.hid (show ∀ W, Bel w4 W → W.cell? ⟨w3.heap.size, 0, none⟩ = some (.int .i64 x0.1) ∧ W.cell? ⟨w3.heap.size, 1, none⟩ = some (.slice zx0_1p (x0.2.1).length zx0_1c) ∧ W.cell? ⟨w3.heap.size, 2, none⟩ = some (.slice zx0_2p (x0.2.2.1).length zx0_2c) ∧ W.cell? ⟨w3.heap.size, 3, none⟩ = some (.slice zx0_3p (x0.2.2.2.1).length zx0_3c) ∧ W.cell? ⟨w3.heap.size, 4, none⟩ = some (.slice zx0_4p (x0.2.2.2.2).length zx0_4c) from fun W hW => ⟨hW.cell (gw4.cell (by simp [go_sem])), hW.cell (gw4.cell (by simp [go_sem])), hW.cell (gw4.cell (by simp [go_sem])), hW.cell (gw4.cell (by simp [go_sem])), hW.cell (gw4.cell (by simp [go_sem]))⟩)
  obtain ⟨bc0, bc1, bc2, bc3, bc4⟩ := HB.out w4 (by (repeat (first | exact Bel.refl _ | apply Bel.drew | apply Bel.alloc | refine Bel.trans ?_ (by assumption))))
  obtain ⟨rs0, rs1, rs2, rs3⟩ := HRS.out w4 (by (repeat (first | exact Bel.refl _ | apply Bel.drew | apply Bel.alloc | refine Bel.trans ?_ (by assumption))))
  obtain ⟨xc0_0, xc0_1, xc0_2, xc0_3, xc0_4⟩ := HX0.out w4 (by (repeat (first | exact Bel.refl _ | apply Bel.drew | apply Bel.alloc | refine Bel.trans ?_ (by assumption))))
  have abc0 := fun o => ((Bel.refl w4).alloc o).cell bc0
  have abc1 := fun o => ((Bel.refl w4).alloc o).cell bc1
  have abc2 := fun o => ((Bel.refl w4).alloc o).cell bc2
  have abc3 := fun o => ((Bel.refl w4).alloc o).cell bc3
  have abc4 := fun o => ((Bel.refl w4).alloc o).cell bc4
  have ars0 := fun o => ((Bel.refl w4).alloc o).cell rs0
  have ars1 := fun o => ((Bel.refl w4).alloc o).cell rs1
  have ars2 := fun o => ((Bel.refl w4).alloc o).cell rs2
  have ars3 := fun o => ((Bel.refl w4).alloc o).cell rs3
  have axc0_0 := fun o => ((Bel.refl w4).alloc o).cell xc0_0
  have axc0_1 := fun o => ((Bel.refl w4).alloc o).cell xc0_1
  have axc0_2 := fun o => ((Bel.refl w4).alloc o).cell xc0_2
  have axc0_3 := fun o => ((Bel.refl w4).alloc o).cell xc0_3
  have axc0_4 := fun o => ((Bel.refl w4).alloc o).cell xc0_4
  go_wp2_with fail
  go_at_call 18; (with_reducible refine (eqRule_self _ _ _ _ _).mono ?_); rintro e wt ⟨rfl, gt⟩
  obtain ⟨w5, hw5⟩ : ∃ W, W = wt := ⟨wt, rfl⟩
  subst hw5
  have gw5 := gt; clear gt
  clear abc0 abc1 abc2 abc3 abc4 ars0 ars1 ars2 ars3 axc0_0 axc0_1 axc0_2 axc0_3 axc0_4 bc0 bc1 bc2 bc3 bc4 rs0 rs1 rs2 rs3 xc0_0 xc0_1 xc0_2 xc0_3 xc0_4
  have HRI := Lib.hid (show ∀ W, Bel w5 W → W.cell? ⟨w4.heap.size, 0, none⟩ = some (.int .i64 PL.1.1) ∧ W.cell? ⟨w4.heap.size, 1, none⟩ = some (.int .i64 PL.1.2.1) ∧ W.cell? ⟨w4.heap.size, 2, none⟩ = some (.int .i64 PL.1.2.2.1) ∧ W.cell? ⟨w4.heap.size, 3, none⟩ = some (.int .i64 PL.1.2.2.2) from fun W hW => ⟨hW.cell (gw5.cell (by simp [go_sem])), hW.cell (gw5.cell (by simp [go_sem])), hW.cell (gw5.cell (by simp [go_sem])), hW.cell (gw5.cell (by simp [go_sem]))⟩)
  obtain ⟨bc0, bc1, bc2, bc3, bc4⟩ := HB.out w5 (by (repeat (first | exact Bel.refl _ | apply Bel.drew | apply Bel.alloc | refine Bel.trans ?_ (by assumption))))
  obtain ⟨rs0, rs1, rs2, rs3⟩ := HRS.out w5 (by (repeat (first | exact Bel.refl _ | apply Bel.drew | apply Bel.alloc | refine Bel.trans ?_ (by assumption))))
  obtain ⟨xc0_0, xc0_1, xc0_2, xc0_3, xc0_4⟩ := HX0.out w5 (by (repeat (first | exact Bel.refl _ | apply Bel.drew | apply Bel.alloc | refine Bel.trans ?_ (by assumption))))
  obtain ⟨ri0, ri1, ri2, ri3⟩ := HRI.out w5 (by (repeat (first | exact Bel.refl _ | apply Bel.drew | apply Bel.alloc | refine Bel.trans ?_ (by assumption))))
  go_wp2_with fail
  go_region_held3 (fun W => W.cell? ⟨w3.heap.size, 0, none⟩ = some (.int .i64 x0.1) ∧ W.cell? ⟨w3.heap.size, 1, none⟩ = some (.slice zx0_1p (x0.2.1).length zx0_1c) ∧ W.cell? ⟨w3.heap.size, 2, none⟩ = some (.slice zx0_2p (x0.2.2.1).length zx0_2c) ∧ W.cell? ⟨w3.heap.size, 3, none⟩ = some (.slice zx0_3p (x0.2.2.2.1).length zx0_3c) ∧ W.cell? ⟨w3.heap.size, 4, none⟩ = some (.slice zx0_4p (x0.2.2.2.2).length zx0_4c) ∧ W.cell? ⟨w.heap.size, 0, none⟩ = some (.int .i64 x0.1) ∧ W.cell? ⟨w.heap.size, 1, none⟩ = some (c0_1) ∧ W.cell? ⟨w.heap.size, 2, none⟩ = some (c0_2) ∧ W.cell? ⟨w.heap.size, 3, none⟩ = some (c0_3) ∧ W.cell? ⟨w.heap.size, 4, none⟩ = some (c0_4)) (first | exact keep10 (by assumption) (by assumption) | go_keep)
    (first | (go_at_call 9; (with_reducible refine (toProject_rep _ x0 _ _ (H0.out _ (by (repeat (first | exact Bel.refl _ | apply Bel.drew | apply Bel.alloc | refine Bel.trans ?_ (by assumption))))).1 (H0.out _ (by (repeat (first | exact Bel.refl _ | apply Bel.drew | apply Bel.alloc | refine Bel.trans ?_ (by assumption))))).2 (by rw [HM0.out]; omega)).mono ?_); rintro e wt ⟨es, rfl, hr, gt⟩; have hr0 := hr; obtain ⟨ze00_1, ze00_2, ze00_3, ze00_4, rfl, qq0, qq1, qq2, qq3, qq4⟩ := projR_open hr; obtain ⟨ze00_1p, ze00_1c, rfl, _⟩ := sliceR_open qq1; obtain ⟨ze00_2p, ze00_2c, rfl, _⟩ := sliceR_open qq2; obtain ⟨ze00_3p, ze00_3c, rfl, _⟩ := sliceR_open qq3; obtain ⟨ze00_4p, ze00_4c, rfl, _⟩ := sliceR_open qq4; have Te00 := Lib.hid (stays_agg projR_good hr0); clear hr hr0) | (go_at_call 12; (with_reducible refine (eqProject_rep _ _ x0 x0 _ _ _ (Tx0.out _ (by (repeat (first | exact Bel.refl _ | apply Bel.drew | apply Bel.alloc | refine Bel.trans ?_ (by assumption))))).1 (Te00.out _ (by (repeat (first | exact Bel.refl _ | apply Bel.drew | apply Bel.alloc | refine Bel.trans ?_ (by assumption))))).1 (Tx0.out _ (by (repeat (first | exact Bel.refl _ | apply Bel.drew | apply Bel.alloc | refine Bel.trans ?_ (by assumption))))).2 (Te00.out _ (by (repeat (first | exact Bel.refl _ | apply Bel.drew | apply Bel.alloc | refine Bel.trans ?_ (by assumption))))).2).mono ?_); rintro e wt ⟨rfl, gt⟩))
  clear bc0 bc1 bc2 bc3 bc4 rs0 rs1 rs2 rs3 xc0_0 xc0_1 xc0_2 xc0_3 xc0_4 ri0 ri1 ri2 ri3
  obtain ⟨w6, hw6⟩ : ∃ W, W = wt := ⟨wt, rfl⟩
  subst hw6
  obtain ⟨bc0, bc1, bc2, bc3, bc4⟩ := HB.out w6 (by (repeat (first | exact Bel.refl _ | apply Bel.drew | apply Bel.alloc | refine Bel.trans ?_ (by assumption))))
  obtain ⟨rs0, rs1, rs2, rs3⟩ := HRS.out w6 (by (repeat (first | exact Bel.refl _ | apply Bel.drew | apply Bel.alloc | refine Bel.trans ?_ (by assumption))))
  obtain ⟨xc0_0, xc0_1, xc0_2, xc0_3, xc0_4⟩ := HX0.out w6 (by (repeat (first | exact Bel.refl _ | apply Bel.drew | apply Bel.alloc | refine Bel.trans ?_ (by assumption))))
  obtain ⟨ri0, ri1, ri2, ri3⟩ := HRI.out w6 (by (repeat (first | exact Bel.refl _ | apply Bel.drew | apply Bel.alloc | refine Bel.trans ?_ (by assumption))))
  try rw [decide_eq_true rfl]
  go_wp2
  go_ret
  exact ⟨rfl, by (repeat (first | exact Bel.refl _ | apply Bel.drew | apply Bel.alloc | refine Bel.trans ?_ (by assumption)))⟩
end Go.Proofs.YtkfpciggolkjeaaGreatDoor
