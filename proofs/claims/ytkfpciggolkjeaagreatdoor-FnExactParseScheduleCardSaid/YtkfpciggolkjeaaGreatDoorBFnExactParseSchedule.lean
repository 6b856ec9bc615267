/- laws.FnExactParseSchedule: for every input the law returns true, and each argument reads afterwards as it read before; the three tables of numbers that the library's number texts read and the two errors of its number reader start as the program's text lays them (the card ties them). No other condition. -/
import Derived.Test.YtkfpciggolkjeaaGreatDoorBFnExactParseSchedule1
import Derived.Test.YtkfpciggolkjeaaGreatDoorMark
import Derived.Test.YtkfpciggolkjeaaGreatDoorEq
import Derived.Test.YtkfpciggolkjeaaGreatDoorTo
import Derived.Test.YtkfpciggolkjeaaGreatDoorKeep
import Derived.Deep.RegionHeld3
import Derived.Test.YtkfpciggolkjeaaGreatDoorRows
import Derived.Test.YtkfpciggolkjeaaGreatDoorReps
import Derived.ProofKit
import Derived.OpenShut
import Derived.ChangeOld
import Derived.LaidMore
import Derived.LaidLaws
import Derived.Stop.Joined
import Derived.SevenTiedAt
import Derived.Test.YtkfpciggolkjeaaGreatDoorCards
import Derived.Test.YtkfpciggolkjeaaGreatDoorTie

/- WParseSchedule -/
section
namespace Go.Proofs.YtkfpciggolkjeaaGreatDoor
open Go.ChangeShapes Go.WideShapes Go.ChangeAt Go.RowKit
set_option linter.unusedVariables false

set_option maxHeartbeats 1000000 in
theorem fnExactParseSchedule_walk (v0 : Value) (x0 : ProjT) (v1 : Value) (x1 : ByteArray) (w : World) (h0 : aggR projR (Old w) w v0 x0) (h1 : strR (Old w) w [v1] x1) (htab : Lib.TabIs Tryz.prog w "internal/strconv.uint64pow10" .u64 Lib.pow10Tab) (herr : ErrVars w) :
    Calls Tryz.prog 6 #[v0, v1] w fun e w' => e = .returned (.bool true) ∧ Bel w w' := by
  have HTB := Lib.hid htab
  clear htab
  have HER := Lib.hid herr
  clear herr
  obtain ⟨cs0, rfl, h0⟩ := h0
  have k0 := h0
  obtain ⟨c0_1, c0_2, c0_3, c0_4, rfl, q0_0, q0_1, q0_2, q0_3, q0_4⟩ := projR_open h0
  have H0 := Lib.hid (show ∀ W, Bel w W → aggR projR (Old w) W (.agg #[.int .i64 x0.1, c0_1, c0_2, c0_3, c0_4]) x0 ∧ (∀ b, Old w b → b < W.heap.size) from fun W hW => ⟨aggR_mk (projR_good.bel k0 hW (fun b hb => hb)), fun b hb => Nat.lt_of_lt_of_le hb hW.size⟩)
  clear k0
  clear h0
  clear q0_0 q0_1 q0_2 q0_3 q0_4
  obtain ⟨h1, u1⟩ := h1
  obtain rfl : v1 = .string x1 := by simpa using h1
  clear h1
  unfold maxLen at u1
  obtain ⟨m0, hm0⟩ : ∃ m, bulkProject x0 = m := ⟨_, rfl⟩
  have HM0 := Lib.hid hm0; clear hm0
  show Calls Tryz.prog 6 #[.agg #[.int .i64 x0.1, c0_1, c0_2, c0_3, c0_4], .string x1] w _
  go_enter Tryz.func6, Tryz.ntmps6
  by_cases hfl1 : (x1.size : Int) ≤ 1048576
  rotate_left
  · go_wp2
    go_ret
    exact ⟨rfl, by (repeat (first | exact Bel.refl _ | apply Bel.drew | apply Bel.alloc | refine Bel.trans ?_ (by assumption)))⟩
  have HMF1 := Lib.hid (show x1.size ≤ 1048576 from by omega)
  go_wp2_with fail
  refine (szProject_any _ x0 _ _ _ (H0.out _ (by (repeat (first | exact Bel.refl _ | apply Bel.drew | apply Bel.alloc | refine Bel.trans ?_ (by assumption))))).1 (H0.out _ (by (repeat (first | exact Bel.refl _ | apply Bel.drew | apply Bel.alloc | refine Bel.trans ?_ (by assumption))))).2 (by omega) (by omega)).mono ?_
  rintro e w1 ⟨rfl, gw1⟩
  rw [HM0.out]
  have HB := Lib.hid (show ∀ W, Bel w1 W → W.cell? ⟨w.heap.size, 0, none⟩ = some (.int .i64 x0.1) ∧ W.cell? ⟨w.heap.size, 1, none⟩ = some (c0_1) ∧ W.cell? ⟨w.heap.size, 2, none⟩ = some (c0_2) ∧ W.cell? ⟨w.heap.size, 3, none⟩ = some (c0_3) ∧ W.cell? ⟨w.heap.size, 4, none⟩ = some (c0_4) from fun W hW => ⟨hW.cell (gw1.cell (by simp [go_sem])), hW.cell (gw1.cell (by simp [go_sem])), hW.cell (gw1.cell (by simp [go_sem])), hW.cell (gw1.cell (by simp [go_sem])), hW.cell (gw1.cell (by simp [go_sem]))⟩)
  obtain ⟨bc0, bc1, bc2, bc3, bc4⟩ := HB.out w1 (by (repeat (first | exact Bel.refl _ | apply Bel.drew | apply Bel.alloc | refine Bel.trans ?_ (by assumption))))
  by_cases hfit0 : (m0 : Int) ≤ 1048576
  rotate_left
  · rw [szN_no (by omega)]
    go_wp2
    go_ret
    exact ⟨rfl, by (repeat (first | exact Bel.refl _ | apply Bel.drew | apply Bel.alloc | refine Bel.trans ?_ (by assumption)))⟩
  rw [szN_ok hfit0]
  obtain ⟨⟨DV, BV⟩, hPL⟩ : ∃ z : SchT × Bool, parseSchV x0 x1 = z := ⟨_, rfl⟩
  have HDL := Lib.hid (show schZc (schZn DV) ≤ 1048576 from by
    have h := parseSch_len x0 x1
    rw [hPL] at h
    have h1 := h.1
    have h2 := h.2
    simp only [schZc, schZn]
    simp only [] at h1 h2
    omega)
  have HPL := Lib.hid hPL; clear hPL
  have hbb : (BV != BV) = false := bne_self_eq_false BV
  go_wp2_with fail
  go_at_call 9; (with_reducible refine (toProject_rep _ x0 _ _ (H0.out _ (by (repeat (first | exact Bel.refl _ | apply Bel.drew | apply Bel.alloc | refine Bel.trans ?_ (by assumption))))).1 (H0.out _ (by (repeat (first | exact Bel.refl _ | apply Bel.drew | apply Bel.alloc | refine Bel.trans ?_ (by assumption))))).2 (by rw [HM0.out]; omega)).mono ?_); rintro e wt ⟨es, rfl, hr, gt⟩; have hr0 := hr; obtain ⟨zs0_1, zs0_2, zs0_3, zs0_4, rfl, qq0, qq1, qq2, qq3, qq4⟩ := projR_open hr; obtain ⟨zs0_1p, zs0_1c, rfl, _⟩ := sliceR_open qq1; obtain ⟨zs0_2p, zs0_2c, rfl, _⟩ := sliceR_open qq2; obtain ⟨zs0_3p, zs0_3c, rfl, _⟩ := sliceR_open qq3; obtain ⟨zs0_4p, zs0_4c, rfl, _⟩ := sliceR_open qq4; have Ts0 := Lib.hid (stays_agg projR_good hr0); clear hr hr0
  go_wp2_with fail
  go_at_call 19
  (with_reducible refine (sParseSchedule_any _ x0 _ x1 _ (Ts0.out _ (by (repeat (first | exact Bel.refl _ | apply Bel.drew | apply Bel.alloc | refine Bel.trans ?_ (by assumption))))).1 (Ts0.out _ (by (repeat (first | exact Bel.refl _ | apply Bel.drew | apply Bel.alloc | refine Bel.trans ?_ (by assumption))))).2 (by rw [HM0.out]; omega) HMF1.out).mono ?_)
  rintro e w2 ⟨cs, rfl, hr, gt2⟩
  rw [HPL.out] at hr ⊢
  have hr : schMR (New _ _) _ cs DV := hr
  have TW0 := Lib.hid hr
  obtain ⟨y0, y1, S1, S2, rfl, t0, t1, -⟩ := hr
  obtain ⟨Wp0, Wc0, rfl, -⟩ := sliceR_open t0
  obtain ⟨Wp1, Wc1, rfl, -⟩ := sliceR_open t1
  clear t0 t1
  have TW := Lib.hid (stays_agg schMR_good TW0.out)
  have G2 : Bel w1 w2 := by (repeat (first | exact Bel.refl _ | apply Bel.drew | apply Bel.alloc | refine Bel.trans ?_ (by assumption)))
  clear gt gt2 bc0 bc1 bc2 bc3 bc4
  obtain ⟨bc0, bc1, bc2, bc3, bc4⟩ := HB.out w2 G2
  obtain ⟨U2, hU2⟩ : ∃ W, W = w2.alloc (.cells #[.slice Wp0 DV.1.length Wc0, .slice Wp1 DV.2.length Wc1] 52) := ⟨_, rfl⟩
  have B2 : Bel w2 U2 := by rw [hU2]; exact (Bel.refl _).alloc _
  have Z2 : w2.heap.size + 1 ≤ U2.heap.size := by rw [hU2]; simp
  have HWB := Lib.hid (show ∀ W, Bel U2 W → W.cell? ⟨w2.heap.size, 0, none⟩ = some (.slice Wp0 DV.1.length Wc0) ∧ W.cell? ⟨w2.heap.size, 1, none⟩ = some (.slice Wp1 DV.2.length Wc1) from fun W hW => by rw [hU2] at hW; exact ⟨hW.cell (by simp [go_sem]), hW.cell (by simp [go_sem])⟩)
  have HU2 := Lib.hid hU2
  clear hU2
  have abc0 := fun o => ((Bel.refl w2).alloc o).cell bc0
  have abc1 := fun o => ((Bel.refl w2).alloc o).cell bc1
  have abc2 := fun o => ((Bel.refl w2).alloc o).cell bc2
  have abc3 := fun o => ((Bel.refl w2).alloc o).cell bc3
  have abc4 := fun o => ((Bel.refl w2).alloc o).cell bc4
  go_wp2_with fail
  rw [← HU2.out]
  clear abc0 abc1 abc2 abc3 abc4
  go_at_call 9; (with_reducible refine (toProject_rep _ x0 _ _ (H0.out _ (by (repeat (first | exact Bel.refl _ | apply Bel.drew | apply Bel.alloc | refine Bel.trans ?_ (by assumption))))).1 (H0.out _ (by (repeat (first | exact Bel.refl _ | apply Bel.drew | apply Bel.alloc | refine Bel.trans ?_ (by assumption))))).2 (by rw [HM0.out]; omega)).mono ?_); rintro e wt ⟨es, rfl, hr, gt⟩; have hr0 := hr; obtain ⟨zx0_1, zx0_2, zx0_3, zx0_4, rfl, qq0, qq1, qq2, qq3, qq4⟩ := projR_open hr; obtain ⟨zx0_1p, zx0_1c, rfl, _⟩ := sliceR_open qq1; obtain ⟨zx0_2p, zx0_2c, rfl, _⟩ := sliceR_open qq2; obtain ⟨zx0_3p, zx0_3c, rfl, _⟩ := sliceR_open qq3; obtain ⟨zx0_4p, zx0_4c, rfl, _⟩ := sliceR_open qq4; have Tx0 := Lib.hid (stays_ival_agg (lo := U2.heap.size) projR_good hr0 (Bel.size (by (repeat (first | exact Bel.refl _ | apply Bel.drew | apply Bel.alloc | refine Bel.trans ?_ (by assumption)))))); clear hr hr0
  obtain ⟨w3, hw3⟩ : ∃ W, W = wt := ⟨wt, rfl⟩
  subst hw3
  have G3 : Bel U2 w3 := by (repeat (first | exact Bel.refl _ | apply Bel.drew | apply Bel.alloc | refine Bel.trans ?_ (by assumption)))
  clear gt bc0 bc1 bc2 bc3 bc4
  obtain ⟨U3, hU3⟩ : ∃ W, W = w3.alloc (.cells #[.int .i64 x0.1, .slice zx0_1p (x0.2.1).length zx0_1c, .slice zx0_2p (x0.2.2.1).length zx0_2c, .slice zx0_3p (x0.2.2.2.1).length zx0_3c, .slice zx0_4p (x0.2.2.2.2).length zx0_4c] 36) := ⟨_, rfl⟩
  have B3 : Bel w3 U3 := by rw [hU3]; exact (Bel.refl _).alloc _
  have Z3 : w3.heap.size + 1 ≤ U3.heap.size := by rw [hU3]; simp
  have HXB := Lib.hid (show ∀ W, Bel U3 W → W.cell? ⟨w3.heap.size, 0, none⟩ = some (.int .i64 x0.1) ∧ W.cell? ⟨w3.heap.size, 1, none⟩ = some (.slice zx0_1p (x0.2.1).length zx0_1c) ∧ W.cell? ⟨w3.heap.size, 2, none⟩ = some (.slice zx0_2p (x0.2.2.1).length zx0_2c) ∧ W.cell? ⟨w3.heap.size, 3, none⟩ = some (.slice zx0_3p (x0.2.2.2.1).length zx0_3c) ∧ W.cell? ⟨w3.heap.size, 4, none⟩ = some (.slice zx0_4p (x0.2.2.2.2).length zx0_4c) from fun W hW => by rw [hU3] at hW; exact ⟨hW.cell (by simp [go_sem]), hW.cell (by simp [go_sem]), hW.cell (by simp [go_sem]), hW.cell (by simp [go_sem]), hW.cell (by simp [go_sem])⟩)
  have HU3 := Lib.hid hU3
  clear hU3
  obtain ⟨xc0, xc1, xc2, xc3, xc4⟩ := HXB.out U3 (Bel.refl _)
  go_wp2_with fail
  rw [← HU3.out]
  go_at_call 20
  (with_reducible refine (iParseSchedule_any _ x0 _ x1 _ (Tx0.out _ (by (repeat (first | exact Bel.refl _ | apply Bel.drew | apply Bel.alloc | refine Bel.trans ?_ (by assumption))))).1 (Tx0.out _ (by (repeat (first | exact Bel.refl _ | apply Bel.drew | apply Bel.alloc | refine Bel.trans ?_ (by assumption))))).2 (by rw [HM0.out]; omega) HMF1.out (tabIs_bel HTB.out (by (repeat (first | exact Bel.refl _ | apply Bel.drew | apply Bel.alloc | refine Bel.trans ?_ (by assumption))))) (errVars_bel HER.out (by (repeat (first | exact Bel.refl _ | apply Bel.drew | apply Bel.alloc | refine Bel.trans ?_ (by assumption)))))).mono ?_)
  rintro e w4 ⟨cs, rfl, hr, gt4⟩
  rw [HPL.out] at hr ⊢
  have hr : schMR (New _ _) _ cs DV := hr
  have TG0 := Lib.hid hr
  obtain ⟨y0, y1, S1, S2, rfl, t0, t1, -⟩ := hr
  obtain ⟨Gp0, Gc0, rfl, -⟩ := sliceR_open t0
  obtain ⟨Gp1, Gc1, rfl, -⟩ := sliceR_open t1
  clear t0 t1
  have G4 : Bel U3 w4 := by (repeat (first | exact Bel.refl _ | apply Bel.drew | apply Bel.alloc | refine Bel.trans ?_ (by assumption)))
  have TG := Lib.hid (stays_ival_agg (lo := U3.heap.size) schMR_good TG0.out (Nat.le_refl _))
  clear gt4 xc0 xc1 xc2 xc3 xc4
  obtain ⟨U4, hU4⟩ : ∃ W, W = w4.alloc (.cells #[.slice Gp0 DV.1.length Gc0, .slice Gp1 DV.2.length Gc1] 52) := ⟨_, rfl⟩
  have B4 : Bel w4 U4 := by rw [hU4]; exact (Bel.refl _).alloc _
  have Z4 : w4.heap.size + 1 ≤ U4.heap.size := by rw [hU4]; simp
  have HGB := Lib.hid (show ∀ W, Bel U4 W → W.cell? ⟨w4.heap.size, 0, none⟩ = some (.slice Gp0 DV.1.length Gc0) ∧ W.cell? ⟨w4.heap.size, 1, none⟩ = some (.slice Gp1 DV.2.length Gc1) from fun W hW => by rw [hU4] at hW; exact ⟨hW.cell (by simp [go_sem]), hW.cell (by simp [go_sem])⟩)
  have HU4 := Lib.hid hU4
  clear hU4
  obtain ⟨gc0, gc1⟩ := HGB.out U4 (Bel.refl _)
  have CH := Lib.hid (show Bel U2 U4 ∧ Bel U3 U4 ∧ Bel w1 U4 ∧ Bel w U4 ∧ True from ⟨by (repeat (first | exact Bel.refl _ | apply Bel.drew | apply Bel.alloc | refine Bel.trans ?_ (by assumption))), by (repeat (first | exact Bel.refl _ | apply Bel.drew | apply Bel.alloc | refine Bel.trans ?_ (by assumption))), by (repeat (first | exact Bel.refl _ | apply Bel.drew | apply Bel.alloc | refine Bel.trans ?_ (by assumption))), by (repeat (first | exact Bel.refl _ | apply Bel.drew | apply Bel.alloc | refine Bel.trans ?_ (by assumption))), trivial⟩)
  obtain ⟨wc0, wc1⟩ := HWB.out w4 (by (repeat (first | exact Bel.refl _ | apply Bel.drew | apply Bel.alloc | refine Bel.trans ?_ (by assumption))))
  have awc0 := fun o => ((Bel.refl w4).alloc o).cell wc0
  have awc1 := fun o => ((Bel.refl w4).alloc o).cell wc1
  go_wp2_with fail
  rw [← HU4.out]
  clear awc0 awc1
  go_at_call 21
  (with_reducible refine (eqSchedule_m _ _ DV DV _ _ _ (TG.out _ B4).1 (TW.out _ (by (repeat (first | exact Bel.refl _ | apply Bel.drew | apply Bel.alloc | refine Bel.trans ?_ (by assumption))))).1 (TG.out _ B4).2 (TW.out _ (by (repeat (first | exact Bel.refl _ | apply Bel.drew | apply Bel.alloc | refine Bel.trans ?_ (by assumption))))).2).mono ?_)
  rintro e w5 ⟨rfl, gq⟩
  rw [decide_eq_true rfl]
  have G5 : Bel U4 w5 := by (repeat (first | exact Bel.refl _ | apply Bel.drew | apply Bel.alloc | refine Bel.trans ?_ (by assumption)))
  clear gq gc0 gc1 wc0 wc1
  obtain ⟨bc0, bc1, bc2, bc3, bc4⟩ := HB.out w5 (by (repeat (first | exact Bel.refl _ | apply Bel.drew | apply Bel.alloc | refine Bel.trans ?_ (by assumption))))
  obtain ⟨xc0, xc1, xc2, xc3, xc4⟩ := HXB.out w5 (by (repeat (first | exact Bel.refl _ | apply Bel.drew | apply Bel.alloc | refine Bel.trans ?_ (by assumption))))
  go_wp2_with fail
  go_region_held3 (fun W => W.cell? ⟨w3.heap.size, 0, none⟩ = some (.int .i64 x0.1) ∧ W.cell? ⟨w3.heap.size, 1, none⟩ = some (.slice zx0_1p (x0.2.1).length zx0_1c) ∧ W.cell? ⟨w3.heap.size, 2, none⟩ = some (.slice zx0_2p (x0.2.2.1).length zx0_2c) ∧ W.cell? ⟨w3.heap.size, 3, none⟩ = some (.slice zx0_3p (x0.2.2.2.1).length zx0_3c) ∧ W.cell? ⟨w3.heap.size, 4, none⟩ = some (.slice zx0_4p (x0.2.2.2.2).length zx0_4c) ∧ W.cell? ⟨w.heap.size, 0, none⟩ = some (.int .i64 x0.1) ∧ W.cell? ⟨w.heap.size, 1, none⟩ = some (c0_1) ∧ W.cell? ⟨w.heap.size, 2, none⟩ = some (c0_2) ∧ W.cell? ⟨w.heap.size, 3, none⟩ = some (c0_3) ∧ W.cell? ⟨w.heap.size, 4, none⟩ = some (c0_4)) (first | exact keep10 (by assumption) (by assumption) | go_keep)
    (first | (go_at_call 9; (with_reducible refine (toProject_rep _ x0 _ _ (H0.out _ (by (repeat (first | exact Bel.refl _ | apply Bel.drew | apply Bel.alloc | refine Bel.trans ?_ (by assumption))))).1 (H0.out _ (by (repeat (first | exact Bel.refl _ | apply Bel.drew | apply Bel.alloc | refine Bel.trans ?_ (by assumption))))).2 (by rw [HM0.out]; omega)).mono ?_); rintro e wt ⟨es, rfl, hr, gt⟩; have hr0 := hr; obtain ⟨ze00_1, ze00_2, ze00_3, ze00_4, rfl, qq0, qq1, qq2, qq3, qq4⟩ := projR_open hr; obtain ⟨ze00_1p, ze00_1c, rfl, _⟩ := sliceR_open qq1; obtain ⟨ze00_2p, ze00_2c, rfl, _⟩ := sliceR_open qq2; obtain ⟨ze00_3p, ze00_3c, rfl, _⟩ := sliceR_open qq3; obtain ⟨ze00_4p, ze00_4c, rfl, _⟩ := sliceR_open qq4; have Te00 := Lib.hid (stays_agg projR_good hr0); clear hr hr0) | (go_at_call 12; (with_reducible refine (eqProject_rep _ _ x0 x0 _ _ _ (Tx0.out _ (by (repeat (first | exact Bel.refl _ | apply Bel.drew | apply Bel.alloc | refine Bel.trans ?_ (by assumption))))).1 (Te00.out _ (by (repeat (first | exact Bel.refl _ | apply Bel.drew | apply Bel.alloc | refine Bel.trans ?_ (by assumption))))).1 (Tx0.out _ (by (repeat (first | exact Bel.refl _ | apply Bel.drew | apply Bel.alloc | refine Bel.trans ?_ (by assumption))))).2 (Te00.out _ (by (repeat (first | exact Bel.refl _ | apply Bel.drew | apply Bel.alloc | refine Bel.trans ?_ (by assumption))))).2).mono ?_); rintro e wt ⟨rfl, gt⟩) | fail)
  clear bc0 bc1 bc2 bc3 bc4 xc0 xc1 xc2 xc3 xc4
  obtain ⟨w6, hw6⟩ : ∃ W, W = wt := ⟨wt, rfl⟩
  subst hw6
  try rw [decide_eq_true rfl]
  obtain ⟨bz0, bz1, bz2, bz3, bz4⟩ : Bel U2 w6 ∧ Bel w w6 ∧ Bel w1 w6 ∧ Bel U3 w6 ∧ Bel U4 w6 := ⟨by (repeat (first | exact Bel.refl _ | apply Bel.drew | apply Bel.alloc | refine Bel.trans ?_ (by assumption))), by (repeat (first | exact Bel.refl _ | apply Bel.drew | apply Bel.alloc | refine Bel.trans ?_ (by assumption))), by (repeat (first | exact Bel.refl _ | apply Bel.drew | apply Bel.alloc | refine Bel.trans ?_ (by assumption))), by (repeat (first | exact Bel.refl _ | apply Bel.drew | apply Bel.alloc | refine Bel.trans ?_ (by assumption))), by (repeat (first | exact Bel.refl _ | apply Bel.drew | apply Bel.alloc | refine Bel.trans ?_ (by assumption)))⟩
  have HBS := Lib.hid bz0
  have HBW := Lib.hid bz1
  have HBB := Lib.hid bz2
  have HRG := Lib.hid (TG.out w6 (B4.trans bz4)).1
  have HRX := Lib.hid (Tx0.out w6 (B3.trans bz3)).1
  obtain ⟨xc0, xc1, xc2, xc3, xc4⟩ := HXB.out w6 bz3
  have HKG := Lib.hid (HGB.out w6 bz4)
  have q1 : w.heap.size ≤ w1.heap.size := Bel.size (by (repeat (first | exact Bel.refl _ | apply Bel.drew | apply Bel.alloc | refine Bel.trans ?_ (by assumption))))
  have q2 := G2.size
  have q3 := G3.size
  have q4 := G4.size
  have q5 := bz4.size
  clear bz0 bz1 bz2 bz3 bz4
  have hcn0 := cntProj_le x0
  have hbk0 : bulkProject x0 ≤ 1048576 := (by rw [HM0.out]; omega)
  go_wp2_with fail
  refine (markProject_kin _ x0 (Ival U2.heap.size w3.heap.size) _ _ 16777216 (by decide) HRX.out (by omega) (by omega)).mono ?_
  rintro e v0 ⟨k0, rfl, hk0, hku0, M⟩
  have HBW := Lib.hid (Mut.bel HBW.out M (fun b hb => by have := hb.1; omega))
  have HBS := Lib.hid (Mut.bel HBS.out M (fun b hb => by have := hb.1; omega))
  have HBB := Lib.hid (Mut.bel HBB.out M (fun b hb => by have := hb.1; omega))
  have HRG := Lib.hid (M.keepAgg schMR_good HRG.out (fun b hb => ⟨by have := hb.2; omega, fun hh => by have := hb.1; have := hh.2; omega⟩))
  have HKG := Lib.hid (show v0.cell? ⟨w4.heap.size, 0, none⟩ = some (.slice Gp0 DV.1.length Gc0) ∧ v0.cell? ⟨w4.heap.size, 1, none⟩ = some (.slice Gp1 DV.2.length Gc1) from by obtain ⟨z0, z1⟩ := HKG.out; exact ⟨M.cell z0 (fun hh => by have := hh.2; omega), M.cell z1 (fun hh => by have := hh.2; omega)⟩)
  have hzv0 : w6.heap.size ≤ v0.heap.size := M.size
  clear M xc0 xc1 xc2 xc3 xc4
  obtain ⟨gc0, gc1⟩ := HKG.out
  obtain ⟨wc0, wc1⟩ := HWB.out v0 HBS.out
  have hk0n : ¬ k0 < 0 := by omega
  have HSG := Lib.hid (show ∀ b, Ival U3.heap.size w4.heap.size b → b < v0.heap.size from fun b hb => by have := hb.2; omega)
  go_wp2_with fail
  go_at_call 21
  (with_reducible refine (eqSchedule_m _ _ DV DV (Ival U3.heap.size w4.heap.size) _ _ HRG.out (TW.out _ (B2.trans HBS.out)).1 HSG.out (TW.out _ (B2.trans HBS.out)).2).mono ?_)
  rintro e va ⟨rfl, gq⟩
  rw [decide_eq_true rfl]
  have HBW := Lib.hid (HBW.out.trans gq)
  have HBS := Lib.hid (HBS.out.trans gq)
  have HBB := Lib.hid (HBB.out.trans gq)
  have HRG := Lib.hid (aggR_bel schMR_good HRG.out gq (fun b hb => by have := hb.2; omega))
  have HKG := Lib.hid (show va.cell? ⟨w4.heap.size, 0, none⟩ = some (.slice Gp0 DV.1.length Gc0) ∧ va.cell? ⟨w4.heap.size, 1, none⟩ = some (.slice Gp1 DV.2.length Gc1) from ⟨gq.cell gc0, gq.cell gc1⟩)
  have hzva : w6.heap.size ≤ va.heap.size := Nat.le_trans hzv0 gq.size
  clear gq gc0 gc1 wc0 wc1
  obtain ⟨gc0, gc1⟩ := HKG.out
  have hdl := HDL.out
  obtain ⟨mm, hmm⟩ : ∃ z : Int, (1 : Int) + ((schZc (schZn DV) : Nat) : Int) = z := ⟨_, rfl⟩
  have hm0 : 0 ≤ mm := by omega
  have hm1 : ¬ mm < 0 := by omega
  have HMM := Lib.hid hmm; clear hmm
  go_wp2_with fail
  refine (markSchedule_m _ DV (Ival U3.heap.size w4.heap.size) 1 _ HRG.out (fun b hb => by have := hb.2; omega) (by decide) (by omega)).mono ?_
  rintro e vb ⟨rfl, RM, M⟩
  rw [HMM.out]
  have HBW := Lib.hid (Mut.bel HBW.out M (fun b hb => by have := hb.1; omega))
  have HBS := Lib.hid (Mut.bel HBS.out M (fun b hb => by have := hb.1; omega))
  have HBB := Lib.hid (Mut.bel HBB.out M (fun b hb => by have := hb.1; omega))
  have HRM := Lib.hid RM; clear RM
  have HKG := Lib.hid (show vb.cell? ⟨w4.heap.size, 0, none⟩ = some (.slice Gp0 DV.1.length Gc0) ∧ vb.cell? ⟨w4.heap.size, 1, none⟩ = some (.slice Gp1 DV.2.length Gc1) from ⟨M.cell gc0 (fun hh => by have := hh.2; omega), M.cell gc1 (fun hh => by have := hh.2; omega)⟩)
  have hzvb : w6.heap.size ≤ vb.heap.size := Nat.le_trans hzva M.size
  clear M gc0 gc1
  obtain ⟨gc0, gc1⟩ := HKG.out
  go_wp2_with fail
  refine (heldSchedule_m _ (schZn DV) (Ival U3.heap.size w4.heap.size) 1 _ HRM.out (fun b hb => by have := hb.2; omega) (by decide) (by omega)).mono ?_
  rintro e vc ⟨rfl, gq⟩
  rw [HMM.out]
  have HKG := Lib.hid (show ∀ W, Bel vc W → W.cell? ⟨w4.heap.size, 0, none⟩ = some (.slice Gp0 DV.1.length Gc0) ∧ W.cell? ⟨w4.heap.size, 1, none⟩ = some (.slice Gp1 DV.2.length Gc1) from fun W hW => ⟨hW.cell (gq.cell gc0), hW.cell (gq.cell gc1)⟩)
  have HRM := Lib.hid (show ∀ W, Bel vc W → aggR schMR (Ival U3.heap.size w4.heap.size) W _ _ from fun W hW => aggR_bel schMR_good HRM.out (gq.trans hW) (fun b hb => by have := hb.2; omega))
  have HBW := Lib.hid (HBW.out.trans gq)
  have HBS := Lib.hid (HBS.out.trans gq)
  have HBB := Lib.hid (HBB.out.trans gq)
  have hzvc : w6.heap.size ≤ vc.heap.size := Nat.le_trans hzvb gq.size
  clear gq gc0 gc1
  obtain ⟨bc0, bc1, bc2, bc3, bc4⟩ := HB.out _ HBB.out
  have BW1 := HBW.out
  have hne : (mm != mm) = false := bne_self_eq_false mm
  go_wp2_with fail
  go_at_call 9; (with_reducible refine (toProject_rep _ x0 _ _ (H0.out _ (by (repeat (first | exact Bel.refl _ | apply Bel.drew | apply Bel.alloc | refine Bel.trans ?_ (by assumption))))).1 (H0.out _ (by (repeat (first | exact Bel.refl _ | apply Bel.drew | apply Bel.alloc | refine Bel.trans ?_ (by assumption))))).2 (by rw [HM0.out]; omega)).mono ?_); rintro e wt ⟨es, rfl, hr, gt⟩; have hr0 := hr; obtain ⟨zh0_1, zh0_2, zh0_3, zh0_4, rfl, qq0, qq1, qq2, qq3, qq4⟩ := projR_open hr; obtain ⟨zh0_1p, zh0_1c, rfl, _⟩ := sliceR_open qq1; obtain ⟨zh0_2p, zh0_2c, rfl, _⟩ := sliceR_open qq2; obtain ⟨zh0_3p, zh0_3c, rfl, _⟩ := sliceR_open qq3; obtain ⟨zh0_4p, zh0_4c, rfl, _⟩ := sliceR_open qq4; have Th0 := Lib.hid (stays_agg projR_good hr0); clear hr hr0
  go_wp2_with fail
  go_at_call 20
  (with_reducible refine (iParseSchedule_any _ x0 _ x1 _ (Th0.out _ (by (repeat (first | exact Bel.refl _ | apply Bel.drew | apply Bel.alloc | refine Bel.trans ?_ (by assumption))))).1 (Th0.out _ (by (repeat (first | exact Bel.refl _ | apply Bel.drew | apply Bel.alloc | refine Bel.trans ?_ (by assumption))))).2 (by rw [HM0.out]; omega) HMF1.out (tabIs_bel HTB.out (by (repeat (first | exact Bel.refl _ | apply Bel.drew | apply Bel.alloc | refine Bel.trans ?_ (by assumption))))) (errVars_bel HER.out (by (repeat (first | exact Bel.refl _ | apply Bel.drew | apply Bel.alloc | refine Bel.trans ?_ (by assumption)))))).mono ?_)
  rintro e w8 ⟨cs, rfl, hr, gt8⟩
  rw [HPL.out] at hr ⊢
  have hr : schMR (New _ _) _ cs DV := hr
  have TH0 := Lib.hid hr
  obtain ⟨y0, y1, S1, S2, rfl, t0, t1, -⟩ := hr
  obtain ⟨Hp0, Hc0, rfl, -⟩ := sliceR_open t0
  obtain ⟨Hp1, Hc1, rfl, -⟩ := sliceR_open t1
  clear t0 t1
  have TH := Lib.hid (stays_agg schMR_good TH0.out)
  have G8 : Bel vc w8 := by (repeat (first | exact Bel.refl _ | apply Bel.drew | apply Bel.alloc | refine Bel.trans ?_ (by assumption)))
  clear gt gt8 bc0 bc1 bc2 bc3 bc4
  obtain ⟨U8, hU8⟩ : ∃ W, W = w8.alloc (.cells #[.slice Hp0 DV.1.length Hc0, .slice Hp1 DV.2.length Hc1] 52) := ⟨_, rfl⟩
  have B8 : Bel w8 U8 := by rw [hU8]; exact (Bel.refl _).alloc _
  have HHB : U8.cell? ⟨w8.heap.size, 0, none⟩ = some (.slice Hp0 DV.1.length Hc0) ∧ U8.cell? ⟨w8.heap.size, 1, none⟩ = some (.slice Hp1 DV.2.length Hc1) := by rw [hU8]; exact ⟨by simp [go_sem], by simp [go_sem]⟩
  have HU8 := Lib.hid hU8
  have CH := Lib.hid (show Bel vc U8 ∧ True from ⟨G8.trans B8, trivial⟩)
  clear hU8
  obtain ⟨hc0, hc1⟩ := HHB
  obtain ⟨wc0, wc1⟩ := HWB.out w8 (HBS.out.trans G8)
  have awc0 := fun o => ((Bel.refl w8).alloc o).cell wc0
  have awc1 := fun o => ((Bel.refl w8).alloc o).cell wc1
  go_wp2_with fail
  rw [← HU8.out]
  clear awc0 awc1
  go_at_call 21
  (with_reducible refine (eqSchedule_m _ _ DV DV _ _ _ (TH.out _ B8).1 (TW.out _ (B2.trans (HBS.out.trans CH.out.1))).1 (TH.out _ B8).2 (TW.out _ (B2.trans (HBS.out.trans CH.out.1))).2).mono ?_)
  rintro e w9 ⟨rfl, gq⟩
  rw [decide_eq_true rfl]
  have G9 : Bel U8 w9 := by (repeat (first | exact Bel.refl _ | apply Bel.drew | apply Bel.alloc | refine Bel.trans ?_ (by assumption)))
  clear gq hc0 hc1 wc0 wc1
  obtain ⟨gc0, gc1⟩ := HKG.out w9 (CH.out.1.trans G9)
  have hq9 := (CH.out.1.trans G9).size
  go_wp2_with fail
  refine (heldSchedule_m _ (schZn DV) (Ival U3.heap.size w4.heap.size) 1 _ (HRM.out w9 (CH.out.1.trans G9)) (fun b hb => by have := hb.2; omega) (by decide) (by omega)).mono ?_
  rintro e wz ⟨rfl, gz⟩
  rw [HMM.out]
  have BF : Bel w wz := HBW.out.trans ((CH.out.1.trans G9).trans gz)
  go_wp2
  go_ret
  exact ⟨rfl, BF⟩
end Go.Proofs.YtkfpciggolkjeaaGreatDoor
end

/- Types -/
section
namespace Go.Proofs.YtkfpciggolkjeaaGreatDoor
open Go.RowKit
set_option linter.unusedVariables false
set_option maxRecDepth 10000

theorem laidOutAll : laidOutB Tryz.prog = true := by kernel_rfl
theorem ownKnobNone : ownKnob Tryz.prog.godebug = none := by kernel_rfl
theorem opInt {H : Type} {enc : TypeId × Value → H} (w : World) : Opens enc Tryz.prog w 3 intR := opens_int Tryz.underlying3
theorem opBool {H : Type} {enc : TypeId × Value → H} (w : World) : Opens enc Tryz.prog w 4 boolR := opens_bool Tryz.underlying4
theorem opStr {H : Type} {enc : TypeId × Value → H} (w : World) : Opens enc Tryz.prog w 9 strR := opens_string Tryz.underlying9
theorem opInts {H : Type} {enc : TypeId × Value → H} (w : World) : Opens enc Tryz.prog w 25 intsR := opens_slice Tryz.underlying25 (by kernel_rfl) (by decide) (opInt w)
theorem opRows {H : Type} {enc : TypeId × Value → H} (w : World) : Opens enc Tryz.prog w 95 rowsR := opens_slice Tryz.underlying95 (by kernel_rfl) (by decide) (opInts w)
theorem opStep {H : Type} {enc : TypeId × Value → H} (w : World) : Opens enc Tryz.prog w 159 stepR := opens_struct2 Tryz.underlying159 (by kernel_rfl) ⟨by kernel_rfl, by kernel_rfl⟩ ⟨by kernel_rfl, by kernel_rfl⟩ (opInt w) (opInt w)
theorem opSteps {H : Type} {enc : TypeId × Value → H} (w : World) : Opens enc Tryz.prog w 94 stepsR := opens_slice Tryz.underlying94 (by kernel_rfl) (by decide) (opStep w)
theorem opMode {H : Type} {enc : TypeId × Value → H} (w : World) : Opens enc Tryz.prog w 153 modeR := opens_struct3 Tryz.underlying153 (by kernel_rfl) ⟨by kernel_rfl, by kernel_rfl⟩ ⟨by kernel_rfl, by kernel_rfl⟩ ⟨by kernel_rfl, by kernel_rfl⟩ (opInt w) (opInts w) (opInts w)
theorem opModes {H : Type} {enc : TypeId × Value → H} (w : World) : Opens enc Tryz.prog w 90 modesR := opens_slice Tryz.underlying90 (by kernel_rfl) (by decide) (opMode w)
theorem opAct {H : Type} {enc : TypeId × Value → H} (w : World) : Opens enc Tryz.prog w 92 actR := opens_struct3 Tryz.underlying92 (by kernel_rfl) ⟨by kernel_rfl, by kernel_rfl⟩ ⟨by kernel_rfl, by kernel_rfl⟩ ⟨by kernel_rfl, by kernel_rfl⟩ (opStr w) (opInt w) (opModes w)
theorem opActs {H : Type} {enc : TypeId × Value → H} (w : World) : Opens enc Tryz.prog w 22 actsR := opens_slice Tryz.underlying22 (by kernel_rfl) (by decide) (opAct w)
theorem opRes {H : Type} {enc : TypeId × Value → H} (w : World) : Opens enc Tryz.prog w 97 resR := opens_struct2 Tryz.underlying97 (by kernel_rfl) ⟨by kernel_rfl, by kernel_rfl⟩ ⟨by kernel_rfl, by kernel_rfl⟩ (opSteps w) (opRows w)
theorem opRess {H : Type} {enc : TypeId × Value → H} (w : World) : Opens enc Tryz.prog w 24 ressR := opens_slice Tryz.underlying24 (by kernel_rfl) (by decide) (opRes w)
theorem opLink {H : Type} {enc : TypeId × Value → H} (w : World) : Opens enc Tryz.prog w 106 linkR := opens_struct4 Tryz.underlying106 (by kernel_rfl) ⟨by kernel_rfl, by kernel_rfl⟩ ⟨by kernel_rfl, by kernel_rfl⟩ ⟨by kernel_rfl, by kernel_rfl⟩ ⟨by kernel_rfl, by kernel_rfl⟩ (opInt w) (opInt w) (opBool w) (opInt w)
theorem opLinks {H : Type} {enc : TypeId × Value → H} (w : World) : Opens enc Tryz.prog w 23 linksR := opens_slice Tryz.underlying23 (by kernel_rfl) (by decide) (opLink w)
theorem opProj {H : Type} {enc : TypeId × Value → H} (w : World) : Opens enc Tryz.prog w 27 projR := opens_struct5 Tryz.underlying27 (by kernel_rfl) ⟨by kernel_rfl, by kernel_rfl⟩ ⟨by kernel_rfl, by kernel_rfl⟩ ⟨by kernel_rfl, by kernel_rfl⟩ ⟨by kernel_rfl, by kernel_rfl⟩ ⟨by kernel_rfl, by kernel_rfl⟩ (opInt w) (opActs w) (opLinks w) (opRess w) (opInts w)
theorem opRule {H : Type} {enc : TypeId × Value → H} (w : World) : Opens enc Tryz.prog w 29 ruleR := opens_struct4 Tryz.underlying29 (by kernel_rfl) ⟨by kernel_rfl, by kernel_rfl⟩ ⟨by kernel_rfl, by kernel_rfl⟩ ⟨by kernel_rfl, by kernel_rfl⟩ ⟨by kernel_rfl, by kernel_rfl⟩ (opInt w) (opInt w) (opInt w) (opInt w)
end Go.Proofs.YtkfpciggolkjeaaGreatDoor
end

/- FnExactParseSchedule -/
section
namespace Go.Proofs.YtkfpciggolkjeaaGreatDoor.fnExactParseSchedule
open Go.ChangeShapes Go.WideShapes Go.ChangeAt Go.RowKit
open Go.ChangeMaps (open_string shut_string)
set_option linter.unusedVariables false

theorem agg_of {P : Program} {w : World} {r : Reach} {b : Nat} {t : TypeId} {fs : Array Field} {v : Value} (ht : P.underlying t = some (.struct fs)) (h : Value.okWide P w r b t v) : ∃ cs, v = .agg cs := by
  unfold Value.okWide at h
  rw [ht] at h
  obtain ⟨cs, h1, _⟩ := h
  exact ⟨cs, h1⟩

def laidL : List (String × DataW Unit) := [("math/bits.deBruijn32tab", Rows.laid_math_bits_deBruijn32tab), ("math/bits.deBruijn64tab", Rows.laid_math_bits_deBruijn64tab), ("internal/strconv.uint64pow10", Rows.laid_internal_strconv_uint64pow10), ("strconv.ErrRange", Rows.laid_strconv_ErrRange), ("strconv.ErrSyntax", Rows.laid_strconv_ErrSyntax)]
theorem own : ownKnob Tryz.prog.godebug = none := by kernel_rfl
theorem door_met (os : Os) (args : Array Value) : laidMetH Tryz.prog laidL ((World.doorLaid Tryz.prog 400 os).forCall (fun _ _ => 0) ⟨#[], args, []⟩).memory :=
  laidMetH_of_parts3 (fuel := 8) (laidMet_of_run' 8 (by kernel_rfl) (by kernel_rfl)) (by kernel_rfl) (by kernel_rfl)
theorem gPow : Tryz.prog.globalNamed "internal/strconv.uint64pow10" = some 3 := by kernel_rfl
theorem tPow : (Tryz.prog.globals[3]?).map (·.type) = some 192 := by kernel_rfl
theorem cPow : Tryz.prog.cellsOf 192 = 20 := by kernel_rfl
theorem cU64 : Tryz.prog.cellsOf 177 = 1 := by kernel_rfl
theorem dPow : (Rows.laid_internal_strconv_uint64pow10 : DataW Unit) = Lib.tabData .u64 Lib.pow10Tab := by kernel_rfl
theorem tErr1 : (Tryz.prog.globals[2]?).map (·.type) = some 118 := by kernel_rfl
theorem tErr2 : (Tryz.prog.globals[1]?).map (·.type) = some 118 := by kernel_rfl
theorem gErr1 : Tryz.prog.globalNamed "strconv.ErrRange" = some 2 := by kernel_rfl
theorem gErr2 : Tryz.prog.globalNamed "strconv.ErrSyntax" = some 1 := by kernel_rfl
theorem errAt_of {W : World} {n : String} {g : Nat} {cs : Array Value} {f : Nat} {nm : String} {d : DataW Unit} {p : List MemPlace} (hg : Tryz.prog.globalNamed n = some g) (hv : W.var? Tryz.prog n = some cs) (hd : DataW.trod (fun _ => ()) Tryz.prog W 0 (fun _ => true) false f 118 cs.toList = some (.iface nm d, p)) : ErrAt W g := by
  obtain ⟨l⟩ := cs
  obtain ⟨_, u, v, rfl, _⟩ := iface_of_trod Tryz.underlying118 hd
  exact ⟨_, by simpa using World.var?_cell hg hv 0, .inr ⟨u, v, rfl⟩⟩
/-- What the laid variables give the walk. -/
theorem of_laid {W : World} (h : laidMetH Tryz.prog laidL W) : Lib.TabIs Tryz.prog W "internal/strconv.uint64pow10" .u64 Lib.pow10Tab ∧ ErrVars W := by
  rw [MakeChecks.laidMetH_plain _ _ _ (by kernel_rfl)] at h
  obtain ⟨ps, ⟨g0, t0, cs0, f0, p0, q0, hg0, ht0, hv0, hd0, ⟨g1, t1, cs1, f1, p1, q1, hg1, ht1, hv1, hd1, ⟨g2, t2, cs2, f2, p2, q2, hg2, ht2, hv2, hd2, ⟨g3, t3, cs3, f3, p3, q3, hg3, ht3, hv3, hd3, ⟨g4, t4, cs4, f4, p4, q4, hg4, ht4, hv4, hd4, _, _⟩, _⟩, _⟩, _⟩, _⟩, _, _⟩ := h
  obtain rfl := Option.some.inj (gPow.symm.trans hg2)
  obtain rfl := Option.some.inj (tPow.symm.trans ht2)
  obtain rfl := Option.some.inj (gErr1.symm.trans hg3)
  obtain rfl := Option.some.inj (tErr1.symm.trans ht3)
  obtain rfl := Option.some.inj (gErr2.symm.trans hg4)
  obtain rfl := Option.some.inj (tErr2.symm.trans ht4)
  rw [dPow] at hd2
  refine ⟨?_, errAt_of gErr2 hv4 hd4, errAt_of gErr1 hv3 hd3⟩
  unfold Lib.TabIs
  rw [hv2, ← Lib.cells_of_tab Tryz.underlying192 Tryz.underlying177 cU64 cPow hd2]
set_option maxRecDepth 100000 in
theorem lifted (os : Os) (started : os.Started) (H : Type) (enc : TypeId × Value → H) :
    ReturnsInHanded {} Tryz.checked os 6 .any (fun w args => (Rows.fnExactParseScheduleSpec.pre enc Tryz.prog Tryz.f6 [] false w args ∧ laidMetH Tryz.prog laidL w) ∧ sizedMet enc Tryz.prog Tryz.f6 (OpenSpec.ofChange Rows.fnExactParseScheduleSpec) false w args) (Rows.fnExactParseScheduleSpec.post enc Tryz.prog Tryz.f6 false true false false) := by
  refine returnsInHanded_of_change_and (C := Tryz.checked) (X := fun w _ => laidMetH Tryz.prog laidL w) (fun _ _ _ hh h => h.of_heap hh) own started (by kernel_rfl) Tryz.func6
    (ChangeSpec.witness_shaped (enc := enc) (C := Tryz.checked) (os := os) (X := fun w _ => laidMetH Tryz.prog laidL w) false (World.doorLaid Tryz.prog 400 os) #[.agg #[.int .i64 0, .slice none 0 0, .slice none 0 0, .slice none 0 0, .slice none 0 0], .string ⟨#[]⟩] 8 rfl (World.shaped_of_RefB (by kernel_rfl) (by kernel_rfl)) (by kernel_rfl) (by kernel_rfl) (by kernel_rfl) (door_met os _)) ?_
  intro W base args ds gs before hval0 hW _ _ hL _
  obtain ⟨htab, herr⟩ := of_laid hL
  have hval : ∀ (j : Nat) t v, Tryz.f6.params[j]? = some t → args[j]? = some v → Value.okWide Tryz.prog W .any base t v := hval0
  have hW' := hW
  obtain ⟨p, q, hA0, hV, rfl, hfz, hnd⟩ := hW
  have hA : DataW.TrodAll enc Tryz.prog W 0 (fun _ => true) true Tryz.f6.params.toList args.toList ds p := hA0
  rw [Tryz.params6] at hA hval
  obtain ⟨v0, vs0, d0, ds0, p0, q0, hargs, rfl, rfl, h0, r0⟩ := trodAll_cons hA
  obtain ⟨v1, vs1, d1, ds1, p1, q1, rfl, rfl, rfl, h1, r1⟩ := trodAll_cons r0
  obtain ⟨rfl, rfl, rfl⟩ := trodAll_nil r1
  obtain rfl : args = #[v0, v1] := by cases args; simp_all
  obtain ⟨rfl, rfl⟩ := trodVars_none hV
  have lt0 : ∀ x ∈ p0, x.block < W.heap.size := by obtain ⟨m, hm⟩ := h0; exact DataW.trod_lt m _ _ _ hm
  have fz0 : W.noneFrozen p0 := noneFrozen_sub hfz (by intro x hx; simp [hx])
  obtain ⟨x0, g0⟩ := (opProj (enc := enc) W).agg h0 fz0 (agg_of Tryz.underlying27 (hval 0 27 v0 rfl rfl))
  have lt1 : ∀ x ∈ p1, x.block < W.heap.size := by obtain ⟨m, hm⟩ := h1; exact DataW.trod_lt m _ _ _ hm
  have fz1 : W.noneFrozen p1 := noneFrozen_sub hfz (by intro x hx; simp [hx])
  obtain ⟨x1, g1⟩ := (opStr (enc := enc) W).one h1 fz1 (by obtain ⟨_, e, _⟩ := open_string Tryz.underlying9 (hval 1 9 v1 rfl rfl) h1; rw [e]; rfl)
  clear hA0 hval0
  refine (fnExactParseSchedule_walk v0 x0 v1 x1 W g0 g1 htab herr).mono fun e W' ⟨he, bel⟩ => ?_
  subst he
  exact ⟨_, rfl, _, _, _, [], _, [], hW', trodAll_mk1 (shut_bool Tryz.underlying4 _), (trodAll_cons_mk (Below.trod laidOutAll (by kernel_rfl) (of_decide_eq_true (by kernel_rfl)) h0 bel lt0) (trodAll_cons_mk (Below.trod laidOutAll (by kernel_rfl) (of_decide_eq_true (by kernel_rfl)) h1 bel lt1) trodAll_mk0)), rfl, bel.frame _, fun h => by cases h⟩

theorem said : Rows.FnExactParseScheduleSaid :=
  OpenClaim.holds_of_wide 6 Tryz.f6 rfl rfl rfl rfl rfl rfl rfl ⟨rfl, rfl, rfl, rfl, rfl⟩ rfl rfl rfl rfl rfl (by kernel_rfl) Tryz.func6 (by kernel_rfl)
    (of_decide_eq_true (by kernel_rfl)) (by unfold Func.isWrapper; first | (rw [if_pos (by decide +kernel)]; kernel_rfl) | (rw [if_neg (by decide +kernel)]; exact ⟨rfl, rfl⟩))
    (fun os started H enc _ => lifted os started H enc)
theorem proved : Rows.FnExactParseScheduleCardSaid :=
  Claim7.holds_tied_plain_at .later [] [.data, .data, .data, .sentinel, .sentinel] true Rows.fnExactParseScheduleCard.stood.harness Rows.fnExactParseScheduleCard.stood.looks
    said (fun _ h => by cases h) (by kernel_rfl) (fun _ h => by cases h) fnExactParseSchedule_row_tie rfl ⟨rfl, rfl⟩ (by kernel_rfl) rfl
    (fun f fn hf hfn => by
      obtain rfl : f = 6 := Option.some.inj ((show Tryz.prog.funcNamed Rows.fnExactParseScheduleRow.func = some 6 by kernel_rfl).symm.trans hf) |>.symm
      obtain rfl : fn = Tryz.f6 := (Option.some.inj (Tryz.func6.symm.trans hfn)).symm
      exact ⟨by kernel_rfl, fun j t ht => by
        rw [Tryz.params6] at ht
        have hm : t ∈ [27, 9] := by simpa using Array.mem_of_getElem? ht
        have hall : ([27, 9].all fun u => !Tryz.prog.wantsStandIn u) = true := by kernel_rfl
        exact (show Tryz.prog.wantsStandIn t = false by simpa using List.all_eq_true.1 hall t hm)⟩)
    (by kernel_rfl)
#print axioms proved
end Go.Proofs.YtkfpciggolkjeaaGreatDoor.fnExactParseSchedule
end
