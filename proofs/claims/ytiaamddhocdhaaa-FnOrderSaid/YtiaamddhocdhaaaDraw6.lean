/- Draws of literals. -/
import Derived.Test.YtiaamddhocdhaaaDraw5
namespace Go.Proofs.Ytiaamddhocdhaaa
open Go.ChangeShapes Go.WideShapes Go.ChangeAt Go.RowKit
set_option linter.unusedVariables false

set_option maxRecDepth 100000 in
set_option maxHeartbeats 4000000 in
theorem l11Draw_any (cb : Nat) (C : List Int) (s : StT) (v : Value) (p : ProjT) (S : Nat → Prop) (w : World) (h : Cur w cb C s) (hx : aggR projR S w v p) (hS : ∀ b, S b → b < w.heap.size ∧ b ≠ cb) (hp : projOk p = true) :
    Calls Try.prog 81 #[.pointer (some ⟨cb, 0, none⟩), v] w (fun e w' => e = .returned (.agg #[.int .i64 (litD C p s).1.1, .int .i64 (litD C p s).1.2.1, .int .i64 (litD C p s).1.2.2]) ∧ Cur w' cb C (litD C p s).2 ∧ Dr cb w w') := by
  obtain ⟨cs, rfl, hx⟩ := hx
  obtain ⟨c1, c2, c3, c4, rfl, q0, q1, q2, q3, q4⟩ := projR_open hx
  have Q1 := Lib.hid q1
  have Q2 := Lib.hid q2
  have Q3 := Lib.hid q3
  have Q4 := Lib.hid q4
  have HP := Lib.hid hx
  obtain ⟨p1, k1, rfl, l1, l1', -⟩ := sliceR_open q1
  obtain ⟨p2, k2, rfl, l2, l2', -⟩ := sliceR_open q2
  obtain ⟨p3, k3, rfl, l3, l3', -⟩ := sliceR_open q3
  obtain ⟨p4, k4, rfl, l4, l4', -⟩ := sliceR_open q4
  unfold maxLen at l1' l2' l3' l4'
  clear hx q0 q1 q2 q3 q4
  have HS := Lib.hid hS
  have HPO := Lib.hid hp
  have hpb := projOk_bd hp
  have hltc := h.lt
  have hc := h
  clear h hS hp
  show Calls Try.prog 81 #[.pointer (some ⟨cb, 0, none⟩), .agg #[.int .i64 p.1, .slice p1 p.2.1.length k1, .slice p2 p.2.2.1.length k2, .slice p3 p.2.2.2.1.length k3, .slice p4 p.2.2.2.2.length k4]] w _
  go_enter Try.func81, Try.ntmps81
  obtain ⟨W0, hW0⟩ : ∃ W, W = (w.alloc (.cells #[.int .i64 p.1, .slice p1 p.2.1.length k1, .slice p2 p.2.2.1.length k2, .slice p3 p.2.2.2.1.length k3, .slice p4 p.2.2.2.2.length k4] 34)).alloc (.cells #[.int .i64 0, .int .i64 0, .int .i64 0] 44) := ⟨_, rfl⟩
  have HBR := Lib.hid (show Blk W0 (w.heap.size + 1) 44 [.int .i64 0, .int .i64 0, .int .i64 0] from by rw [hW0]; exact Blk.new' _ (by simp))
  have HBP := Lib.hid (show Blk W0 w.heap.size 34 [.int .i64 p.1, .slice p1 p.2.1.length k1, .slice p2 p.2.2.1.length k2, .slice p3 p.2.2.2.1.length k3, .slice p4 p.2.2.2.2.length k4] from by rw [hW0]; exact (Blk.new' _ rfl).alloc _)
  have hB0 : Bel w W0 := by rw [hW0]; (repeat (first | assumption | exact Bel.refl _ | apply Bel.drewN | apply Bel.drew | apply Bel.alloc | refine Bel.trans ?_ (by assumption)))
  have hcW := hc.bel hB0
  have hdW : Dr cb w W0 := Dr.ofBel hB0
  have HW0 := Lib.hid hW0
  clear hW0 hc hB0
  have bA := belowV_in C (p.2.1.length : Int) s (by omega)
  go_wp2_with fail
  rw [← HW0.out]
  refine (l01Below_any cb C s p.2.1.length _ hcW (by omega)).mono ?_
  rintro e w1 ⟨rfl, hc1, hd1⟩
  have hd01 := hdW.trans hd1
  have HBR1 := Lib.hid (HBR.out.dr hd1 (by omega))
  have HBP1 := Lib.hid (HBP.out.dr hd1 (by omega))
  rw [show (belowV C (p.2.1.length : Int) s).1 = (litA C p s).1 from rfl] at bA ⊢
  have hc1 : Cur w1 cb C (litA C p s).2 := hc1
  obtain ⟨a, ha⟩ := Int.eq_ofNat_of_zero_le bA.1
  have halt : a < p.2.1.length := by omega
  have HA := Lib.hid ha
  clear ha
  clear hcW hdW hd1
  go_wp2_with fail
  refine (l01Once_any cb C (litA C p s).2 4 _ hc1 (by omega)).mono ?_
  rintro e w2 ⟨rfl, hcO, hd2⟩
  have hd02 := hd01.trans hd2
  have HBR2 := Lib.hid (HBR1.out.dr hd2 (by omega))
  have HBP2 := Lib.hid (HBP1.out.dr hd2 (by omega))
  have hcO : Cur w2 cb C (litO C p s).2 := hcO
  rw [show (onceV C 4 (litA C p s).2).1 = (litO C p s).1 from rfl]
  have bK := belowV_in C 2 (litO C p s).2 (by decide)
  rw [show (belowV C 2 (litO C p s).2).1 = (litK C p s).1 from rfl] at bK
  have hsz2 := hd02.size
  have hlr2 := HBR2.out.lt
  clear hc1 hd01 hd2
  cases ho : (litO C p s).1
  · have HRV := Lib.hid (show litD C p s = ((1 + (litK C p s).1, (litA C p s).1, (litW C p s).1), (litW C p s).2) from by unfold litD; rw [ho]; rfl)
    have hLW : litW C p s = belowV C 10 (litK C p s).2 := by unfold litW; rw [ho]; rfl
    have hw1 : IntKind.i64.wrap (1 + (litK C p s).1) = 1 + (litK C p s).1 := IntWalk.i64_in _ (by omega)
    have HLW := Lib.hid hLW
    clear hLW
    go_wp2_with fail
    refine (l01Below_any cb C (litO C p s).2 2 _ hcO (by omega)).mono ?_
    rintro e w3 ⟨rfl, hc3, hd3⟩
    rw [show (belowV C 2 (litO C p s).2).1 = (litK C p s).1 from rfl]
    have hc3 : Cur w3 cb C (litK C p s).2 := hc3
    go_wp2_with fail
    refine (l01Below_any cb C (litK C p s).2 10 _ hc3 (by omega)).mono ?_
    rintro e w4 ⟨rfl, hc4, hd4⟩
    rw [← HLW.out]
    have HC4 := Lib.hid (show Cur w4 cb C (litW C p s).2 from by rw [HLW.out]; exact hc4)
    have HBR4 := Lib.hid ((HBR2.out.dr hd3 (by omega)).dr hd4 (by omega))
    have HD4 := Lib.hid ((hd02.trans hd3).trans hd4)
    have r0 := HBR4.out.cellv (j := 0) (by simp); have r1 := HBR4.out.cellv (j := 1) (by simp); have r2 := HBR4.out.cellv (j := 2) (by simp); simp only [List.getElem_cons_zero, List.getElem_cons_succ] at r0 r1 r2; have f0 := HBR4.out.frozen 0; have f1 := HBR4.out.frozen 1; have f2 := HBR4.out.frozen 2
    clear hc4 hc3 hcO hd3 hd4 hd02
    go_wp2_with fail
    have HBW := Lib.hid ((((Below.refl (w.heap.size + 1) w4).setCell (p := ⟨w.heap.size + 1, 0, none⟩) (Nat.le_refl _) (.int .i64 (1 + (litK C p s).1))).setCell (p := ⟨w.heap.size + 1, 1, none⟩) (Nat.le_refl _) (.int .i64 (litA C p s).1)).setCell (p := ⟨w.heap.size + 1, 2, none⟩) (Nat.le_refl _) (.int .i64 (litW C p s).1))
    have HBF := Lib.hid (((HBR4.out.set 0 (.int .i64 (1 + (litK C p s).1))).set 1 (.int .i64 (litA C p s).1)).set 2 (.int .i64 (litW C p s).1))
    generalize (((w4.setCell ⟨w.heap.size + 1, 0, none⟩ (.int .i64 (1 + (litK C p s).1))).setCell ⟨w.heap.size + 1, 1, none⟩ (.int .i64 (litA C p s).1)).setCell ⟨w.heap.size + 1, 2, none⟩ (.int .i64 (litW C p s).1)) = WF at *
    have c0 := HBF.out.cellv (j := 0) (by simp)
    have c1 := HBF.out.cellv (j := 1) (by simp)
    have c2 := HBF.out.cellv (j := 2) (by simp)
    simp only [List.set_cons_zero, List.set_cons_succ, List.getElem_cons_zero, List.getElem_cons_succ] at c0 c1 c2
    have HCW := HC4.out.below HBW.out (by omega)
    have HDW := HD4.out.below' HBW.out (by omega)
    clear HBF HBW
    exact bodyPost_ret (v := .agg #[.int .i64 (1 + (litK C p s).1), .int .i64 (litA C p s).1, .int .i64 (litW C p s).1]) (by simp [results, Try.results81, go_sem, c0, c1, c2]) rfl ⟨by rw [HRV.out], by rw [HRV.out]; exact HCW, HDW⟩
  · have HRV := Lib.hid (show litD C p s = ((3 + (litK C p s).1, (litA C p s).1, (litW C p s).1), (litW C p s).2) from by unfold litD; rw [ho]; rfl)
    have hLW : litW C p s = belowV C (p.2.1.getD (litA C p s).1.toNat zAct).2.2.length (litK C p s).2 := by unfold litW; rw [ho]; rfl
    have hw1 : IntKind.i64.wrap (3 + (litK C p s).1) = 3 + (litK C p s).1 := IntWalk.i64_in _ (by omega)
    have hlt := halt
    have hta : (litA C p s).1.toNat = a := by rw [HA.out]; rfl
    rw [hta] at hLW
    obtain ⟨ab, ao, acs, rfl, hSab, arow, ael⟩ := sliceR_atS zAct Q1.out hlt
    obtain ⟨ac2, rfl, aq0, aq1, aq2⟩ := actR_open ael
    have hml := projOk_modes HPO.out hlt
    generalize p.2.1.getD a zAct = XA at *
    obtain ⟨am, amk, rfl, aml, aml', -⟩ := sliceR_open aq2
    unfold maxLen at aml'
    have hSb := HS.out _ hSab
    have hne := hSb.2
    have g2 := hd02.cell (arow 2 (by simp)).1 hSb.2
    have g1 := HBP2.out.cellv (j := 1) (by simp)
    simp only [List.getElem_cons_zero, List.getElem_cons_succ] at g1 g2
    have HLW := Lib.hid (show (belowV C (XA.2.2.length : Int) (litK C p s).2).1 = (litW C p s).1 ∧ (litW C p s).2 = (belowV C (XA.2.2.length : Int) (litK C p s).2).2 from by rw [hLW]; exact ⟨rfl, rfl⟩)
    have ha' : (litA C p s).1 = (a : Int) := HA.out
    have hia : (a : Int) < (p.2.1.length : Int) := by omega
    rw [ha'] at HRV
    have hblt := hSb.1
    clear arow ael aq0 aq1 aq2 hLW hta ho bA
    rw [ha']
    clear ha'
    go_wp2_with fail
    refine wp_region_held_drew (S := (fun W => W.cell? ⟨w.heap.size, 1, none⟩ = some (.slice (some ⟨ab, ao, none⟩) p.2.1.length k1) ∧ W.cell? ⟨ab, ao + a * 3 + 2, none⟩ = some (.slice am XA.2.2.length amk))) (by kernel_rfl) ?_ (fun hHeld => ?_)
    · ((try dsimp only); (first | exact ⟨g1, g2⟩ | exact ⟨k1, k2⟩ | exact ⟨m1, m2⟩ | exact ⟨cell_setAt (cell_setAt (cell_setAt m1 (by omega) _) (by omega) _) (by omega) _, cell_setAt (cell_setAt (cell_setAt m2 (by omega) _) (by omega) _) (by omega) _⟩))
    refine wpAnyH_take (i := 0) (v := ?_) rfl (by kernel_rfl) (by kernel_rfl) (by kernel_rfl) (fun _ _ _ h => h) (Or.inl ⟨by rfl, ?_⟩) (by assumption) ?_
    rotate_left
    · (intro w hSw; (try dsimp only at hSw); go_simp <;> with_reducible rfl)
    try walk_nrm
    refine wpAnyH_take (i := 3) (v := ?_) rfl (by kernel_rfl) (by kernel_rfl) (by kernel_rfl) (fun _ _ _ h => h) (Or.inl ⟨by rfl, ?_⟩) (by assumption) ?_
    rotate_left
    · (intro w hSw; (try dsimp only at hSw); go_simp <;> with_reducible rfl)
    try walk_nrm
    refine wpAnyH_take (i := 4) (v := ?_) rfl (by kernel_rfl) (by kernel_rfl) (by kernel_rfl) (fun _ _ _ h => h) (Or.inl ⟨by rfl, ?_⟩) (by assumption) ?_
    rotate_left
    · (intro w hSw; (try dsimp only at hSw); go_simp <;> with_reducible rfl)
    try walk_nrm
    refine wpAnyH_take (i := 5) (v := ?_) rfl (by kernel_rfl) (by kernel_rfl) (by kernel_rfl) (fun _ _ _ h => h) (Or.inl ⟨by rfl, ?_⟩) (by assumption) ?_
    rotate_left
    · (intro w hSw; (try dsimp only at hSw); go_simp <;> with_reducible rfl)
    try walk_nrm
    refine wpAnyH_take (i := 6) (v := ?_) rfl (by kernel_rfl) (by kernel_rfl) (by kernel_rfl) (fun _ _ _ h => h) (Or.inl ⟨by rfl, ?_⟩) (by assumption) ?_
    rotate_left
    · (intro w hSw; (try dsimp only at hSw); go_simp <;> with_reducible rfl)
    try walk_nrm
    refine wpAnyH_take (i := 7) (v := ?_) rfl (by kernel_rfl) (by kernel_rfl) (by kernel_rfl) (fun _ _ _ h => h) (Or.inl ⟨by rfl, ?_⟩) (by assumption) ?_
    rotate_left
    · (intro w hSw; (try dsimp only at hSw); go_simp <;> with_reducible rfl)
    try walk_nrm
    refine wpAnyH_take (i := 8) (v := ?_) rfl (by kernel_rfl) (by kernel_rfl) (by kernel_rfl) (fun _ _ _ h => h) (Or.inl ⟨by rfl, ?_⟩) (by assumption) ?_
    rotate_left
    · (intro w hSw; (try dsimp only at hSw); go_simp <;> with_reducible rfl)
    try walk_nrm
    refine wpAnyH_take (i := 9) (v := ?_) rfl (by kernel_rfl) (by kernel_rfl) (by kernel_rfl) (fun _ _ _ h => h) (Or.inl ⟨by rfl, ?_⟩) (by assumption) ?_
    rotate_left
    · (intro w hSw; (try dsimp only at hSw); go_simp <;> with_reducible rfl)
    try walk_nrm
    refine wpAnyH_take (i := 10) (v := ?_) rfl (by kernel_rfl) (by kernel_rfl) (by kernel_rfl) (fun _ _ _ h => h) (Or.inl ⟨by rfl, ?_⟩) (by assumption) ?_
    rotate_left
    · (intro w hSw; (try dsimp only at hSw); go_simp <;> with_reducible rfl)
    try walk_nrm
    refine wpAnyH_take (i := 11) (v := ?_) rfl (by kernel_rfl) (by kernel_rfl) (by kernel_rfl) (fun _ _ _ h => h) (Or.inl ⟨by rfl, ?_⟩) (by assumption) ?_
    rotate_left
    · (intro w hSw; (try dsimp only at hSw); go_simp <;> with_reducible rfl)
    try walk_nrm
    refine wpAnyH_ready (rs := [1]) (by kernel_rfl) (by simp) ?_
    refine AllReadyH.cons rfl (fun K hK => ?_) AllReadyH.nil
    · go_simp
      (go_at_call 139; (with_reducible refine (l01Below_any cb C (litO C p s).2 2 _ (hcO.bel (by (repeat (first | assumption | exact Bel.refl _ | apply Bel.drewN | apply Bel.drew | apply Bel.alloc | refine Bel.trans ?_ (by assumption))))) (by omega)).mono ?_); rintro e w3 ⟨rfl, hc3, hd3⟩; have hd3 := (Dr.ofBel (cb := cb) (a := w2) (by (repeat (first | assumption | exact Bel.refl _ | apply Bel.drewN | apply Bel.drew | apply Bel.alloc | refine Bel.trans ?_ (by assumption))))).trans hd3; have k1 := hd3.cell g1 (by omega); have k2 := hd3.cell g2 hne; have hc3 : Cur w3 cb C (litK C p s).2 := hc3; rw [show (belowV C 2 (litO C p s).2).1 = (litK C p s).1 from rfl])
      try go_wp2_with fail
      refine hK.out _ _ ?_ (fun hHeld => ?_)
      · ((try dsimp only); (first | exact ⟨g1, g2⟩ | exact ⟨k1, k2⟩ | exact ⟨m1, m2⟩ | exact ⟨cell_setAt (cell_setAt (cell_setAt m1 (by omega) _) (by omega) _) (by omega) _, cell_setAt (cell_setAt (cell_setAt m2 (by omega) _) (by omega) _) (by omega) _⟩))
      clear hK K
      try walk_nrm
      refine wpAnyH_take (i := 2) (v := ?_) rfl (by kernel_rfl) (by kernel_rfl) (by kernel_rfl) (fun _ _ _ h => h) (Or.inl ⟨by rfl, ?_⟩) (by assumption) ?_
      rotate_left
      · (intro w hSw; (try dsimp only at hSw); go_simp <;> with_reducible rfl)
      try walk_nrm
      refine wpAnyH_ready (rs := [12]) (by kernel_rfl) (by simp) ?_
      refine AllReadyH.cons rfl (fun K hK => ?_) AllReadyH.nil
      · go_simp
        (go_at_call 139; (with_reducible refine (l01Below_any cb C (litK C p s).2 XA.2.2.length _ (hc3.bel (by (repeat (first | assumption | exact Bel.refl _ | apply Bel.drewN | apply Bel.drew | apply Bel.alloc | refine Bel.trans ?_ (by assumption))))) (by omega)).mono ?_); rintro e w4 ⟨rfl, hc4, hd4⟩; have m1 := hd4.cell k1 (by omega); have m2 := hd4.cell k2 hne; rw [HLW.out.1]; have HC4 := Lib.hid (show Cur w4 cb C (litW C p s).2 from by rw [HLW.out.2]; exact hc4); have HBR4 := Lib.hid ((HBR2.out.dr hd3 (by omega)).dr hd4 (by omega)); have HD4 := Lib.hid ((hd02.trans hd3).trans hd4); have r0 := HBR4.out.cellv (j := 0) (by simp); have r1 := HBR4.out.cellv (j := 1) (by simp); have r2 := HBR4.out.cellv (j := 2) (by simp); simp only [List.getElem_cons_zero, List.getElem_cons_succ] at r0 r1 r2; have f0 := HBR4.out.frozen 0; have f1 := HBR4.out.frozen 1; have f2 := HBR4.out.frozen 2; clear hc4)
        try go_wp2_with fail
        refine hK.out _ _ ?_ (fun hHeld => ?_)
        · ((try dsimp only); (first | exact ⟨g1, g2⟩ | exact ⟨k1, k2⟩ | exact ⟨m1, m2⟩ | exact ⟨cell_setAt (cell_setAt (cell_setAt m1 (by omega) _) (by omega) _) (by omega) _, cell_setAt (cell_setAt (cell_setAt m2 (by omega) _) (by omega) _) (by omega) _⟩))
        clear hK K
        try walk_nrm
        refine wpAnyH_take (i := 13) (v := ?_) rfl (by kernel_rfl) (by kernel_rfl) (by kernel_rfl) (fun _ _ _ h => h) (Or.inl ⟨by rfl, ?_⟩) (by assumption) ?_
        rotate_left
        · (intro w hSw; (try dsimp only at hSw); go_simp <;> with_reducible rfl)
        try walk_nrm
        refine wpAnyH_ready (rs := [14]) (by kernel_rfl) (by simp) ?_
        refine AllReadyH.cons rfl (fun K hK => ?_) AllReadyH.nil
        · go_simp
          refine hK.out _ _ ?_ (fun hHeld => ?_)
          · ((try dsimp only); (first | exact ⟨g1, g2⟩ | exact ⟨k1, k2⟩ | exact ⟨m1, m2⟩ | exact ⟨cell_setAt (cell_setAt (cell_setAt m1 (by omega) _) (by omega) _) (by omega) _, cell_setAt (cell_setAt (cell_setAt m2 (by omega) _) (by omega) _) (by omega) _⟩))
          clear hK K
          try walk_nrm
          refine wpAnyH_done (by kernel_rfl) ?_ _
          go_wp2_with fail
          have HBW := Lib.hid ((((Below.refl (w.heap.size + 1) w4).setCell (p := ⟨w.heap.size + 1, 0, none⟩) (Nat.le_refl _) (.int .i64 (3 + (litK C p s).1))).setCell (p := ⟨w.heap.size + 1, 1, none⟩) (Nat.le_refl _) (.int .i64 (a : Int))).setCell (p := ⟨w.heap.size + 1, 2, none⟩) (Nat.le_refl _) (.int .i64 (litW C p s).1))
          have HBF := Lib.hid (((HBR4.out.set 0 (.int .i64 (3 + (litK C p s).1))).set 1 (.int .i64 (a : Int))).set 2 (.int .i64 (litW C p s).1))
          generalize (((w4.setCell ⟨w.heap.size + 1, 0, none⟩ (.int .i64 (3 + (litK C p s).1))).setCell ⟨w.heap.size + 1, 1, none⟩ (.int .i64 (a : Int))).setCell ⟨w.heap.size + 1, 2, none⟩ (.int .i64 (litW C p s).1)) = WF at *
          have c0 := HBF.out.cellv (j := 0) (by simp)
          have c1 := HBF.out.cellv (j := 1) (by simp)
          have c2 := HBF.out.cellv (j := 2) (by simp)
          simp only [List.set_cons_zero, List.set_cons_succ, List.getElem_cons_zero, List.getElem_cons_succ] at c0 c1 c2
          have HCW := HC4.out.below HBW.out (by omega)
          have HDW := HD4.out.below' HBW.out (by omega)
          clear HBF HBW
          exact bodyPost_ret (v := .agg #[.int .i64 (3 + (litK C p s).1), .int .i64 (a : Int), .int .i64 (litW C p s).1]) (by simp [results, Try.results81, go_sem, c0, c1, c2]) rfl ⟨by rw [HRV.out], by rw [HRV.out]; exact HCW, HDW⟩

end Go.Proofs.Ytiaamddhocdhaaa
