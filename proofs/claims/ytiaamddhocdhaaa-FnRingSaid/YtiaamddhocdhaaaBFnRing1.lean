/- Texts laid together: Draw6 Make Draw7 DistI Mark DistM Earl TopoF. -/
import Derived.Test.YtiaamddhocdhaaaDraw5
import Derived.Test.YtiaamddhocdhaaaDistS
import Derived.Test.YtiaamddhocdhaaaDistF
import Derived.Test.YtiaamddhocdhaaaIn
import Derived.Test.YtiaamddhocdhaaaMut
import Derived.Test.YtiaamddhocdhaaaKin
import Derived.Test.YtiaamddhocdhaaaEq
import Derived.Test.YtiaamddhocdhaaaFullGap

/- Draw6 -/
section
namespace Go.Proofs.Ytiaamddhocdhaaa
open Go.ChangeShapes Go.WideShapes Go.ChangeAt Go.RowKit
set_option linter.unusedVariables false

set_option maxRecDepth 100000 in
set_option maxHeartbeats 4000000 in
theorem l11Draw_any (cb : Nat) (C : List Int) (s : StT) (v : Value) (p : ProjT) (S : Nat → Prop) (w : World) (h : Cur w cb C s) (hx : aggR projR S w v p) (hS : ∀ b, S b → b < w.heap.size ∧ b ≠ cb) (hp : projOk p = true) :
    Calls Try.prog 81 #[.pointer (some ⟨cb, 0, none⟩), v] w (fun e w' => e = .returned (.agg #[.int .i64 (litD C p s).1.1, .int .i64 (litD C p s).1.2.1, .int .i64 (litD C p s).1.2.2]) ∧ Cur w' cb C (litD C p s).2 ∧ Dr cb w w') := by
  obtain ⟨cs, rfl, hx⟩ := hx
  obtain ⟨c1, c2, c3, c4, rfl, q0, q1, q2, q3, q4⟩ := projR_open hx
  have Q1 := Lib.hid q1
  have Q2 := Lib.hid q2
  have Q3 := Lib.hid q3
  have Q4 := Lib.hid q4
  have HP := Lib.hid hx
  obtain ⟨p1, k1, rfl, l1, l1', -⟩ := sliceR_open q1
  obtain ⟨p2, k2, rfl, l2, l2', -⟩ := sliceR_open q2
  obtain ⟨p3, k3, rfl, l3, l3', -⟩ := sliceR_open q3
  obtain ⟨p4, k4, rfl, l4, l4', -⟩ := sliceR_open q4
  unfold maxLen at l1' l2' l3' l4'
  clear hx q0 q1 q2 q3 q4
  have HS := Lib.hid hS
  have HPO := Lib.hid hp
  have hpb := projOk_bd hp
  have hltc := h.lt
  have hc := h
  clear h hS hp
  show Calls Try.prog 81 #[.pointer (some ⟨cb, 0, none⟩), .agg #[.int .i64 p.1, .slice p1 p.2.1.length k1, .slice p2 p.2.2.1.length k2, .slice p3 p.2.2.2.1.length k3, .slice p4 p.2.2.2.2.length k4]] w _
  go_enter Try.func81, Try.ntmps81
  obtain ⟨W0, hW0⟩ : ∃ W, W = (w.alloc (.cells #[.int .i64 p.1, .slice p1 p.2.1.length k1, .slice p2 p.2.2.1.length k2, .slice p3 p.2.2.2.1.length k3, .slice p4 p.2.2.2.2.length k4] 34)).alloc (.cells #[.int .i64 0, .int .i64 0, .int .i64 0] 44) := ⟨_, rfl⟩
  have HBR := Lib.hid (show Blk W0 (w.heap.size + 1) 44 [.int .i64 0, .int .i64 0, .int .i64 0] from by rw [hW0]; exact Blk.new' _ (by simp))
  have HBP := Lib.hid (show Blk W0 w.heap.size 34 [.int .i64 p.1, .slice p1 p.2.1.length k1, .slice p2 p.2.2.1.length k2, .slice p3 p.2.2.2.1.length k3, .slice p4 p.2.2.2.2.length k4] from by rw [hW0]; exact (Blk.new' _ rfl).alloc _)
  have hB0 : Bel w W0 := by rw [hW0]; (repeat (first | assumption | exact Bel.refl _ | apply Bel.drewN | apply Bel.drew | apply Bel.alloc | refine Bel.trans ?_ (by assumption)))
  have hcW := hc.bel hB0
  have hdW : Dr cb w W0 := Dr.ofBel hB0
  have HW0 := Lib.hid hW0
  clear hW0 hc hB0
  have bA := belowV_in C (p.2.1.length : Int) s (by omega)
  go_wp2_with fail
  rw [← HW0.out]
  refine (l01Below_any cb C s p.2.1.length _ hcW (by omega)).mono ?_
  rintro e w1 ⟨rfl, hc1, hd1⟩
  have hd01 := hdW.trans hd1
  have HBR1 := Lib.hid (HBR.out.dr hd1 (by omega))
  have HBP1 := Lib.hid (HBP.out.dr hd1 (by omega))
  rw [show (belowV C (p.2.1.length : Int) s).1 = (litA C p s).1 from rfl] at bA ⊢
  have hc1 : Cur w1 cb C (litA C p s).2 := hc1
  obtain ⟨a, ha⟩ := Int.eq_ofNat_of_zero_le bA.1
  have halt : a < p.2.1.length := by omega
  have HA := Lib.hid ha
  clear ha
  clear hcW hdW hd1
  go_wp2_with fail
  refine (l01Once_any cb C (litA C p s).2 4 _ hc1 (by omega)).mono ?_
  rintro e w2 ⟨rfl, hcO, hd2⟩
  have hd02 := hd01.trans hd2
  have HBR2 := Lib.hid (HBR1.out.dr hd2 (by omega))
  have HBP2 := Lib.hid (HBP1.out.dr hd2 (by omega))
  have hcO : Cur w2 cb C (litO C p s).2 := hcO
  rw [show (onceV C 4 (litA C p s).2).1 = (litO C p s).1 from rfl]
  have bK := belowV_in C 2 (litO C p s).2 (by decide)
  rw [show (belowV C 2 (litO C p s).2).1 = (litK C p s).1 from rfl] at bK
  have hsz2 := hd02.size
  have hlr2 := HBR2.out.lt
  clear hc1 hd01 hd2
  cases ho : (litO C p s).1
  · have HRV := Lib.hid (show litD C p s = ((1 + (litK C p s).1, (litA C p s).1, (litW C p s).1), (litW C p s).2) from by unfold litD; rw [ho]; rfl)
    have hLW : litW C p s = belowV C 10 (litK C p s).2 := by unfold litW; rw [ho]; rfl
    have hw1 : IntKind.i64.wrap (1 + (litK C p s).1) = 1 + (litK C p s).1 := IntWalk.i64_in _ (by omega)
    have HLW := Lib.hid hLW
    clear hLW
    go_wp2_with fail
    refine (l01Below_any cb C (litO C p s).2 2 _ hcO (by omega)).mono ?_
    rintro e w3 ⟨rfl, hc3, hd3⟩
    rw [show (belowV C 2 (litO C p s).2).1 = (litK C p s).1 from rfl]
    have hc3 : Cur w3 cb C (litK C p s).2 := hc3
    go_wp2_with fail
    refine (l01Below_any cb C (litK C p s).2 10 _ hc3 (by omega)).mono ?_
    rintro e w4 ⟨rfl, hc4, hd4⟩
    rw [← HLW.out]
    have HC4 := Lib.hid (show Cur w4 cb C (litW C p s).2 from by rw [HLW.out]; exact hc4)
    have HBR4 := Lib.hid ((HBR2.out.dr hd3 (by omega)).dr hd4 (by omega))
    have HD4 := Lib.hid ((hd02.trans hd3).trans hd4)
    have r0 := HBR4.out.cellv (j := 0) (by simp); have r1 := HBR4.out.cellv (j := 1) (by simp); have r2 := HBR4.out.cellv (j := 2) (by simp); simp only [List.getElem_cons_zero, List.getElem_cons_succ] at r0 r1 r2; have f0 := HBR4.out.frozen 0; have f1 := HBR4.out.frozen 1; have f2 := HBR4.out.frozen 2
    clear hc4 hc3 hcO hd3 hd4 hd02
    go_wp2_with fail
    have HBW := Lib.hid ((((Below.refl (w.heap.size + 1) w4).setCell (p := ⟨w.heap.size + 1, 0, none⟩) (Nat.le_refl _) (.int .i64 (1 + (litK C p s).1))).setCell (p := ⟨w.heap.size + 1, 1, none⟩) (Nat.le_refl _) (.int .i64 (litA C p s).1)).setCell (p := ⟨w.heap.size + 1, 2, none⟩) (Nat.le_refl _) (.int .i64 (litW C p s).1))
    have HBF := Lib.hid (((HBR4.out.set 0 (.int .i64 (1 + (litK C p s).1))).set 1 (.int .i64 (litA C p s).1)).set 2 (.int .i64 (litW C p s).1))
    generalize (((w4.setCell ⟨w.heap.size + 1, 0, none⟩ (.int .i64 (1 + (litK C p s).1))).setCell ⟨w.heap.size + 1, 1, none⟩ (.int .i64 (litA C p s).1)).setCell ⟨w.heap.size + 1, 2, none⟩ (.int .i64 (litW C p s).1)) = WF at *
    have c0 := HBF.out.cellv (j := 0) (by simp)
    have c1 := HBF.out.cellv (j := 1) (by simp)
    have c2 := HBF.out.cellv (j := 2) (by simp)
    simp only [List.set_cons_zero, List.set_cons_succ, List.getElem_cons_zero, List.getElem_cons_succ] at c0 c1 c2
    have HCW := HC4.out.below HBW.out (by omega)
    have HDW := HD4.out.below' HBW.out (by omega)
    clear HBF HBW
    exact bodyPost_ret (v := .agg #[.int .i64 (1 + (litK C p s).1), .int .i64 (litA C p s).1, .int .i64 (litW C p s).1]) (by simp [results, Try.results81, go_sem, c0, c1, c2]) rfl ⟨by rw [HRV.out], by rw [HRV.out]; exact HCW, HDW⟩
  · have HRV := Lib.hid (show litD C p s = ((3 + (litK C p s).1, (litA C p s).1, (litW C p s).1), (litW C p s).2) from by unfold litD; rw [ho]; rfl)
    have hLW : litW C p s = belowV C (p.2.1.getD (litA C p s).1.toNat zAct).2.2.length (litK C p s).2 := by unfold litW; rw [ho]; rfl
    have hw1 : IntKind.i64.wrap (3 + (litK C p s).1) = 3 + (litK C p s).1 := IntWalk.i64_in _ (by omega)
    have hlt := halt
    have hta : (litA C p s).1.toNat = a := by rw [HA.out]; rfl
    rw [hta] at hLW
    obtain ⟨ab, ao, acs, rfl, hSab, arow, ael⟩ := sliceR_atS zAct Q1.out hlt
    obtain ⟨ac2, rfl, aq0, aq1, aq2⟩ := actR_open ael
    have hml := projOk_modes HPO.out hlt
    generalize p.2.1.getD a zAct = XA at *
    obtain ⟨am, amk, rfl, aml, aml', -⟩ := sliceR_open aq2
    unfold maxLen at aml'
    have hSb := HS.out _ hSab
    have hne := hSb.2
    have g2 := hd02.cell (arow 2 (by simp)).1 hSb.2
    have g1 := HBP2.out.cellv (j := 1) (by simp)
    simp only [List.getElem_cons_zero, List.getElem_cons_succ] at g1 g2
    have HLW := Lib.hid (show (belowV C (XA.2.2.length : Int) (litK C p s).2).1 = (litW C p s).1 ∧ (litW C p s).2 = (belowV C (XA.2.2.length : Int) (litK C p s).2).2 from by rw [hLW]; exact ⟨rfl, rfl⟩)
    have ha' : (litA C p s).1 = (a : Int) := HA.out
    have hia : (a : Int) < (p.2.1.length : Int) := by omega
    rw [ha'] at HRV
    have hblt := hSb.1
    clear arow ael aq0 aq1 aq2 hLW hta ho bA
    rw [ha']
    clear ha'
    go_wp2_with fail
    refine wp_region_held_drew (S := (fun W => W.cell? ⟨w.heap.size, 1, none⟩ = some (.slice (some ⟨ab, ao, none⟩) p.2.1.length k1) ∧ W.cell? ⟨ab, ao + a * 3 + 2, none⟩ = some (.slice am XA.2.2.length amk))) (by kernel_rfl) ?_ (fun hHeld => ?_)
    · ((try dsimp only); (first | exact ⟨g1, g2⟩ | exact ⟨k1, k2⟩ | exact ⟨m1, m2⟩ | exact ⟨cell_setAt (cell_setAt (cell_setAt m1 (by omega) _) (by omega) _) (by omega) _, cell_setAt (cell_setAt (cell_setAt m2 (by omega) _) (by omega) _) (by omega) _⟩))
    refine wpAnyH_take (i := 0) (v := ?_) rfl (by kernel_rfl) (by kernel_rfl) (by kernel_rfl) (fun _ _ _ h => h) (Or.inl ⟨by rfl, ?_⟩) (by assumption) ?_
    rotate_left
    · (intro w hSw; (try dsimp only at hSw); go_simp <;> with_reducible rfl)
    try walk_nrm
    refine wpAnyH_take (i := 3) (v := ?_) rfl (by kernel_rfl) (by kernel_rfl) (by kernel_rfl) (fun _ _ _ h => h) (Or.inl ⟨by rfl, ?_⟩) (by assumption) ?_
    rotate_left
    · (intro w hSw; (try dsimp only at hSw); go_simp <;> with_reducible rfl)
    try walk_nrm
    refine wpAnyH_take (i := 4) (v := ?_) rfl (by kernel_rfl) (by kernel_rfl) (by kernel_rfl) (fun _ _ _ h => h) (Or.inl ⟨by rfl, ?_⟩) (by assumption) ?_
    rotate_left
    · (intro w hSw; (try dsimp only at hSw); go_simp <;> with_reducible rfl)
    try walk_nrm
    refine wpAnyH_take (i := 5) (v := ?_) rfl (by kernel_rfl) (by kernel_rfl) (by kernel_rfl) (fun _ _ _ h => h) (Or.inl ⟨by rfl, ?_⟩) (by assumption) ?_
    rotate_left
    · (intro w hSw; (try dsimp only at hSw); go_simp <;> with_reducible rfl)
    try walk_nrm
    refine wpAnyH_take (i := 6) (v := ?_) rfl (by kernel_rfl) (by kernel_rfl) (by kernel_rfl) (fun _ _ _ h => h) (Or.inl ⟨by rfl, ?_⟩) (by assumption) ?_
    rotate_left
    · (intro w hSw; (try dsimp only at hSw); go_simp <;> with_reducible rfl)
    try walk_nrm
    refine wpAnyH_take (i := 7) (v := ?_) rfl (by kernel_rfl) (by kernel_rfl) (by kernel_rfl) (fun _ _ _ h => h) (Or.inl ⟨by rfl, ?_⟩) (by assumption) ?_
    rotate_left
    · (intro w hSw; (try dsimp only at hSw); go_simp <;> with_reducible rfl)
    try walk_nrm
    refine wpAnyH_take (i := 8) (v := ?_) rfl (by kernel_rfl) (by kernel_rfl) (by kernel_rfl) (fun _ _ _ h => h) (Or.inl ⟨by rfl, ?_⟩) (by assumption) ?_
    rotate_left
    · (intro w hSw; (try dsimp only at hSw); go_simp <;> with_reducible rfl)
    try walk_nrm
    refine wpAnyH_take (i := 9) (v := ?_) rfl (by kernel_rfl) (by kernel_rfl) (by kernel_rfl) (fun _ _ _ h => h) (Or.inl ⟨by rfl, ?_⟩) (by assumption) ?_
    rotate_left
    · (intro w hSw; (try dsimp only at hSw); go_simp <;> with_reducible rfl)
    try walk_nrm
    refine wpAnyH_take (i := 10) (v := ?_) rfl (by kernel_rfl) (by kernel_rfl) (by kernel_rfl) (fun _ _ _ h => h) (Or.inl ⟨by rfl, ?_⟩) (by assumption) ?_
    rotate_left
    · (intro w hSw; (try dsimp only at hSw); go_simp <;> with_reducible rfl)
    try walk_nrm
    refine wpAnyH_take (i := 11) (v := ?_) rfl (by kernel_rfl) (by kernel_rfl) (by kernel_rfl) (fun _ _ _ h => h) (Or.inl ⟨by rfl, ?_⟩) (by assumption) ?_
    rotate_left
    · (intro w hSw; (try dsimp only at hSw); go_simp <;> with_reducible rfl)
    try walk_nrm
    refine wpAnyH_ready (rs := [1]) (by kernel_rfl) (by simp) ?_
    refine AllReadyH.cons rfl (fun K hK => ?_) AllReadyH.nil
    · go_simp
      (go_at_call 139; (with_reducible refine (l01Below_any cb C (litO C p s).2 2 _ (hcO.bel (by (repeat (first | assumption | exact Bel.refl _ | apply Bel.drewN | apply Bel.drew | apply Bel.alloc | refine Bel.trans ?_ (by assumption))))) (by omega)).mono ?_); rintro e w3 ⟨rfl, hc3, hd3⟩; have hd3 := (Dr.ofBel (cb := cb) (a := w2) (by (repeat (first | assumption | exact Bel.refl _ | apply Bel.drewN | apply Bel.drew | apply Bel.alloc | refine Bel.trans ?_ (by assumption))))).trans hd3; have k1 := hd3.cell g1 (by omega); have k2 := hd3.cell g2 hne; have hc3 : Cur w3 cb C (litK C p s).2 := hc3; rw [show (belowV C 2 (litO C p s).2).1 = (litK C p s).1 from rfl])
      try go_wp2_with fail
      refine hK.out _ _ ?_ (fun hHeld => ?_)
      · ((try dsimp only); (first | exact ⟨g1, g2⟩ | exact ⟨k1, k2⟩ | exact ⟨m1, m2⟩ | exact ⟨cell_setAt (cell_setAt (cell_setAt m1 (by omega) _) (by omega) _) (by omega) _, cell_setAt (cell_setAt (cell_setAt m2 (by omega) _) (by omega) _) (by omega) _⟩))
      clear hK K
      try walk_nrm
      refine wpAnyH_take (i := 2) (v := ?_) rfl (by kernel_rfl) (by kernel_rfl) (by kernel_rfl) (fun _ _ _ h => h) (Or.inl ⟨by rfl, ?_⟩) (by assumption) ?_
      rotate_left
      · (intro w hSw; (try dsimp only at hSw); go_simp <;> with_reducible rfl)
      try walk_nrm
      refine wpAnyH_ready (rs := [12]) (by kernel_rfl) (by simp) ?_
      refine AllReadyH.cons rfl (fun K hK => ?_) AllReadyH.nil
      · go_simp
        (go_at_call 139; (with_reducible refine (l01Below_any cb C (litK C p s).2 XA.2.2.length _ (hc3.bel (by (repeat (first | assumption | exact Bel.refl _ | apply Bel.drewN | apply Bel.drew | apply Bel.alloc | refine Bel.trans ?_ (by assumption))))) (by omega)).mono ?_); rintro e w4 ⟨rfl, hc4, hd4⟩; have m1 := hd4.cell k1 (by omega); have m2 := hd4.cell k2 hne; rw [HLW.out.1]; have HC4 := Lib.hid (show Cur w4 cb C (litW C p s).2 from by rw [HLW.out.2]; exact hc4); have HBR4 := Lib.hid ((HBR2.out.dr hd3 (by omega)).dr hd4 (by omega)); have HD4 := Lib.hid ((hd02.trans hd3).trans hd4); have r0 := HBR4.out.cellv (j := 0) (by simp); have r1 := HBR4.out.cellv (j := 1) (by simp); have r2 := HBR4.out.cellv (j := 2) (by simp); simp only [List.getElem_cons_zero, List.getElem_cons_succ] at r0 r1 r2; have f0 := HBR4.out.frozen 0; have f1 := HBR4.out.frozen 1; have f2 := HBR4.out.frozen 2; clear hc4)
        try go_wp2_with fail
        refine hK.out _ _ ?_ (fun hHeld => ?_)
        · ((try dsimp only); (first | exact ⟨g1, g2⟩ | exact ⟨k1, k2⟩ | exact ⟨m1, m2⟩ | exact ⟨cell_setAt (cell_setAt (cell_setAt m1 (by omega) _) (by omega) _) (by omega) _, cell_setAt (cell_setAt (cell_setAt m2 (by omega) _) (by omega) _) (by omega) _⟩))
        clear hK K
        try walk_nrm
        refine wpAnyH_take (i := 13) (v := ?_) rfl (by kernel_rfl) (by kernel_rfl) (by kernel_rfl) (fun _ _ _ h => h) (Or.inl ⟨by rfl, ?_⟩) (by assumption) ?_
        rotate_left
        · (intro w hSw; (try dsimp only at hSw); go_simp <;> with_reducible rfl)
        try walk_nrm
        refine wpAnyH_ready (rs := [14]) (by kernel_rfl) (by simp) ?_
        refine AllReadyH.cons rfl (fun K hK => ?_) AllReadyH.nil
        · go_simp
          refine hK.out _ _ ?_ (fun hHeld => ?_)
          · ((try dsimp only); (first | exact ⟨g1, g2⟩ | exact ⟨k1, k2⟩ | exact ⟨m1, m2⟩ | exact ⟨cell_setAt (cell_setAt (cell_setAt m1 (by omega) _) (by omega) _) (by omega) _, cell_setAt (cell_setAt (cell_setAt m2 (by omega) _) (by omega) _) (by omega) _⟩))
          clear hK K
          try walk_nrm
          refine wpAnyH_done (by kernel_rfl) ?_ _
          go_wp2_with fail
          have HBW := Lib.hid ((((Below.refl (w.heap.size + 1) w4).setCell (p := ⟨w.heap.size + 1, 0, none⟩) (Nat.le_refl _) (.int .i64 (3 + (litK C p s).1))).setCell (p := ⟨w.heap.size + 1, 1, none⟩) (Nat.le_refl _) (.int .i64 (a : Int))).setCell (p := ⟨w.heap.size + 1, 2, none⟩) (Nat.le_refl _) (.int .i64 (litW C p s).1))
          have HBF := Lib.hid (((HBR4.out.set 0 (.int .i64 (3 + (litK C p s).1))).set 1 (.int .i64 (a : Int))).set 2 (.int .i64 (litW C p s).1))
          generalize (((w4.setCell ⟨w.heap.size + 1, 0, none⟩ (.int .i64 (3 + (litK C p s).1))).setCell ⟨w.heap.size + 1, 1, none⟩ (.int .i64 (a : Int))).setCell ⟨w.heap.size + 1, 2, none⟩ (.int .i64 (litW C p s).1)) = WF at *
          have c0 := HBF.out.cellv (j := 0) (by simp)
          have c1 := HBF.out.cellv (j := 1) (by simp)
          have c2 := HBF.out.cellv (j := 2) (by simp)
          simp only [List.set_cons_zero, List.set_cons_succ, List.getElem_cons_zero, List.getElem_cons_succ] at c0 c1 c2
          have HCW := HC4.out.below HBW.out (by omega)
          have HDW := HD4.out.below' HBW.out (by omega)
          clear HBF HBW
          exact bodyPost_ret (v := .agg #[.int .i64 (3 + (litK C p s).1), .int .i64 (a : Int), .int .i64 (litW C p s).1]) (by simp [results, Try.results81, go_sem, c0, c1, c2]) rfl ⟨by rw [HRV.out], by rw [HRV.out]; exact HCW, HDW⟩

end Go.Proofs.Ytiaamddhocdhaaa
end

/- Make -/
section
namespace Go.Proofs.Ytiaamddhocdhaaa
open Go.ChangeShapes Go.WideShapes Go.ChangeAt Go.RowKit
set_option linter.unusedVariables false

/-- The state that a Make begins with. -/
def newAt (C : List Int) (t : Int) : StT := (0, (newV C).2 + t)
theorem newV_in (C : List Int) (hl : C.length ≤ 1048576) : 0 ≤ (newV C).2 ∧ (newV C).2 ≤ 1073741823 := newTo_in C _ hl
/-- The cells of a struct are set from a block's start. -/
def setAll (w : World) (b : Nat) : Nat → List Value → World
  | _, [] => w
  | j, v :: vs => setAll (w.setCell ⟨b, j, none⟩ v) b (j + 1) vs
set_option maxHeartbeats 2000000 in
theorem MakeProject_any (v : Value) (C : List Int) (S : Nat → Prop) (w : World) (hx : bytesR S w [v] C) (hS : ∀ b, S b → b < w.heap.size) (hl : C.length ≤ 1048576) :
    Calls Try.prog 15 #[v] w (FreshA projR w (drawP C 3 (newV C)).1) := by
  have HX := Lib.hid (bytesR_good.bel hx ((Bel.refl w).alloc (.cells #[.int .i64 0, .slice none 0 0, .slice none 0 0, .slice none 0 0, .slice none 0 0] 34)) hS)
  have HS := Lib.hid (show ∀ b, S b → b < (w.alloc (.cells #[.int .i64 0, .slice none 0 0, .slice none 0 0, .slice none 0 0, .slice none 0 0] 34)).heap.size from fun b hb => by have := hS b hb; simp; omega)
  have HBR := Lib.hid (Blk.new' (w := w) (e := 34) [.int .i64 0, .slice none 0 0, .slice none 0 0, .slice none 0 0, .slice none 0 0] rfl)
  clear hx hS
  go_enter Try.func15, Try.ntmps15
  go_wp2_with fail
  refine (l01New_any v C S _ HX.out HS.out hl).mono ?_
  rintro e w1 ⟨cb, rfl, hcb, hc1, g1⟩
  have HBR1 := Lib.hid (HBR.out.bel g1)
  have hz1 := HBR1.out.lt
  have G1 : Bel w w1 := by (repeat (first | assumption | exact Bel.refl _ | apply Bel.drewN | apply Bel.drew | apply Bel.alloc | refine Bel.trans ?_ (by assumption)))
  have hcb' : w.heap.size + 1 ≤ cb := by simpa using hcb
  go_wp2_with fail
  refine (l05Draw_any cb C (newV C) 3 _ hc1 (by decide) (by decide)).mono ?_
  rintro e w2 ⟨cs, rfl, hr, hc2, hd2⟩
  have HBR2 := Lib.hid (HBR1.out.dr hd2 (by omega))
  have HG := Lib.hid (hd2.bel G1 (by omega))
  have HR := Lib.hid hr
  have hsz1 := hc1.lt
  obtain ⟨X, hX⟩ : ∃ X, (drawP C 3 (newV C)).1 = X := ⟨_, rfl⟩
  have hX3 : (drawP C ((3 : Nat) : Int) (newV C)).1 = X := hX
  rw [hX3] at hr HR
  have HXQ := Lib.hid hX
  obtain ⟨x1, x2, x3, x4, rfl, q0, q1, q2, q3, q4⟩ := projR_open hr
  obtain ⟨p1, k1, rfl, -⟩ := sliceR_open q1
  obtain ⟨p2, k2, rfl, -⟩ := sliceR_open q2
  obtain ⟨p3, k3, rfl, -⟩ := sliceR_open q3
  obtain ⟨p4, k4, rfl, -⟩ := sliceR_open q4
  have r0 := HBR2.out.cellv (j := 0) (by simp)
  have r1 := HBR2.out.cellv (j := 1) (by simp)
  have r2 := HBR2.out.cellv (j := 2) (by simp)
  have r3 := HBR2.out.cellv (j := 3) (by simp)
  have r4 := HBR2.out.cellv (j := 4) (by simp)
  simp only [List.getElem_cons_zero, List.getElem_cons_succ] at r0 r1 r2 r3 r4
  have fr0 := HBR2.out.frozen 0
  have fr1 := HBR2.out.frozen 1
  have fr2 := HBR2.out.frozen 2
  have fr3 := HBR2.out.frozen 3
  have fr4 := HBR2.out.frozen 4
  clear hr q0 q1 q2 q3 q4 hc1 hc2 hd2 hX hX3 hcb
  go_wp2_with fail
  have HBW := Lib.hid ((((((Below.refl (w.heap.size) w2).setCell (p := ⟨w.heap.size, 0, none⟩) (Nat.le_refl _) (.int .i64 X.1)).setCell (p := ⟨w.heap.size, 1, none⟩) (Nat.le_refl _) (.slice p1 X.2.1.length k1)).setCell (p := ⟨w.heap.size, 2, none⟩) (Nat.le_refl _) (.slice p2 X.2.2.1.length k2)).setCell (p := ⟨w.heap.size, 3, none⟩) (Nat.le_refl _) (.slice p3 X.2.2.2.1.length k3)).setCell (p := ⟨w.heap.size, 4, none⟩) (Nat.le_refl _) (.slice p4 X.2.2.2.2.length k4))
  have HIF := Lib.hid ((((((Hi.refl (w.heap.size + 1) w2).set (q := w.heap.size) (j := 0) (.int .i64 X.1) (.inl (by omega))).set (q := w.heap.size) (j := 1) (.slice p1 X.2.1.length k1) (.inl (by omega))).set (q := w.heap.size) (j := 2) (.slice p2 X.2.2.1.length k2) (.inl (by omega))).set (q := w.heap.size) (j := 3) (.slice p3 X.2.2.2.1.length k3) (.inl (by omega))).set (q := w.heap.size) (j := 4) (.slice p4 X.2.2.2.2.length k4) (.inl (by omega)))
  have HBF := Lib.hid (((((HBR2.out.set 0 (.int .i64 X.1)).set 1 (.slice p1 X.2.1.length k1)).set 2 (.slice p2 X.2.2.1.length k2)).set 3 (.slice p3 X.2.2.2.1.length k3)).set 4 (.slice p4 X.2.2.2.2.length k4))
  generalize (((((w2.setCell ⟨w.heap.size, 0, none⟩ (.int .i64 X.1)).setCell ⟨w.heap.size, 1, none⟩ (.slice p1 X.2.1.length k1)).setCell ⟨w.heap.size, 2, none⟩ (.slice p2 X.2.2.1.length k2)).setCell ⟨w.heap.size, 3, none⟩ (.slice p3 X.2.2.2.1.length k3)).setCell ⟨w.heap.size, 4, none⟩ (.slice p4 X.2.2.2.2.length k4)) = WF at *
  have c0 := HBF.out.cellv (j := 0) (by simp)
  have c1 := HBF.out.cellv (j := 1) (by simp)
  have c2 := HBF.out.cellv (j := 2) (by simp)
  have c3 := HBF.out.cellv (j := 3) (by simp)
  have c4 := HBF.out.cellv (j := 4) (by simp)
  simp only [List.set_cons_zero, List.set_cons_succ, List.getElem_cons_zero, List.getElem_cons_succ] at c0 c1 c2 c3 c4
  clear HBF
  exact bodyPost_ret (v := .agg #[.int .i64 X.1, .slice p1 X.2.1.length k1, .slice p2 X.2.2.1.length k2, .slice p3 X.2.2.2.1.length k3, .slice p4 X.2.2.2.2.length k4]) (by simp [results, Try.results15, go_sem, c0, c1, c2, c3, c4]) rfl ⟨[.int .i64 X.1, .slice p1 X.2.1.length k1, .slice p2 X.2.2.1.length k2, .slice p3 X.2.2.2.1.length k3, .slice p4 X.2.2.2.2.length k4], rfl, by rw [HXQ.out]; have HR2 := projR_good.stay HR.out (w' := WF) (fun b hb => HIF.out.2 b (by have := hb.1; omega) hb.2); exact projR_good.mono HR2 (fun b hb => ⟨by have := hb.1; omega, by have := hb.2; have := HIF.out.1; omega⟩), by have h1 := HG.out; have h2 := HBW.out; exact Below.trans h1 h2⟩

set_option maxHeartbeats 2000000 in
theorem MakeSched_any (v : Value) (C : List Int) (S : Nat → Prop) (v1 : Value) (p : ProjT) (T : Nat → Prop) (w : World) (hx : bytesR S w [v] C) (hS : ∀ b, S b → b < w.heap.size) (hl : C.length ≤ 1048576) (hp : aggR projR T w v1 p) (hT : ∀ b, T b → b < w.heap.size) (hok : projOk p = true) :
    Calls Try.prog 16 #[v, v1] w (FreshA schR w (schV C p (newAt C 11)).1) := by
  obtain ⟨cs, rfl, hp⟩ := hp
  obtain ⟨y1, y2, y3, y4, rfl, q0, q1, q2, q3, q4⟩ := projR_open hp
  obtain ⟨p1, k1, rfl, -⟩ := sliceR_open q1
  obtain ⟨p2, k2, rfl, -⟩ := sliceR_open q2
  obtain ⟨p3, k3, rfl, -⟩ := sliceR_open q3
  obtain ⟨p4, k4, rfl, -⟩ := sliceR_open q4
  have HP := Lib.hid hp
  have HT := Lib.hid hT
  have HOK := Lib.hid hok
  have HX0 := Lib.hid hx
  have HS0 := Lib.hid hS
  clear hp q0 q1 q2 q3 q4 hT hok hx hS
  obtain ⟨W0, hW0⟩ : ∃ W, W = (w.alloc (.cells #[.int .i64 p.1, .slice p1 p.2.1.length k1, .slice p2 p.2.2.1.length k2, .slice p3 p.2.2.2.1.length k3, .slice p4 p.2.2.2.2.length k4] 34)).alloc (.cells #[.slice none 0 0, .slice none 0 0] 41) := ⟨_, rfl⟩
  have hB0 : Bel w W0 := by rw [hW0]; (repeat (first | assumption | exact Bel.refl _ | apply Bel.drewN | apply Bel.drew | apply Bel.alloc | refine Bel.trans ?_ (by assumption)))
  have hz0 : W0.heap.size = w.heap.size + 2 := by rw [hW0]; simp
  have HBR := Lib.hid (show Blk W0 (w.heap.size + 1) 41 [.slice none 0 0, .slice none 0 0] from by rw [hW0]; exact Blk.new' _ (by simp))
  have HBP := Lib.hid (show Blk W0 w.heap.size 34 [.int .i64 p.1, .slice p1 p.2.1.length k1, .slice p2 p.2.2.1.length k2, .slice p3 p.2.2.2.1.length k3, .slice p4 p.2.2.2.2.length k4] from by rw [hW0]; exact (Blk.new' _ rfl).alloc _)
  have HX := Lib.hid (bytesR_good.bel HX0.out hB0 HS0.out)
  have HS := Lib.hid (show ∀ b, S b → b < W0.heap.size from fun b hb => by have := HS0.out b hb; omega)
  have HW0 := Lib.hid hW0
  have hz0' : w.heap.size + 2 ≤ W0.heap.size := by omega
  show Calls Try.prog 16 #[v, .agg #[.int .i64 p.1, .slice p1 p.2.1.length k1, .slice p2 p.2.2.1.length k2, .slice p3 p.2.2.2.1.length k3, .slice p4 p.2.2.2.2.length k4]] w _
  go_enter Try.func16, Try.ntmps16
  clear hW0 hz0
  go_wp2_with fail
  rw [← HW0.out]
  refine (l01New_any v C S _ HX.out HS.out hl).mono ?_
  rintro e w1 ⟨cb, rfl, hcb, hc1, g1⟩
  have HBR1 := Lib.hid (HBR.out.bel g1)
  have HBP1 := Lib.hid (HBP.out.bel g1)
  have G1 := hB0.trans g1
  have hcb' : w.heap.size + 2 ≤ cb := by omega
  obtain ⟨u0, u1, u2, u3, u4, u5, u6, u7⟩ := hc1.ex
  have f2 := u6 2
  have hni := newV_in C hl
  have hwt : IntKind.i64.wrap ((newV C).2 + 11) = (newV C).2 + 11 := IntWalk.i64_in _ (by omega)
  have HCA := Lib.hid (show Cur (w1.setCell ⟨cb, 2, none⟩ (.int .i64 ((newV C).2 + 11))) cb C (newAt C 11) from hc1.set (j := 2) (.inr ⟨rfl, rfl, by unfold I64; omega⟩))
  have HDA := Lib.hid ((Dr.refl cb w1).put 2 (.int .i64 ((newV C).2 + 11)))
  have hlt1 := hc1.lt
  have b0 := HBP1.out.cellv (j := 0) (by simp)
  have b1 := HBP1.out.cellv (j := 1) (by simp)
  have b2 := HBP1.out.cellv (j := 2) (by simp)
  have b3 := HBP1.out.cellv (j := 3) (by simp)
  have b4 := HBP1.out.cellv (j := 4) (by simp)
  simp only [List.getElem_cons_zero, List.getElem_cons_succ] at b0 b1 b2 b3 b4
  clear u6 u7 hc1 g1 hB0 u3 u4 hcb
  go_wp2_with fail
  generalize w1.setCell ⟨cb, 2, none⟩ (.int .i64 ((newV C).2 + 11)) = W1 at *
  refine (l09Draw_any cb C (newAt C 11) _ p T _ HCA.out (aggR_mk (projR_good.dr (projR_good.bel HP.out G1 HT.out) HDA.out (fun b hb => ⟨by have := HT.out b hb; have := G1.size; omega, by have := HT.out b hb; omega⟩))) (fun b hb => ⟨by have := HT.out b hb; have := G1.size; have := HDA.out.size; omega, by have := HT.out b hb; omega⟩) HOK.out).mono ?_
  rintro e w2 ⟨cs2, rfl, hr, hc2, hd2⟩
  have HBR2 := Lib.hid ((HBR1.out.dr HDA.out (by omega)).dr hd2 (by omega))
  have HG := Lib.hid ((HDA.out.trans hd2).bel G1 (by omega))
  have HR := Lib.hid hr
  have hz1 := HBR1.out.lt
  have hz11 := HDA.out.size
  obtain ⟨X, hX⟩ : ∃ X, (schV C p (newAt C 11)).1 = X := ⟨_, rfl⟩
  rw [hX] at hr HR
  have HXQ := Lib.hid hX
  obtain ⟨x0, x1, rfl, q0, q1⟩ := schR_open hr
  obtain ⟨z0, c0, rfl, -⟩ := sliceR_open q0
  obtain ⟨z1, c1, rfl, -⟩ := sliceR_open q1
  have r0 := HBR2.out.cellv (j := 0) (by simp)
  have r1 := HBR2.out.cellv (j := 1) (by simp)
  simp only [List.getElem_cons_zero, List.getElem_cons_succ] at r0 r1
  have fr0 := HBR2.out.frozen 0
  have fr1 := HBR2.out.frozen 1
  clear hr q0 q1 hc2 hd2 hX
  go_wp2_with fail
  have HBW := Lib.hid (((Below.refl (w.heap.size + 1) w2).setCell (p := ⟨w.heap.size + 1, 0, none⟩) (Nat.le_refl _) (.slice z0 X.1.length c0)).setCell (p := ⟨w.heap.size + 1, 1, none⟩) (Nat.le_refl _) (.slice z1 X.2.length c1))
  have HIF := Lib.hid (((Hi.refl (w.heap.size + 1 + 1) w2).set (q := w.heap.size + 1) (j := 0) (.slice z0 X.1.length c0) (.inl (by omega))).set (q := w.heap.size + 1) (j := 1) (.slice z1 X.2.length c1) (.inl (by omega)))
  have HBF := Lib.hid ((HBR2.out.set 0 (.slice z0 X.1.length c0)).set 1 (.slice z1 X.2.length c1))
  generalize ((w2.setCell ⟨w.heap.size + 1, 0, none⟩ (.slice z0 X.1.length c0)).setCell ⟨w.heap.size + 1, 1, none⟩ (.slice z1 X.2.length c1)) = WF at *
  have k0_ := HBF.out.cellv (j := 0) (by simp)
  have k1_ := HBF.out.cellv (j := 1) (by simp)
  simp only [List.set_cons_zero, List.set_cons_succ, List.getElem_cons_zero, List.getElem_cons_succ] at k0_ k1_
  clear HBF
  exact bodyPost_ret (v := .agg #[.slice z0 X.1.length c0, .slice z1 X.2.length c1]) (by simp [results, Try.results16, go_sem, k0_, k1_]) rfl ⟨[.slice z0 X.1.length c0, .slice z1 X.2.length c1], rfl, by rw [HXQ.out]; have HR2 := schR_good.stay HR.out (w' := WF) (fun b hb => HIF.out.2 b (by have := hb.1; omega) hb.2); exact schR_good.mono HR2 (fun b hb => ⟨by have := hb.1; omega, by have := hb.2; have := HIF.out.1; omega⟩), by have h1 := HG.out; have h2 := Below.mono HBW.out (show w.heap.size ≤ w.heap.size + 1 from by omega); exact Below.trans h1 h2⟩

set_option maxHeartbeats 2000000 in
theorem MakeLit_any (v : Value) (C : List Int) (S : Nat → Prop) (v1 : Value) (p : ProjT) (T : Nat → Prop) (t : Int) (w : World) (hx : bytesR S w [v] C) (hS : ∀ b, S b → b < w.heap.size) (hl : C.length ≤ 1048576) (hp : aggR projR T w v1 p) (hT : ∀ b, T b → b < w.heap.size) (hok : projOk p = true) (ht : 0 ≤ t ∧ t ≤ 1000) :
    Calls Try.prog 17 #[v, v1, .int .i64 t] w (fun e w' => e = .returned (.agg #[.int .i64 (litD C p (newAt C t)).1.1, .int .i64 (litD C p (newAt C t)).1.2.1, .int .i64 (litD C p (newAt C t)).1.2.2]) ∧ Bel w w') := by
  obtain ⟨cs, rfl, hp⟩ := hp
  obtain ⟨y1, y2, y3, y4, rfl, q0, q1, q2, q3, q4⟩ := projR_open hp
  obtain ⟨p1, k1, rfl, -⟩ := sliceR_open q1
  obtain ⟨p2, k2, rfl, -⟩ := sliceR_open q2
  obtain ⟨p3, k3, rfl, -⟩ := sliceR_open q3
  obtain ⟨p4, k4, rfl, -⟩ := sliceR_open q4
  have HP := Lib.hid hp
  have HT := Lib.hid hT
  have HOK := Lib.hid hok
  have HX0 := Lib.hid hx
  have HS0 := Lib.hid hS
  clear hp q0 q1 q2 q3 q4 hT hok hx hS
  obtain ⟨W0, hW0⟩ : ∃ W, W = (w.alloc (.cells #[.int .i64 p.1, .slice p1 p.2.1.length k1, .slice p2 p.2.2.1.length k2, .slice p3 p.2.2.2.1.length k3, .slice p4 p.2.2.2.2.length k4] 34)).alloc (.cells #[.int .i64 0, .int .i64 0, .int .i64 0] 44) := ⟨_, rfl⟩
  have hB0 : Bel w W0 := by rw [hW0]; (repeat (first | assumption | exact Bel.refl _ | apply Bel.drewN | apply Bel.drew | apply Bel.alloc | refine Bel.trans ?_ (by assumption)))
  have hz0 : W0.heap.size = w.heap.size + 2 := by rw [hW0]; simp
  have HBR := Lib.hid (show Blk W0 (w.heap.size + 1) 44 [.int .i64 0, .int .i64 0, .int .i64 0] from by rw [hW0]; exact Blk.new' _ (by simp))
  have HBP := Lib.hid (show Blk W0 w.heap.size 34 [.int .i64 p.1, .slice p1 p.2.1.length k1, .slice p2 p.2.2.1.length k2, .slice p3 p.2.2.2.1.length k3, .slice p4 p.2.2.2.2.length k4] from by rw [hW0]; exact (Blk.new' _ rfl).alloc _)
  have HX := Lib.hid (bytesR_good.bel HX0.out hB0 HS0.out)
  have HS := Lib.hid (show ∀ b, S b → b < W0.heap.size from fun b hb => by have := HS0.out b hb; omega)
  have HW0 := Lib.hid hW0
  have hz0' : w.heap.size + 2 ≤ W0.heap.size := by omega
  show Calls Try.prog 17 #[v, .agg #[.int .i64 p.1, .slice p1 p.2.1.length k1, .slice p2 p.2.2.1.length k2, .slice p3 p.2.2.2.1.length k3, .slice p4 p.2.2.2.2.length k4], .int .i64 t] w _
  go_enter Try.func17, Try.ntmps17
  clear hW0 hz0
  go_wp2_with fail
  rw [← HW0.out]
  refine (l01New_any v C S _ HX.out HS.out hl).mono ?_
  rintro e w1 ⟨cb, rfl, hcb, hc1, g1⟩
  have HBR1 := Lib.hid (HBR.out.bel g1)
  have HBP1 := Lib.hid (HBP.out.bel g1)
  have G1 := hB0.trans g1
  have hcb' : w.heap.size + 2 ≤ cb := by omega
  obtain ⟨u0, u1, u2, u3, u4, u5, u6, u7⟩ := hc1.ex
  have f2 := u6 2
  have hni := newV_in C hl
  have hwt : IntKind.i64.wrap ((newV C).2 + t) = (newV C).2 + t := IntWalk.i64_in _ (by omega)
  have HCA := Lib.hid (show Cur (w1.setCell ⟨cb, 2, none⟩ (.int .i64 ((newV C).2 + t))) cb C (newAt C t) from hc1.set (j := 2) (.inr ⟨rfl, rfl, by unfold I64; omega⟩))
  have HDA := Lib.hid ((Dr.refl cb w1).put 2 (.int .i64 ((newV C).2 + t)))
  have hlt1 := hc1.lt
  have b0 := HBP1.out.cellv (j := 0) (by simp)
  have b1 := HBP1.out.cellv (j := 1) (by simp)
  have b2 := HBP1.out.cellv (j := 2) (by simp)
  have b3 := HBP1.out.cellv (j := 3) (by simp)
  have b4 := HBP1.out.cellv (j := 4) (by simp)
  simp only [List.getElem_cons_zero, List.getElem_cons_succ] at b0 b1 b2 b3 b4
  clear u6 u7 hc1 g1 hB0 u3 u4 hcb
  go_wp2_with fail
  generalize w1.setCell ⟨cb, 2, none⟩ (.int .i64 ((newV C).2 + t)) = W1 at *
  refine (l11Draw_any cb C (newAt C t) _ p T _ HCA.out (aggR_mk (projR_good.dr (projR_good.bel HP.out G1 HT.out) HDA.out (fun b hb => ⟨by have := HT.out b hb; have := G1.size; omega, by have := HT.out b hb; omega⟩))) (fun b hb => ⟨by have := HT.out b hb; have := G1.size; have := HDA.out.size; omega, by have := HT.out b hb; omega⟩) HOK.out).mono ?_
  rintro e w2 ⟨rfl, hc2, hd2⟩
  have HBR2 := Lib.hid ((HBR1.out.dr HDA.out (by omega)).dr hd2 (by omega))
  have HG := Lib.hid ((HDA.out.trans hd2).bel G1 (by omega))
  obtain ⟨X, hX⟩ : ∃ X, (litD C p (newAt C t)).1 = X := ⟨_, rfl⟩
  rw [hX]
  have HXQ := Lib.hid hX
  have r0 := HBR2.out.cellv (j := 0) (by simp)
  have r1 := HBR2.out.cellv (j := 1) (by simp)
  have r2 := HBR2.out.cellv (j := 2) (by simp)
  simp only [List.getElem_cons_zero, List.getElem_cons_succ] at r0 r1 r2
  have fr0 := HBR2.out.frozen 0
  have fr1 := HBR2.out.frozen 1
  have fr2 := HBR2.out.frozen 2
  clear hc2 hd2 hX
  go_wp2_with fail
  have HBW := Lib.hid ((((Below.refl (w.heap.size + 1) w2).setCell (p := ⟨w.heap.size + 1, 0, none⟩) (Nat.le_refl _) (.int .i64 X.1)).setCell (p := ⟨w.heap.size + 1, 1, none⟩) (Nat.le_refl _) (.int .i64 X.2.1)).setCell (p := ⟨w.heap.size + 1, 2, none⟩) (Nat.le_refl _) (.int .i64 X.2.2))
  have HIF := Lib.hid ((((Hi.refl (w.heap.size + 1 + 1) w2).set (q := w.heap.size + 1) (j := 0) (.int .i64 X.1) (.inl (by omega))).set (q := w.heap.size + 1) (j := 1) (.int .i64 X.2.1) (.inl (by omega))).set (q := w.heap.size + 1) (j := 2) (.int .i64 X.2.2) (.inl (by omega)))
  have HBF := Lib.hid (((HBR2.out.set 0 (.int .i64 X.1)).set 1 (.int .i64 X.2.1)).set 2 (.int .i64 X.2.2))
  generalize (((w2.setCell ⟨w.heap.size + 1, 0, none⟩ (.int .i64 X.1)).setCell ⟨w.heap.size + 1, 1, none⟩ (.int .i64 X.2.1)).setCell ⟨w.heap.size + 1, 2, none⟩ (.int .i64 X.2.2)) = WF at *
  have c0 := HBF.out.cellv (j := 0) (by simp)
  have c1 := HBF.out.cellv (j := 1) (by simp)
  have c2 := HBF.out.cellv (j := 2) (by simp)
  simp only [List.set_cons_zero, List.set_cons_succ, List.getElem_cons_zero, List.getElem_cons_succ] at c0 c1 c2
  clear HBF
  exact bodyPost_ret (v := .agg #[.int .i64 X.1, .int .i64 X.2.1, .int .i64 X.2.2]) (by simp [results, Try.results17, go_sem, c0, c1, c2]) rfl ⟨by rw [HXQ.out], by have h1 := HG.out; have h2 := Below.mono HBW.out (show w.heap.size ≤ w.heap.size + 1 from by omega); exact Below.trans h1 h2⟩

end Go.Proofs.Ytiaamddhocdhaaa
end

/- Draw7 -/
section
namespace Go.Proofs.Ytiaamddhocdhaaa
open Go.ChangeShapes Go.WideShapes Go.ChangeAt Go.RowKit
set_option linter.unusedVariables false

theorem moresV_stop {C : List Int} {m : Int} (h : ¬ m > 1) : ∀ (k : Nat) (L : List LinkT) (st : StT), moresV C m k L st = (L, st) := by
  intro k L st
  cases k with
  | zero => rfl
  | succ k => rw [moresV, if_neg h]
theorem Blk.below2 {w w' : World} {g : Nat} {e : TypeId} {arr : List Value} {p p' : Option Addr} (h : Blk w g e arr) (hF : ∀ b, b < w.heap.size → (∀ a, p = some a → b ≠ a.block) → w'.heap[b]? = w.heap[b]? ∧ ∀ a, p' = some a → b ≠ a.block) (hlt : g < w.heap.size) (hp : ∀ a, p = some a → g ≠ a.block) : Blk w' g e arr := by
  unfold Blk at h ⊢
  rw [(hF g hlt hp).1]
  exact h
/-- The blocks between two numbers stand as they stood. -/
def Mid (A B : Nat) (w w' : World) : Prop := ∀ b, A ≤ b → b < B → w'.heap[b]? = w.heap[b]?
theorem Mid.refl (A B : Nat) (w : World) : Mid A B w w := fun _ _ _ => rfl
theorem Mid.dr {A B cb : Nat} {a b c : World} (h : Mid A B a b) (hd : Dr cb b c) (hc : cb < A) (hB : B ≤ b.heap.size) : Mid A B a c := fun k k1 k2 => (hd.block (by omega) (by omega)).trans (h k k1 k2)
theorem Mid.below {A B : Nat} {a b c : World} (h : Mid A B a b) (hb : Below B b c) : Mid A B a c := fun k k1 k2 => (Below.block hb k k2).trans (h k k1 k2)
theorem Mid.bel {A B : Nat} {a b c : World} (h : Mid A B a b) (hb : Bel b c) (hB : B ≤ b.heap.size) : Mid A B a c := fun k k1 k2 => (hb.block (by omega)).trans (h k k1 k2)
theorem Mid.set {A B : Nat} {a b : World} (h : Mid A B a b) {q j : Nat} (u : Value) (hq : q < A ∨ B ≤ q) : Mid A B a (b.setCell ⟨q, j, none⟩ u) := fun k k1 k2 => (Below.heap_setCell _ _ _ _ (show k ≠ q by omega)).trans (h k k1 k2)
set_option maxRecDepth 100000 in
set_option maxHeartbeats 8000000 in
theorem l07Loops_any (cb : Nat) (C : List Int) (s : StT) (w : World) (h : Cur w cb C s) : Calls Try.prog 95 #[.pointer (some ⟨cb, 0, none⟩)] w (DrA projR cb C w (loopsP C s)) := by
  have hltc := h.lt
  have hc := h
  have HBR := Lib.hid (Blk.new' (w := w) (e := 34) [.int .i64 0, .slice none 0 0, .slice none 0 0, .slice none 0 0, .slice none 0 0] rfl)
  clear h
  go_enter Try.func95, Try.ntmps95
  go_wp2_with fail
  refine (l05Draw_own cb C s 4 _ (hc.bel (by (repeat (first | assumption | exact Bel.refl _ | apply Bel.drewN | apply Bel.drew | apply Bel.alloc | refine Bel.trans ?_ (by assumption))))) (by decide) (by decide)).mono ?_
  rintro e w1 ⟨VA, VR, VS, Q0, K0, M, rfl, hM0, hM1, hra, hrr, hrk, hown, hid, hc1, hd1⟩
  have hd10 := hd1
  have hd1 := (Dr.ofBel (cb := cb) (a := w) (by (repeat (first | assumption | exact Bel.refl _ | apply Bel.drewN | apply Bel.drew | apply Bel.alloc | refine Bel.trans ?_ (by assumption))))).trans hd1
  simp only [World.size_alloc] at hM0 hra hrr hrk
  have hM0' : w.heap.size + 1 ≤ M := hM0
  have hDD := drawP_ok C 4 s (by decide) (by decide)
  obtain ⟨P, s1, hP⟩ : ∃ P s1, drawP C 4 s = (P, s1) := ⟨_, _, rfl⟩
  have hP' : drawP C ((4 : Nat) : Int) s = (P, s1) := hP
  rw [hP'] at hra hrr hrk hown hid hc1 hDD
  simp only at hra hrr hrk hown hid hc1
  have hDD : Drawn P 4 := hDD
  have hpb := projOk_bd hDD.ok
  have hpa := hDD.acts
  have hpl := hDD.links
  have HPQ := Lib.hid hP
  rw [hP']
  dsimp only
  obtain ⟨a1, ca, rfl, la, la', -⟩ := sliceR_open hra
  obtain ⟨a3, cr, rfl, -⟩ := sliceR_open hrr
  obtain ⟨a4, cs, rfl, -⟩ := sliceR_open hrk
  have HDQ : ∃ D, P.1 = D := ⟨_, rfl⟩
  obtain ⟨D, hD⟩ := HDQ
  obtain ⟨NA, hNA⟩ : ∃ n, P.2.1.length = n := ⟨_, rfl⟩
  obtain ⟨NR, hNR⟩ : ∃ n, P.2.2.2.1.length = n := ⟨_, rfl⟩
  obtain ⟨NS, hNS⟩ : ∃ n, P.2.2.2.2.length = n := ⟨_, rfl⟩
  rw [hD] at hid
  rw [hNA] at hra hpa la
  rw [hNR] at hrr
  rw [hNS] at hrk
  rw [hD, hNA, hNR, hNS]
  have hle0 := hown.le
  unfold maxLen at hle0
  have HRA := Lib.hid hra
  have HRR := Lib.hid hrr
  have HRK := Lib.hid hrk
  have HID := Lib.hid hid
  have HDQ := Lib.hid hD
  obtain ⟨BP, hBP⟩ : ∃ n, n = w1.heap.size := ⟨_, rfl⟩
  obtain ⟨W1, hW1⟩ : ∃ W, W = w1.alloc (.cells #[.int .i64 D, .slice a1 NA ca, .slice Q0 P.2.2.1.length K0, .slice a3 NR cr, .slice a4 NS cs] 34) := ⟨_, rfl⟩
  have HBP := Lib.hid (show Blk W1 BP 34 [.int .i64 D, .slice a1 NA ca, .slice Q0 P.2.2.1.length K0, .slice a3 NR cr, .slice a4 NS cs] from by rw [hW1]; exact Blk.new' _ hBP)
  have HBR := Lib.hid (show Blk W1 w.heap.size 34 [.int .i64 0, .slice none 0 0, .slice none 0 0, .slice none 0 0, .slice none 0 0] from by rw [hW1]; exact (HBR.out.dr hd10 (by omega)).alloc _)
  have hcW := hc1.bel (w' := W1) (by rw [hW1]; (repeat (first | assumption | exact Bel.refl _ | apply Bel.drewN | apply Bel.drew | apply Bel.alloc | refine Bel.trans ?_ (by assumption))))
  have hdW : Dr cb w W1 := by rw [hW1]; exact hd1.alloc _
  have HMW := Lib.hid (show Mid (w.heap.size + 1) M w1 W1 from by rw [hW1]; exact (Mid.refl _ _ _).bel (by (repeat (first | assumption | exact Bel.refl _ | apply Bel.drewN | apply Bel.drew | apply Bel.alloc | refine Bel.trans ?_ (by assumption)))) hM1)
  have hzW : W1.heap.size = BP + 1 := by rw [hW1, hBP]; simp
  have hBPs : w1.heap.size ≤ BP ∧ BP ≤ w1.heap.size := by rw [hBP]; exact ⟨Nat.le_refl _, Nat.le_refl _⟩
  have hBPw : w.heap.size < BP := by omega
  have HOW := Lib.hid (show Own (fun _ => False) 4 linkR 70 M W1 Q0 K0 P.2.2.1 from by rw [hW1]; exact hown.bel linkR_good (by (repeat (first | assumption | exact Bel.refl _ | apply Bel.drewN | apply Bel.drew | apply Bel.alloc | refine Bel.trans ?_ (by assumption)))))
  have HQ0 := Lib.hid (show ∀ a, Q0 = some a → BP ≠ a.block from fun a ha => by have := (hown.lt ha).2; omega)
  have HW1 := Lib.hid hW1
  have HBPQ := Lib.hid hBP
  have hszW := hdW.size
  clear hc hc1 hd1 hd10 hW1 hBP hown hra hrr hrk hid hD hP hP'
  have b4 := belowV_in C 4 s1 (by decide)
  go_wp2_with fail
  rw [← HW1.out]
  refine (l01Below_any cb C s1 4 _ hcW (by omega)).mono ?_
  rintro e w2 ⟨rfl, hc2, hd2⟩
  rw [← HBPQ.out]
  have HBP := Lib.hid (HBP.out.dr hd2 (by omega))
  have HBR := Lib.hid (HBR.out.dr hd2 (by omega))
  have HOW := Lib.hid (HOW.out.hi linkR_good (Hi.ofDr hd2 (by omega)) (fun _ h => h.elim))
  have HMW := Lib.hid (HMW.out.dr hd2 (by omega) (by omega))
  have hdw2 := hdW.trans hd2
  have hz2 : BP + 1 ≤ w2.heap.size := by have := hd2.size; omega
  obtain ⟨N, hN⟩ : ∃ N : Nat, (belowV C 4 s1).1 = N := Int.eq_ofNat_of_zero_le b4.1
  have hN1 : N ≤ 3 := by omega
  have HEQ0 := Lib.hid (show moresV C NA N P.2.2.1 (belowV C 4 s1).2 = loopL C P s1 from by unfold loopL; rw [hNA, hN, Int.toNat_natCast])
  rw [hN]
  have HNQ := Lib.hid hN
  have HNAQ := Lib.hid hNA
  clear hN hd2 hdW hcW b4 hNA
  obtain ⟨L0, hL0⟩ : ∃ L, P.2.2.1 = L := ⟨_, rfl⟩
  rw [hL0] at HBP HOW HEQ0 hpl hle0
  clear hL0
  go_wp2_with fail
  go_loopw [5, 6] (fun kk _ wr => ∃ (n : Nat) (LS : List LinkT) (st : StT) (Q : Option Addr) (KC : Nat), kk = .int .i64 n ∧ LS.length + n ≤ 6 ∧ Blk wr BP 34 [.int .i64 D, .slice a1 NA ca, .slice Q LS.length KC, .slice a3 NR cr, .slice a4 NS cs] ∧ Blk wr w.heap.size 34 [.int .i64 0, .slice none 0 0, .slice none 0 0, .slice none 0 0, .slice none 0 0] ∧ Own (fun _ => False) 4 linkR 70 M wr Q KC LS ∧ (∀ a, Q = some a → BP ≠ a.block) ∧ Cur wr cb C st ∧ moresV C NA n LS st = loopL C P s1 ∧ Dr cb w wr ∧ Mid (w.heap.size + 1) M w1 wr ∧ BP + 1 ≤ wr.heap.size) (fun kk _ _ => (intOf kk).toNat)
  case atStart => exact ⟨N, L0, _, Q0, K0, rfl, by omega, HBP.out, HBR.out, HOW.out, HQ0.out, hc2, HEQ0.out, hdw2, HMW.out, hz2⟩
  case round =>
    clear hc2 hdw2 hz2 HBP HBR HOW HQ0 HEQ0 HMW
    obtain ⟨n, LS, st, Q, KC, rfl, hmn, hBP', hBR', hO, hqp, hc, heq, hd, hm, hzr⟩ := hrel
    have HBPr := Lib.hid hBP'
    have HBRr := Lib.hid hBR'
    have HEQ := Lib.hid heq
    have HQP := Lib.hid hqp
    have hwsz := hd.size
    have hle := hO.le
    unfold maxLen at hle
    clear hBP' hBR' heq hqp
    cases n with
    | zero =>
      have HLL := Lib.hid (show loopL C P s1 = (LS, st) from HEQ.out.symm)
      have HCF := Lib.hid hc
      have HDF := Lib.hid hd
      have FL := Lib.hid (hO.done (T := fun b => M ≤ b ∧ b < wr.heap.size) linkR_good (fun _ h _ => h.elim) (fun b h1 h2 => ⟨h1, h2⟩))
      have HMM := Lib.hid hm
      have p0 := HBPr.out.cellv (j := 0) (by simp)
      have p1 := HBPr.out.cellv (j := 1) (by simp)
      have p2 := HBPr.out.cellv (j := 2) (by simp)
      have p3 := HBPr.out.cellv (j := 3) (by simp)
      have p4 := HBPr.out.cellv (j := 4) (by simp)
      simp only [List.getElem_cons_zero, List.getElem_cons_succ] at p0 p1 p2 p3 p4
      have r0 := HBRr.out.cellv (j := 0) (by simp)
      have r1 := HBRr.out.cellv (j := 1) (by simp)
      have r2 := HBRr.out.cellv (j := 2) (by simp)
      have r3 := HBRr.out.cellv (j := 3) (by simp)
      have r4 := HBRr.out.cellv (j := 4) (by simp)
      simp only [List.getElem_cons_zero, List.getElem_cons_succ] at r0 r1 r2 r3 r4
      have fr0 := HBRr.out.frozen 0
      have fr1 := HBRr.out.frozen 1
      have fr2 := HBRr.out.frozen 2
      have fr3 := HBRr.out.frozen 3
      have fr4 := HBRr.out.frozen 4
      clear hO hc hd hm
      go_wp2_with fail
      have HBW := Lib.hid ((((((Below.refl (w.heap.size) wr).setCell (p := ⟨w.heap.size, 0, none⟩) (Nat.le_refl _) (.int .i64 D)).setCell (p := ⟨w.heap.size, 1, none⟩) (Nat.le_refl _) (.slice a1 NA ca)).setCell (p := ⟨w.heap.size, 2, none⟩) (Nat.le_refl _) (.slice Q LS.length KC)).setCell (p := ⟨w.heap.size, 3, none⟩) (Nat.le_refl _) (.slice a3 NR cr)).setCell (p := ⟨w.heap.size, 4, none⟩) (Nat.le_refl _) (.slice a4 NS cs))
      have HIF := Lib.hid ((((((Hi.refl (w.heap.size + 1) wr).set (q := w.heap.size) (j := 0) (.int .i64 D) (.inl (by omega))).set (q := w.heap.size) (j := 1) (.slice a1 NA ca) (.inl (by omega))).set (q := w.heap.size) (j := 2) (.slice Q LS.length KC) (.inl (by omega))).set (q := w.heap.size) (j := 3) (.slice a3 NR cr) (.inl (by omega))).set (q := w.heap.size) (j := 4) (.slice a4 NS cs) (.inl (by omega)))
      have HBF := Lib.hid (((((HBRr.out.set 0 (.int .i64 D)).set 1 (.slice a1 NA ca)).set 2 (.slice Q LS.length KC)).set 3 (.slice a3 NR cr)).set 4 (.slice a4 NS cs))
      generalize (((((wr.setCell ⟨w.heap.size, 0, none⟩ (.int .i64 D)).setCell ⟨w.heap.size, 1, none⟩ (.slice a1 NA ca)).setCell ⟨w.heap.size, 2, none⟩ (.slice Q LS.length KC)).setCell ⟨w.heap.size, 3, none⟩ (.slice a3 NR cr)).setCell ⟨w.heap.size, 4, none⟩ (.slice a4 NS cs)) = WF at *
      have c0 := HBF.out.cellv (j := 0) (by simp)
      have c1 := HBF.out.cellv (j := 1) (by simp)
      have c2 := HBF.out.cellv (j := 2) (by simp)
      have c3 := HBF.out.cellv (j := 3) (by simp)
      have c4 := HBF.out.cellv (j := 4) (by simp)
      simp only [List.set_cons_zero, List.set_cons_succ, List.getElem_cons_zero, List.getElem_cons_succ] at c0 c1 c2 c3 c4
      clear HBF
      have hzF := HIF.out.1
      have GL := linksR_good.mono (linksR_good.stay FL.out (fun b hb => HIF.out.2 b (by have := hb.1; omega) hb.2)) (T := New w WF) (fun b hb => ⟨by have := hb.1; omega, by have := hb.2; omega⟩)
      have hk : ∀ b, (w.heap.size + 1 ≤ b ∧ b < M) → WF.heap[b]? = w1.heap[b]? := fun b hb => (HIF.out.2 b hb.1 (by have := hb.2; omega)).trans (HMM.out b hb.1 hb.2)
      have hT : ∀ b, (w.heap.size + 1 ≤ b ∧ b < M) → New w WF b := fun b hb => ⟨by have := hb.1; omega, by have := hb.2; omega⟩
      have GA := actsR_good.mono (actsR_good.stay HRA.out hk) hT
      have GR := ressR_good.mono (ressR_good.stay HRR.out hk) hT
      have GK := intsR_good.mono (intsR_good.stay HRK.out hk) hT
      have HCW := HCF.out.below HBW.out (by omega)
      have HDW := HDF.out.below' HBW.out (by omega)
      have HVV := Lib.hid (show loopsP C s = ((D, P.2.1, LS, P.2.2.2.1, P.2.2.2.2), st) from by
        unfold loopsP
        rw [HPQ.out]
        simp only
        rw [HLL.out, HDQ.out])
      clear HBW
      exact bodyPost_ret (v := .agg #[.int .i64 D, .slice a1 NA ca, .slice Q LS.length KC, .slice a3 NR cr, .slice a4 NS cs]) (by simp [results, Try.results95, go_sem, c0, c1, c2, c3, c4]) rfl ⟨[.int .i64 D, .slice a1 NA ca, .slice Q LS.length KC, .slice a3 NR cr, .slice a4 NS cs], rfl, by rw [HVV.out]; exact ⟨_, _, rfl, intRep HID.out, _, _, rfl, GA, _, _, rfl, GL, _, _, rfl, GR, GK⟩, by rw [HVV.out]; exact HCW, HDW⟩
    | succ n =>
      have hnp : (0 : Int) < ((n + 1 : Nat) : Int) := by omega
      by_cases hgt : (NA : Int) > 1
      rotate_left
      · have HLL := Lib.hid (show loopL C P s1 = (LS, st) from by rw [← HEQ.out, moresV_stop hgt])
        have hgi : ¬ (1 : Int) < (NA : Int) := by omega
        have HCF := Lib.hid hc
        have HDF := Lib.hid hd
        have FL := Lib.hid (hO.done (T := fun b => M ≤ b ∧ b < wr.heap.size) linkR_good (fun _ h _ => h.elim) (fun b h1 h2 => ⟨h1, h2⟩))
        have HMM := Lib.hid hm
        have p0 := HBPr.out.cellv (j := 0) (by simp)
        have p1 := HBPr.out.cellv (j := 1) (by simp)
        have p2 := HBPr.out.cellv (j := 2) (by simp)
        have p3 := HBPr.out.cellv (j := 3) (by simp)
        have p4 := HBPr.out.cellv (j := 4) (by simp)
        simp only [List.getElem_cons_zero, List.getElem_cons_succ] at p0 p1 p2 p3 p4
        have r0 := HBRr.out.cellv (j := 0) (by simp)
        have r1 := HBRr.out.cellv (j := 1) (by simp)
        have r2 := HBRr.out.cellv (j := 2) (by simp)
        have r3 := HBRr.out.cellv (j := 3) (by simp)
        have r4 := HBRr.out.cellv (j := 4) (by simp)
        simp only [List.getElem_cons_zero, List.getElem_cons_succ] at r0 r1 r2 r3 r4
        have fr0 := HBRr.out.frozen 0
        have fr1 := HBRr.out.frozen 1
        have fr2 := HBRr.out.frozen 2
        have fr3 := HBRr.out.frozen 3
        have fr4 := HBRr.out.frozen 4
        clear hO hc hd hm
        go_wp2_with fail
        have HBW := Lib.hid ((((((Below.refl (w.heap.size) wr).setCell (p := ⟨w.heap.size, 0, none⟩) (Nat.le_refl _) (.int .i64 D)).setCell (p := ⟨w.heap.size, 1, none⟩) (Nat.le_refl _) (.slice a1 NA ca)).setCell (p := ⟨w.heap.size, 2, none⟩) (Nat.le_refl _) (.slice Q LS.length KC)).setCell (p := ⟨w.heap.size, 3, none⟩) (Nat.le_refl _) (.slice a3 NR cr)).setCell (p := ⟨w.heap.size, 4, none⟩) (Nat.le_refl _) (.slice a4 NS cs))
        have HIF := Lib.hid ((((((Hi.refl (w.heap.size + 1) wr).set (q := w.heap.size) (j := 0) (.int .i64 D) (.inl (by omega))).set (q := w.heap.size) (j := 1) (.slice a1 NA ca) (.inl (by omega))).set (q := w.heap.size) (j := 2) (.slice Q LS.length KC) (.inl (by omega))).set (q := w.heap.size) (j := 3) (.slice a3 NR cr) (.inl (by omega))).set (q := w.heap.size) (j := 4) (.slice a4 NS cs) (.inl (by omega)))
        have HBF := Lib.hid (((((HBRr.out.set 0 (.int .i64 D)).set 1 (.slice a1 NA ca)).set 2 (.slice Q LS.length KC)).set 3 (.slice a3 NR cr)).set 4 (.slice a4 NS cs))
        generalize (((((wr.setCell ⟨w.heap.size, 0, none⟩ (.int .i64 D)).setCell ⟨w.heap.size, 1, none⟩ (.slice a1 NA ca)).setCell ⟨w.heap.size, 2, none⟩ (.slice Q LS.length KC)).setCell ⟨w.heap.size, 3, none⟩ (.slice a3 NR cr)).setCell ⟨w.heap.size, 4, none⟩ (.slice a4 NS cs)) = WF at *
        have c0 := HBF.out.cellv (j := 0) (by simp)
        have c1 := HBF.out.cellv (j := 1) (by simp)
        have c2 := HBF.out.cellv (j := 2) (by simp)
        have c3 := HBF.out.cellv (j := 3) (by simp)
        have c4 := HBF.out.cellv (j := 4) (by simp)
        simp only [List.set_cons_zero, List.set_cons_succ, List.getElem_cons_zero, List.getElem_cons_succ] at c0 c1 c2 c3 c4
        clear HBF
        have hzF := HIF.out.1
        have GL := linksR_good.mono (linksR_good.stay FL.out (fun b hb => HIF.out.2 b (by have := hb.1; omega) hb.2)) (T := New w WF) (fun b hb => ⟨by have := hb.1; omega, by have := hb.2; omega⟩)
        have hk : ∀ b, (w.heap.size + 1 ≤ b ∧ b < M) → WF.heap[b]? = w1.heap[b]? := fun b hb => (HIF.out.2 b hb.1 (by have := hb.2; omega)).trans (HMM.out b hb.1 hb.2)
        have hT : ∀ b, (w.heap.size + 1 ≤ b ∧ b < M) → New w WF b := fun b hb => ⟨by have := hb.1; omega, by have := hb.2; omega⟩
        have GA := actsR_good.mono (actsR_good.stay HRA.out hk) hT
        have GR := ressR_good.mono (ressR_good.stay HRR.out hk) hT
        have GK := intsR_good.mono (intsR_good.stay HRK.out hk) hT
        have HCW := HCF.out.below HBW.out (by omega)
        have HDW := HDF.out.below' HBW.out (by omega)
        have HVV := Lib.hid (show loopsP C s = ((D, P.2.1, LS, P.2.2.2.1, P.2.2.2.2), st) from by
          unfold loopsP
          rw [HPQ.out]
          simp only
          rw [HLL.out, HDQ.out])
        clear HBW
        exact bodyPost_ret (v := .agg #[.int .i64 D, .slice a1 NA ca, .slice Q LS.length KC, .slice a3 NR cr, .slice a4 NS cs]) (by simp [results, Try.results95, go_sem, c0, c1, c2, c3, c4]) rfl ⟨[.int .i64 D, .slice a1 NA ca, .slice Q LS.length KC, .slice a3 NR cr, .slice a4 NS cs], rfl, by rw [HVV.out]; exact ⟨_, _, rfl, intRep HID.out, _, _, rfl, GA, _, _, rfl, GL, _, _, rfl, GR, GK⟩, by rw [HVV.out]; exact HCW, HDW⟩
      · skip
        have HEQ := Lib.hid (show moresV C NA n (LS ++ [(moreV C NA st).1]) (moreV C NA st).2 = loopL C P s1 from by rw [← HEQ.out, moresV, if_pos hgt])
        have hgi : (1 : Int) < (NA : Int) := by omega
        have bA := belowV_in C (NA : Int) st (by omega)
        obtain ⟨w0, hw0⟩ : ∃ W, W = wr := ⟨wr, rfl⟩
        subst hw0
        go_wp2_with fail
        refine (l01Below_any cb C st (NA : Int) _ hc (by omega)).mono ?_
        rintro e wa ⟨rfl, hcA, hdA⟩
        obtain ⟨A, hA⟩ : ∃ A, (belowV C (NA : Int) st).1 = A := ⟨_, rfl⟩
        have HAQ := Lib.hid (show (moreA C NA st).1 = A from hA)
        rw [hA] at bA
        rw [hA]
        have hcA : Cur wa cb C (moreA C NA st).2 := hcA
        have bB := belowV_in C ((NA : Int) - 1) (moreA C NA st).2 (by omega)
        obtain ⟨Bn, hB⟩ : ∃ B, (belowV C ((NA : Int) - 1) (moreA C NA st).2).1 = B := ⟨_, rfl⟩
        have HBQ := Lib.hid hB
        have HBM := Lib.hid (show (moreB C NA st).1 = Bn from hB)
        rw [hB] at bB
        obtain ⟨E, hE⟩ : ∃ E, (onceV C 2 (moreB C NA st).2).1 = E := ⟨_, rfl⟩
        have HEQE := Lib.hid hE
        have bL := belowV_in C 8 (moreE C NA st).2 (by decide)
        obtain ⟨Ln, hL⟩ : ∃ L, (belowV C 8 (moreE C NA st).2).1 = L := ⟨_, rfl⟩
        have HLQ := Lib.hid hL
        rw [hL] at bL
        have hX : (moreV C NA st).1 = (A, (A + 1 + Bn) % (NA : Int), E, Ln - 4) := by
          unfold moreV
          rw [show (moreA C NA st).1 = A from hA, show (moreB C NA st).1 = Bn from hB, show (moreE C NA st).1 = E from hE, show (moreL C NA st).1 = Ln from hL]
        have HEQ := Lib.hid (show moresV C NA n (LS ++ [(A, (A + 1 + Bn) % (NA : Int), E, Ln - 4)]) (moreL C NA st).2 = loopL C P s1 from by rw [← hX]; exact HEQ.out)
        have hwA1 : IntKind.i64.wrap (A + 1) = A + 1 := IntWalk.i64_in _ (by omega)
        have hwn : IntKind.i64.wrap ((NA : Int) - 1) = (NA : Int) - 1 := IntWalk.i64_in _ (by omega)
        have hwB : IntKind.i64.wrap (A + 1 + Bn) = A + 1 + Bn := IntWalk.i64_in _ (by omega)
        have hwL : IntKind.i64.wrap (Ln - 4) = Ln - 4 := IntWalk.i64_in _ (by omega)
        have hrem : (A + 1 + Bn).tmod (NA : Int) = (A + 1 + Bn) % (NA : Int) := Int.tmod_eq_emod_of_nonneg (by omega)
        have hm1 := Int.emod_nonneg (A + 1 + Bn) (show (NA : Int) ≠ 0 by omega)
        have hm2 := Int.emod_lt_of_pos (A + 1 + Bn) (show (0 : Int) < NA by omega)
        have hwR : IntKind.i64.wrap ((A + 1 + Bn) % (NA : Int)) = (A + 1 + Bn) % (NA : Int) := IntWalk.i64_in _ (by omega)
        have hnz : ¬ ((NA : Int) = 0) := by omega
        have hnz' : NA ≠ 0 := by omega
        have HREP := Lib.hid (show ∀ T w, linkR T w [.int .i64 A, .int .i64 ((A + 1 + Bn) % (NA : Int)), .bool E, .int .i64 (Ln - 4)] (A, (A + 1 + Bn) % (NA : Int), E, Ln - 4) from fun T w => ⟨_, _, rfl, intRep (by unfold I64; omega), _, _, rfl, intRep (by unfold I64; omega), _, _, rfl, rfl, intRep (by unfold I64; omega)⟩)
        have hda := hd.trans hdA
        have HBPa := Lib.hid (HBPr.out.dr hdA (by omega))
        have HBRa := Lib.hid (HBRr.out.dr hdA (by omega))
        have hOa : Own (fun _ => False) 4 linkR 70 M wa Q KC LS := hO.hi linkR_good (Hi.ofDr hdA (by omega)) (fun _ h => h.elim)
        have hmA := hm.dr hdA (by omega) (by omega)
        have lc := HBPa.out.cellv (j := 2) (by simp)
        simp only [List.getElem_cons_zero, List.getElem_cons_succ] at lc
        have hza := hdA.size
        clear hc hd hm hO hA hB hE hL hX hdA
        go_wp2_with fail
        refine wp_region_held_drew (S := (fun W => Hid True)) (by kernel_rfl) ?_ (fun hHeld => ?_)
        · ((try dsimp only); exact Lib.hid trivial)
        refine wpAnyH_take (i := 0) (v := ?_) rfl (by kernel_rfl) (by kernel_rfl) (by kernel_rfl) (fun _ _ _ h => h) (Or.inl ⟨by rfl, ?_⟩) (by assumption) ?_
        rotate_left
        · (intro w hSw; (try dsimp only at hSw); go_simp <;> with_reducible rfl)
        try walk_nrm
        refine wpAnyH_take (i := 2) (v := ?_) rfl (by kernel_rfl) (by kernel_rfl) (by kernel_rfl) (fun _ _ _ h => h) (Or.inl ⟨by rfl, ?_⟩) (by assumption) ?_
        rotate_left
        · (intro w hSw; (try dsimp only at hSw); go_simp <;> with_reducible rfl)
        try walk_nrm
        refine wpAnyH_take (i := 3) (v := ?_) rfl (by kernel_rfl) (by kernel_rfl) (by kernel_rfl) (fun _ _ _ h => h) (Or.inl ⟨by rfl, ?_⟩) (by assumption) ?_
        rotate_left
        · (intro w hSw; (try dsimp only at hSw); go_simp <;> with_reducible rfl)
        try walk_nrm
        refine wpAnyH_take (i := 4) (v := ?_) rfl (by kernel_rfl) (by kernel_rfl) (by kernel_rfl) (fun _ _ _ h => h) (Or.inl ⟨by rfl, ?_⟩) (by assumption) ?_
        rotate_left
        · (intro w hSw; (try dsimp only at hSw); go_simp <;> with_reducible rfl)
        try walk_nrm
        refine wpAnyH_take (i := 5) (v := ?_) rfl (by kernel_rfl) (by kernel_rfl) (by kernel_rfl) (fun _ _ _ h => h) (Or.inl ⟨by rfl, ?_⟩) (by assumption) ?_
        rotate_left
        · (intro w hSw; (try dsimp only at hSw); go_simp <;> with_reducible rfl)
        try walk_nrm
        refine wpAnyH_take (i := 6) (v := ?_) rfl (by kernel_rfl) (by kernel_rfl) (by kernel_rfl) (fun _ _ _ h => h) (Or.inl ⟨by rfl, ?_⟩) (by assumption) ?_
        rotate_left
        · (intro w hSw; (try dsimp only at hSw); go_simp <;> with_reducible rfl)
        try walk_nrm
        refine wpAnyH_take (i := 7) (v := ?_) rfl (by kernel_rfl) (by kernel_rfl) (by kernel_rfl) (fun _ _ _ h => h) (Or.inl ⟨by rfl, ?_⟩) (by assumption) ?_
        rotate_left
        · (intro w hSw; (try dsimp only at hSw); go_simp <;> with_reducible rfl)
        try walk_nrm
        refine wpAnyH_take (i := 10) (v := ?_) rfl (by kernel_rfl) (by kernel_rfl) (by kernel_rfl) (fun _ _ _ h => h) (Or.inl ⟨by rfl, ?_⟩) (by assumption) ?_
        rotate_left
        · (intro w hSw; (try dsimp only at hSw); go_simp <;> with_reducible rfl)
        try walk_nrm
        refine wpAnyH_take (i := 12) (v := ?_) rfl (by kernel_rfl) (by kernel_rfl) (by kernel_rfl) (fun _ _ _ h => h) (Or.inl ⟨by rfl, ?_⟩) (by assumption) ?_
        rotate_left
        · (intro w hSw; (try dsimp only at hSw); go_simp <;> with_reducible rfl)
        try walk_nrm
        refine wpAnyH_take (i := 14) (v := ?_) rfl (by kernel_rfl) (by kernel_rfl) (by kernel_rfl) (fun _ _ _ h => h) (Or.inl ⟨by rfl, ?_⟩) (by assumption) ?_
        rotate_left
        · (intro w hSw; (try dsimp only at hSw); go_simp <;> with_reducible rfl)
        try walk_nrm
        refine wpAnyH_ready (rs := [1, 8]) (by kernel_rfl) (by simp) ?_
        refine AllReadyH.cons rfl (fun K hK => ?_) ?_
        · go_simp
          refine hK.out _ _ ?_ (fun hHeld => ?_)
          · ((try dsimp only); exact Lib.hid trivial)
          clear hK K
          try walk_nrm
          refine wpAnyH_ready (rs := [8]) (by kernel_rfl) (by simp) ?_
          refine AllReadyH.cons rfl (fun K hK => ?_) AllReadyH.nil
          · go_simp
            (go_at_call 139; (with_reducible refine (l01Below_any cb C (moreA C NA st).2 ((NA : Int) - 1) _ (hcA.bel (by (repeat (first | assumption | exact Bel.refl _ | apply Bel.drewN | apply Bel.drew | apply Bel.alloc | refine Bel.trans ?_ (by assumption))))) (by omega)).mono ?_); rintro e wB ⟨rfl, hcB, hdB⟩; rw [HBQ.out]; have hdB := (Dr.ofBel (cb := cb) (a := wa) (by (repeat (first | assumption | exact Bel.refl _ | apply Bel.drewN | apply Bel.drew | apply Bel.alloc | refine Bel.trans ?_ (by assumption))))).trans hdB; have hcB : Cur wB cb C (moreB C NA st).2 := hcB; have lc := hdB.cell lc (by omega))
            try go_wp2_with fail
            refine hK.out _ _ ?_ (fun hHeld => ?_)
            · ((try dsimp only); exact Lib.hid trivial)
            clear hK K
            try walk_nrm
            refine wpAnyH_take (i := 9) (v := ?_) rfl (by kernel_rfl) (by kernel_rfl) (by kernel_rfl) (fun _ _ _ h => h) (Or.inl ⟨by rfl, ?_⟩) (by assumption) ?_
            rotate_left
            · (intro w hSw; (try dsimp only at hSw); go_simp <;> with_reducible rfl)
            try walk_nrm
            refine wpAnyH_take (i := 11) (v := ?_) rfl (by kernel_rfl) (by kernel_rfl) (by kernel_rfl) (fun _ _ _ h => h) (Or.inl ⟨by rfl, ?_⟩) (by assumption) ?_
            rotate_left
            · (intro w hSw; (try dsimp only at hSw); go_simp <;> with_reducible rfl)
            try walk_nrm
            refine wpAnyH_ready (rs := [13]) (by kernel_rfl) (by simp) ?_
            refine AllReadyH.cons rfl (fun K hK => ?_) AllReadyH.nil
            · go_simp
              (go_at_call 141; (with_reducible refine (l01Once_any cb C (moreB C NA st).2 2 _ (hcB.bel (by (repeat (first | assumption | exact Bel.refl _ | apply Bel.drewN | apply Bel.drew | apply Bel.alloc | refine Bel.trans ?_ (by assumption))))) (by omega)).mono ?_); rintro e wE ⟨rfl, hcE, hdE⟩; rw [HEQE.out]; have hdE := (Dr.ofBel (cb := cb) (a := wB) (by (repeat (first | assumption | exact Bel.refl _ | apply Bel.drewN | apply Bel.drew | apply Bel.alloc | refine Bel.trans ?_ (by assumption))))).trans hdE; have hcE : Cur wE cb C (moreE C NA st).2 := hcE; have lc := (by first | exact hdE.cell lc (by omega) | exact lc))
              try go_wp2_with fail
              refine hK.out _ _ ?_ (fun hHeld => ?_)
              · ((try dsimp only); exact Lib.hid trivial)
              clear hK K
              try walk_nrm
              refine wpAnyH_ready (rs := [15]) (by kernel_rfl) (by simp) ?_
              refine AllReadyH.cons rfl (fun K hK => ?_) AllReadyH.nil
              · go_simp
                (go_at_call 139; (with_reducible refine (l01Below_any cb C (moreE C NA st).2 8 _ (hcE.bel (by (repeat (first | assumption | exact Bel.refl _ | apply Bel.drewN | apply Bel.drew | apply Bel.alloc | refine Bel.trans ?_ (by assumption))))) (by omega)).mono ?_); rintro e wL ⟨rfl, hcL, hdL⟩; rw [HLQ.out]; have hdL := (Dr.ofBel (cb := cb) (a := wE) (by (repeat (first | assumption | exact Bel.refl _ | apply Bel.drewN | apply Bel.drew | apply Bel.alloc | refine Bel.trans ?_ (by assumption))))).trans hdL; have hcL : Cur wL cb C (moreL C NA st).2 := hcL; have lc := (by first | exact hdL.cell lc (by omega) | exact lc); have lca := fun o => ((Bel.refl wL).alloc o).cell lc; have hdaL := ((hdB.trans hdE).trans hdL); have HBPL := Lib.hid (HBPa.out.dr hdaL (by omega)); have hszL := hdaL.size; have HDL := Lib.hid (hda.trans hdaL); have HCL := Lib.hid hcL; have HML := Lib.hid (hmA.dr hdaL (by omega) (by omega)))
                try go_wp2_with fail
                refine hK.out _ _ ?_ (fun hHeld => ?_)
                · ((try dsimp only); exact Lib.hid trivial)
                clear hK K
                try walk_nrm
                refine wpAnyH_take (i := 16) (v := ?_) rfl (by kernel_rfl) (by kernel_rfl) (by kernel_rfl) (fun _ _ _ h => h) (Or.inl ⟨by rfl, ?_⟩) (by assumption) ?_
                rotate_left
                · (intro w hSw; (try dsimp only at hSw); go_simp <;> with_reducible rfl)
                try walk_nrm
                refine wpAnyH_take (i := 17) (v := ?_) rfl (by kernel_rfl) (by kernel_rfl) (by kernel_rfl) (fun _ _ _ h => h) (Or.inl ⟨by rfl, ?_⟩) (by assumption) ?_
                rotate_left
                · (intro w hSw; (try dsimp only at hSw); go_simp <;> with_reducible rfl)
                try walk_nrm
                refine wpAnyH_ready (rs := [18]) (by kernel_rfl) (by simp) ?_
                refine AllReadyH.cons rfl (fun K hK => ?_) AllReadyH.nil
                · go_simp
                  refine hK.out _ _ ?_ (fun hHeld => ?_)
                  · ((try dsimp only); exact Lib.hid trivial)
                  clear hK K
                  try walk_nrm
                  refine wpAnyH_ready (rs := [19]) (by kernel_rfl) (by simp) ?_
                  refine AllReadyH.cons rfl (fun K hK => ?_) AllReadyH.nil
                  · (refine step_appG (o := ⟨some 44, _, _, _, _, _⟩) (n := 4) linkR_good _ (by rfl) _ _ 31 (by rfl) (.agg #[.int .i64 0, .int .i64 0, .bool false, .int .i64 0]) 32 Try.underlying31 (by kernel_rfl) rfl (by decide) (by decide) Q KC LS ((A, (A + 1 + Bn) % (NA : Int), E, Ln - 4)) (by rfl) (hOa.hi linkR_good ((Hi.ofDr hdaL (by omega)).trans (Hi.ofBel (by (repeat (first | assumption | exact Bel.refl _ | apply Bel.drewN | apply Bel.drew | apply Bel.alloc | refine Bel.trans ?_ (by assumption)))))) (fun _ h => h.elim)) _ 1 [.int .i64 A, .int .i64 ((A + 1 + Bn) % (NA : Int)), .bool E, .int .i64 (Ln - 4)] (by rfl) rfl (World.news_of_block (alloc_at (by first | rfl | (simp; done) | (simp; omega)))) (by intro u hu; simp at hu; rcases hu with rfl | rfl | rfl | rfl <;> rfl) (HREP.out _ _) (by omega) (by first | omega | (simp; omega)) ?_; intro q' cap' wA hOA hBA hFA; have HO2 := Lib.hid hOA; have HBX := Lib.hid ((HBPL.out.alloc (.cells #[.int .i64 A, .int .i64 ((A + 1 + Bn) % (NA : Int)), .bool E, .int .i64 (Ln - 4)] 70)).below2 hFA (by have := HBPL.out.lt; simp; omega) (fun a ha => by have := HQP.out a ha; omega)); have HBRx := Lib.hid (((HBRa.out.dr hdaL (by omega)).alloc (.cells #[.int .i64 A, .int .i64 ((A + 1 + Bn) % (NA : Int)), .bool E, .int .i64 (Ln - 4)] 70)).below hBA (by omega)); have y2 := HBX.out.cellv (j := 2) (by simp); have fy2 := HBX.out.frozen 2; simp only [List.getElem_cons_zero, List.getElem_cons_succ] at y2; have hCA := Lib.hid ((HCL.out.bel (w' := wL.alloc (.cells #[.int .i64 A, .int .i64 ((A + 1 + Bn) % (NA : Int)), .bool E, .int .i64 (Ln - 4)] 70)) (by (repeat (first | assumption | exact Bel.refl _ | apply Bel.drewN | apply Bel.drew | apply Bel.alloc | refine Bel.trans ?_ (by assumption))))).below hBA (by omega)); have hDA := Lib.hid ((HDL.out.alloc (.cells #[.int .i64 A, .int .i64 ((A + 1 + Bn) % (NA : Int)), .bool E, .int .i64 (Ln - 4)] 70)).below' hBA (by omega)); have hMA := Lib.hid ((HML.out.bel (c := wL.alloc (.cells #[.int .i64 A, .int .i64 ((A + 1 + Bn) % (NA : Int)), .bool E, .int .i64 (Ln - 4)] 70)) (by (repeat (first | assumption | exact Bel.refl _ | apply Bel.drewN | apply Bel.drew | apply Bel.alloc | refine Bel.trans ?_ (by assumption)))) (by omega)).below hBA); have HQP2 := Lib.hid (fun a ha => (hFA BP (by have := HBPL.out.lt; simp; omega) (fun a' ha' hh => HQP.out a' ha' hh)).2 a ha); have hzA := (show wL.heap.size ≤ wA.heap.size from (by have := hBA.size; (try simp only [World.size_alloc] at this); omega)); clear hOA hBA hFA)
                    refine hK.out _ _ ?_ (fun hHeld => ?_)
                    · ((try dsimp only); exact Lib.hid trivial)
                    clear hK K
                    try walk_nrm
                    refine wpAnyH_take (i := 20) (v := ?_) rfl (by kernel_rfl) (by kernel_rfl) (by kernel_rfl) (fun _ _ _ h => h) (Or.inl ⟨by rfl, ?_⟩) (by assumption) ?_
                    rotate_left
                    · (intro w hSw; (try dsimp only at hSw); go_simp <;> with_reducible rfl)
                    try walk_nrm
                    refine wpAnyH_ready (rs := [21]) (by kernel_rfl) (by simp) ?_
                    refine AllReadyH.cons rfl (fun K hK => ?_) AllReadyH.nil
                    · go_simp
                      refine hK.out _ _ ?_ (fun hHeld => ?_)
                      · ((try dsimp only); exact Lib.hid trivial)
                      clear hK K
                      try walk_nrm
                      refine wpAnyH_done (by kernel_rfl) ?_ _
                      go_wp2_with fail
                      go_roundw
                      case rel => exact ⟨n, LS ++ [(A, (A + 1 + Bn) % (NA : Int), E, Ln - 4)], _, q', cap', by go_num, by simp; omega, by rw [List.length_append]; exact HBX.out.set 2 _, HBRx.out.setAt (by omega) 2 _, HO2.out.row linkR_good (fun a ha => Below.heap_setCell _ _ _ _ (fun hh => HQP2.out a ha hh.symm)), fun a ha hh => HQP2.out a ha hh, hCA.out.stay (fun b hb => Below.heap_setCell _ _ _ _ (show b ≠ BP by omega)), HEQ.out, hDA.out.set _ (by omega), hMA.out.set _ (.inr (by omega)), by simp [World.setCell]; omega⟩
                      case measure => (simp [intOf] <;> omega)
        refine AllReadyH.cons rfl (fun K hK => ?_) AllReadyH.nil
        · go_simp
          (go_at_call 139; (with_reducible refine (l01Below_any cb C (moreA C NA st).2 ((NA : Int) - 1) _ (hcA.bel (by (repeat (first | assumption | exact Bel.refl _ | apply Bel.drewN | apply Bel.drew | apply Bel.alloc | refine Bel.trans ?_ (by assumption))))) (by omega)).mono ?_); rintro e wB ⟨rfl, hcB, hdB⟩; rw [HBQ.out]; have hdB := (Dr.ofBel (cb := cb) (a := wa) (by (repeat (first | assumption | exact Bel.refl _ | apply Bel.drewN | apply Bel.drew | apply Bel.alloc | refine Bel.trans ?_ (by assumption))))).trans hdB; have hcB : Cur wB cb C (moreB C NA st).2 := hcB; have lc := hdB.cell lc (by omega))
          try go_wp2_with fail
          refine hK.out _ _ ?_ (fun hHeld => ?_)
          · ((try dsimp only); exact Lib.hid trivial)
          clear hK K
          try walk_nrm
          refine wpAnyH_take (i := 9) (v := ?_) rfl (by kernel_rfl) (by kernel_rfl) (by kernel_rfl) (fun _ _ _ h => h) (Or.inl ⟨by rfl, ?_⟩) (by assumption) ?_
          rotate_left
          · (intro w hSw; (try dsimp only at hSw); go_simp <;> with_reducible rfl)
          try walk_nrm
          refine wpAnyH_take (i := 11) (v := ?_) rfl (by kernel_rfl) (by kernel_rfl) (by kernel_rfl) (fun _ _ _ h => h) (Or.inl ⟨by rfl, ?_⟩) (by assumption) ?_
          rotate_left
          · (intro w hSw; (try dsimp only at hSw); go_simp <;> with_reducible rfl)
          try walk_nrm
          refine wpAnyH_ready (rs := [1, 13]) (by kernel_rfl) (by simp) ?_
          refine AllReadyH.cons rfl (fun K hK => ?_) ?_
          · go_simp
            refine hK.out _ _ ?_ (fun hHeld => ?_)
            · ((try dsimp only); exact Lib.hid trivial)
            clear hK K
            try walk_nrm
            refine wpAnyH_ready (rs := [13]) (by kernel_rfl) (by simp) ?_
            refine AllReadyH.cons rfl (fun K hK => ?_) AllReadyH.nil
            · go_simp
              (go_at_call 141; (with_reducible refine (l01Once_any cb C (moreB C NA st).2 2 _ (hcB.bel (by (repeat (first | assumption | exact Bel.refl _ | apply Bel.drewN | apply Bel.drew | apply Bel.alloc | refine Bel.trans ?_ (by assumption))))) (by omega)).mono ?_); rintro e wE ⟨rfl, hcE, hdE⟩; rw [HEQE.out]; have hdE := (Dr.ofBel (cb := cb) (a := wB) (by (repeat (first | assumption | exact Bel.refl _ | apply Bel.drewN | apply Bel.drew | apply Bel.alloc | refine Bel.trans ?_ (by assumption))))).trans hdE; have hcE : Cur wE cb C (moreE C NA st).2 := hcE; have lc := (by first | exact hdE.cell lc (by omega) | exact lc))
              try go_wp2_with fail
              refine hK.out _ _ ?_ (fun hHeld => ?_)
              · ((try dsimp only); exact Lib.hid trivial)
              clear hK K
              try walk_nrm
              refine wpAnyH_ready (rs := [15]) (by kernel_rfl) (by simp) ?_
              refine AllReadyH.cons rfl (fun K hK => ?_) AllReadyH.nil
              · go_simp
                (go_at_call 139; (with_reducible refine (l01Below_any cb C (moreE C NA st).2 8 _ (hcE.bel (by (repeat (first | assumption | exact Bel.refl _ | apply Bel.drewN | apply Bel.drew | apply Bel.alloc | refine Bel.trans ?_ (by assumption))))) (by omega)).mono ?_); rintro e wL ⟨rfl, hcL, hdL⟩; rw [HLQ.out]; have hdL := (Dr.ofBel (cb := cb) (a := wE) (by (repeat (first | assumption | exact Bel.refl _ | apply Bel.drewN | apply Bel.drew | apply Bel.alloc | refine Bel.trans ?_ (by assumption))))).trans hdL; have hcL : Cur wL cb C (moreL C NA st).2 := hcL; have lc := (by first | exact hdL.cell lc (by omega) | exact lc); have lca := fun o => ((Bel.refl wL).alloc o).cell lc; have hdaL := ((hdB.trans hdE).trans hdL); have HBPL := Lib.hid (HBPa.out.dr hdaL (by omega)); have hszL := hdaL.size; have HDL := Lib.hid (hda.trans hdaL); have HCL := Lib.hid hcL; have HML := Lib.hid (hmA.dr hdaL (by omega) (by omega)))
                try go_wp2_with fail
                refine hK.out _ _ ?_ (fun hHeld => ?_)
                · ((try dsimp only); exact Lib.hid trivial)
                clear hK K
                try walk_nrm
                refine wpAnyH_take (i := 16) (v := ?_) rfl (by kernel_rfl) (by kernel_rfl) (by kernel_rfl) (fun _ _ _ h => h) (Or.inl ⟨by rfl, ?_⟩) (by assumption) ?_
                rotate_left
                · (intro w hSw; (try dsimp only at hSw); go_simp <;> with_reducible rfl)
                try walk_nrm
                refine wpAnyH_take (i := 17) (v := ?_) rfl (by kernel_rfl) (by kernel_rfl) (by kernel_rfl) (fun _ _ _ h => h) (Or.inl ⟨by rfl, ?_⟩) (by assumption) ?_
                rotate_left
                · (intro w hSw; (try dsimp only at hSw); go_simp <;> with_reducible rfl)
                try walk_nrm
                refine wpAnyH_ready (rs := [18]) (by kernel_rfl) (by simp) ?_
                refine AllReadyH.cons rfl (fun K hK => ?_) AllReadyH.nil
                · go_simp
                  refine hK.out _ _ ?_ (fun hHeld => ?_)
                  · ((try dsimp only); exact Lib.hid trivial)
                  clear hK K
                  try walk_nrm
                  refine wpAnyH_ready (rs := [19]) (by kernel_rfl) (by simp) ?_
                  refine AllReadyH.cons rfl (fun K hK => ?_) AllReadyH.nil
                  · (refine step_appG (o := ⟨some 44, _, _, _, _, _⟩) (n := 4) linkR_good _ (by rfl) _ _ 31 (by rfl) (.agg #[.int .i64 0, .int .i64 0, .bool false, .int .i64 0]) 32 Try.underlying31 (by kernel_rfl) rfl (by decide) (by decide) Q KC LS ((A, (A + 1 + Bn) % (NA : Int), E, Ln - 4)) (by rfl) (hOa.hi linkR_good ((Hi.ofDr hdaL (by omega)).trans (Hi.ofBel (by (repeat (first | assumption | exact Bel.refl _ | apply Bel.drewN | apply Bel.drew | apply Bel.alloc | refine Bel.trans ?_ (by assumption)))))) (fun _ h => h.elim)) _ 1 [.int .i64 A, .int .i64 ((A + 1 + Bn) % (NA : Int)), .bool E, .int .i64 (Ln - 4)] (by rfl) rfl (World.news_of_block (alloc_at (by first | rfl | (simp; done) | (simp; omega)))) (by intro u hu; simp at hu; rcases hu with rfl | rfl | rfl | rfl <;> rfl) (HREP.out _ _) (by omega) (by first | omega | (simp; omega)) ?_; intro q' cap' wA hOA hBA hFA; have HO2 := Lib.hid hOA; have HBX := Lib.hid ((HBPL.out.alloc (.cells #[.int .i64 A, .int .i64 ((A + 1 + Bn) % (NA : Int)), .bool E, .int .i64 (Ln - 4)] 70)).below2 hFA (by have := HBPL.out.lt; simp; omega) (fun a ha => by have := HQP.out a ha; omega)); have HBRx := Lib.hid (((HBRa.out.dr hdaL (by omega)).alloc (.cells #[.int .i64 A, .int .i64 ((A + 1 + Bn) % (NA : Int)), .bool E, .int .i64 (Ln - 4)] 70)).below hBA (by omega)); have y2 := HBX.out.cellv (j := 2) (by simp); have fy2 := HBX.out.frozen 2; simp only [List.getElem_cons_zero, List.getElem_cons_succ] at y2; have hCA := Lib.hid ((HCL.out.bel (w' := wL.alloc (.cells #[.int .i64 A, .int .i64 ((A + 1 + Bn) % (NA : Int)), .bool E, .int .i64 (Ln - 4)] 70)) (by (repeat (first | assumption | exact Bel.refl _ | apply Bel.drewN | apply Bel.drew | apply Bel.alloc | refine Bel.trans ?_ (by assumption))))).below hBA (by omega)); have hDA := Lib.hid ((HDL.out.alloc (.cells #[.int .i64 A, .int .i64 ((A + 1 + Bn) % (NA : Int)), .bool E, .int .i64 (Ln - 4)] 70)).below' hBA (by omega)); have hMA := Lib.hid ((HML.out.bel (c := wL.alloc (.cells #[.int .i64 A, .int .i64 ((A + 1 + Bn) % (NA : Int)), .bool E, .int .i64 (Ln - 4)] 70)) (by (repeat (first | assumption | exact Bel.refl _ | apply Bel.drewN | apply Bel.drew | apply Bel.alloc | refine Bel.trans ?_ (by assumption)))) (by omega)).below hBA); have HQP2 := Lib.hid (fun a ha => (hFA BP (by have := HBPL.out.lt; simp; omega) (fun a' ha' hh => HQP.out a' ha' hh)).2 a ha); have hzA := (show wL.heap.size ≤ wA.heap.size from (by have := hBA.size; (try simp only [World.size_alloc] at this); omega)); clear hOA hBA hFA)
                    refine hK.out _ _ ?_ (fun hHeld => ?_)
                    · ((try dsimp only); exact Lib.hid trivial)
                    clear hK K
                    try walk_nrm
                    refine wpAnyH_take (i := 20) (v := ?_) rfl (by kernel_rfl) (by kernel_rfl) (by kernel_rfl) (fun _ _ _ h => h) (Or.inl ⟨by rfl, ?_⟩) (by assumption) ?_
                    rotate_left
                    · (intro w hSw; (try dsimp only at hSw); go_simp <;> with_reducible rfl)
                    try walk_nrm
                    refine wpAnyH_ready (rs := [21]) (by kernel_rfl) (by simp) ?_
                    refine AllReadyH.cons rfl (fun K hK => ?_) AllReadyH.nil
                    · go_simp
                      refine hK.out _ _ ?_ (fun hHeld => ?_)
                      · ((try dsimp only); exact Lib.hid trivial)
                      clear hK K
                      try walk_nrm
                      refine wpAnyH_done (by kernel_rfl) ?_ _
                      go_wp2_with fail
                      go_roundw
                      case rel => exact ⟨n, LS ++ [(A, (A + 1 + Bn) % (NA : Int), E, Ln - 4)], _, q', cap', by go_num, by simp; omega, by rw [List.length_append]; exact HBX.out.set 2 _, HBRx.out.setAt (by omega) 2 _, HO2.out.row linkR_good (fun a ha => Below.heap_setCell _ _ _ _ (fun hh => HQP2.out a ha hh.symm)), fun a ha hh => HQP2.out a ha hh, hCA.out.stay (fun b hb => Below.heap_setCell _ _ _ _ (show b ≠ BP by omega)), HEQ.out, hDA.out.set _ (by omega), hMA.out.set _ (.inr (by omega)), by simp [World.setCell]; omega⟩
                      case measure => (simp [intOf] <;> omega)
          refine AllReadyH.cons rfl (fun K hK => ?_) AllReadyH.nil
          · go_simp
            (go_at_call 141; (with_reducible refine (l01Once_any cb C (moreB C NA st).2 2 _ (hcB.bel (by (repeat (first | assumption | exact Bel.refl _ | apply Bel.drewN | apply Bel.drew | apply Bel.alloc | refine Bel.trans ?_ (by assumption))))) (by omega)).mono ?_); rintro e wE ⟨rfl, hcE, hdE⟩; rw [HEQE.out]; have hdE := (Dr.ofBel (cb := cb) (a := wB) (by (repeat (first | assumption | exact Bel.refl _ | apply Bel.drewN | apply Bel.drew | apply Bel.alloc | refine Bel.trans ?_ (by assumption))))).trans hdE; have hcE : Cur wE cb C (moreE C NA st).2 := hcE; have lc := (by first | exact hdE.cell lc (by omega) | exact lc))
            try go_wp2_with fail
            refine hK.out _ _ ?_ (fun hHeld => ?_)
            · ((try dsimp only); exact Lib.hid trivial)
            clear hK K
            try walk_nrm
            refine wpAnyH_ready (rs := [1, 15]) (by kernel_rfl) (by simp) ?_
            refine AllReadyH.cons rfl (fun K hK => ?_) ?_
            · go_simp
              refine hK.out _ _ ?_ (fun hHeld => ?_)
              · ((try dsimp only); exact Lib.hid trivial)
              clear hK K
              try walk_nrm
              refine wpAnyH_ready (rs := [15]) (by kernel_rfl) (by simp) ?_
              refine AllReadyH.cons rfl (fun K hK => ?_) AllReadyH.nil
              · go_simp
                (go_at_call 139; (with_reducible refine (l01Below_any cb C (moreE C NA st).2 8 _ (hcE.bel (by (repeat (first | assumption | exact Bel.refl _ | apply Bel.drewN | apply Bel.drew | apply Bel.alloc | refine Bel.trans ?_ (by assumption))))) (by omega)).mono ?_); rintro e wL ⟨rfl, hcL, hdL⟩; rw [HLQ.out]; have hdL := (Dr.ofBel (cb := cb) (a := wE) (by (repeat (first | assumption | exact Bel.refl _ | apply Bel.drewN | apply Bel.drew | apply Bel.alloc | refine Bel.trans ?_ (by assumption))))).trans hdL; have hcL : Cur wL cb C (moreL C NA st).2 := hcL; have lc := (by first | exact hdL.cell lc (by omega) | exact lc); have lca := fun o => ((Bel.refl wL).alloc o).cell lc; have hdaL := ((hdB.trans hdE).trans hdL); have HBPL := Lib.hid (HBPa.out.dr hdaL (by omega)); have hszL := hdaL.size; have HDL := Lib.hid (hda.trans hdaL); have HCL := Lib.hid hcL; have HML := Lib.hid (hmA.dr hdaL (by omega) (by omega)))
                try go_wp2_with fail
                refine hK.out _ _ ?_ (fun hHeld => ?_)
                · ((try dsimp only); exact Lib.hid trivial)
                clear hK K
                try walk_nrm
                refine wpAnyH_take (i := 16) (v := ?_) rfl (by kernel_rfl) (by kernel_rfl) (by kernel_rfl) (fun _ _ _ h => h) (Or.inl ⟨by rfl, ?_⟩) (by assumption) ?_
                rotate_left
                · (intro w hSw; (try dsimp only at hSw); go_simp <;> with_reducible rfl)
                try walk_nrm
                refine wpAnyH_take (i := 17) (v := ?_) rfl (by kernel_rfl) (by kernel_rfl) (by kernel_rfl) (fun _ _ _ h => h) (Or.inl ⟨by rfl, ?_⟩) (by assumption) ?_
                rotate_left
                · (intro w hSw; (try dsimp only at hSw); go_simp <;> with_reducible rfl)
                try walk_nrm
                refine wpAnyH_ready (rs := [18]) (by kernel_rfl) (by simp) ?_
                refine AllReadyH.cons rfl (fun K hK => ?_) AllReadyH.nil
                · go_simp
                  refine hK.out _ _ ?_ (fun hHeld => ?_)
                  · ((try dsimp only); exact Lib.hid trivial)
                  clear hK K
                  try walk_nrm
                  refine wpAnyH_ready (rs := [19]) (by kernel_rfl) (by simp) ?_
                  refine AllReadyH.cons rfl (fun K hK => ?_) AllReadyH.nil
                  · (refine step_appG (o := ⟨some 44, _, _, _, _, _⟩) (n := 4) linkR_good _ (by rfl) _ _ 31 (by rfl) (.agg #[.int .i64 0, .int .i64 0, .bool false, .int .i64 0]) 32 Try.underlying31 (by kernel_rfl) rfl (by decide) (by decide) Q KC LS ((A, (A + 1 + Bn) % (NA : Int), E, Ln - 4)) (by rfl) (hOa.hi linkR_good ((Hi.ofDr hdaL (by omega)).trans (Hi.ofBel (by (repeat (first | assumption | exact Bel.refl _ | apply Bel.drewN | apply Bel.drew | apply Bel.alloc | refine Bel.trans ?_ (by assumption)))))) (fun _ h => h.elim)) _ 1 [.int .i64 A, .int .i64 ((A + 1 + Bn) % (NA : Int)), .bool E, .int .i64 (Ln - 4)] (by rfl) rfl (World.news_of_block (alloc_at (by first | rfl | (simp; done) | (simp; omega)))) (by intro u hu; simp at hu; rcases hu with rfl | rfl | rfl | rfl <;> rfl) (HREP.out _ _) (by omega) (by first | omega | (simp; omega)) ?_; intro q' cap' wA hOA hBA hFA; have HO2 := Lib.hid hOA; have HBX := Lib.hid ((HBPL.out.alloc (.cells #[.int .i64 A, .int .i64 ((A + 1 + Bn) % (NA : Int)), .bool E, .int .i64 (Ln - 4)] 70)).below2 hFA (by have := HBPL.out.lt; simp; omega) (fun a ha => by have := HQP.out a ha; omega)); have HBRx := Lib.hid (((HBRa.out.dr hdaL (by omega)).alloc (.cells #[.int .i64 A, .int .i64 ((A + 1 + Bn) % (NA : Int)), .bool E, .int .i64 (Ln - 4)] 70)).below hBA (by omega)); have y2 := HBX.out.cellv (j := 2) (by simp); have fy2 := HBX.out.frozen 2; simp only [List.getElem_cons_zero, List.getElem_cons_succ] at y2; have hCA := Lib.hid ((HCL.out.bel (w' := wL.alloc (.cells #[.int .i64 A, .int .i64 ((A + 1 + Bn) % (NA : Int)), .bool E, .int .i64 (Ln - 4)] 70)) (by (repeat (first | assumption | exact Bel.refl _ | apply Bel.drewN | apply Bel.drew | apply Bel.alloc | refine Bel.trans ?_ (by assumption))))).below hBA (by omega)); have hDA := Lib.hid ((HDL.out.alloc (.cells #[.int .i64 A, .int .i64 ((A + 1 + Bn) % (NA : Int)), .bool E, .int .i64 (Ln - 4)] 70)).below' hBA (by omega)); have hMA := Lib.hid ((HML.out.bel (c := wL.alloc (.cells #[.int .i64 A, .int .i64 ((A + 1 + Bn) % (NA : Int)), .bool E, .int .i64 (Ln - 4)] 70)) (by (repeat (first | assumption | exact Bel.refl _ | apply Bel.drewN | apply Bel.drew | apply Bel.alloc | refine Bel.trans ?_ (by assumption)))) (by omega)).below hBA); have HQP2 := Lib.hid (fun a ha => (hFA BP (by have := HBPL.out.lt; simp; omega) (fun a' ha' hh => HQP.out a' ha' hh)).2 a ha); have hzA := (show wL.heap.size ≤ wA.heap.size from (by have := hBA.size; (try simp only [World.size_alloc] at this); omega)); clear hOA hBA hFA)
                    refine hK.out _ _ ?_ (fun hHeld => ?_)
                    · ((try dsimp only); exact Lib.hid trivial)
                    clear hK K
                    try walk_nrm
                    refine wpAnyH_take (i := 20) (v := ?_) rfl (by kernel_rfl) (by kernel_rfl) (by kernel_rfl) (fun _ _ _ h => h) (Or.inl ⟨by rfl, ?_⟩) (by assumption) ?_
                    rotate_left
                    · (intro w hSw; (try dsimp only at hSw); go_simp <;> with_reducible rfl)
                    try walk_nrm
                    refine wpAnyH_ready (rs := [21]) (by kernel_rfl) (by simp) ?_
                    refine AllReadyH.cons rfl (fun K hK => ?_) AllReadyH.nil
                    · go_simp
                      refine hK.out _ _ ?_ (fun hHeld => ?_)
                      · ((try dsimp only); exact Lib.hid trivial)
                      clear hK K
                      try walk_nrm
                      refine wpAnyH_done (by kernel_rfl) ?_ _
                      go_wp2_with fail
                      go_roundw
                      case rel => exact ⟨n, LS ++ [(A, (A + 1 + Bn) % (NA : Int), E, Ln - 4)], _, q', cap', by go_num, by simp; omega, by rw [List.length_append]; exact HBX.out.set 2 _, HBRx.out.setAt (by omega) 2 _, HO2.out.row linkR_good (fun a ha => Below.heap_setCell _ _ _ _ (fun hh => HQP2.out a ha hh.symm)), fun a ha hh => HQP2.out a ha hh, hCA.out.stay (fun b hb => Below.heap_setCell _ _ _ _ (show b ≠ BP by omega)), HEQ.out, hDA.out.set _ (by omega), hMA.out.set _ (.inr (by omega)), by simp [World.setCell]; omega⟩
                      case measure => (simp [intOf] <;> omega)
            refine AllReadyH.cons rfl (fun K hK => ?_) AllReadyH.nil
            · go_simp
              (go_at_call 139; (with_reducible refine (l01Below_any cb C (moreE C NA st).2 8 _ (hcE.bel (by (repeat (first | assumption | exact Bel.refl _ | apply Bel.drewN | apply Bel.drew | apply Bel.alloc | refine Bel.trans ?_ (by assumption))))) (by omega)).mono ?_); rintro e wL ⟨rfl, hcL, hdL⟩; rw [HLQ.out]; have hdL := (Dr.ofBel (cb := cb) (a := wE) (by (repeat (first | assumption | exact Bel.refl _ | apply Bel.drewN | apply Bel.drew | apply Bel.alloc | refine Bel.trans ?_ (by assumption))))).trans hdL; have hcL : Cur wL cb C (moreL C NA st).2 := hcL; have lc := (by first | exact hdL.cell lc (by omega) | exact lc); have lca := fun o => ((Bel.refl wL).alloc o).cell lc; have hdaL := ((hdB.trans hdE).trans hdL); have HBPL := Lib.hid (HBPa.out.dr hdaL (by omega)); have hszL := hdaL.size; have HDL := Lib.hid (hda.trans hdaL); have HCL := Lib.hid hcL; have HML := Lib.hid (hmA.dr hdaL (by omega) (by omega)))
              try go_wp2_with fail
              refine hK.out _ _ ?_ (fun hHeld => ?_)
              · ((try dsimp only); exact Lib.hid trivial)
              clear hK K
              try walk_nrm
              refine wpAnyH_take (i := 16) (v := ?_) rfl (by kernel_rfl) (by kernel_rfl) (by kernel_rfl) (fun _ _ _ h => h) (Or.inl ⟨by rfl, ?_⟩) (by assumption) ?_
              rotate_left
              · (intro w hSw; (try dsimp only at hSw); go_simp <;> with_reducible rfl)
              try walk_nrm
              refine wpAnyH_take (i := 17) (v := ?_) rfl (by kernel_rfl) (by kernel_rfl) (by kernel_rfl) (fun _ _ _ h => h) (Or.inl ⟨by rfl, ?_⟩) (by assumption) ?_
              rotate_left
              · (intro w hSw; (try dsimp only at hSw); go_simp <;> with_reducible rfl)
              try walk_nrm
              refine wpAnyH_ready (rs := [1, 18]) (by kernel_rfl) (by simp) ?_
              refine AllReadyH.cons rfl (fun K hK => ?_) ?_
              · go_simp
                refine hK.out _ _ ?_ (fun hHeld => ?_)
                · ((try dsimp only); exact Lib.hid trivial)
                clear hK K
                try walk_nrm
                refine wpAnyH_ready (rs := [18]) (by kernel_rfl) (by simp) ?_
                refine AllReadyH.cons rfl (fun K hK => ?_) AllReadyH.nil
                · go_simp
                  refine hK.out _ _ ?_ (fun hHeld => ?_)
                  · ((try dsimp only); exact Lib.hid trivial)
                  clear hK K
                  try walk_nrm
                  refine wpAnyH_ready (rs := [19]) (by kernel_rfl) (by simp) ?_
                  refine AllReadyH.cons rfl (fun K hK => ?_) AllReadyH.nil
                  · (refine step_appG (o := ⟨some 44, _, _, _, _, _⟩) (n := 4) linkR_good _ (by rfl) _ _ 31 (by rfl) (.agg #[.int .i64 0, .int .i64 0, .bool false, .int .i64 0]) 32 Try.underlying31 (by kernel_rfl) rfl (by decide) (by decide) Q KC LS ((A, (A + 1 + Bn) % (NA : Int), E, Ln - 4)) (by rfl) (hOa.hi linkR_good ((Hi.ofDr hdaL (by omega)).trans (Hi.ofBel (by (repeat (first | assumption | exact Bel.refl _ | apply Bel.drewN | apply Bel.drew | apply Bel.alloc | refine Bel.trans ?_ (by assumption)))))) (fun _ h => h.elim)) _ 1 [.int .i64 A, .int .i64 ((A + 1 + Bn) % (NA : Int)), .bool E, .int .i64 (Ln - 4)] (by rfl) rfl (World.news_of_block (alloc_at (by first | rfl | (simp; done) | (simp; omega)))) (by intro u hu; simp at hu; rcases hu with rfl | rfl | rfl | rfl <;> rfl) (HREP.out _ _) (by omega) (by first | omega | (simp; omega)) ?_; intro q' cap' wA hOA hBA hFA; have HO2 := Lib.hid hOA; have HBX := Lib.hid ((HBPL.out.alloc (.cells #[.int .i64 A, .int .i64 ((A + 1 + Bn) % (NA : Int)), .bool E, .int .i64 (Ln - 4)] 70)).below2 hFA (by have := HBPL.out.lt; simp; omega) (fun a ha => by have := HQP.out a ha; omega)); have HBRx := Lib.hid (((HBRa.out.dr hdaL (by omega)).alloc (.cells #[.int .i64 A, .int .i64 ((A + 1 + Bn) % (NA : Int)), .bool E, .int .i64 (Ln - 4)] 70)).below hBA (by omega)); have y2 := HBX.out.cellv (j := 2) (by simp); have fy2 := HBX.out.frozen 2; simp only [List.getElem_cons_zero, List.getElem_cons_succ] at y2; have hCA := Lib.hid ((HCL.out.bel (w' := wL.alloc (.cells #[.int .i64 A, .int .i64 ((A + 1 + Bn) % (NA : Int)), .bool E, .int .i64 (Ln - 4)] 70)) (by (repeat (first | assumption | exact Bel.refl _ | apply Bel.drewN | apply Bel.drew | apply Bel.alloc | refine Bel.trans ?_ (by assumption))))).below hBA (by omega)); have hDA := Lib.hid ((HDL.out.alloc (.cells #[.int .i64 A, .int .i64 ((A + 1 + Bn) % (NA : Int)), .bool E, .int .i64 (Ln - 4)] 70)).below' hBA (by omega)); have hMA := Lib.hid ((HML.out.bel (c := wL.alloc (.cells #[.int .i64 A, .int .i64 ((A + 1 + Bn) % (NA : Int)), .bool E, .int .i64 (Ln - 4)] 70)) (by (repeat (first | assumption | exact Bel.refl _ | apply Bel.drewN | apply Bel.drew | apply Bel.alloc | refine Bel.trans ?_ (by assumption)))) (by omega)).below hBA); have HQP2 := Lib.hid (fun a ha => (hFA BP (by have := HBPL.out.lt; simp; omega) (fun a' ha' hh => HQP.out a' ha' hh)).2 a ha); have hzA := (show wL.heap.size ≤ wA.heap.size from (by have := hBA.size; (try simp only [World.size_alloc] at this); omega)); clear hOA hBA hFA)
                    refine hK.out _ _ ?_ (fun hHeld => ?_)
                    · ((try dsimp only); exact Lib.hid trivial)
                    clear hK K
                    try walk_nrm
                    refine wpAnyH_take (i := 20) (v := ?_) rfl (by kernel_rfl) (by kernel_rfl) (by kernel_rfl) (fun _ _ _ h => h) (Or.inl ⟨by rfl, ?_⟩) (by assumption) ?_
                    rotate_left
                    · (intro w hSw; (try dsimp only at hSw); go_simp <;> with_reducible rfl)
                    try walk_nrm
                    refine wpAnyH_ready (rs := [21]) (by kernel_rfl) (by simp) ?_
                    refine AllReadyH.cons rfl (fun K hK => ?_) AllReadyH.nil
                    · go_simp
                      refine hK.out _ _ ?_ (fun hHeld => ?_)
                      · ((try dsimp only); exact Lib.hid trivial)
                      clear hK K
                      try walk_nrm
                      refine wpAnyH_done (by kernel_rfl) ?_ _
                      go_wp2_with fail
                      go_roundw
                      case rel => exact ⟨n, LS ++ [(A, (A + 1 + Bn) % (NA : Int), E, Ln - 4)], _, q', cap', by go_num, by simp; omega, by rw [List.length_append]; exact HBX.out.set 2 _, HBRx.out.setAt (by omega) 2 _, HO2.out.row linkR_good (fun a ha => Below.heap_setCell _ _ _ _ (fun hh => HQP2.out a ha hh.symm)), fun a ha hh => HQP2.out a ha hh, hCA.out.stay (fun b hb => Below.heap_setCell _ _ _ _ (show b ≠ BP by omega)), HEQ.out, hDA.out.set _ (by omega), hMA.out.set _ (.inr (by omega)), by simp [World.setCell]; omega⟩
                      case measure => (simp [intOf] <;> omega)
              refine AllReadyH.cons rfl (fun K hK => ?_) AllReadyH.nil
              · go_simp
                refine hK.out _ _ ?_ (fun hHeld => ?_)
                · ((try dsimp only); exact Lib.hid trivial)
                clear hK K
                try walk_nrm
                refine wpAnyH_ready (rs := [1]) (by kernel_rfl) (by simp) ?_
                refine AllReadyH.cons rfl (fun K hK => ?_) AllReadyH.nil
                · go_simp
                  refine hK.out _ _ ?_ (fun hHeld => ?_)
                  · ((try dsimp only); exact Lib.hid trivial)
                  clear hK K
                  try walk_nrm
                  refine wpAnyH_ready (rs := [19]) (by kernel_rfl) (by simp) ?_
                  refine AllReadyH.cons rfl (fun K hK => ?_) AllReadyH.nil
                  · (refine step_appG (o := ⟨some 44, _, _, _, _, _⟩) (n := 4) linkR_good _ (by rfl) _ _ 31 (by rfl) (.agg #[.int .i64 0, .int .i64 0, .bool false, .int .i64 0]) 32 Try.underlying31 (by kernel_rfl) rfl (by decide) (by decide) Q KC LS ((A, (A + 1 + Bn) % (NA : Int), E, Ln - 4)) (by rfl) (hOa.hi linkR_good ((Hi.ofDr hdaL (by omega)).trans (Hi.ofBel (by (repeat (first | assumption | exact Bel.refl _ | apply Bel.drewN | apply Bel.drew | apply Bel.alloc | refine Bel.trans ?_ (by assumption)))))) (fun _ h => h.elim)) _ 1 [.int .i64 A, .int .i64 ((A + 1 + Bn) % (NA : Int)), .bool E, .int .i64 (Ln - 4)] (by rfl) rfl (World.news_of_block (alloc_at (by first | rfl | (simp; done) | (simp; omega)))) (by intro u hu; simp at hu; rcases hu with rfl | rfl | rfl | rfl <;> rfl) (HREP.out _ _) (by omega) (by first | omega | (simp; omega)) ?_; intro q' cap' wA hOA hBA hFA; have HO2 := Lib.hid hOA; have HBX := Lib.hid ((HBPL.out.alloc (.cells #[.int .i64 A, .int .i64 ((A + 1 + Bn) % (NA : Int)), .bool E, .int .i64 (Ln - 4)] 70)).below2 hFA (by have := HBPL.out.lt; simp; omega) (fun a ha => by have := HQP.out a ha; omega)); have HBRx := Lib.hid (((HBRa.out.dr hdaL (by omega)).alloc (.cells #[.int .i64 A, .int .i64 ((A + 1 + Bn) % (NA : Int)), .bool E, .int .i64 (Ln - 4)] 70)).below hBA (by omega)); have y2 := HBX.out.cellv (j := 2) (by simp); have fy2 := HBX.out.frozen 2; simp only [List.getElem_cons_zero, List.getElem_cons_succ] at y2; have hCA := Lib.hid ((HCL.out.bel (w' := wL.alloc (.cells #[.int .i64 A, .int .i64 ((A + 1 + Bn) % (NA : Int)), .bool E, .int .i64 (Ln - 4)] 70)) (by (repeat (first | assumption | exact Bel.refl _ | apply Bel.drewN | apply Bel.drew | apply Bel.alloc | refine Bel.trans ?_ (by assumption))))).below hBA (by omega)); have hDA := Lib.hid ((HDL.out.alloc (.cells #[.int .i64 A, .int .i64 ((A + 1 + Bn) % (NA : Int)), .bool E, .int .i64 (Ln - 4)] 70)).below' hBA (by omega)); have hMA := Lib.hid ((HML.out.bel (c := wL.alloc (.cells #[.int .i64 A, .int .i64 ((A + 1 + Bn) % (NA : Int)), .bool E, .int .i64 (Ln - 4)] 70)) (by (repeat (first | assumption | exact Bel.refl _ | apply Bel.drewN | apply Bel.drew | apply Bel.alloc | refine Bel.trans ?_ (by assumption)))) (by omega)).below hBA); have HQP2 := Lib.hid (fun a ha => (hFA BP (by have := HBPL.out.lt; simp; omega) (fun a' ha' hh => HQP.out a' ha' hh)).2 a ha); have hzA := (show wL.heap.size ≤ wA.heap.size from (by have := hBA.size; (try simp only [World.size_alloc] at this); omega)); clear hOA hBA hFA)
                    refine hK.out _ _ ?_ (fun hHeld => ?_)
                    · ((try dsimp only); exact Lib.hid trivial)
                    clear hK K
                    try walk_nrm
                    refine wpAnyH_take (i := 20) (v := ?_) rfl (by kernel_rfl) (by kernel_rfl) (by kernel_rfl) (fun _ _ _ h => h) (Or.inl ⟨by rfl, ?_⟩) (by assumption) ?_
                    rotate_left
                    · (intro w hSw; (try dsimp only at hSw); go_simp <;> with_reducible rfl)
                    try walk_nrm
                    refine wpAnyH_ready (rs := [21]) (by kernel_rfl) (by simp) ?_
                    refine AllReadyH.cons rfl (fun K hK => ?_) AllReadyH.nil
                    · go_simp
                      refine hK.out _ _ ?_ (fun hHeld => ?_)
                      · ((try dsimp only); exact Lib.hid trivial)
                      clear hK K
                      try walk_nrm
                      refine wpAnyH_done (by kernel_rfl) ?_ _
                      go_wp2_with fail
                      go_roundw
                      case rel => exact ⟨n, LS ++ [(A, (A + 1 + Bn) % (NA : Int), E, Ln - 4)], _, q', cap', by go_num, by simp; omega, by rw [List.length_append]; exact HBX.out.set 2 _, HBRx.out.setAt (by omega) 2 _, HO2.out.row linkR_good (fun a ha => Below.heap_setCell _ _ _ _ (fun hh => HQP2.out a ha hh.symm)), fun a ha hh => HQP2.out a ha hh, hCA.out.stay (fun b hb => Below.heap_setCell _ _ _ _ (show b ≠ BP by omega)), HEQ.out, hDA.out.set _ (by omega), hMA.out.set _ (.inr (by omega)), by simp [World.setCell]; omega⟩
                      case measure => (simp [intOf] <;> omega)

set_option maxHeartbeats 2000000 in
theorem MakeLoops_any (v : Value) (C : List Int) (S : Nat → Prop) (w : World) (hx : bytesR S w [v] C) (hS : ∀ b, S b → b < w.heap.size) (hl : C.length ≤ 1048576) :
    Calls Try.prog 32 #[v] w (FreshA projR w (loopsP C (newV C)).1) := by
  have HX := Lib.hid (bytesR_good.bel hx ((Bel.refl w).alloc (.cells #[.int .i64 0, .slice none 0 0, .slice none 0 0, .slice none 0 0, .slice none 0 0] 34)) hS)
  have HS := Lib.hid (show ∀ b, S b → b < (w.alloc (.cells #[.int .i64 0, .slice none 0 0, .slice none 0 0, .slice none 0 0, .slice none 0 0] 34)).heap.size from fun b hb => by have := hS b hb; simp; omega)
  have HBR := Lib.hid (Blk.new' (w := w) (e := 34) [.int .i64 0, .slice none 0 0, .slice none 0 0, .slice none 0 0, .slice none 0 0] rfl)
  clear hx hS
  go_enter Try.func32, Try.ntmps32
  go_wp2_with fail
  refine (l01New_any v C S _ HX.out HS.out hl).mono ?_
  rintro e w1 ⟨cb, rfl, hcb, hc1, g1⟩
  have HBR1 := Lib.hid (HBR.out.bel g1)
  have hz1 := HBR1.out.lt
  have G1 : Bel w w1 := by (repeat (first | assumption | exact Bel.refl _ | apply Bel.drewN | apply Bel.drew | apply Bel.alloc | refine Bel.trans ?_ (by assumption)))
  have hcb' : w.heap.size + 1 ≤ cb := by simpa using hcb
  go_wp2_with fail
  refine (l07Loops_any cb C (newV C) _ hc1).mono ?_
  rintro e w2 ⟨cs, rfl, hr, hc2, hd2⟩
  have HBR2 := Lib.hid (HBR1.out.dr hd2 (by omega))
  have HG := Lib.hid (hd2.bel G1 (by omega))
  have HR := Lib.hid hr
  have hsz1 := hc1.lt
  obtain ⟨X, hX⟩ : ∃ X, (loopsP C (newV C)).1 = X := ⟨_, rfl⟩
  rw [hX] at hr HR
  have HXQ := Lib.hid hX
  obtain ⟨x1, x2, x3, x4, rfl, q0, q1, q2, q3, q4⟩ := projR_open hr
  obtain ⟨p1, k1, rfl, -⟩ := sliceR_open q1
  obtain ⟨p2, k2, rfl, -⟩ := sliceR_open q2
  obtain ⟨p3, k3, rfl, -⟩ := sliceR_open q3
  obtain ⟨p4, k4, rfl, -⟩ := sliceR_open q4
  have r0 := HBR2.out.cellv (j := 0) (by simp)
  have r1 := HBR2.out.cellv (j := 1) (by simp)
  have r2 := HBR2.out.cellv (j := 2) (by simp)
  have r3 := HBR2.out.cellv (j := 3) (by simp)
  have r4 := HBR2.out.cellv (j := 4) (by simp)
  simp only [List.getElem_cons_zero, List.getElem_cons_succ] at r0 r1 r2 r3 r4
  have fr0 := HBR2.out.frozen 0
  have fr1 := HBR2.out.frozen 1
  have fr2 := HBR2.out.frozen 2
  have fr3 := HBR2.out.frozen 3
  have fr4 := HBR2.out.frozen 4
  clear hr q0 q1 q2 q3 q4 hc1 hc2 hd2 hX hcb
  go_wp2_with fail
  have HBW := Lib.hid ((((((Below.refl (w.heap.size) w2).setCell (p := ⟨w.heap.size, 0, none⟩) (Nat.le_refl _) (.int .i64 X.1)).setCell (p := ⟨w.heap.size, 1, none⟩) (Nat.le_refl _) (.slice p1 X.2.1.length k1)).setCell (p := ⟨w.heap.size, 2, none⟩) (Nat.le_refl _) (.slice p2 X.2.2.1.length k2)).setCell (p := ⟨w.heap.size, 3, none⟩) (Nat.le_refl _) (.slice p3 X.2.2.2.1.length k3)).setCell (p := ⟨w.heap.size, 4, none⟩) (Nat.le_refl _) (.slice p4 X.2.2.2.2.length k4))
  have HIF := Lib.hid ((((((Hi.refl (w.heap.size + 1) w2).set (q := w.heap.size) (j := 0) (.int .i64 X.1) (.inl (by omega))).set (q := w.heap.size) (j := 1) (.slice p1 X.2.1.length k1) (.inl (by omega))).set (q := w.heap.size) (j := 2) (.slice p2 X.2.2.1.length k2) (.inl (by omega))).set (q := w.heap.size) (j := 3) (.slice p3 X.2.2.2.1.length k3) (.inl (by omega))).set (q := w.heap.size) (j := 4) (.slice p4 X.2.2.2.2.length k4) (.inl (by omega)))
  have HBF := Lib.hid (((((HBR2.out.set 0 (.int .i64 X.1)).set 1 (.slice p1 X.2.1.length k1)).set 2 (.slice p2 X.2.2.1.length k2)).set 3 (.slice p3 X.2.2.2.1.length k3)).set 4 (.slice p4 X.2.2.2.2.length k4))
  generalize (((((w2.setCell ⟨w.heap.size, 0, none⟩ (.int .i64 X.1)).setCell ⟨w.heap.size, 1, none⟩ (.slice p1 X.2.1.length k1)).setCell ⟨w.heap.size, 2, none⟩ (.slice p2 X.2.2.1.length k2)).setCell ⟨w.heap.size, 3, none⟩ (.slice p3 X.2.2.2.1.length k3)).setCell ⟨w.heap.size, 4, none⟩ (.slice p4 X.2.2.2.2.length k4)) = WF at *
  have c0 := HBF.out.cellv (j := 0) (by simp)
  have c1 := HBF.out.cellv (j := 1) (by simp)
  have c2 := HBF.out.cellv (j := 2) (by simp)
  have c3 := HBF.out.cellv (j := 3) (by simp)
  have c4 := HBF.out.cellv (j := 4) (by simp)
  simp only [List.set_cons_zero, List.set_cons_succ, List.getElem_cons_zero, List.getElem_cons_succ] at c0 c1 c2 c3 c4
  clear HBF
  exact bodyPost_ret (v := .agg #[.int .i64 X.1, .slice p1 X.2.1.length k1, .slice p2 X.2.2.1.length k2, .slice p3 X.2.2.2.1.length k3, .slice p4 X.2.2.2.2.length k4]) (by simp [results, Try.results32, go_sem, c0, c1, c2, c3, c4]) rfl ⟨[.int .i64 X.1, .slice p1 X.2.1.length k1, .slice p2 X.2.2.1.length k2, .slice p3 X.2.2.2.1.length k3, .slice p4 X.2.2.2.2.length k4], rfl, by rw [HXQ.out]; have HR2 := projR_good.stay HR.out (w' := WF) (fun b hb => HIF.out.2 b (by have := hb.1; omega) hb.2); exact projR_good.mono HR2 (fun b hb => ⟨by have := hb.1; omega, by have := hb.2; have := HIF.out.1; omega⟩), by have h1 := HG.out; have h2 := HBW.out; exact Below.trans h1 h2⟩

end Go.Proofs.Ytiaamddhocdhaaa
end

/- DistI -/
section
namespace Go.Proofs.Ytiaamddhocdhaaa
open Go.ChangeShapes Go.WideShapes Go.ChangeAt Go.RowKit
set_option linter.unusedVariables false

theorem cell_drew {w : World} {a : Addr} {v : Value} (h : w.cell? a = some v) : w.drew.cell? a = some v := h
theorem cell_blk {w w' : World} {b k : Nat} {v : Value} (h : w.cell? ⟨b, k, none⟩ = some v) (hb : w'.heap[b]? = w.heap[b]?) : w'.cell? ⟨b, k, none⟩ = some v := by
  rw [World.cell?_of_block (w := w) (a := ⟨b, k, none⟩) hb]; exact h
theorem frozen_setF {w : World} {q : Addr} {u : Value} {b k : Nat} (h : w.frozen? ⟨b, k, none⟩ = false) : (w.setCell q u).frozen? ⟨b, k, none⟩ = false := by rw [frozen_set]; exact h
/-- What add leaves. -/
def AddRes (B n fb mb oF cF oM cM : Nat) (rF pF rM pM : Nat → Nat) (D : Nat → Nat → Int) (w : World) (e : Ending) (w' : World) : Prop := (∃ v, e = .returned v) ∧ FM B w' n n fb mb oF cF oM cM rF pF rM pM D ∧ w.heap.size ≤ w'.heap.size ∧ (∀ W, Bel W w → W.heap.size ≤ B → Bel W w') ∧ ∀ b, b < w.heap.size → ¬ GridB oF n rF b → ¬ GridB oM n rM b → w'.heap[b]? = w.heap[b]?
set_option maxRecDepth 100000 in
set_option maxHeartbeats 1000000 in
theorem iAdd_any (B n fb mb oF cF oM cM : Nat) (rF pF rM pM : Nat → Nat) (D : Nat → Nat → Int) (i k : Nat) (x : Int) (w : World) (h : FM B w n n fb mb oF cF oM cM rF pF rM pM D) (hi : i < n) (hk : k < n) (hn : n ≤ 6) (hx : x ≠ -1000) :
    Calls Try.prog 104 #[.int .i64 (i : Int), .int .i64 (k : Int), .int .i64 x, .pointer (some ⟨mb, 0, none⟩), .pointer (some ⟨fb, 0, none⟩)] w (AddRes B n fb mb oF cF oM cM rF pF rM pM (fun a b => if a = i ∧ b = k then addV (D i k) x else D a b) w) := by
  have HPUT := Lib.hid (fun (X : World) (hX : FM B X n n fb mb oF cF oM cM rF pF rM pM D) => hX.put hi hk hx)
  have HH := Lib.hid h
  have HSAME := Lib.hid (fun (e : addV (D i k) x = D i k) => h.congr (D' := fun a b => if a = i ∧ b = k then addV (D i k) x else D a b) (fun a b _ _ => by
    by_cases c : a = i ∧ b = k
    · obtain ⟨rfl, rfl⟩ := c
      simp [e]
    · simp [c]))
  have HBL := Lib.hid (fun (W : World) (hW : Bel W w) (hB : W.heap.size ≤ B) (u v : Value) => put_bel (k := k) h hW hB hi u v)
  have hF := h.bF
  have hM := h.bM
  obtain ⟨sf, -⟩ := h.gF.slot i hi
  obtain ⟨sm, -⟩ := h.gM.slot i hi
  obtain ⟨cf, cff⟩ := h.gF.cell i k hi hk
  obtain ⟨cm, cmf⟩ := h.gM.cell i k hi hk
  have hc := h.cap
  have n1 := fun e => (h.nF (rF i) (.inr ⟨i, hi, rfl⟩)).1 e
  have n1 : fb ≠ rF i := fun e => (h.nF (rF i) (.inr ⟨i, hi, rfl⟩)).1 e.symm
  have n2 : mb ≠ rF i := fun e => (h.nF (rF i) (.inr ⟨i, hi, rfl⟩)).2 e.symm
  have n3 : fb ≠ rM i := fun e => (h.nM (rM i) (.inr ⟨i, hi, rfl⟩)).1 e.symm
  have n4 : mb ≠ rM i := fun e => (h.nM (rM i) (.inr ⟨i, hi, rfl⟩)).2 e.symm
  have n5 : oF ≠ rF i := fun e => (h.gF.base i hi).2.2 e.symm
  have n6 : oM ≠ rM i := fun e => (h.gM.base i hi).2.2 e.symm
  have n7 : oF ≠ rM i := fun e => h.two _ (.inl rfl) (.inr ⟨i, hi, e⟩)
  have n8 : oM ≠ rF i := fun e => h.two _ (.inr ⟨i, hi, rfl⟩) (.inl e.symm)
  have n9 : rF i ≠ rM i := fun e => h.two _ (.inr ⟨i, hi, rfl⟩) (.inr ⟨i, hi, e⟩)
  have n10 : rM i ≠ rF i := fun e => n9 e.symm
  have HGF := Lib.hid (show GridB oF n rF (rF i) from .inr ⟨i, hi, rfl⟩)
  have HGM := Lib.hid (show GridB oM n rM (rM i) from .inr ⟨i, hi, rfl⟩)
  simp only [farV] at cf
  simp only [metV] at cm
  have hi6 : (i : Int) < (n : Int) := by omega
  have hk6 : (k : Int) < (n : Int) := by omega
  have hi0 : (0 : Int) ≤ (i : Int) := by omega
  have hk0 : (0 : Int) ≤ (k : Int) := by omega
  have hwi : IntKind.i64.wrap (i : Int) = (i : Int) := IntWalk.i64_in _ (by omega)
  have hwk : IntKind.i64.wrap (k : Int) = (k : Int) := IntWalk.i64_in _ (by omega)
  generalize hDE : D i k = d at *
  have HDE := Lib.hid hDE
  generalize rF i = RF at *
  generalize rM i = RM at *
  generalize pF i = CF at *
  generalize pM i = CM at *
  clear h hDE
  have hc2 := hc.2
  unfold maxLen at hc2
  have hfin : ∀ u v : Value, ∀ b, b < w.heap.size → ¬ GridB oF n rF b → ¬ GridB oM n rM b → ((w.setCell ⟨RF, k, none⟩ u).setCell ⟨RM, k, none⟩ v).heap[b]? = w.heap[b]? := fun u v b hb h1 h2 => by
    rw [Below.heap_setCell _ _ _ _ (fun e => h2 (by rw [show b = RM from e]; exact HGM.out)), Below.heap_setCell _ _ _ _ (fun e => h1 (by rw [show b = RF from e]; exact HGF.out))]
  have HFIN := Lib.hid hfin
  clear hfin
  go_enter Try.func104, Try.ntmps104
  by_cases hd : d = -1000
  · subst hd
    have HV := Lib.hid (show addV (-1000) x = x from by unfold addV; rw [if_pos (.inl rfl)])
    simp at cm
    go_upto_region 1 with (fail)
    go_region_held3 (fun W => W.cell? ⟨fb, 0, none⟩ = some (.slice (some ⟨oF, 0, none⟩) n cF) ∧ W.cell? ⟨mb, 0, none⟩ = some (.slice (some ⟨oM, 0, none⟩) n cM) ∧ W.cell? ⟨oF, i, none⟩ = some (.slice (some ⟨RF, 0, none⟩) n CF) ∧ W.cell? ⟨oM, i, none⟩ = some (.slice (some ⟨RM, 0, none⟩) n CM)) (refine ⟨?_, ?_, ?_, ?_⟩ <;> (repeat (first | assumption | (with_reducible refine cell_setAt ?_ (by assumption) _) | (with_reducible refine cell_drew ?_)))) (fail)
    all_goals (go_wp2_with fail; go_end0; exact ⟨⟨_, rfl⟩, by rw [HV.out]; exact (HPUT.out w HH.out).bel (Bel.drew (Bel.refl _)), by simp, fun W hW hB => (HBL.out W hW hB _ _).drew, fun b hb h1 h2 => HFIN.out _ _ b hb h1 h2⟩)
  simp only [fz, if_neg hd] at cf
  simp only [decide_eq_false hd, Bool.not_false] at cm
  by_cases hlt : d < x
  · have HV := Lib.hid (show addV d x = x from by unfold addV; rw [if_pos (.inr hlt)])
    go_upto_region 1 with (fail)
    go_region_held3 (fun W => W.cell? ⟨fb, 0, none⟩ = some (.slice (some ⟨oF, 0, none⟩) n cF) ∧ W.cell? ⟨mb, 0, none⟩ = some (.slice (some ⟨oM, 0, none⟩) n cM) ∧ W.cell? ⟨oF, i, none⟩ = some (.slice (some ⟨RF, 0, none⟩) n CF) ∧ W.cell? ⟨oM, i, none⟩ = some (.slice (some ⟨RM, 0, none⟩) n CM)) (refine ⟨?_, ?_, ?_, ?_⟩ <;> (repeat (first | assumption | (with_reducible refine cell_setAt ?_ (by assumption) _) | (with_reducible refine cell_drew ?_)))) (fail)
    all_goals (go_wp2_with fail; go_end0; exact ⟨⟨_, rfl⟩, by rw [HV.out]; exact (HPUT.out w HH.out).bel (Bel.drew (Bel.refl _)), by simp, fun W hW hB => (HBL.out W hW hB _ _).drew, fun b hb h1 h2 => HFIN.out _ _ b hb h1 h2⟩)
  have HV := Lib.hid (show addV d x = d from by unfold addV; rw [if_neg (by intro h; rcases h with h | h; exact hd h; exact hlt h)])
  have hle : x ≤ d := by omega
  go_wp2
  go_end0
  exact ⟨⟨_, rfl⟩, HSAME.out HV.out, Nat.le_refl _, fun W hW hB => hW, fun b hb h1 h2 => rfl⟩

set_option maxRecDepth 100000 in
set_option maxHeartbeats 4000000 in
theorem iDistances_any (v : Value) (p : ProjT) (S : Nat → Prop) (w : World) (hx : aggR projR S w v p) (hS : ∀ b, S b → b < w.heap.size) (_hn : bulkProject p ≤ 1048576) : Calls Try.prog 38 #[v] w (DistRes p w) := by
  have mk1 := fun n hb h63 W => run_make_row' (P := Try.prog) 63 25 (.slice none 0 0) 24 Try.underlying63 (by kernel_rfl) rfl .i64 .i64 n hb h63 W
  have mk2 := fun n hb h63 W => run_make_row' (P := Try.prog) 136 137 (.slice none 0 0) 24 Try.underlying136 (by kernel_rfl) rfl .i64 .i64 n hb h63 W
  have mk3 := fun n hb h63 W => run_make_row' (P := Try.prog) 25 3 (.int .i64 0) 8 Try.underlying25 (by kernel_rfl) rfl .i64 .i64 n hb h63 W
  have mk4 := fun n hb h63 W => run_make_row' (P := Try.prog) 137 4 (.bool false) 1 Try.underlying137 (by kernel_rfl) rfl .i64 .i64 n hb h63 W
  obtain ⟨cs, rfl, hx⟩ := hx
  obtain ⟨c1, c2, c3, c4, rfl, q0, q1, q2, q3, q4⟩ := projR_open hx
  have Q1 := Lib.hid q1
  have Q2 := Lib.hid q2
  have Q3 := Lib.hid q3
  have Q4 := Lib.hid q4
  have HP := Lib.hid hx
  obtain ⟨p1, k1, rfl, l1, l1', -⟩ := sliceR_open q1
  obtain ⟨p2, k2, rfl, l2, l2', -⟩ := sliceR_open q2
  obtain ⟨p3, k3, rfl, l3, l3', -⟩ := sliceR_open q3
  obtain ⟨p4, k4, rfl, l4, l4', -⟩ := sliceR_open q4
  unfold maxLen at l1' l2' l3' l4'
  clear hx q0 q1 q2 q3 q4
  have HS := Lib.hid hS
  have HNB := Lib.hid _hn
  clear hS _hn
  have HP1 := Lib.hid (show ∀ W, Bel w W → aggR projR S W (.agg #[.int .i64 p.1, .slice p1 p.2.1.length k1, .slice p2 p.2.2.1.length k2, .slice p3 p.2.2.2.1.length k3, .slice p4 p.2.2.2.2.length k4]) p from fun W hW => aggR_mk (projR_good.bel HP.out hW HS.out))
  show Calls Try.prog 38 #[.agg #[.int .i64 p.1, .slice p1 p.2.1.length k1, .slice p2 p.2.2.1.length k2, .slice p3 p.2.2.2.1.length k3, .slice p4 p.2.2.2.2.length k4]] w _
  go_enter Try.func38, Try.ntmps38
  obtain ⟨W0, hW0, hwW, hsz0, hbx⟩ : ∃ W0, W0 = w.alloc (.cells #[.int .i64 p.1, .slice p1 p.2.1.length k1, .slice p2 p.2.2.1.length k2, .slice p3 p.2.2.2.1.length k3, .slice p4 p.2.2.2.2.length k4] 34) ∧ Bel w W0 ∧ W0.heap.size = w.heap.size + 1 ∧ W0.cell? ⟨w.heap.size, 0, none⟩ = some (.int .i64 p.1) ∧ W0.cell? ⟨w.heap.size, 1, none⟩ = some (.slice p1 p.2.1.length k1) ∧ W0.cell? ⟨w.heap.size, 2, none⟩ = some (.slice p2 p.2.2.1.length k2) ∧ W0.cell? ⟨w.heap.size, 3, none⟩ = some (.slice p3 p.2.2.2.1.length k3) ∧ W0.cell? ⟨w.heap.size, 4, none⟩ = some (.slice p4 p.2.2.2.2.length k4) := ⟨_, rfl, by (repeat (first | assumption | exact Bel.refl _ | apply Bel.drewN | apply Bel.drew | apply Bel.alloc | refine Bel.trans ?_ (by assumption))), by simp, by simp [go_sem], by simp [go_sem], by simp [go_sem], by simp [go_sem], by simp [go_sem]⟩
  have HBX := Lib.hid (show ∀ W, Bel W0 W → W.cell? ⟨w.heap.size, 0, none⟩ = some (.int .i64 p.1) ∧ W.cell? ⟨w.heap.size, 1, none⟩ = some (.slice p1 p.2.1.length k1) ∧ W.cell? ⟨w.heap.size, 2, none⟩ = some (.slice p2 p.2.2.1.length k2) ∧ W.cell? ⟨w.heap.size, 3, none⟩ = some (.slice p3 p.2.2.2.1.length k3) ∧ W.cell? ⟨w.heap.size, 4, none⟩ = some (.slice p4 p.2.2.2.2.length k4) from fun W hW => keep5 hbx hW)
  clear hbx
  have hB0 : W0.heap.size ≤ w.heap.size + 1 := by omega
  have hB00 : w.heap.size ≤ W0.heap.size := by omega
  have HSZ0 := Lib.hid hsz0
  clear hsz0
  go_wp2_with fail
  rw [← hW0]
  clear hW0
  refine (iProjectOk_any _ p S _ (HP1.out _ (by (repeat (first | assumption | exact Bel.refl _ | apply Bel.drewN | apply Bel.drew | apply Bel.alloc | refine Bel.trans ?_ (by assumption))))) (fun b hb => Nat.lt_of_lt_of_le (HS.out b hb) (Bel.size (by (repeat (first | assumption | exact Bel.refl _ | apply Bel.drewN | apply Bel.drew | apply Bel.alloc | refine Bel.trans ?_ (by assumption))))))).mono ?_
  rintro e w1 ⟨rfl, g1⟩
  have G1 : Bel W0 w1 := by (repeat (first | assumption | exact Bel.refl _ | apply Bel.drewN | apply Bel.drew | apply Bel.alloc | refine Bel.trans ?_ (by assumption)))
  cases hp : projOk p
  · have HV := Lib.hid (show ¬ (projOk p = true ∧ (netOf p).posF = []) from by rw [hp]; rintro ⟨h, _⟩; cases h)
    clear hp
    go_wp2
    go_ret
    exact .inl ⟨HV.out, rfl, by (repeat (first | assumption | exact Bel.refl _ | apply Bel.drewN | apply Bel.drew | apply Bel.alloc | refine Bel.trans ?_ (by assumption)))⟩
  have HPO := Lib.hid hp
  have HF := Lib.hid (netOf_fine hp)
  have HPV := Lib.hid (posV_ok hp)
  clear hp
  obtain ⟨b0, b1, b2, b3, b4⟩ := HBX.out w1 G1
  go_wp2_with fail
  clear b0 b1 b2 b3 b4
  refine (iPositiveCycle_any _ p S _ (HP1.out _ (by (repeat (first | assumption | exact Bel.refl _ | apply Bel.drewN | apply Bel.drew | apply Bel.alloc | refine Bel.trans ?_ (by assumption))))) (fun b hb => Nat.lt_of_lt_of_le (HS.out b hb) (Bel.size (by (repeat (first | assumption | exact Bel.refl _ | apply Bel.drewN | apply Bel.drew | apply Bel.alloc | refine Bel.trans ?_ (by assumption)))))) HNB.out).mono ?_
  rintro e w2 ⟨vr, rfl, hr, g2⟩
  have G2 : Bel W0 w2 := by (repeat (first | assumption | exact Bel.refl _ | apply Bel.drewN | apply Bel.drew | apply Bel.alloc | refine Bel.trans ?_ (by assumption)))
  have HRV := Lib.hid hr
  obtain ⟨rp, rk, rfl, rl, rl', -⟩ := sliceR_open hr
  unfold maxLen at rl'
  by_cases hpos : posV p = []
  rotate_left
  · have HV := Lib.hid (show ¬ (projOk p = true ∧ (netOf p).posF = []) from by
      rintro ⟨_, h⟩
      exact hpos (by rw [HPV.out, h]; rfl))
    have hl := List.length_pos_iff.2 hpos
    have hli : (0 : Int) < ((posV p).length : Int) := by omega
    clear hr hpos
    go_wp2
    go_ret
    exact .inl ⟨HV.out, rfl, by (repeat (first | assumption | exact Bel.refl _ | apply Bel.drewN | apply Bel.drew | apply Bel.alloc | refine Bel.trans ?_ (by assumption)))⟩
  have HPN := Lib.hid (show (netOf p).posF = [] from by
    have h := HPV.out
    rw [hpos] at h
    cases hh : (netOf p).posF with
    | nil => rfl
    | cons a t => rw [hh] at h; simp [nI] at h)
  have HN := Lib.hid ((netOf p).posF_none HF.out HPN.out)
  rw [hpos]
  clear hr hpos rl
  obtain ⟨b0, b1, b2, b3, b4⟩ := HBX.out w2 G2
  have hpl := (projOk_bd HPO.out).2.1
  have hp1 := (projOk_bd HPO.out).1
  have hk12 : p.2.2.1.length ≤ 12 := (projOk_bd HPO.out).2.2.2.2.1
  have mk1 := mk1 p.2.1.length (by omega) (by omega)
  have mk2 := mk2 p.2.1.length (by omega) (by omega)
  have mk3 := mk3 p.2.1.length (by omega) (by omega)
  have mk4 := mk4 p.2.1.length (by omega) (by omega)
  obtain ⟨Wa, hWa⟩ : ∃ W, W = w2 := ⟨w2, rfl⟩
  subst hWa
  go_upto_region 4 with (fail)
  clear b0 b1 b2 b3 b4
  have HMX := Lib.hid (show p.2.1.length ≤ maxLen from by unfold maxLen; omega)
  go_cut [4, 5] (fun s4 s5 wx => CutF Wa.heap.size p.2.1.length (dist0 (netOf p) 0) Wa s4 s5 wx)
  case first =>
    go_region_held3 (fun W => Bel Wa W) (repeat (first | assumption | exact Bel.refl _ | apply Bel.drewN | apply Bel.drew | apply Bel.alloc | (refine Bel.set ?_ (by first | exact Nat.le_refl _ | (simp; omega) | omega) _) | refine Bel.trans ?_ (by assumption))) (fail)
    all_goals (go_wp2_with fail; go_meet; exact ⟨_, _, _, _, rfl, rfl, FM.start2 (e1 := 25) (e2 := 137) (by (repeat (first | (with_reducible refine alloc_at ?_; first | (with_reducible rfl) | (simp; done)) | (with_reducible refine drew_keep ?_) | (with_reducible refine alloc_keep ?_)))) (by (repeat (first | (with_reducible refine alloc_at ?_; first | (with_reducible rfl) | (simp; done)) | (with_reducible refine drew_keep ?_) | (with_reducible refine alloc_keep ?_)))) (by (repeat (first | (with_reducible refine rowIs_made' ?_; first | (with_reducible rfl) | (simp; done)) | (with_reducible refine World.rowIs.drew ?_) | (with_reducible refine World.rowIs.alloc ?_ _)))) (by (repeat (first | (with_reducible refine rowIs_made' ?_; first | (with_reducible rfl) | (simp; done)) | (with_reducible refine World.rowIs.drew ?_) | (with_reducible refine World.rowIs.alloc ?_ _)))) (by first | (simp; done) | omega) (by first | (simp; done) | omega) (by first | (simp; done) | omega) (by first | (simp; done) | omega) (by first | (simp; done) | omega) (by first | (simp; done) | omega) (by first | (simp; done) | omega) HMX.out _, by (repeat (first | assumption | exact Bel.refl _ | apply Bel.drewN | apply Bel.drew | apply Bel.alloc | refine Bel.trans ?_ (by assumption)))⟩)
  case rest =>
    obtain ⟨fb, mb, oF, oM, rfl, rfl, hFM, hBc⟩ := hcut
    clear mk1 mk2
    have hfm : ∃ rF pF rM pM, FM Wa.heap.size wc 0 p.2.1.length fb mb oF p.2.1.length oM p.2.1.length rF pF rM pM (dist0 (netOf p) 0) := ⟨_, _, _, _, hFM⟩
    clear hFM
    have G3 : Bel W0 wc := G2.trans hBc
    go_wp2_with fail
    go_loopw [32] (fun i wr => ∃ (N : Nat), N ≤ p.2.1.length ∧ i = .int .i64 N ∧ (∃ rF pF rM pM, FM Wa.heap.size wr N p.2.1.length fb mb oF p.2.1.length oM p.2.1.length rF pF rM pM (dist0 (netOf p) 0)) ∧ Bel Wa wr) (fun i _ => p.2.1.length - (intOf i).toNat)
    case atStart => exact ⟨0, Nat.zero_le _, rfl, hfm, hBc⟩
    case round =>
      clear hfm
      obtain ⟨N, hN, rfl, ⟨rF, pF, rM, pM, hFM⟩, hB1⟩ := hrel
      have HFM := Lib.hid hFM
      by_cases hlt : N < p.2.1.length
      · have hF := hFM.bF
        have hM := hFM.bM
        have HLT := Lib.hid hlt
        have HD0 := Lib.hid (show ∀ b, dist0 (netOf p) 0 N b = if b = N then 0 else -1000 from fun b => by
          show (if N = b then (0 : Int) else -1000) = _
          by_cases e : N = b
          · rw [if_pos e, if_pos e.symm]
          · rw [if_neg e, if_neg (fun h => e h.symm)])
        have slF := hFM.sF N (Nat.le_refl _) hlt
        have slM := hFM.sM N (Nat.le_refl _) hlt
        have b1 : wr.heap.size ≤ wr.heap.size + 1 := Nat.le_succ _
        have zF := hFM.gF.top.2
        have zM := hFM.gM.top.2
        have fF := fun (o1 o2 : Obj) => cell_keep slF ((((Bel.refl wr).alloc o1).alloc o2).block zF)
        have fM := fun (o1 o2 : Obj) => cell_keep slM ((((Bel.refl wr).alloc o1).alloc o2).block zM)
        have fF1 := fun o1 o2 => (fF o1 o2).1
        have fF2 := fun o1 o2 => (fF o1 o2).2
        have fM1 := fun o1 o2 => (fM o1 o2).1
        have fM2 := fun o1 o2 => (fM o1 o2).2
        obtain ⟨slF1, slF2⟩ := slF
        obtain ⟨slM1, slM2⟩ := slM
        clear fF fM b1
        have n1 : fb ≠ oF := fun e => (hFM.nF oF (.inl rfl)).1 e.symm
        have n2 : mb ≠ oF := fun e => (hFM.nF oF (.inl rfl)).2 e.symm
        have n3 : fb ≠ oM := fun e => (hFM.nM oM (.inl rfl)).1 e.symm
        have n4 : mb ≠ oM := fun e => (hFM.nM oM (.inl rfl)).2 e.symm
        have n5 : oF ≠ oM := fun e => hFM.two oF (.inl rfl) (.inl e)
        have n6 : oM ≠ oF := fun e => n5 e.symm
        have hNi : (N : Int) < (p.2.1.length : Int) := by omega
        have hN0 : (0 : Int) ≤ (N : Int) := by omega
        have hwN : IntKind.i64.wrap (N : Int) = (N : Int) := IntWalk.i64_in _ (by omega)
        clear hFM
        go_upto_region 8 with (fail)
        go_cut [] (fun wx => CutRow Wa.heap.size N p.2.1.length fb mb oF p.2.1.length oM p.2.1.length (dist0 (netOf p) 0) Wa wx)
        case first =>
          go_region_held3 (fun W => W.cell? ⟨fb, 0, none⟩ = some (.slice (some ⟨oF, 0, none⟩) p.2.1.length p.2.1.length) ∧ W.cell? ⟨mb, 0, none⟩ = some (.slice (some ⟨oM, 0, none⟩) p.2.1.length p.2.1.length)) (refine ⟨?_, ?_⟩ <;> (repeat (first | assumption | (with_reducible refine cell_setAt ?_ (by assumption) _) | (with_reducible refine cell_drew ?_) | (with_reducible refine cell_alloc ?_ _)))) (fail)
          all_goals (go_wp2_with fail; go_meet; exact cutRow_of2 (e1 := 3) (e2 := 4) HFM.out HLT.out HMX.out (by first | (simp; done) | (simp; omega) | omega) (by first | (simp; done) | (simp; omega) | omega) (by first | (simp; done) | (simp; omega) | omega) (by (repeat (first | (with_reducible refine rowIs_made' ?_; first | (with_reducible rfl) | (simp; done)) | (with_reducible refine World.rowIs.drew ?_) | (with_reducible refine World.rowIs.alloc ?_ _)))) (by (repeat (first | (with_reducible refine rowIs_made' ?_; first | (with_reducible rfl) | (simp; done)) | (with_reducible refine World.rowIs.drew ?_) | (with_reducible refine World.rowIs.alloc ?_ _)))) HD0.out hB1 (Nat.le_refl _))
        case rest =>
          clear fF1 fF2 fM1 fM2 hF hM slF1 slF2 slM1 slM2
          obtain ⟨m, ⟨y1, y2, y3, y4⟩, hFX, hBX⟩ := hcut
          have HFX := Lib.hid hFX
          clear hFX
          go_wp2
          go_roundw
          case rel => exact ⟨N + 1, by omega, by go_num, HFX.out, hBX⟩
          case measure => simp [intOf]; omega
      · obtain rfl : N = p.2.1.length := by omega
        clear HFM hlt mk3 mk4
        obtain ⟨Wb, hWb⟩ : ∃ W, W = wr := ⟨wr, rfl⟩
        subst hWb
        have HTWO := Lib.hid (And.intro hFM.two (And.intro hFM.nF hFM.nM))
        have G4 : Bel W0 Wb := G2.trans hB1
        obtain ⟨b0, b1, b2, b3, b4⟩ := HBX.out Wb G4
        go_wp2_with fail
        clear b0 b1 b2 b3 b4
        go_loopw [56] (fun i wr => ∃ t : Nat, t ≤ p.2.2.1.length ∧ i = .int .i64 t ∧ FM Wa.heap.size wr p.2.1.length p.2.1.length fb mb oF p.2.1.length oM p.2.1.length rF pF rM pM (dist0 (netOf p) t) ∧ Bel Wa wr) (fun i _ => p.2.2.1.length - (intOf i).toNat)
        case atStart => exact ⟨0, Nat.zero_le _, rfl, hFM, hB1⟩
        case round =>
          clear hFM
          obtain ⟨t, ht, rfl, hFM, hB2⟩ := hrel
          have G5 : Bel W0 wr := G2.trans hB2
          have hBr : Bel w wr := hwW.trans G5
          obtain ⟨b0, b1, b2, b3, b4⟩ := HBX.out wr G5
          by_cases hlt : t < p.2.2.1.length
          · obtain ⟨nk1, nk2, nk3, nk4, -, ng0, ng1⟩ := netOf_at HPO.out hlt
            obtain ⟨lb, lo, ea, lk0, lk1, lk2, lk3⟩ := link_at Q2.out hlt
            obtain rfl : p2 = some ⟨lb, lo, none⟩ := ea
            rw [nk1] at lk0
            rw [nk2] at lk1
            have lk0 := hBr.cell lk0
            have lk1 := hBr.cell lk1
            have lk2 := hBr.cell lk2
            have lk3 := hBr.cell lk3
            have HLT := Lib.hid hlt
            have HGB := Lib.hid (show ∀ b, GridB oF p.2.1.length rF b ∨ GridB oM p.2.1.length rM b → Wa.heap.size ≤ b ∧ b < wr.heap.size from fun b hb => by
              rcases hb with hb | hb
              · exact hFM.gF.lt hb
              · exact hFM.gM.lt hb)
            have HADD := Lib.hid (show ∀ W, Bel wr W → Calls Try.prog 104 #[.int .i64 (((netOf p).fr t : Nat) : Int), .int .i64 (((netOf p).to t : Nat) : Int), .int .i64 ((netOf p).gp t), .pointer (some ⟨mb, 0, none⟩), .pointer (some ⟨fb, 0, none⟩)] W (AddRes Wa.heap.size p.2.1.length fb mb oF p.2.1.length oM p.2.1.length rF pF rM pM (fun a b => if a = (netOf p).fr t ∧ b = (netOf p).to t then addV (dist0 (netOf p) t ((netOf p).fr t) ((netOf p).to t)) ((netOf p).gp t) else dist0 (netOf p) t a b) W) from fun W hW => iAdd_any _ _ _ _ _ _ _ _ _ _ _ _ _ _ _ _ W (hFM.bel hW) nk3 nk4 hpl (by omega))
            have HUP := Lib.hid (fun (X : World) (h : FM Wa.heap.size X p.2.1.length p.2.1.length fb mb oF p.2.1.length oM p.2.1.length rF pF rM pM (fun a b => if a = (netOf p).fr t ∧ b = (netOf p).to t then addV (dist0 (netOf p) t ((netOf p).fr t) ((netOf p).to t)) ((netOf p).gp t) else dist0 (netOf p) t a b)) => h.link ng0)
            have HGAP := Lib.hid (show ∀ W, Bel w W → Calls Try.prog 97 #[.agg #[.int .i64 p.1, .slice p1 p.2.1.length k1, .slice (some ⟨lb, lo, none⟩) p.2.2.1.length k2, .slice p3 p.2.2.2.1.length k3, .slice p4 p.2.2.2.2.length k4], .agg #[.int .i64 (((netOf p).fr t : Nat) : Int), .int .i64 (((netOf p).to t : Nat) : Int), .bool (p.2.2.1.getD t zLink).2.2.1, .int .i64 (p.2.2.1.getD t zLink).2.2.2]] W (fun e w' => e = .returned (.int .i64 ((netOf p).gp t)) ∧ Bel W w') from fun W hW => by
              have h := fullGap_any _ p S (p.2.2.1.getD t zLink) W (HP1.out W hW) (fun b hb => Nat.lt_of_lt_of_le (HS.out b hb) (Bel.size hW)) HPO.out (projOk_link HPO.out HLT.out)
              rw [nk1, nk2] at h
              exact h)
            generalize dist0 (netOf p) t ((netOf p).fr t) ((netOf p).to t) = DD at *
            generalize (netOf p).gp t = GK at *
            generalize (netOf p).fr t = FR at *
            generalize (netOf p).to t = TO at *
            generalize p.2.2.1.getD t zLink = X at *
            clear nk1 nk2 hFM
            have hFR : (FR : Int) < (p.2.1.length : Int) := by omega
            have hTO : (TO : Int) < (p.2.1.length : Int) := by omega
            obtain ⟨W2, hW2, hB22, HSZ2, hl0, hl1, hl2, hl3⟩ : ∃ W2, W2 = wr.alloc (.cells #[.int .i64 (FR : Int), .int .i64 (TO : Int), .bool X.2.2.1, .int .i64 X.2.2.2] 70) ∧ Bel wr W2 ∧ Hid (W2.heap.size = wr.heap.size + 1) ∧ W2.cell? ⟨wr.heap.size, 0, none⟩ = some (.int .i64 (FR : Int)) ∧ W2.cell? ⟨wr.heap.size, 1, none⟩ = some (.int .i64 (TO : Int)) ∧ W2.cell? ⟨wr.heap.size, 2, none⟩ = some (.bool X.2.2.1) ∧ W2.cell? ⟨wr.heap.size, 3, none⟩ = some (.int .i64 X.2.2.2) := ⟨_, rfl, (Bel.refl _).alloc _, Lib.hid (by simp), by simp [go_sem], by simp [go_sem], by simp [go_sem], by simp [go_sem]⟩
            have hB20 : Bel W0 W2 := G5.trans hB22
            have hBw2 : Bel w W2 := hwW.trans hB20
            have hBa2 : Bel Wa W2 := hB2.trans hB22
            have HKP := Lib.hid (show ∀ W, Bel W2 W → W.cell? ⟨w.heap.size, 0, none⟩ = some (.int .i64 p.1) ∧ W.cell? ⟨w.heap.size, 1, none⟩ = some (.slice p1 p.2.1.length k1) ∧ W.cell? ⟨w.heap.size, 2, none⟩ = some (.slice (some ⟨lb, lo, none⟩) p.2.2.1.length k2) ∧ W.cell? ⟨w.heap.size, 3, none⟩ = some (.slice p3 p.2.2.2.1.length k3) ∧ W.cell? ⟨w.heap.size, 4, none⟩ = some (.slice p4 p.2.2.2.2.length k4) ∧ W.cell? ⟨wr.heap.size, 0, none⟩ = some (.int .i64 (FR : Int)) ∧ W.cell? ⟨wr.heap.size, 1, none⟩ = some (.int .i64 (TO : Int)) ∧ W.cell? ⟨wr.heap.size, 2, none⟩ = some (.bool X.2.2.1) ∧ W.cell? ⟨wr.heap.size, 3, none⟩ = some (.int .i64 X.2.2.2) from fun W hW => by
              obtain ⟨b0, b1, b2, b3, b4⟩ := HBX.out W (hB20.trans hW)
              exact ⟨b0, b1, b2, b3, b4, hW.cell hl0, hW.cell hl1, hW.cell hl2, hW.cell hl3⟩)
            have HK2 := Lib.hid (show ∀ V W' : World, Bel W2 V → (∀ b, b < V.heap.size → ¬ GridB oF p.2.1.length rF b → ¬ GridB oM p.2.1.length rM b → W'.heap[b]? = V.heap[b]?) → (fun W : World => W.cell? ⟨w.heap.size, 0, none⟩ = some (.int .i64 p.1) ∧ W.cell? ⟨w.heap.size, 1, none⟩ = some (.slice p1 p.2.1.length k1) ∧ W.cell? ⟨w.heap.size, 2, none⟩ = some (.slice (some ⟨lb, lo, none⟩) p.2.2.1.length k2) ∧ W.cell? ⟨w.heap.size, 3, none⟩ = some (.slice p3 p.2.2.2.1.length k3) ∧ W.cell? ⟨w.heap.size, 4, none⟩ = some (.slice p4 p.2.2.2.2.length k4) ∧ W.cell? ⟨wr.heap.size, 0, none⟩ = some (.int .i64 (FR : Int)) ∧ W.cell? ⟨wr.heap.size, 1, none⟩ = some (.int .i64 (TO : Int)) ∧ W.cell? ⟨wr.heap.size, 2, none⟩ = some (.bool X.2.2.1) ∧ W.cell? ⟨wr.heap.size, 3, none⟩ = some (.int .i64 X.2.2.2)) W' from fun V W' hV hk => by
              obtain ⟨b0, b1, b2, b3, b4, d0, d1, d2, d3⟩ := HKP.out V hV
              have s1 := hV.size
              have s2 := HSZ2.out
              have s3 := HSZ0.out
              have s4 := G2.size
              have s5 := hB2.size
              have e1 := hk w.heap.size (by omega) (fun h => by have := HGB.out _ (.inl h); omega) (fun h => by have := HGB.out _ (.inr h); omega)
              have e2 := hk wr.heap.size (by omega) (fun h => by have := HGB.out _ (.inl h); omega) (fun h => by have := HGB.out _ (.inr h); omega)
              exact ⟨cell_blk b0 e1, cell_blk b1 e1, cell_blk b2 e1, cell_blk b3 e1, cell_blk b4 e1, cell_blk d0 e2, cell_blk d1 e2, cell_blk d2 e2, cell_blk d3 e2⟩)
            clear hl0 hl1 hl2 hl3
            go_upto_region 15 with (fail)
            rw [← hW2]
            clear hW2 b0 b1 b2 b3 b4
            go_region_held3 (fun W => W.cell? ⟨w.heap.size, 0, none⟩ = some (.int .i64 p.1) ∧ W.cell? ⟨w.heap.size, 1, none⟩ = some (.slice p1 p.2.1.length k1) ∧ W.cell? ⟨w.heap.size, 2, none⟩ = some (.slice (some ⟨lb, lo, none⟩) p.2.2.1.length k2) ∧ W.cell? ⟨w.heap.size, 3, none⟩ = some (.slice p3 p.2.2.2.1.length k3) ∧ W.cell? ⟨w.heap.size, 4, none⟩ = some (.slice p4 p.2.2.2.2.length k4) ∧ W.cell? ⟨wr.heap.size, 0, none⟩ = some (.int .i64 (FR : Int)) ∧ W.cell? ⟨wr.heap.size, 1, none⟩ = some (.int .i64 (TO : Int)) ∧ W.cell? ⟨wr.heap.size, 2, none⟩ = some (.bool X.2.2.1) ∧ W.cell? ⟨wr.heap.size, 3, none⟩ = some (.int .i64 X.2.2.2)) (first | exact hS2 | exact HKP.out _ (by (repeat (first | assumption | exact Bel.refl _ | apply Bel.drewN | apply Bel.drew | apply Bel.alloc | refine Bel.trans ?_ (by assumption)))))
              (first | (go_at_call 97; (with_reducible refine (HGAP.out _ (by (repeat (first | assumption | exact Bel.refl _ | apply Bel.drewN | apply Bel.drew | apply Bel.alloc | refine Bel.trans ?_ (by assumption))))).mono ?_); rintro e wg ⟨rfl, gG⟩; have hwg := Bel.trans (a := wr) (by (repeat (first | assumption | exact Bel.refl _ | apply Bel.drewN | apply Bel.drew | apply Bel.alloc | refine Bel.trans ?_ (by assumption)))) gG; have hwga := Bel.trans (a := Wa) (by (repeat (first | assumption | exact Bel.refl _ | apply Bel.drewN | apply Bel.drew | apply Bel.alloc | refine Bel.trans ?_ (by assumption)))) gG; have hwg2 := Bel.trans (a := W2) (by (repeat (first | assumption | exact Bel.refl _ | apply Bel.drewN | apply Bel.drew | apply Bel.alloc | refine Bel.trans ?_ (by assumption)))) gG) | (go_at_call 104; (with_reducible refine (HADD.out _ (by (repeat (first | assumption | exact Bel.refl _ | apply Bel.drewN | apply Bel.drew | apply Bel.alloc | refine Bel.trans ?_ (by assumption))))).mono ?_); rintro e wq ⟨⟨vq, rfl⟩, hFq, hsq, hbq, hkq⟩; have hS2 := HK2.out _ _ (by (repeat (first | assumption | exact Bel.refl _ | apply Bel.drewN | apply Bel.drew | apply Bel.alloc | refine Bel.trans ?_ (by assumption)))) hkq; have hFq := Lib.hid (HUP.out _ hFq); have hbq := hbq Wa (by (repeat (first | assumption | exact Bel.refl _ | apply Bel.drewN | apply Bel.drew | apply Bel.alloc | refine Bel.trans ?_ (by assumption)))) (Nat.le_refl _)) | fail)
            all_goals (go_wp2_with fail; go_roundw; (case rel => exact ⟨t + 1, by omega, by go_num, hFq.out.bel (by (repeat (first | assumption | exact Bel.refl _ | apply Bel.drewN | apply Bel.drew | apply Bel.alloc | refine Bel.trans ?_ (by assumption)))), hbq.trans (by (repeat (first | assumption | exact Bel.refl _ | apply Bel.drewN | apply Bel.drew | apply Bel.alloc | refine Bel.trans ?_ (by assumption))))⟩); (case measure => simp [intOf]; omega))
          · have hFM := hFM.congr (D' := distM (netOf p) 0) (fun a b _ _ => by
              obtain rfl : t = p.2.2.1.length := by omega
              rfl)
            have hpn : p.2.1.length ≤ 6 := hpl
            obtain ⟨Wc, hWc⟩ : ∃ W, W = wr := ⟨wr, rfl⟩
            subst hWc
            clear b0 b1 b2 b3 b4
            go_wp2_with fail
            go_loopw [71] (fun i wr => ∃ m : Nat, m ≤ p.2.1.length ∧ i = .int .i64 m ∧ FM Wa.heap.size wr p.2.1.length p.2.1.length fb mb oF p.2.1.length oM p.2.1.length rF pF rM pM (distM (netOf p) m) ∧ Bel Wa wr) (fun i _ => p.2.1.length - (intOf i).toNat)
            case atStart => exact ⟨0, Nat.zero_le _, rfl, hFM, hB2⟩
            case round =>
              clear hFM
              obtain ⟨m, hm, rfl, hFM, hB3⟩ := hrel
              by_cases hlm : m < p.2.1.length
              · have HDG := Lib.hid ((dist_all _ HF.out HN.out m hm).diag m hlm)
                have hF0 := hFM.first
                clear hFM
                obtain ⟨Wd, hWd⟩ : ∃ W, W = wr := ⟨wr, rfl⟩
                subst hWd
                go_wp2_with fail
                go_loopw [75] (fun i wr => ∃ i' : Nat, i' ≤ p.2.1.length ∧ i = .int .i64 i' ∧ FM Wa.heap.size wr p.2.1.length p.2.1.length fb mb oF p.2.1.length oM p.2.1.length rF pF rM pM (distS (netOf p) m i' 0) ∧ Bel Wa wr) (fun i _ => p.2.1.length - (intOf i).toNat)
                case atStart => exact ⟨0, Nat.zero_le _, rfl, hF0, hB3⟩
                case round =>
                  clear hF0
                  obtain ⟨i, hi, rfl, hFM, hB4⟩ := hrel
                  by_cases hli : i < p.2.1.length
                  · obtain ⟨We, hWe⟩ : ∃ W, W = wr := ⟨wr, rfl⟩
                    subst hWe
                    go_wp2_with fail
                    go_loopw [79] (fun j wr => ∃ k : Nat, k ≤ p.2.1.length ∧ j = .int .i64 k ∧ FM Wa.heap.size wr p.2.1.length p.2.1.length fb mb oF p.2.1.length oM p.2.1.length rF pF rM pM (distS (netOf p) m i k) ∧ Bel Wa wr) (fun j _ => p.2.1.length - (intOf j).toNat)
                    case atStart => exact ⟨0, Nat.zero_le _, rfl, hFM, hB4⟩
                    case round =>
                      clear hFM
                      obtain ⟨k, hk, rfl, hFM, hB5⟩ := hrel
                      by_cases hlk : k < p.2.1.length
                      · have hb1 := distS_bd HF.out HN.out (x := i) (y := k) (m := m) (i := i) (k := m) hlm hli hlm
                        have hb2 := distS_bd HF.out HN.out (x := i) (y := k) (m := m) (i := m) (k := k) hlm hlm hlk
                        have hb3 : distS (netOf p) m i k i m = -1000 ∨ -420 ≤ distS (netOf p) m i k i m := by omega
                        have hb4 : distS (netOf p) m i k m k = -1000 ∨ -420 ≤ distS (netOf p) m i k m k := by omega
                        have HGN := Lib.hid (fun (h : distS (netOf p) m i k i m = -1000 ∨ distS (netOf p) m i k m k = -1000) => hFM.skip HDG.out h)
                        have HGT := Lib.hid (fun (h1 : ¬ distS (netOf p) m i k i m = -1000) (h2 : ¬ distS (netOf p) m i k m k = -1000) (X : World) (h : FM Wa.heap.size X p.2.1.length p.2.1.length fb mb oF p.2.1.length oM p.2.1.length rF pF rM pM (fun a b => if a = i ∧ b = k then addV (distS (netOf p) m i k i k) (distS (netOf p) m i k i m + distS (netOf p) m i k m k) else distS (netOf p) m i k a b)) => h.tri HDG.out hb3 hb4 h1 h2)
                        have HADD := Lib.hid (fun (h1 : ¬ distS (netOf p) m i k i m = -1000) (h2 : ¬ distS (netOf p) m i k m k = -1000) (W : World) (hW : Bel wr W) => iAdd_any _ _ _ _ _ _ _ _ _ _ _ _ _ i k (distS (netOf p) m i k i m + distS (netOf p) m i k m k) W (hFM.bel hW) hli hlk hpl (by omega))
                        have HSL := Lib.hid (show ∀ (X : World) (D : Nat → Nat → Int), FM Wa.heap.size X p.2.1.length p.2.1.length fb mb oF p.2.1.length oM p.2.1.length rF pF rM pM (D) → (fun W : World => W.cell? ⟨fb, 0, none⟩ = some (.slice (some ⟨oF, 0, none⟩) p.2.1.length p.2.1.length) ∧ W.cell? ⟨oF, i, none⟩ = some (.slice (some ⟨rF i, 0, none⟩) p.2.1.length (pF i)) ∧ W.cell? ⟨oF, m, none⟩ = some (.slice (some ⟨rF m, 0, none⟩) p.2.1.length (pF m))) X from fun X D h => ⟨h.bF, (h.gF.slot i hli).1, (h.gF.slot m hlm).1⟩)
                        have mF := hFM.bF
                        have mM := hFM.bM
                        obtain ⟨s1, -⟩ := hFM.gM.slot i hli
                        obtain ⟨s2, -⟩ := hFM.gM.slot m hlm
                        obtain ⟨s3, -⟩ := hFM.gF.slot i hli
                        obtain ⟨s4, -⟩ := hFM.gF.slot m hlm
                        obtain ⟨c1, -⟩ := hFM.gM.cell i m hli hlm
                        obtain ⟨c2, -⟩ := hFM.gM.cell m k hlm hlk
                        obtain ⟨c3, -⟩ := hFM.gF.cell i m hli hlm
                        obtain ⟨c4, -⟩ := hFM.gF.cell m k hlm hlk
                        simp only [metV] at c1 c2
                        simp only [farV] at c3 c4
                        clear hFM
                        generalize distS (netOf p) m i k i k = DIK at *
                        generalize distS (netOf p) m i k i m = DIM at *
                        generalize distS (netOf p) m i k m k = DMK at *
                        have hki : (k : Int) < (p.2.1.length : Int) := by omega
                        have hii : (i : Int) < (p.2.1.length : Int) := by omega
                        have hmi : (m : Int) < (p.2.1.length : Int) := by omega
                        by_cases h1 : DIM = -1000
                        · subst h1
                          have c1 : wr.cell? ⟨rM i, m, none⟩ = some (.bool false) := by rw [c1]; rfl
                          go_wp2
                          go_roundw
                          case rel => exact ⟨k + 1, by omega, by go_num, (HGN.out (.inl rfl)).bel (by (repeat (first | assumption | exact Bel.refl _ | apply Bel.drewN | apply Bel.drew | apply Bel.alloc | refine Bel.trans ?_ (by assumption)))), by (repeat (first | assumption | exact Bel.refl _ | apply Bel.drewN | apply Bel.drew | apply Bel.alloc | refine Bel.trans ?_ (by assumption)))⟩
                          case measure => simp [intOf]; omega
                        simp only [decide_eq_false h1, Bool.not_false] at c1
                        simp only [fz, if_neg h1] at c3
                        by_cases h2 : DMK = -1000
                        · subst h2
                          have c2 : wr.cell? ⟨rM m, k, none⟩ = some (.bool false) := by rw [c2]; rfl
                          go_wp2
                          go_roundw
                          case rel => exact ⟨k + 1, by omega, by go_num, (HGN.out (.inr rfl)).bel (by (repeat (first | assumption | exact Bel.refl _ | apply Bel.drewN | apply Bel.drew | apply Bel.alloc | refine Bel.trans ?_ (by assumption)))), by (repeat (first | assumption | exact Bel.refl _ | apply Bel.drewN | apply Bel.drew | apply Bel.alloc | refine Bel.trans ?_ (by assumption)))⟩
                          case measure => simp [intOf]; omega
                        simp only [decide_eq_false h2, Bool.not_false] at c2
                        simp only [fz, if_neg h2] at c4
                        have hsum : IntKind.i64.wrap (DIM + DMK) = DIM + DMK := IntWalk.i64_in _ (by omega)
                        have HADD := Lib.hid (HADD.out h1 h2)
                        have HGT := Lib.hid (HGT.out h1 h2)
                        have HS0 := Lib.hid (show ∀ W, Bel wr W → (fun W : World => W.cell? ⟨fb, 0, none⟩ = some (.slice (some ⟨oF, 0, none⟩) p.2.1.length p.2.1.length) ∧ W.cell? ⟨oF, i, none⟩ = some (.slice (some ⟨rF i, 0, none⟩) p.2.1.length (pF i)) ∧ W.cell? ⟨oF, m, none⟩ = some (.slice (some ⟨rF m, 0, none⟩) p.2.1.length (pF m))) W from fun W hW => ⟨hW.cell mF, hW.cell s3, hW.cell s4⟩)
                        go_upto_region 27 with (fail)
                        refine wp_region_held_drew (S := (fun W => W.cell? ⟨fb, 0, none⟩ = some (.slice (some ⟨oF, 0, none⟩) p.2.1.length p.2.1.length) ∧ W.cell? ⟨oF, i, none⟩ = some (.slice (some ⟨rF i, 0, none⟩) p.2.1.length (pF i)) ∧ W.cell? ⟨oF, m, none⟩ = some (.slice (some ⟨rF m, 0, none⟩) p.2.1.length (pF m)))) (by kernel_rfl) ?_ (fun hHeld => ?_)
                        · ((try dsimp only); (first | exact hS2 | exact HS0.out _ (by (repeat (first | assumption | exact Bel.refl _ | apply Bel.drewN | apply Bel.drew | apply Bel.alloc | refine Bel.trans ?_ (by assumption))))))
                        refine wpAnyH_take (i := 0) (v := ?_) rfl (by kernel_rfl) (by kernel_rfl) (by kernel_rfl) (fun _ _ _ h => h) (Or.inl ⟨by rfl, ?_⟩) (by assumption) ?_
                        rotate_left
                        · (intro w hSw; (try dsimp only at hSw); go_simp <;> with_reducible rfl)
                        try walk_nrm
                        refine wpAnyH_take (i := 1) (v := ?_) rfl (by kernel_rfl) (by kernel_rfl) (by kernel_rfl) (fun _ _ _ h => h) (Or.inl ⟨by rfl, ?_⟩) (by assumption) ?_
                        rotate_left
                        · (intro w hSw; (try dsimp only at hSw); go_simp <;> with_reducible rfl)
                        try walk_nrm
                        refine wpAnyH_take (i := 2) (v := ?_) rfl (by kernel_rfl) (by kernel_rfl) (by kernel_rfl) (fun _ _ _ h => h) (Or.inl ⟨by rfl, ?_⟩) (by assumption) ?_
                        rotate_left
                        · (intro w hSw; (try dsimp only at hSw); go_simp <;> with_reducible rfl)
                        try walk_nrm
                        refine wpAnyH_take (i := 3) (v := ?_) rfl (by kernel_rfl) (by kernel_rfl) (by kernel_rfl) (fun _ _ _ h => h) (Or.inl ⟨by rfl, ?_⟩) (by assumption) ?_
                        rotate_left
                        · (intro w hSw; (try dsimp only at hSw); go_simp <;> with_reducible rfl)
                        try walk_nrm
                        refine wpAnyH_take (i := 4) (v := ?_) rfl (by kernel_rfl) (by kernel_rfl) (by kernel_rfl) (fun _ _ _ h => h) (Or.inl ⟨by rfl, ?_⟩) (by assumption) ?_
                        rotate_left
                        · (intro w hSw; (try dsimp only at hSw); go_simp <;> with_reducible rfl)
                        try walk_nrm
                        refine wpAnyH_take (i := 5) (v := ?_) rfl (by kernel_rfl) (by kernel_rfl) (by kernel_rfl) (fun _ _ _ h => h) (Or.inl ⟨by rfl, ?_⟩) (by assumption) ?_
                        rotate_left
                        · (intro w hSw; (try dsimp only at hSw); go_simp <;> with_reducible rfl)
                        try walk_nrm
                        refine wpAnyH_take (i := 6) (v := ?_) rfl (by kernel_rfl) (by kernel_rfl) (by kernel_rfl) (fun _ _ _ h => h) (Or.inl ⟨by rfl, ?_⟩) (by assumption) ?_
                        rotate_left
                        · (intro w hSw; (try dsimp only at hSw); go_simp <;> with_reducible rfl)
                        try walk_nrm
                        refine wpAnyH_take (i := 7) (v := ?_) rfl (by kernel_rfl) (by kernel_rfl) (by kernel_rfl) (fun _ _ _ h => h) (Or.inl ⟨by rfl, ?_⟩) (by assumption) ?_
                        rotate_left
                        · (intro w hSw; (try dsimp only at hSw); go_simp <;> with_reducible rfl)
                        try walk_nrm
                        refine wpAnyH_take (i := 8) (v := ?_) rfl (by kernel_rfl) (by kernel_rfl) (by kernel_rfl) (fun _ _ _ h => h) (Or.inl ⟨by rfl, ?_⟩) (by assumption) ?_
                        rotate_left
                        · (intro w hSw; (try dsimp only at hSw); go_simp <;> with_reducible rfl)
                        try walk_nrm
                        refine wpAnyH_take (i := 10) (v := ?_) rfl (by kernel_rfl) (by kernel_rfl) (by kernel_rfl) (fun _ _ _ h => h) (Or.inl ⟨by rfl, ?_⟩) (by assumption) ?_
                        rotate_left
                        · (intro w hSw; (try dsimp only at hSw); go_simp <;> with_reducible rfl)
                        try walk_nrm
                        refine wpAnyH_take (i := 11) (v := ?_) rfl (by kernel_rfl) (by kernel_rfl) (by kernel_rfl) (fun _ _ _ h => h) (Or.inl ⟨by rfl, ?_⟩) (by assumption) ?_
                        rotate_left
                        · (intro w hSw; (try dsimp only at hSw); go_simp <;> with_reducible rfl)
                        try walk_nrm
                        refine wpAnyH_take (i := 12) (v := ?_) rfl (by kernel_rfl) (by kernel_rfl) (by kernel_rfl) (fun _ _ _ h => h) (Or.inl ⟨by rfl, ?_⟩) (by assumption) ?_
                        rotate_left
                        · (intro w hSw; (try dsimp only at hSw); go_simp <;> with_reducible rfl)
                        try walk_nrm
                        refine wpAnyH_take (i := 13) (v := ?_) rfl (by kernel_rfl) (by kernel_rfl) (by kernel_rfl) (fun _ _ _ h => h) (Or.inl ⟨by rfl, ?_⟩) (by assumption) ?_
                        rotate_left
                        · (intro w hSw; (try dsimp only at hSw); go_simp <;> with_reducible rfl)
                        try walk_nrm
                        refine wpAnyH_take (i := 14) (v := ?_) rfl (by kernel_rfl) (by kernel_rfl) (by kernel_rfl) (fun _ _ _ h => h) (Or.inl ⟨by rfl, ?_⟩) (by assumption) ?_
                        rotate_left
                        · (intro w hSw; (try dsimp only at hSw); go_simp <;> with_reducible rfl)
                        try walk_nrm
                        refine wpAnyH_take (i := 15) (v := ?_) rfl (by kernel_rfl) (by kernel_rfl) (by kernel_rfl) (fun _ _ _ h => h) (Or.inl ⟨by rfl, ?_⟩) (by assumption) ?_
                        rotate_left
                        · (intro w hSw; (try dsimp only at hSw); go_simp <;> with_reducible rfl)
                        try walk_nrm
                        refine wpAnyH_ready (rs := [9, 16]) (by kernel_rfl) (by simp) ?_
                        refine AllReadyH.cons rfl (fun K hK => ?_) ?_
                        · go_simp
                          refine hK.out _ _ ?_ (fun hHeld => ?_)
                          · ((try dsimp only); (first | exact hS2 | exact HS0.out _ (by (repeat (first | assumption | exact Bel.refl _ | apply Bel.drewN | apply Bel.drew | apply Bel.alloc | refine Bel.trans ?_ (by assumption))))))
                          clear hK K
                          try walk_nrm
                          refine wpAnyH_ready (rs := [16]) (by kernel_rfl) (by simp) ?_
                          refine AllReadyH.cons rfl (fun K hK => ?_) AllReadyH.nil
                          · go_simp
                            refine hK.out _ _ ?_ (fun hHeld => ?_)
                            · ((try dsimp only); (first | exact hS2 | exact HS0.out _ (by (repeat (first | assumption | exact Bel.refl _ | apply Bel.drewN | apply Bel.drew | apply Bel.alloc | refine Bel.trans ?_ (by assumption))))))
                            clear hK K
                            try walk_nrm
                            refine wpAnyH_take (i := 17) (v := ?_) rfl (by kernel_rfl) (by kernel_rfl) (by kernel_rfl) (fun _ _ _ h => h) (Or.inl ⟨by rfl, ?_⟩) (by assumption) ?_
                            rotate_left
                            · (intro w hSw; (try dsimp only at hSw); go_simp <;> with_reducible rfl)
                            try walk_nrm
                            refine wpAnyH_ready (rs := [18]) (by kernel_rfl) (by simp) ?_
                            refine AllReadyH.cons rfl (fun K hK => ?_) AllReadyH.nil
                            · go_simp
                              (go_at_call 104; (with_reducible refine (HADD.out _ (by (repeat (first | assumption | exact Bel.refl _ | apply Bel.drewN | apply Bel.drew | apply Bel.alloc | refine Bel.trans ?_ (by assumption))))).mono ?_); rintro e wq ⟨⟨vq, rfl⟩, hFq, hsq, hbq, hkq⟩; have hS2 := HSL.out _ _ hFq; have hFq := Lib.hid (HGT.out _ hFq); have hbq := hbq Wa (by (repeat (first | assumption | exact Bel.refl _ | apply Bel.drewN | apply Bel.drew | apply Bel.alloc | refine Bel.trans ?_ (by assumption)))) (Nat.le_refl _))
                              try go_wp2_with fail
                              refine hK.out _ _ ?_ (fun hHeld => ?_)
                              · ((try dsimp only); (first | exact hS2 | exact HS0.out _ (by (repeat (first | assumption | exact Bel.refl _ | apply Bel.drewN | apply Bel.drew | apply Bel.alloc | refine Bel.trans ?_ (by assumption))))))
                              clear hK K
                              try walk_nrm
                              refine wpAnyH_done (by kernel_rfl) ?_ _
                              (go_wp2_with fail; go_roundw; (case rel => exact ⟨k + 1, by omega, by go_num, hFq.out.bel (by (repeat (first | assumption | exact Bel.refl _ | apply Bel.drewN | apply Bel.drew | apply Bel.alloc | refine Bel.trans ?_ (by assumption)))), hbq.trans (by (repeat (first | assumption | exact Bel.refl _ | apply Bel.drewN | apply Bel.drew | apply Bel.alloc | refine Bel.trans ?_ (by assumption))))⟩); (case measure => simp [intOf]; omega))
                        refine AllReadyH.cons rfl (fun K hK => ?_) AllReadyH.nil
                        · go_simp
                          refine hK.out _ _ ?_ (fun hHeld => ?_)
                          · ((try dsimp only); (first | exact hS2 | exact HS0.out _ (by (repeat (first | assumption | exact Bel.refl _ | apply Bel.drewN | apply Bel.drew | apply Bel.alloc | refine Bel.trans ?_ (by assumption))))))
                          clear hK K
                          try walk_nrm
                          refine wpAnyH_ready (rs := [9]) (by kernel_rfl) (by simp) ?_
                          refine AllReadyH.cons rfl (fun K hK => ?_) AllReadyH.nil
                          · go_simp
                            refine hK.out _ _ ?_ (fun hHeld => ?_)
                            · ((try dsimp only); (first | exact hS2 | exact HS0.out _ (by (repeat (first | assumption | exact Bel.refl _ | apply Bel.drewN | apply Bel.drew | apply Bel.alloc | refine Bel.trans ?_ (by assumption))))))
                            clear hK K
                            try walk_nrm
                            refine wpAnyH_take (i := 17) (v := ?_) rfl (by kernel_rfl) (by kernel_rfl) (by kernel_rfl) (fun _ _ _ h => h) (Or.inl ⟨by rfl, ?_⟩) (by assumption) ?_
                            rotate_left
                            · (intro w hSw; (try dsimp only at hSw); go_simp <;> with_reducible rfl)
                            try walk_nrm
                            refine wpAnyH_ready (rs := [18]) (by kernel_rfl) (by simp) ?_
                            refine AllReadyH.cons rfl (fun K hK => ?_) AllReadyH.nil
                            · go_simp
                              (go_at_call 104; (with_reducible refine (HADD.out _ (by (repeat (first | assumption | exact Bel.refl _ | apply Bel.drewN | apply Bel.drew | apply Bel.alloc | refine Bel.trans ?_ (by assumption))))).mono ?_); rintro e wq ⟨⟨vq, rfl⟩, hFq, hsq, hbq, hkq⟩; have hS2 := HSL.out _ _ hFq; have hFq := Lib.hid (HGT.out _ hFq); have hbq := hbq Wa (by (repeat (first | assumption | exact Bel.refl _ | apply Bel.drewN | apply Bel.drew | apply Bel.alloc | refine Bel.trans ?_ (by assumption)))) (Nat.le_refl _))
                              try go_wp2_with fail
                              refine hK.out _ _ ?_ (fun hHeld => ?_)
                              · ((try dsimp only); (first | exact hS2 | exact HS0.out _ (by (repeat (first | assumption | exact Bel.refl _ | apply Bel.drewN | apply Bel.drew | apply Bel.alloc | refine Bel.trans ?_ (by assumption))))))
                              clear hK K
                              try walk_nrm
                              refine wpAnyH_done (by kernel_rfl) ?_ _
                              (go_wp2_with fail; go_roundw; (case rel => exact ⟨k + 1, by omega, by go_num, hFq.out.bel (by (repeat (first | assumption | exact Bel.refl _ | apply Bel.drewN | apply Bel.drew | apply Bel.alloc | refine Bel.trans ?_ (by assumption)))), hbq.trans (by (repeat (first | assumption | exact Bel.refl _ | apply Bel.drewN | apply Bel.drew | apply Bel.alloc | refine Bel.trans ?_ (by assumption))))⟩); (case measure => simp [intOf]; omega))
                      · obtain rfl : k = p.2.1.length := by omega
                        have hFn := hFM.row
                        clear hFM
                        go_wp2
                        go_roundw
                        case rel => exact ⟨i + 1, by omega, by go_num, hFn, hB5⟩
                        case measure => simp [intOf]; omega
                  · obtain rfl : i = p.2.1.length := by omega
                    have hFn := hFM.last
                    clear hFM
                    go_wp2
                    go_roundw
                    case rel => exact ⟨m + 1, by omega, by go_num, hFn, hB4⟩
                    case measure => simp [intOf]; omega
              · obtain rfl : m = p.2.1.length := by omega
                have HFM := Lib.hid hFM
                have hFi := hFM.fin
                clear hFM
                obtain ⟨Wd, hWd⟩ : ∃ W, W = wr := ⟨wr, rfl⟩
                subst hWd
                go_wp2_with fail
                go_loopw [121] (fun i wr => ∃ i' : Nat, i' ≤ p.2.1.length ∧ i = .int .i64 i' ∧ Fin Wa.heap.size wr p.2.1.length fb mb oF p.2.1.length oM p.2.1.length rF pF rM pM (distM (netOf p) p.2.1.length) i' 0 ∧ Bel Wa wr) (fun i _ => p.2.1.length - (intOf i).toNat)
                case atStart => exact ⟨0, Nat.zero_le _, rfl, hFi, hB3⟩
                case round =>
                  clear hFi
                  obtain ⟨i, hi, rfl, hFi, hB4⟩ := hrel
                  by_cases hli : i < p.2.1.length
                  · obtain ⟨We, hWe⟩ : ∃ W, W = wr := ⟨wr, rfl⟩
                    subst hWe
                    go_wp2_with fail
                    go_loopw [125] (fun j wr => ∃ k : Nat, k ≤ p.2.1.length ∧ j = .int .i64 k ∧ Fin Wa.heap.size wr p.2.1.length fb mb oF p.2.1.length oM p.2.1.length rF pF rM pM (distM (netOf p) p.2.1.length) i k ∧ Bel Wa wr) (fun j _ => p.2.1.length - (intOf j).toNat)
                    case atStart => exact ⟨0, Nat.zero_le _, rfl, hFi, hB4⟩
                    case round =>
                      clear hFi
                      obtain ⟨k, hk, rfl, hFi, hB5⟩ := hrel
                      by_cases hlk : k < p.2.1.length
                      · have HPUT := Lib.hid (fun (hd : distM (netOf p) p.2.1.length i k = -1000) => And.intro (Fin.put HFM.out hFi hli hlk hd) (hB5.set (p := ⟨rF i, k, none⟩) (hFi.gF.base i hli).1 (.int .i64 (-1000))))
                        have HSK := Lib.hid (fun (hd : ¬ distM (netOf p) p.2.1.length i k = -1000) => hFi.skip hd)
                        have mF := hFi.bF
                        have mM := hFi.bM
                        obtain ⟨s1, -⟩ := hFi.gM.slot i hli
                        obtain ⟨s3, -⟩ := hFi.gF.slot i hli
                        obtain ⟨c1, -⟩ := hFi.gM.cell i k hli hlk
                        obtain ⟨c3, c3f⟩ := hFi.gF.cell i k hli hlk
                        simp only [metV] at c1
                        simp only [intsV] at c3
                        clear hFi
                        have hki : (k : Int) < (p.2.1.length : Int) := by omega
                        have hii : (i : Int) < (p.2.1.length : Int) := by omega
                        by_cases h1 : distM (netOf p) p.2.1.length i k = -1000
                        · have HP := Lib.hid (HPUT.out h1)
                          simp only [decide_eq_true h1, Bool.not_true] at c1
                          clear h1
                          go_wp2
                          go_roundw
                          case rel => exact ⟨k + 1, by omega, by go_num, HP.out.1.bel (by (repeat (first | assumption | exact Bel.refl _ | apply Bel.drewN | apply Bel.drew | apply Bel.alloc | refine Bel.trans ?_ (by assumption)))), HP.out.2.trans (by (repeat (first | assumption | exact Bel.refl _ | apply Bel.drewN | apply Bel.drew | apply Bel.alloc | refine Bel.trans ?_ (by assumption))))⟩
                          case measure => simp [intOf]; omega
                        · have HP := Lib.hid (HSK.out h1)
                          simp only [decide_eq_false h1, Bool.not_false] at c1
                          clear h1
                          go_wp2
                          go_roundw
                          case rel => exact ⟨k + 1, by omega, by go_num, HP.out.bel (by (repeat (first | assumption | exact Bel.refl _ | apply Bel.drewN | apply Bel.drew | apply Bel.alloc | refine Bel.trans ?_ (by assumption)))), by (repeat (first | assumption | exact Bel.refl _ | apply Bel.drewN | apply Bel.drew | apply Bel.alloc | refine Bel.trans ?_ (by assumption)))⟩
                          case measure => simp [intOf]; omega
                      · obtain rfl : k = p.2.1.length := by omega
                        have hFn := hFi.next
                        clear hFi
                        go_wp2
                        go_roundw
                        case rel => exact ⟨i + 1, by omega, by go_num, hFn, hB5⟩
                        case measure => simp [intOf]; omega
                  · obtain rfl : i = p.2.1.length := by omega
                    have mF := hFi.bF
                    have HRES := Lib.hid (show GridRes p w (.returned (.slice (some ⟨oF, 0, none⟩) p.2.1.length p.2.1.length)) wr from ⟨oF, _, rF, pF, rfl, Nat.le_refl _, HMX.out, hFi.all.low (by have := hwW.size; have := G2.size; omega), by (repeat (first | assumption | exact Bel.refl _ | apply Bel.drewN | apply Bel.drew | apply Bel.alloc | refine Bel.trans ?_ (by assumption)))⟩)
                    clear hFi
                    go_wp2
                    go_ret
                    exact .inr ⟨HPO.out, HPN.out, HRES.out⟩

end Go.Proofs.Ytiaamddhocdhaaa
end

/- Mark -/
section
namespace Go.Proofs.Ytiaamddhocdhaaa
open Go.ChangeShapes Go.WideShapes Go.ChangeAt Go.RowKit
set_option linter.unusedVariables false

set_option maxHeartbeats 400000 in
theorem markIntS_any (v : Value) (xs : List (Int)) (S : Nat → Prop) (k : Int) (w : World) (hx : intsR S w [v] xs) (h0 : 0 ≤ k) (h1 : k ≤ 1099511627776) (hl : xs.length ≤ 1099511627776) :
    Calls Try.prog 120 #[v, .int .i64 k] w fun e w' => e = .returned (.int .i64 (k + (1 * xs.length : Nat))) ∧ intsR S w' [v] (mkIntS k xs.length) ∧ Mut S w w' := by
  obtain ⟨p, cap, hv, hrest⟩ := sliceR_open hx
  clear hrest
  subst hv
  obtain ⟨_, l1, l2, hcase⟩ := intsR_cells hx
  have L2 := Lib.hid l2
  unfold maxLen at l2
  rcases hcase with hz | ⟨b, off, f, rfl, hS, hI⟩
  · have HX := Lib.hid hx
    have hz' : xs = [] := List.length_eq_zero_iff.1 hz
    subst hz'
    clear hx
    go_enter Try.func120, Try.ntmps120
    go_wp2_with fail
    go_loopw [1, 5] (fun kk i wr => i = .int .i64 0 ∧ kk = .int .i64 k ∧ wr = w) (fun _ _ _ => 0)
    case atStart => exact ⟨rfl, rfl, rfl⟩
    case round =>
      obtain ⟨rfl, rfl, rfl⟩ := hrel
      go_wp2
      go_ret
      exact ⟨ret_int (by simp), HX.out, Mut.refl _ _⟩
  · have HI0 := Lib.hid hI
    clear hx hI
    generalize hlen : xs.length = len at *
    have HL := Lib.hid hlen; clear hlen
    go_enter Try.func120, Try.ntmps120
    go_wp2_with fail
    go_loopw [1, 5] (fun kk i wr => ∃ (j : Nat) (g : Nat → Int), j ≤ len ∧ i = .int .i64 j ∧ kk = .int .i64 (k + (1 * j : Nat)) ∧ IntCells wr b off g (len * 1) ∧ (∀ m, m < j * 1 → g m = k + m) ∧ Mut S w wr) (fun _ i _ => len - (intOf i).toNat)
    case atStart => exact ⟨0, f, Nat.zero_le _, rfl, by simp, HI0.out, fun m hm => by omega, Mut.refl _ _⟩
    case round =>
      obtain ⟨i, g, hi, rfl, rfl, hI, hg, hM⟩ := hrel
      have HI := Lib.hid hI
      have HG := Lib.hid hg
      have HM := Lib.hid hM
      clear hI hg hM
      by_cases hlt : i < len
      · have hii : (i : Int) < (len : Int) := by omega
        obtain ⟨u0, v0⟩ := HI.out (i * 1 + 0) (by omega)
        rw [Nat.add_zero, Nat.mul_one] at u0 v0
        go_wp2
        go_roundw
        case rel =>
          refine ⟨i + 1, _, by omega, by go_num, by go_num, (IntCells.set HI.out (m := i * 1 + 0) (by omega) (by omega) _), fun m hm => ?_, HM.out.trans ((Mut.refl _ _).set b _ _ hS)⟩
          by_cases e : m < i * 1
          · have h9 := HG.out m e
            simp only [upd]
            repeat (first | rw [if_neg (by omega)])
            exact h9
          · have hc : m = i * 1 + 0 := by omega
            simp only [upd]
            rcases hc with hc
            all_goals
              subst hc
              simp
              try omega
        case measure => simp [intOf]; omega
      · go_wp2
        go_ret
        obtain rfl : i = len := by omega
        refine ⟨ret_int (by omega), intsR_marked HI.out HG.out hS l1 L2.out h0 (by omega), HM.out⟩

set_option maxHeartbeats 400000 in
theorem heldIntS_any (v : Value) (len : Nat) (S : Nat → Prop) (k : Int) (w : World) (hx : intsR S w [v] (mkIntS k len)) (h0 : 0 ≤ k) (h1 : k ≤ 1099511627776) (hl : len ≤ 1099511627776) :
    Calls Try.prog 122 #[v, .int .i64 k] w fun e w' => e = .returned (.int .i64 (k + (1 * len : Nat))) ∧ w = w' := by
  have hx0 := hx
  obtain ⟨p, cap, rfl, l1, l2, h4⟩ := sliceR_open hx
  rw [mkIntS_length] at l1
  unfold maxLen at l2
  have H4 := Lib.hid h4
  have hlen : (mkIntS k len).length = len := mkIntS_length k len
  clear hx hx0 h4
  rw [hlen]
  have HL := Lib.hid hlen; clear hlen
  go_enter Try.func122, Try.ntmps122
  go_wp2_with fail
  go_loop [1, 5] (fun kk i => ∃ (j : Nat), j ≤ len ∧ i = .int .i64 j ∧ kk = .int .i64 (k + (1 * j : Nat))) (fun _ i => len - (intOf i).toNat)
  case atStart => exact ⟨0, Nat.zero_le _, rfl, by simp⟩
  case round =>
    obtain ⟨i, hi, rfl, rfl⟩ := hrel
    by_cases hlt : i < len
    · have hii : (i : Int) < (len : Int) := by omega
      obtain ⟨b, off, ecs, rfl, _, _, hrow, hel⟩ := H4.out i (by rw [HL.out]; exact hlt)
      rw [mkIntS_at] at hel
      obtain ⟨rfl, _⟩ := hel
      have u0 := (hrow 0 (by simp)).1
      simp only [List.getElem_cons_zero, Nat.mul_one, Nat.add_zero] at u0
      clear hrow
      go_wp2
      go_round
      case rel => exact ⟨i + 1, by omega, by go_num, by go_num⟩
      case measure => simp [intOf]; omega
    · go_wp2
      go_ret
      obtain rfl : i = len := by omega
      exact ⟨rfl, rfl⟩





set_option maxHeartbeats 400000 in
theorem markStepS_any (v : Value) (xs : List (StepT)) (S : Nat → Prop) (k : Int) (w : World) (hx : stepsR S w [v] xs) (h0 : 0 ≤ k) (h1 : k ≤ 1099511627776) (hl : xs.length ≤ 1099511627776) :
    Calls Try.prog 165 #[v, .int .i64 k] w fun e w' => e = .returned (.int .i64 (k + (2 * xs.length : Nat))) ∧ stepsR S w' [v] (mkStepS k xs.length) ∧ Mut S w w' := by
  obtain ⟨p, cap, hv, hrest⟩ := sliceR_open hx
  clear hrest
  subst hv
  obtain ⟨_, l1, l2, hcase⟩ := stepsR_cells hx
  have L2 := Lib.hid l2
  unfold maxLen at l2
  rcases hcase with hz | ⟨b, off, f, rfl, hS, hI⟩
  · have HX := Lib.hid hx
    have hz' : xs = [] := List.length_eq_zero_iff.1 hz
    subst hz'
    clear hx
    go_enter Try.func165, Try.ntmps165
    go_wp2_with fail
    go_loopw [1, 5] (fun kk i wr => i = .int .i64 0 ∧ kk = .int .i64 k ∧ wr = w) (fun _ _ _ => 0)
    case atStart => exact ⟨rfl, rfl, rfl⟩
    case round =>
      obtain ⟨rfl, rfl, rfl⟩ := hrel
      go_wp2
      go_ret
      exact ⟨ret_int (by simp), HX.out, Mut.refl _ _⟩
  · have HI0 := Lib.hid hI
    clear hx hI
    generalize hlen : xs.length = len at *
    have HL := Lib.hid hlen; clear hlen
    go_enter Try.func165, Try.ntmps165
    go_wp2_with fail
    go_loopw [1, 5] (fun kk i wr => ∃ (j : Nat) (g : Nat → Int), j ≤ len ∧ i = .int .i64 j ∧ kk = .int .i64 (k + (2 * j : Nat)) ∧ IntCells wr b off g (len * 2) ∧ (∀ m, m < j * 2 → g m = k + m) ∧ Mut S w wr) (fun _ i _ => len - (intOf i).toNat)
    case atStart => exact ⟨0, f, Nat.zero_le _, rfl, by simp, HI0.out, fun m hm => by omega, Mut.refl _ _⟩
    case round =>
      obtain ⟨i, g, hi, rfl, rfl, hI, hg, hM⟩ := hrel
      have HI := Lib.hid hI
      have HG := Lib.hid hg
      have HM := Lib.hid hM
      clear hI hg hM
      by_cases hlt : i < len
      · have hii : (i : Int) < (len : Int) := by omega
        obtain ⟨u0, v0⟩ := HI.out (i * 2 + 0) (by omega)
        rw [Nat.add_zero] at u0 v0
        obtain ⟨u1, v1⟩ := HI.out (i * 2 + 1) (by omega)
        rw [← Nat.add_assoc] at u1 v1
        go_wp2
        go_roundw
        case rel =>
          refine ⟨i + 1, _, by omega, by go_num, by go_num, (IntCells.set (IntCells.set HI.out (m := i * 2 + 0) (by omega) (by omega) _) (m := i * 2 + 1) (by omega) (by omega) _), fun m hm => ?_, HM.out.trans (((Mut.refl _ _).set b _ _ hS).set b _ _ hS)⟩
          by_cases e : m < i * 2
          · have h9 := HG.out m e
            simp only [upd]
            repeat (first | rw [if_neg (by omega)])
            exact h9
          · have hc : m = i * 2 + 0 ∨ m = i * 2 + 1 := by omega
            simp only [upd]
            rcases hc with hc | hc
            all_goals
              subst hc
              simp
              try omega
        case measure => simp [intOf]; omega
      · go_wp2
        go_ret
        obtain rfl : i = len := by omega
        refine ⟨ret_int (by omega), stepsR_marked HI.out HG.out hS l1 L2.out h0 (by omega), HM.out⟩


end Go.Proofs.Ytiaamddhocdhaaa
end

/- DistM -/
section
namespace Go.Proofs.Ytiaamddhocdhaaa
open Go.ChangeShapes Go.WideShapes Go.ChangeAt Go.RowKit
set_option linter.unusedVariables false

/-- N rows behind the slots of block o; row i lies in blocks of G i, apart from the others and from o. -/
structure MatF (T : Nat → Prop) (w : World) (o N : Nat) (V : Nat → Value) (G : Nat → Nat → Prop) (X : Nat → List Int) : Prop where
  slot : ∀ i, i < N → w.cell? ⟨o, i, none⟩ = some (V i) ∧ w.frozen? ⟨o, i, none⟩ = false
  sub : ∀ i, i < N → ∀ b, G i b → T b ∧ b ≠ o
  row : ∀ i, i < N → intsR (G i) w [V i] (X i)
  apart : ∀ i j, i < N → j < N → i ≠ j → ∀ b, G i b → ¬ G j b
theorem matCell_keep {w w' : World} {b k : Nat} {v : Value} (h : w.cell? ⟨b, k, none⟩ = some v ∧ w.frozen? ⟨b, k, none⟩ = false) (hb : w'.heap[b]? = w.heap[b]?) : w'.cell? ⟨b, k, none⟩ = some v ∧ w'.frozen? ⟨b, k, none⟩ = false := by
  rw [World.cell?_of_block (w := w) (a := ⟨b, k, none⟩) hb, World.frozen?_of_block (w := w) (a := ⟨b, k, none⟩) hb]
  exact h
section
variable {T : Nat → Prop} {o N : Nat} {V : Nat → Value} {G : Nat → Nat → Prop} {X : Nat → List Int}
theorem MatF.congr {w : World} (h : MatF T w o N V G X) {X' : Nat → List Int} (e : ∀ i, i < N → X i = X' i) : MatF T w o N V G X' := ⟨h.slot, h.sub, fun i hi => by rw [← e i hi]; exact h.row i hi, h.apart⟩
theorem MatF.stay {w w' : World} (h : MatF T w o N V G X) (ho : w'.heap[o]? = w.heap[o]?) (hb : ∀ b, T b → w'.heap[b]? = w.heap[b]?) : MatF T w' o N V G X :=
  ⟨fun i hi => matCell_keep (h.slot i hi) ho, h.sub, fun i hi => intsR_good.stay (h.row i hi) fun b hb' => hb b (h.sub i hi b hb').1, h.apart⟩
theorem MatF.mono {w : World} (h : MatF T w o N V G X) {T' : Nat → Prop} (ht : ∀ b, T b → T' b) : MatF T' w o N V G X := ⟨h.slot, fun i hi b hb => ⟨ht b (h.sub i hi b hb).1, (h.sub i hi b hb).2⟩, h.row, h.apart⟩
/-- One row is written over. -/
theorem MatF.step {w w' : World} (h : MatF T w o N V G X) (hT : ∀ b, T b → b < w.heap.size) (ho : o < w.heap.size) {i : Nat} (hi : i < N) {y : List Int} (hm : Mut (G i) w w') (hy : intsR (G i) w' [V i] y) : MatF T w' o N V G (fun j => if j = i then y else X j) where
  slot := fun j hj => matCell_keep (h.slot j hj) (hm.block o ho fun hg => (h.sub i hi o hg).2 rfl)
  sub := h.sub
  row := fun j hj => by
    by_cases e : j = i
    · subst e; rw [if_pos rfl]; exact hy
    · rw [if_neg e]
      exact intsR_good.stay (h.row j hj) fun b hb => hm.block b (hT b (h.sub j hj b hb).1) fun hg => h.apart j i hj hi e b hb hg
  apart := h.apart
end
/-- A slice of rows, apart. -/
def matR : RepT (List (List Int)) := fun T w cs xs => ∃ p c, cs = [.slice p xs.length c] ∧ xs.length ≤ c ∧ c ≤ maxLen ∧ (xs.length = 0 ∨ ∃ o V G, p = some ⟨o, 0, none⟩ ∧ T o ∧ MatF T w o xs.length V G (fun i => xs.getD i []))
theorem matR_good : Good matR := by
  constructor
  · rintro S w w' cs xs ⟨p, c, h1, h2, h3, h4⟩ hb
    refine ⟨p, c, h1, h2, h3, ?_⟩
    rcases h4 with h4 | ⟨o, V, G, e1, e2, e3⟩
    · exact .inl h4
    · exact .inr ⟨o, V, G, e1, e2, e3.stay (hb o e2) hb⟩
  · rintro S T w cs xs ⟨p, c, h1, h2, h3, h4⟩ hb
    refine ⟨p, c, h1, h2, h3, ?_⟩
    rcases h4 with h4 | ⟨o, V, G, e1, e2, e3⟩
    · exact .inl h4
    · exact .inr ⟨o, V, G, e1, hb o e2, e3.mono hb⟩
theorem getD_get {α : Type} (xs : List α) (d : α) {i : Nat} (h : i < xs.length) : xs.getD i d = xs[i] := by rw [List.getD_eq_getElem?_getD, List.getElem?_eq_getElem h, Option.getD_some]
theorem matR_rows {T : Nat → Prop} {w : World} {cs : List Value} {xs : List (List Int)} (h : matR T w cs xs) : rowsR T w cs xs := by
  obtain ⟨p, c, h1, h2, h3, h4⟩ := h
  refine ⟨p, c, h1, h2, h3, fun i hi => ?_⟩
  rcases h4 with h4 | ⟨o, V, G, e1, e2, e3⟩
  · omega
  · refine ⟨o, 0, [V i], e1, e2, rfl, fun k hk => ?_, ?_⟩
    · obtain rfl : k = 0 := by simpa using hk
      simpa using e3.slot i hi
    · have := e3.row i hi
      rw [getD_get xs [] hi] at this
      exact intsR_good.mono this fun b hb => (e3.sub i hi b hb).1
theorem matR_nil (T : Nat → Prop) (w : World) : matR T w [.slice none 0 0] [] := ⟨none, 0, rfl, Nat.le_refl _, Nat.zero_le _, .inl rfl⟩
/-- What marks leave. -/
def mkIntSS (k : Int) (L : List Nat) : List (List Int) := (List.range L.length).map fun i => mkIntS (k + (sumL (L.take i) : Nat)) (L.getD i 0)
theorem mkIntSS_length (k : Int) (L : List Nat) : (mkIntSS k L).length = L.length := by simp [mkIntSS]
theorem mkIntSS_at (k : Int) (L : List Nat) {i : Nat} (h : i < L.length) : (mkIntSS k L).getD i [] = mkIntS (k + (sumL (L.take i) : Nat)) (L.getD i 0) := by simp [mkIntSS, h]
theorem sumL_at (L : List Nat) {i : Nat} (h : i < L.length) : L.getD i 0 = L[i] := getD_get L 0 h
theorem ret_int' {a b : Int} (h : a = b) : Ending.returned (.int .i64 a) = Ending.returned (.int .i64 b) := by rw [h]
set_option maxHeartbeats 1000000 in
theorem markIntSS_mat (v : Value) (xs : List (List Int)) (S : Nat → Prop) (k : Int) (w : World) (hx : matR S w [v] xs) (hS : ∀ b, S b → b < w.heap.size) (h0 : 0 ≤ k) (h1 : k + (sumL (xs.map List.length) : Nat) ≤ 1099511627776) :
    Calls Try.prog 121 #[v, .int .i64 k] w fun e w' => e = .returned (.int .i64 (k + (sumL (xs.map List.length) : Nat))) ∧ matR S w' [v] (mkIntSS k (xs.map List.length)) ∧ Mut S w w' := by
  obtain ⟨p, cap, hv, l1, l2, hcase⟩ := hx
  have L1 := Lib.hid l1
  have L2 := Lib.hid l2
  unfold maxLen at l2
  obtain rfl : v = .slice p xs.length cap := by simpa using hv
  clear hv
  obtain ⟨L, hL⟩ : ∃ L, xs.map List.length = L := ⟨_, rfl⟩
  have hLl : L.length = xs.length := by rw [← hL]; simp
  have HLA := Lib.hid (show ∀ i, i < xs.length → (xs.getD i []).length = L.getD i 0 from fun i hi => by
    rw [getD_get xs [] hi, getD_get L 0 (by omega)]
    simp [← hL])
  rw [hL] at h1 ⊢
  have HLL := Lib.hid hLl
  clear hL hLl
  rcases hcase with hz | ⟨o, V, G, rfl, hSo, hM⟩
  · have hz' : xs = [] := List.length_eq_zero_iff.1 hz
    subst hz'
    have hLn : L = [] := List.length_eq_zero_iff.1 HLL.out
    subst hLn
    have HRES := Lib.hid (show matR S w [.slice p 0 cap] (mkIntSS k []) from ⟨p, cap, rfl, Nat.zero_le _, L2.out, .inl rfl⟩)
    go_enter Try.func121, Try.ntmps121
    go_wp2_with fail
    go_loopw [1, 5] (fun kk i wr => i = .int .i64 0 ∧ kk = .int .i64 k ∧ wr = w) (fun _ _ _ => 0)
    case atStart => exact ⟨rfl, rfl, rfl⟩
    case round =>
      obtain ⟨rfl, rfl, rfl⟩ := hrel
      go_wp2
      go_ret
      exact ⟨ret_int' (by simp [sumL]), HRES.out, Mut.refl _ _⟩
  · have HM0 := Lib.hid hM
    have HSO := Lib.hid hSo
    have HS := Lib.hid hS
    clear hM hS hSo
    generalize hlen : xs.length = len at *
    clear hlen
    go_enter Try.func121, Try.ntmps121
    go_wp2_with fail
    go_loopw [1, 5] (fun kk i wr => ∃ j : Nat, j ≤ len ∧ i = .int .i64 j ∧ kk = .int .i64 (k + (sumL (L.take j) : Nat)) ∧ MatF S wr o len V G (fun a => if a < j then mkIntS (k + (sumL (L.take a) : Nat)) (L.getD a 0) else xs.getD a []) ∧ Mut S w wr) (fun _ i _ => len - (intOf i).toNat)
    case atStart => exact ⟨0, Nat.zero_le _, rfl, by simp [sumL], HM0.out.congr fun i _ => by rw [if_neg (Nat.not_lt_zero _)], Mut.refl _ _⟩
    case round =>
      obtain ⟨i, hi, rfl, rfl, hM, hMu⟩ := hrel
      have HM := Lib.hid hM
      have HMU := Lib.hid hMu
      have hszz := hMu.size
      by_cases hlt : i < len
      · have hii : (i : Int) < (len : Int) := by omega
        obtain ⟨s1, s2⟩ := hM.slot i hlt
        have hrow := hM.row i hlt
        simp only [Nat.lt_irrefl, if_false] at hrow
        have HROW := Lib.hid hrow
        have htk := sumTake L i (by rw [HLL.out]; exact hlt)
        have htl := sumTake_le L i
        have htl2 := sumTake_le L (i + 1)
        have hla := HLA.out i hlt
        rw [getD_get L 0 (by rw [HLL.out]; exact hlt)] at hla
        have hs0 : (0 : Int) ≤ k + (sumL (L.take i) : Nat) := by omega
        have hs1 : k + ((sumL (L.take i) : Nat) : Int) ≤ 1099511627776 := by omega
        have hrl : (xs.getD i []).length ≤ 1099511627776 := by omega
        have HTK := Lib.hid htk
        have HLG := Lib.hid hla
        clear hM hMu hrow htk hla
        go_wp2_with fail
        refine (markIntS_any _ _ (G i) _ _ HROW.out hs0 hs1 hrl).mono ?_
        rintro e wq ⟨rfl, hmk, hmu⟩
        have HNX := Lib.hid (show MatF S wq o len V G (fun a => if a < i + 1 then mkIntS (k + (sumL (L.take a) : Nat)) (L.getD a 0) else xs.getD a []) from (HM.out.step (fun b hb => Nat.lt_of_lt_of_le (HS.out b hb) hszz) (Nat.lt_of_lt_of_le (HS.out o HSO.out) hszz) hlt hmu hmk).congr fun a ha => by
          by_cases e1 : a = i
          · subst e1
            rw [if_pos rfl, if_pos (by omega), HLA.out a hlt]
          · rw [if_neg e1]
            by_cases e2 : a < i
            · rw [if_pos e2, if_pos (by omega)]
            · rw [if_neg e2, if_neg (by omega)])
        have HMX := Lib.hid (HMU.out.trans (hmu.mono fun b hb => (HM0.out.sub i hlt b hb).1))
        have hkn : k + (sumL (L.take i) : Nat) + ((1 * (xs.getD i []).length : Nat) : Int) = k + (sumL (L.take (i + 1)) : Nat) := by rw [HTK.out, ← HLG.out]; simp; omega
        rw [hkn]
        clear hmk hmu hkn
        go_wp2_with fail
        go_roundw
        case rel => exact ⟨i + 1, by omega, by go_num, rfl, HNX.out, HMX.out⟩
        case measure => simp [intOf]; omega
      · obtain rfl : i = len := by omega
        have HRES := Lib.hid (show matR S wr [.slice (some ⟨o, 0, none⟩) i cap] (mkIntSS k L) from ⟨_, cap, by rw [mkIntSS_length, HLL.out], by rw [mkIntSS_length, HLL.out]; exact L1.out, L2.out, .inr ⟨o, V, G, rfl, HSO.out, by
          rw [mkIntSS_length, HLL.out]
          exact hM.congr fun a ha => by rw [if_pos ha, mkIntSS_at k L (by rw [HLL.out]; exact ha)]⟩⟩)
        have HTA := Lib.hid (show L.take i = L from List.take_of_length_le (by rw [HLL.out]; exact Nat.le_refl _))
        clear hM hMu
        go_wp2
        go_ret
        exact ⟨by rw [HTA.out]; rfl, HRES.out, HMU.out⟩

set_option maxHeartbeats 1000000 in
theorem heldIntSS_mat (v : Value) (L : List Nat) (S : Nat → Prop) (k : Int) (w : World) (hx : matR S w [v] (mkIntSS k L)) (h0 : 0 ≤ k) (h1 : k + (sumL L : Nat) ≤ 1099511627776) :
    Calls Try.prog 123 #[v, .int .i64 k] w fun e w' => e = .returned (.int .i64 (k + (sumL L : Nat))) ∧ w = w' := by
  obtain ⟨p, cap, hv, l1, l2, hcase⟩ := hx
  rw [mkIntSS_length] at hv l1 hcase
  unfold maxLen at l2
  obtain rfl : v = .slice p L.length cap := by simpa using hv
  clear hv
  have HC := Lib.hid hcase
  clear hcase
  go_enter Try.func123, Try.ntmps123
  go_wp2_with fail
  go_loop [1, 5] (fun kk i => ∃ (j : Nat), j ≤ L.length ∧ i = .int .i64 j ∧ kk = .int .i64 (k + (sumL (L.take j) : Nat))) (fun _ i => L.length - (intOf i).toNat)
  case atStart => exact ⟨0, Nat.zero_le _, rfl, by simp [sumL]⟩
  case round =>
    obtain ⟨i, hi, rfl, rfl⟩ := hrel
    by_cases hlt : i < L.length
    · obtain ⟨o, V, G, rfl, hSo, hM⟩ : ∃ o V G, p = some ⟨o, 0, none⟩ ∧ S o ∧ MatF S w o L.length V G (fun i => (mkIntSS k L).getD i []) := by
        rcases HC.out with h | h
        · omega
        · exact h
      have hii : (i : Int) < (L.length : Int) := by omega
      obtain ⟨s1, -⟩ := hM.slot i hlt
      have hrow := hM.row i hlt
      simp only [mkIntSS_at k L hlt] at hrow
      have HROW := Lib.hid hrow
      have htk := sumTake L i hlt
      have htl := sumTake_le L i
      have htl2 := sumTake_le L (i + 1)
      have hla := getD_get L 0 hlt
      have hs0 : (0 : Int) ≤ k + (sumL (L.take i) : Nat) := by omega
      have hs1 : k + ((sumL (L.take i) : Nat) : Int) ≤ 1099511627776 := by omega
      have hrl : L.getD i 0 ≤ 1099511627776 := by omega
      have hkn : k + (sumL (L.take i) : Nat) + ((1 * L.getD i 0 : Nat) : Int) = k + (sumL (L.take (i + 1)) : Nat) := by rw [htk, hla]; simp; omega
      have hnn : ¬ k + ((sumL (L.take (i + 1)) : Nat) : Int) < 0 := by omega
      have hnn2 : (0 : Int) ≤ k + ((sumL (L.take (i + 1)) : Nat) : Int) := by omega
      have HKN := Lib.hid hkn
      clear hM hrow htk hla hkn
      go_wp2_with fail
      refine (heldIntS_any _ (L.getD i 0) (G i) _ _ HROW.out hs0 hs1 hrl).mono ?_
      rintro e wq ⟨rfl, rfl⟩
      rw [HKN.out]
      go_wp2_with fail
      go_round
      case rel => exact ⟨i + 1, by omega, by go_num, rfl⟩
      case measure => simp [intOf]; omega
    · obtain rfl : i = L.length := by omega
      go_wp2
      go_ret
      exact ⟨rfl, rfl⟩

theorem eqIntSS_mat (v v' : Value) (xs ys : List (List Int)) (S S' : Nat → Prop) (w : World) (hx : matR S w [v] xs) (hy : matR S' w [v'] ys) (hS : ∀ b, S b → b < w.heap.size) (hS' : ∀ b, S' b → b < w.heap.size) :
    Calls Try.prog 116 #[v, v'] w fun e w' => e = .returned (.bool (decide (xs = ys))) ∧ Bel w w' := eqIntSS_rep v v' xs ys S S' w (matR_rows hx) (matR_rows hy) hS hS'

theorem matR_open {T : Nat → Prop} {w : World} {v : Value} {xs : List (List Int)} (h : matR T w [v] xs) : ∃ p c, v = .slice p xs.length c ∧ xs.length ≤ c := by
  obtain ⟨p, c, h1, h2, _, _⟩ := h
  exact ⟨p, c, by simpa using h1, h2⟩
theorem sumL_same (n c : Nat) : sumL ((List.range n).map fun _ => c) = n * c := by
  rw [sumL_const]; simp [Nat.mul_comm]
theorem distV_len (p : ProjT) : sumL ((distV p).map List.length) ≤ 1048576 := by
  unfold distV
  split
  · next h =>
    have h1 := (projOk_bd h.1).2.1
    have e : (rowsOf p.2.1.length p.2.1.length (distM (netOf p) p.2.1.length)).map List.length = (List.range p.2.1.length).map fun _ => p.2.1.length := by
      unfold rowsOf; rw [List.map_map]; congr 1; funext i; simp
    rw [e, sumL_same]
    have : p.2.1.length * p.2.1.length ≤ 6 * 6 := Nat.mul_le_mul h1 h1
    omega
  · simp [sumL]
theorem dist_i64 {p : ProjT} (hp : projOk p = true) (hpos : (netOf p).posF = []) (i k : Nat) (hi : i < p.2.1.length) (hk : k < p.2.1.length) : I64 (distM (netOf p) p.2.1.length i k) := by
  have h := distM_bd (netOf_fine hp) ((netOf p).posF_none (netOf_fine hp) hpos) (m := p.2.1.length) (Nat.le_refl _) hi hk
  unfold I64
  omega
theorem dist_fresh {p : ProjT} {w : World} {e : Ending} {w' : World} (h : DistRes p w e w') : FreshV matR w (distV p) e w' := by
  rcases h with ⟨h1, rfl, h3⟩ | ⟨hp, hpos, o, c, rb, cp, rfl, h1, h2, hG, hB⟩
  · have e0 : distV p = [] := by unfold distV; rw [if_neg h1]
    exact ⟨_, rfl, by rw [e0]; exact matR_nil _ _, h3⟩
  · have e0 : distV p = rowsOf p.2.1.length p.2.1.length (distM (netOf p) p.2.1.length) := by unfold distV; rw [if_pos ⟨hp, hpos⟩]
    have hD := dist_i64 hp hpos
    refine ⟨_, rfl, ?_, hB⟩
    rw [e0]
    refine ⟨some ⟨o, 0, none⟩, c, by rw [rowsOf_length], by rw [rowsOf_length]; exact h1, h2, .inr ⟨o, fun i => .slice (some ⟨rb i, 0, none⟩) p.2.1.length (cp i), fun i b => b = rb i, rfl, ⟨hG.top.1, hG.top.2⟩, ?_⟩⟩
    rw [rowsOf_length]
    refine ⟨fun i hi => hG.slot i hi, fun i hi b hb => ?_, fun i hi => ?_, fun i j hi hj hij b hb hb' => ?_⟩
    · subst hb
      exact ⟨⟨(hG.base i hi).1, (hG.base i hi).2.1⟩, (hG.base i hi).2.2⟩
    · rw [getD_get _ [] (by rw [rowsOf_length]; exact hi), rowsOf_at]
      exact hG.row hD hi
    · subst hb
      exact hG.apart i j hi hj hij hb'

theorem iDistances_mat (v : Value) (p : ProjT) (S : Nat → Prop) (w : World) (hx : aggR projR S w v p) (hS : ∀ b, S b → b < w.heap.size) (_hn : bulkProject p ≤ 1048576) : Calls Try.prog 38 #[v] w (FreshV matR w (distV p)) := (iDistances_any v p S w hx hS _hn).mono fun _ _ h => dist_fresh h

end Go.Proofs.Ytiaamddhocdhaaa
end

/- Earl -/
section
namespace Go.Proofs.Ytiaamddhocdhaaa
open Go.ChangeShapes Go.WideShapes Go.ChangeAt Go.RowKit
set_option linter.unusedVariables false

/-- Rows as many as columns. -/
def Sq (M : List (List Int)) : Prop := M.length ≤ 6 ∧ (∀ i, i < M.length → (M.getD i []).length = M.length) ∧ ∀ i k, i < M.length → k < M.length → -1000 ≤ (M.getD i []).getD k 0 ∧ (M.getD i []).getD k 0 ≤ 4608
theorem distV_sq (p : ProjT) : Sq (distV p) := by
  unfold distV
  split
  · next h =>
    have h1 := (projOk_bd h.1).2.1
    have hb := fun i k (hi : i < p.2.1.length) (hk : k < p.2.1.length) => distM_bd (netOf_fine h.1) ((netOf p).posF_none (netOf_fine h.1) h.2) (m := p.2.1.length) (i := i) (k := k) (Nat.le_refl _) hi hk
    refine ⟨by rw [rowsOf_length]; exact h1, fun i hi => ?_, fun i k hi hk => ?_⟩
    · rw [getD_get _ [] hi, rowsOf_at]; simp [rowsOf_length]
    · rw [getD_get _ [] hi, rowsOf_at]
      rw [rowsOf_length] at hi hk
      have := hb i k hi hk
      rw [getD_get _ 0 (by simp; exact hk)]
      simp only [List.getElem_map, List.getElem_range]
      omega
  · exact ⟨by simp, fun i hi => by simp at hi, fun i k hi => by simp at hi⟩
theorem mat_at {T : Nat → Prop} {w : World} {q : Option Addr} {c : Nat} {M : List (List Int)} (h : matR T w [.slice q M.length c] M) (hT : ∀ b, T b → b < w.heap.size) (hs : Sq M) (h0 : 0 < M.length) : ∃ o, q = some ⟨o, 0, none⟩ ∧ ∀ i, i < M.length → ∃ b off rc, ∀ W, Bel w W → W.cell? ⟨o, i, none⟩ = some (.slice (some ⟨b, off, none⟩) M.length rc) ∧ M.length ≤ rc ∧ rc ≤ 9223372036854775807 ∧ ∀ k, k < M.length → W.cell? ⟨b, off + k, none⟩ = some (.int .i64 ((M.getD i []).getD k 0)) := by
  obtain ⟨p, c', h1, _, _, h4⟩ := h
  rcases h4 with h4 | ⟨o, V, G, e1, e2, e3⟩
  · omega
  · obtain rfl : q = p := by simp at h1; exact h1.1
    refine ⟨o, e1, fun i hi => ?_⟩
    have hrow := e3.row i hi
    have hl := hs.2.1 i hi
    obtain ⟨rp, rc, hv, hr1, hr2, hr3⟩ := hrow
    obtain ⟨b, off, ecs, f1, f2, f3, f4, f5⟩ := hr3 0 (by omega)
    refine ⟨b, off, rc, fun W hW => ⟨?_, by omega, hr2, fun k hk => ?_⟩⟩
    · have := hW.cell (e3.slot i hi).1
      rw [this]
      have hv' : V i = .slice rp (M.getD i []).length rc := by simpa using hv
      rw [hv', f1, hl]
    · obtain ⟨b', off', ecs', g1, g2, g3, g4, g5⟩ := hr3 k (by omega)
      rw [f1] at g1
      obtain ⟨rfl, rfl⟩ : b = b' ∧ off = off' := by simpa using g1
      obtain rfl := g5.1
      have := (g4 0 (by simp)).1
      simp only [Nat.mul_one, Nat.add_zero, List.getElem_cons_zero] at this
      rw [hW.cell this, getD_get _ 0 (by omega)]
/-- The greatest of column k in the first rows, and 0. -/
def earlTo (M : List (List Int)) (k : Nat) : Nat → Int
  | 0 => 0
  | i + 1 => maxI (earlTo M k i) ((M.getD i []).getD k 0)
theorem earlTo_bd {M : List (List Int)} (hs : Sq M) {k : Nat} (hk : k < M.length) : ∀ i, i ≤ M.length → 0 ≤ earlTo M k i ∧ earlTo M k i ≤ 4608 := by
  intro i
  induction i with
  | zero => intro _; simp [earlTo]
  | succ i ih =>
    intro hi
    have h1 := ih (by omega)
    have h2 := hs.2.2 i k (by omega) hk
    simp only [earlTo, maxI_lt]
    split <;> omega
def earlM (M : List (List Int)) (k : Nat) : List Int := (List.range k).map fun j => earlTo M j M.length
theorem earlM_length (M : List (List Int)) (k : Nat) : (earlM M k).length = k := by simp [earlM]
theorem earlM_snoc (M : List (List Int)) (k : Nat) : earlM M (k + 1) = earlM M k ++ [earlTo M k M.length] := by simp [earlM, List.range_succ]
def earlV (p : ProjT) : List Int := earlM (distV p) (distV p).length
theorem earlV_len (p : ProjT) : (earlV p).length ≤ 1048576 := by
  unfold earlV; rw [earlM_length]
  have := (distV_sq p).1
  omega

/-- The row in the middle of a round. -/
def earlS (M : List (List Int)) (i k a : Nat) : Int := if a < k then earlTo M a (i + 1) else earlTo M a i
theorem earlS_at (M : List (List Int)) (i k : Nat) : earlS M i k k = earlTo M k i := by unfold earlS; rw [if_neg (Nat.lt_irrefl _)]
theorem earlS_step {M : List (List Int)} {i k : Nat} {x : Int} (hx : x = maxI (earlTo M k i) ((M.getD i []).getD k 0)) (a : Nat) : (if a = k then Value.int .i64 x else Value.int .i64 (earlS M i k a)) = .int .i64 (earlS M i (k + 1) a) := by
  unfold earlS
  by_cases e : a = k
  · subst e; rw [if_pos rfl, if_pos (by omega), hx]; rfl
  · rw [if_neg e]
    by_cases e2 : a < k
    · rw [if_pos e2, if_pos (by omega)]
    · rw [if_neg e2, if_neg (by omega)]
theorem rowIs_bel {w w' : World} {b n : Nat} {t : TypeId} {f : Nat → Value} (h : w.rowIs b t n f) (hb : Bel w w') : w'.rowIs b t n f := h.of_block (hb.block h.lt)
theorem rowIs_ints {w : World} {b n c : Nat} {t : TypeId} {f : Nat → Int} {xs : List Int} {T : Nat → Prop} (h : w.rowIs b t n (fun a => .int .i64 (f a))) (hl : xs.length = n) (hx : ∀ a (ha : a < xs.length), xs[a] = f a) (hi : ∀ a, a < n → I64 (f a)) (hT : T b) (hc : n ≤ c ∧ c ≤ maxLen) : intsR T w [.slice (some ⟨b, 0, none⟩) n c] xs := by
  refine ⟨some ⟨b, 0, none⟩, c, by rw [hl], by rw [hl]; exact hc.1, hc.2, fun k hk => ?_⟩
  refine ⟨b, 0, [.int .i64 xs[k]], rfl, hT, rfl, fun j hj => ?_, rfl, by rw [hx k hk]; exact hi k (by omega)⟩
  obtain rfl : j = 0 := by simpa using hj
  have h1 := h.cell (i := k) (by omega)
  have h2 := h.frozen k
  rw [hx k hk]
  simpa using ⟨h1, h2⟩
set_option maxRecDepth 100000 in
set_option maxHeartbeats 1000000 in
theorem iEarliestStarts_any (v : Value) (p : ProjT) (S : Nat → Prop) (w : World) (hx : aggR projR S w v p) (hS : ∀ b, S b → b < w.heap.size) (_hn : bulkProject p ≤ 1048576) : Calls Try.prog 34 #[v] w (FreshV intsR w (earlV p)) := by
  have mk3 := fun n hb h63 W => run_make_row' (P := Try.prog) 25 3 (.int .i64 0) 8 Try.underlying25 (by kernel_rfl) rfl .i64 .i64 n hb h63 W
  obtain ⟨cs, rfl, hx⟩ := hx
  obtain ⟨c1, c2, c3, c4, rfl, q0, q1, q2, q3, q4⟩ := projR_open hx
  have Q1 := Lib.hid q1
  have Q2 := Lib.hid q2
  have Q3 := Lib.hid q3
  have Q4 := Lib.hid q4
  have HP := Lib.hid hx
  obtain ⟨p1, k1, rfl, l1, l1', -⟩ := sliceR_open q1
  obtain ⟨p2, k2, rfl, l2, l2', -⟩ := sliceR_open q2
  obtain ⟨p3, k3, rfl, l3, l3', -⟩ := sliceR_open q3
  obtain ⟨p4, k4, rfl, l4, l4', -⟩ := sliceR_open q4
  unfold maxLen at l1' l2' l3' l4'
  clear hx q0 q1 q2 q3 q4
  have HS := Lib.hid hS
  have HNB := Lib.hid _hn
  clear hS _hn
  have HP1 := Lib.hid (show ∀ W, Bel w W → aggR projR S W (.agg #[.int .i64 p.1, .slice p1 p.2.1.length k1, .slice p2 p.2.2.1.length k2, .slice p3 p.2.2.2.1.length k3, .slice p4 p.2.2.2.2.length k4]) p from fun W hW => aggR_mk (projR_good.bel HP.out hW HS.out))
  show Calls Try.prog 34 #[.agg #[.int .i64 p.1, .slice p1 p.2.1.length k1, .slice p2 p.2.2.1.length k2, .slice p3 p.2.2.2.1.length k3, .slice p4 p.2.2.2.2.length k4]] w _
  go_enter Try.func34, Try.ntmps34
  obtain ⟨W0, hW0, hwW⟩ : ∃ W0, W0 = w.alloc (.cells #[.int .i64 p.1, .slice p1 p.2.1.length k1, .slice p2 p.2.2.1.length k2, .slice p3 p.2.2.2.1.length k3, .slice p4 p.2.2.2.2.length k4] 34) ∧ Bel w W0 := ⟨_, rfl, (Bel.refl w).alloc _⟩
  go_wp2_with fail
  rw [← hW0]
  clear hW0
  refine (iDistances_mat _ p S _ (HP1.out _ (by (repeat (first | assumption | exact Bel.refl _ | apply Bel.drewN | apply Bel.drew | apply Bel.alloc | refine Bel.trans ?_ (by assumption))))) (fun b hb => Nat.lt_of_lt_of_le (HS.out b hb) (Bel.size (by (repeat (first | assumption | exact Bel.refl _ | apply Bel.drewN | apply Bel.drew | apply Bel.alloc | refine Bel.trans ?_ (by assumption)))))) HNB.out).mono ?_
  rintro e w1 ⟨vr, rfl, hr, g1⟩
  have G1 : Bel W0 w1 := by (repeat (first | assumption | exact Bel.refl _ | apply Bel.drewN | apply Bel.drew | apply Bel.alloc | refine Bel.trans ?_ (by assumption)))
  have G2 : Bel w w1 := hwW.trans G1
  have hsq := distV_sq p
  have HEV := Lib.hid (show earlV p = earlM (distV p) (distV p).length from rfl)
  obtain ⟨M, hM⟩ : ∃ M, distV p = M := ⟨_, rfl⟩
  rw [hM] at hr hsq HEV
  clear hM
  obtain ⟨q, c, rfl, hqc⟩ := matR_open hr
  have HSQ := Lib.hid hsq
  have HAT := Lib.hid (fun (h0 : 0 < M.length) => mat_at hr (fun b hb => hb.2) hsq h0)
  obtain ⟨q', c', hv', -, hcm, -⟩ := hr
  obtain ⟨rfl, rfl⟩ : q = q' ∧ c = c' := by simpa using hv'
  unfold maxLen at hcm
  have hM6 := hsq.1
  clear hsq
  have mk3 := mk3 M.length (by omega) (by omega)
  have hR0 : (w1.alloc (.cells (madeCells #[.int .i64 0] M.length) 3)).rowIs w1.heap.size 3 M.length (fun a => .int .i64 (earlTo M a 0)) := World.rowIs_made _ _ _ _
  go_wp2_with fail
  go_loopw [16] (fun i wr => ∃ i' : Nat, i' ≤ M.length ∧ i = .int .i64 i' ∧ wr.rowIs w1.heap.size 3 M.length (fun a => .int .i64 (earlTo M a i')) ∧ Bel w1 wr) (fun i _ => M.length - (intOf i).toNat)
  case atStart => exact ⟨0, Nat.zero_le _, rfl, hR0, by (repeat (first | assumption | exact Bel.refl _ | apply Bel.drewN | apply Bel.drew | apply Bel.alloc | refine Bel.trans ?_ (by assumption)))⟩
  case round =>
    clear hR0
    obtain ⟨i, hi, rfl, hR, hB⟩ := hrel
    have HR := Lib.hid hR
    clear hR
    by_cases hlt : i < M.length
    · obtain ⟨o, rfl, hat⟩ := HAT.out (by omega)
      obtain ⟨b, off, rc, hcell⟩ := hat i hlt
      have HCELL := Lib.hid hcell
      obtain ⟨s1, s2, s3, -⟩ := hcell _ hB
      clear hcell hat
      have hii : (i : Int) < (M.length : Int) := by omega
      obtain ⟨Wb, hWb⟩ : ∃ W, W = wr := ⟨wr, rfl⟩
      subst hWb
      have HR1 := Lib.hid (show Wb.rowIs w1.heap.size 3 M.length (fun a => .int .i64 (earlS M i 0 a)) from HR.out.congr fun a _ => by unfold earlS; rw [if_neg (Nat.not_lt_zero _)])
      go_wp2_with fail
      clear s1
      go_loopw [22] (fun j wr => ∃ k : Nat, k ≤ M.length ∧ j = .int .i64 k ∧ wr.rowIs w1.heap.size 3 M.length (fun a => .int .i64 (earlS M i k a)) ∧ Bel w1 wr) (fun j _ => M.length - (intOf j).toNat)
      case atStart => exact ⟨0, Nat.zero_le _, rfl, HR1.out, hB⟩
      case round =>
        obtain ⟨k, hk, rfl, hR2, hB2⟩ := hrel
        by_cases hlk : k < M.length
        · obtain ⟨-, -, -, s4⟩ := HCELL.out _ hB2
          have s5 := s4 k hlk
          clear s4
          have c1 := hR2.cell hlk
          have c2 := hR2.frozen k
          have HST := Lib.hid (fun (u : Value) => hR2.set k u)
          have HBS := Lib.hid (fun (u : Value) => hB2.set (p := ⟨w1.heap.size, k, none⟩) (Nat.le_refl _) u)
          rw [earlS_at] at c1
          have hki : (k : Int) < (M.length : Int) := by omega
          have HE := Lib.hid (show maxI (earlTo M k i) ((M.getD i []).getD k 0) = earlTo M k (i + 1) from rfl)
          have HSTEP := Lib.hid (fun (x : Int) (hx : x = maxI (earlTo M k i) ((M.getD i []).getD k 0)) => earlS_step hx)
          clear hR2
          generalize (M.getD i []).getD k 0 = DV at *
          generalize earlTo M k i = EK at *
          go_wp2
          exact ⟨⟨k + 1, by omega, by go_num, (HST.out _).congr (fun a _ => HSTEP.out _ (maxI_lt _ _).symm a), HBS.out _⟩, by simp [intOf]; omega⟩
        · obtain rfl : k = M.length := by omega
          have HNX := Lib.hid (hR2.congr (g := fun a => .int .i64 (earlTo M a (i + 1))) (fun a ha => by unfold earlS; rw [if_pos ha]))
          clear hR2
          go_wp2
          go_roundw
          case rel => exact ⟨i + 1, by omega, by go_num, HNX.out, hB2⟩
          case measure => simp [intOf]; omega
    · obtain rfl : i = M.length := by omega
      have HRES := Lib.hid (show intsR (New w wr) wr [.slice (some ⟨w1.heap.size, 0, none⟩) M.length M.length] (earlV p) from by
        rw [HEV.out]
        exact rowIs_ints HR.out (earlM_length _ _) (fun a ha => by simp [earlM]) (fun a ha => by have := earlTo_bd HSQ.out ha M.length (Nat.le_refl _); unfold I64; omega) ⟨G2.size, Nat.lt_of_lt_of_le HR.out.lt (Nat.le_refl _)⟩ ⟨Nat.le_refl _, by unfold maxLen; omega⟩)
      go_wp2
      go_ret
      exact ⟨_, rfl, HRES.out, G2.trans hB⟩

end Go.Proofs.Ytiaamddhocdhaaa
end

/- TopoF -/
section
namespace Go.Proofs.Ytiaamddhocdhaaa
open Go.RowKit
set_option linter.unusedVariables false

/-- The first index below n that c takes, or -1. -/
def idxV (c : Nat → Bool) (n : Nat) : Int := match (List.range n).find? c with | some k => (k : Int) | none => -1
theorem idxV_hit {c : Nat → Bool} {n k : Nat} (hk : k < n) (hc : c k = true) (h : ∀ j, j < k → c j = false) : (List.range n).find? c = some k := by
  rw [List.find?_range_eq_some]
  exact ⟨hc, List.mem_range.2 hk, fun j hj => by rw [h j hj]; rfl⟩
theorem idxV_miss {c : Nat → Bool} {n : Nat} (h : ∀ j, j < n → c j = false) : (List.range n).find? c = none := by
  rw [List.find?_eq_none]
  intro j hj
  rw [h j (List.mem_range.1 hj)]
  exact Bool.false_ne_true
theorem any_hit {c : Nat → Bool} {n k : Nat} (hk : k < n) (hc : c k = true) : (List.range n).any c = true := List.any_eq_true.2 ⟨k, List.mem_range.2 hk, hc⟩
theorem any_miss {c : Nat → Bool} {n : Nat} (h : ∀ j, j < n → c j = false) : (List.range n).any c = false := by
  rw [List.any_eq_false]
  intro j hj
  rw [h j (List.mem_range.1 hj)]
  exact Bool.false_ne_true

/-- Whether a link bars a. -/
def barsB (p : ProjT) (done : List Int) (a : Int) (k : LinkT) : Bool := decide (k.2.1 = a) && (decide (0 < fullGapV p k) && !hasB k.1 done)
def readyB (p : ProjT) (done : List Int) (a : Int) : Bool := !(List.range p.2.2.1.length).any fun j => barsB p done a (p.2.2.1.getD j zLink)
def freeB (p : ProjT) (done : List Int) (a : Nat) : Bool := !hasB (a : Int) done && readyB p done a
def topoR (p : ProjT) : Nat → List Int
  | 0 => []
  | k + 1 => match (List.range p.2.1.length).find? (freeB p (topoR p k)) with
    | none => topoR p k
    | some a => topoR p k ++ [(a : Int)]
def topoB (p : ProjT) : Bool := projOk p && decide ((topoR p p.2.1.length).length = p.2.1.length)
def topoV (p : ProjT) : List Int := if topoB p then topoR p p.2.1.length else []
theorem topoR_le (p : ProjT) : ∀ k, (topoR p k).length ≤ k := by
  intro k
  induction k with
  | zero => simp [topoR]
  | succ k ih =>
    simp only [topoR]
    split
    · omega
    · rw [List.length_append, List.length_singleton]; omega
theorem topoR_no {p : ProjT} {k : Nat} (h : (List.range p.2.1.length).find? (freeB p (topoR p k)) = none) : topoR p (k + 1) = topoR p k := by
  simp only [topoR, h]
theorem topoR_yes {p : ProjT} {k a : Nat} (h : (List.range p.2.1.length).find? (freeB p (topoR p k)) = some a) : topoR p (k + 1) = topoR p k ++ [(a : Int)] := by
  simp only [topoR, h]
theorem topoR_stuck {p : ProjT} {k : Nat} (h : (List.range p.2.1.length).find? (freeB p (topoR p k)) = none) : ∀ j, topoR p (k + j) = topoR p k := by
  intro j
  induction j with
  | zero => rfl
  | succ j ih => rw [show k + (j + 1) = (k + j) + 1 from by omega, topoR_no (by rw [ih]; exact h), ih]
theorem topoV_len (p : ProjT) : (topoV p).length ≤ 1048576 := by
  unfold topoV
  split
  · rename_i h
    unfold topoB at h
    simp only [Bool.and_eq_true] at h
    have h1 := topoR_le p p.2.1.length
    have h2 := (projOk_bd h.1).2.1
    omega
  · simp
theorem topo_no {p : ProjT} (h : projOk p = false) : topoB p = false ∧ topoV p = [] := by
  have h1 : topoB p = false := by unfold topoB; rw [h]; rfl
  exact ⟨h1, by unfold topoV; rw [h1]; rfl⟩
theorem topo_short {p : ProjT} (h : (topoR p p.2.1.length).length ≠ p.2.1.length) : topoB p = false ∧ topoV p = [] := by
  have h1 : topoB p = false := by unfold topoB; rw [decide_eq_false h]; simp
  exact ⟨h1, by unfold topoV; rw [h1]; rfl⟩
theorem topo_full {p : ProjT} (hp : projOk p = true) (h : (topoR p p.2.1.length).length = p.2.1.length) : topoB p = true ∧ topoV p = topoR p p.2.1.length := by
  have h1 : topoB p = true := by unfold topoB; rw [decide_eq_true h, hp]; rfl
  exact ⟨h1, by unfold topoV; rw [h1]; rfl⟩
theorem topo_stop {p : ProjT} {k : Nat} (hk : k < p.2.1.length) (h : (List.range p.2.1.length).find? (freeB p (topoR p k)) = none) : topoB p = false ∧ topoV p = [] := by
  have h1 := topoR_stuck h (p.2.1.length - k)
  rw [show k + (p.2.1.length - k) = p.2.1.length from by omega] at h1
  have h2 := topoR_le p k
  exact topo_short (by rw [h1]; omega)
theorem projOk_name {p : ProjT} (h : projOk p = true) {k : Nat} (hk : k < p.2.1.length) : actIndex p.2.1 (p.2.1.getD k zAct).1 = k := by
  have h1 := projOk_act h hk
  unfold actAtOk at h1
  simp only [Bool.and_eq_true, decide_eq_true_eq] at h1
  exact h1.2
/-- Two results: a datum in new memory and a mark. -/
def FreshP {α : Type} (R : RepT α) (w : World) (x : α) (b : Bool) (e : Ending) (w' : World) : Prop := ∃ v, e = .returned (.tuple #[v, .bool b]) ∧ R (New w w') w' [v] x ∧ Bel w w'
end Go.Proofs.Ytiaamddhocdhaaa
end
