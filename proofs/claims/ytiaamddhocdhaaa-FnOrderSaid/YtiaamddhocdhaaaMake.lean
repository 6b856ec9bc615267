/- MakeProject, MakeSched, MakeLit. -/
import Derived.Test.YtiaamddhocdhaaaDraw6
namespace Go.Proofs.Ytiaamddhocdhaaa
open Go.ChangeShapes Go.WideShapes Go.ChangeAt Go.RowKit
set_option linter.unusedVariables false

/-- The state that a Make begins with. -/
def newAt (C : List Int) (t : Int) : StT := (0, (newV C).2 + t)
theorem newV_in (C : List Int) (hl : C.length ≤ 1048576) : 0 ≤ (newV C).2 ∧ (newV C).2 ≤ 1073741823 := newTo_in C _ hl
/-- The cells of a struct are set from a block's start. -/
def setAll (w : World) (b : Nat) : Nat → List Value → World
  | _, [] => w
  | j, v :: vs => setAll (w.setCell ⟨b, j, none⟩ v) b (j + 1) vs
set_option maxHeartbeats 2000000 in
theorem MakeProject_any (v : Value) (C : List Int) (S : Nat → Prop) (w : World) (hx : bytesR S w [v] C) (hS : ∀ b, S b → b < w.heap.size) (hl : C.length ≤ 1048576) :
    Calls Try.prog 15 #[v] w (FreshA projR w (drawP C 3 (newV C)).1) := by
  have HX := Lib.hid (bytesR_good.bel hx ((Bel.refl w).alloc (.cells #[.int .i64 0, .slice none 0 0, .slice none 0 0, .slice none 0 0, .slice none 0 0] 34)) hS)
  have HS := Lib.hid (show ∀ b, S b → b < (w.alloc (.cells #[.int .i64 0, .slice none 0 0, .slice none 0 0, .slice none 0 0, .slice none 0 0] 34)).heap.size from fun b hb => by have := hS b hb; simp; omega)
  have HBR := Lib.hid (Blk.new' (w := w) (e := 34) [.int .i64 0, .slice none 0 0, .slice none 0 0, .slice none 0 0, .slice none 0 0] rfl)
  clear hx hS
  go_enter Try.func15, Try.ntmps15
  go_wp2_with fail
  refine (l01New_any v C S _ HX.out HS.out hl).mono ?_
  rintro e w1 ⟨cb, rfl, hcb, hc1, g1⟩
  have HBR1 := Lib.hid (HBR.out.bel g1)
  have hz1 := HBR1.out.lt
  have G1 : Bel w w1 := by (repeat (first | assumption | exact Bel.refl _ | apply Bel.drewN | apply Bel.drew | apply Bel.alloc | refine Bel.trans ?_ (by assumption)))
  have hcb' : w.heap.size + 1 ≤ cb := by simpa using hcb
  go_wp2_with fail
  refine (l05Draw_any cb C (newV C) 3 _ hc1 (by decide) (by decide)).mono ?_
  rintro e w2 ⟨cs, rfl, hr, hc2, hd2⟩
  have HBR2 := Lib.hid (HBR1.out.dr hd2 (by omega))
  have HG := Lib.hid (hd2.bel G1 (by omega))
  have HR := Lib.hid hr
  have hsz1 := hc1.lt
  obtain ⟨X, hX⟩ : ∃ X, (drawP C 3 (newV C)).1 = X := ⟨_, rfl⟩
  have hX3 : (drawP C ((3 : Nat) : Int) (newV C)).1 = X := hX
  rw [hX3] at hr HR
  have HXQ := Lib.hid hX
  obtain ⟨x1, x2, x3, x4, rfl, q0, q1, q2, q3, q4⟩ := projR_open hr
  obtain ⟨p1, k1, rfl, -⟩ := sliceR_open q1
  obtain ⟨p2, k2, rfl, -⟩ := sliceR_open q2
  obtain ⟨p3, k3, rfl, -⟩ := sliceR_open q3
  obtain ⟨p4, k4, rfl, -⟩ := sliceR_open q4
  have r0 := HBR2.out.cellv (j := 0) (by simp)
  have r1 := HBR2.out.cellv (j := 1) (by simp)
  have r2 := HBR2.out.cellv (j := 2) (by simp)
  have r3 := HBR2.out.cellv (j := 3) (by simp)
  have r4 := HBR2.out.cellv (j := 4) (by simp)
  simp only [List.getElem_cons_zero, List.getElem_cons_succ] at r0 r1 r2 r3 r4
  have fr0 := HBR2.out.frozen 0
  have fr1 := HBR2.out.frozen 1
  have fr2 := HBR2.out.frozen 2
  have fr3 := HBR2.out.frozen 3
  have fr4 := HBR2.out.frozen 4
  clear hr q0 q1 q2 q3 q4 hc1 hc2 hd2 hX hX3 hcb
  go_wp2_with fail
  have HBW := Lib.hid ((((((Below.refl (w.heap.size) w2).setCell (p := ⟨w.heap.size, 0, none⟩) (Nat.le_refl _) (.int .i64 X.1)).setCell (p := ⟨w.heap.size, 1, none⟩) (Nat.le_refl _) (.slice p1 X.2.1.length k1)).setCell (p := ⟨w.heap.size, 2, none⟩) (Nat.le_refl _) (.slice p2 X.2.2.1.length k2)).setCell (p := ⟨w.heap.size, 3, none⟩) (Nat.le_refl _) (.slice p3 X.2.2.2.1.length k3)).setCell (p := ⟨w.heap.size, 4, none⟩) (Nat.le_refl _) (.slice p4 X.2.2.2.2.length k4))
  have HIF := Lib.hid ((((((Hi.refl (w.heap.size + 1) w2).set (q := w.heap.size) (j := 0) (.int .i64 X.1) (.inl (by omega))).set (q := w.heap.size) (j := 1) (.slice p1 X.2.1.length k1) (.inl (by omega))).set (q := w.heap.size) (j := 2) (.slice p2 X.2.2.1.length k2) (.inl (by omega))).set (q := w.heap.size) (j := 3) (.slice p3 X.2.2.2.1.length k3) (.inl (by omega))).set (q := w.heap.size) (j := 4) (.slice p4 X.2.2.2.2.length k4) (.inl (by omega)))
  have HBF := Lib.hid (((((HBR2.out.set 0 (.int .i64 X.1)).set 1 (.slice p1 X.2.1.length k1)).set 2 (.slice p2 X.2.2.1.length k2)).set 3 (.slice p3 X.2.2.2.1.length k3)).set 4 (.slice p4 X.2.2.2.2.length k4))
  generalize (((((w2.setCell ⟨w.heap.size, 0, none⟩ (.int .i64 X.1)).setCell ⟨w.heap.size, 1, none⟩ (.slice p1 X.2.1.length k1)).setCell ⟨w.heap.size, 2, none⟩ (.slice p2 X.2.2.1.length k2)).setCell ⟨w.heap.size, 3, none⟩ (.slice p3 X.2.2.2.1.length k3)).setCell ⟨w.heap.size, 4, none⟩ (.slice p4 X.2.2.2.2.length k4)) = WF at *
  have c0 := HBF.out.cellv (j := 0) (by simp)
  have c1 := HBF.out.cellv (j := 1) (by simp)
  have c2 := HBF.out.cellv (j := 2) (by simp)
  have c3 := HBF.out.cellv (j := 3) (by simp)
  have c4 := HBF.out.cellv (j := 4) (by simp)
  simp only [List.set_cons_zero, List.set_cons_succ, List.getElem_cons_zero, List.getElem_cons_succ] at c0 c1 c2 c3 c4
  clear HBF
  exact bodyPost_ret (v := .agg #[.int .i64 X.1, .slice p1 X.2.1.length k1, .slice p2 X.2.2.1.length k2, .slice p3 X.2.2.2.1.length k3, .slice p4 X.2.2.2.2.length k4]) (by simp [results, Try.results15, go_sem, c0, c1, c2, c3, c4]) rfl ⟨[.int .i64 X.1, .slice p1 X.2.1.length k1, .slice p2 X.2.2.1.length k2, .slice p3 X.2.2.2.1.length k3, .slice p4 X.2.2.2.2.length k4], rfl, by rw [HXQ.out]; have HR2 := projR_good.stay HR.out (w' := WF) (fun b hb => HIF.out.2 b (by have := hb.1; omega) hb.2); exact projR_good.mono HR2 (fun b hb => ⟨by have := hb.1; omega, by have := hb.2; have := HIF.out.1; omega⟩), by have h1 := HG.out; have h2 := HBW.out; exact Below.trans h1 h2⟩

set_option maxHeartbeats 2000000 in
theorem MakeSched_any (v : Value) (C : List Int) (S : Nat → Prop) (v1 : Value) (p : ProjT) (T : Nat → Prop) (w : World) (hx : bytesR S w [v] C) (hS : ∀ b, S b → b < w.heap.size) (hl : C.length ≤ 1048576) (hp : aggR projR T w v1 p) (hT : ∀ b, T b → b < w.heap.size) (hok : projOk p = true) :
    Calls Try.prog 16 #[v, v1] w (FreshA schR w (schV C p (newAt C 11)).1) := by
  obtain ⟨cs, rfl, hp⟩ := hp
  obtain ⟨y1, y2, y3, y4, rfl, q0, q1, q2, q3, q4⟩ := projR_open hp
  obtain ⟨p1, k1, rfl, -⟩ := sliceR_open q1
  obtain ⟨p2, k2, rfl, -⟩ := sliceR_open q2
  obtain ⟨p3, k3, rfl, -⟩ := sliceR_open q3
  obtain ⟨p4, k4, rfl, -⟩ := sliceR_open q4
  have HP := Lib.hid hp
  have HT := Lib.hid hT
  have HOK := Lib.hid hok
  have HX0 := Lib.hid hx
  have HS0 := Lib.hid hS
  clear hp q0 q1 q2 q3 q4 hT hok hx hS
  obtain ⟨W0, hW0⟩ : ∃ W, W = (w.alloc (.cells #[.int .i64 p.1, .slice p1 p.2.1.length k1, .slice p2 p.2.2.1.length k2, .slice p3 p.2.2.2.1.length k3, .slice p4 p.2.2.2.2.length k4] 34)).alloc (.cells #[.slice none 0 0, .slice none 0 0] 41) := ⟨_, rfl⟩
  have hB0 : Bel w W0 := by rw [hW0]; (repeat (first | assumption | exact Bel.refl _ | apply Bel.drewN | apply Bel.drew | apply Bel.alloc | refine Bel.trans ?_ (by assumption)))
  have hz0 : W0.heap.size = w.heap.size + 2 := by rw [hW0]; simp
  have HBR := Lib.hid (show Blk W0 (w.heap.size + 1) 41 [.slice none 0 0, .slice none 0 0] from by rw [hW0]; exact Blk.new' _ (by simp))
  have HBP := Lib.hid (show Blk W0 w.heap.size 34 [.int .i64 p.1, .slice p1 p.2.1.length k1, .slice p2 p.2.2.1.length k2, .slice p3 p.2.2.2.1.length k3, .slice p4 p.2.2.2.2.length k4] from by rw [hW0]; exact (Blk.new' _ rfl).alloc _)
  have HX := Lib.hid (bytesR_good.bel HX0.out hB0 HS0.out)
  have HS := Lib.hid (show ∀ b, S b → b < W0.heap.size from fun b hb => by have := HS0.out b hb; omega)
  have HW0 := Lib.hid hW0
  have hz0' : w.heap.size + 2 ≤ W0.heap.size := by omega
  show Calls Try.prog 16 #[v, .agg #[.int .i64 p.1, .slice p1 p.2.1.length k1, .slice p2 p.2.2.1.length k2, .slice p3 p.2.2.2.1.length k3, .slice p4 p.2.2.2.2.length k4]] w _
  go_enter Try.func16, Try.ntmps16
  clear hW0 hz0
  go_wp2_with fail
  rw [← HW0.out]
  refine (l01New_any v C S _ HX.out HS.out hl).mono ?_
  rintro e w1 ⟨cb, rfl, hcb, hc1, g1⟩
  have HBR1 := Lib.hid (HBR.out.bel g1)
  have HBP1 := Lib.hid (HBP.out.bel g1)
  have G1 := hB0.trans g1
  have hcb' : w.heap.size + 2 ≤ cb := by omega
  obtain ⟨u0, u1, u2, u3, u4, u5, u6, u7⟩ := hc1.ex
  have f2 := u6 2
  have hni := newV_in C hl
  have hwt : IntKind.i64.wrap ((newV C).2 + 11) = (newV C).2 + 11 := IntWalk.i64_in _ (by omega)
  have HCA := Lib.hid (show Cur (w1.setCell ⟨cb, 2, none⟩ (.int .i64 ((newV C).2 + 11))) cb C (newAt C 11) from hc1.set (j := 2) (.inr ⟨rfl, rfl, by unfold I64; omega⟩))
  have HDA := Lib.hid ((Dr.refl cb w1).put 2 (.int .i64 ((newV C).2 + 11)))
  have hlt1 := hc1.lt
  have b0 := HBP1.out.cellv (j := 0) (by simp)
  have b1 := HBP1.out.cellv (j := 1) (by simp)
  have b2 := HBP1.out.cellv (j := 2) (by simp)
  have b3 := HBP1.out.cellv (j := 3) (by simp)
  have b4 := HBP1.out.cellv (j := 4) (by simp)
  simp only [List.getElem_cons_zero, List.getElem_cons_succ] at b0 b1 b2 b3 b4
  clear u6 u7 hc1 g1 hB0 u3 u4 hcb
  go_wp2_with fail
  generalize w1.setCell ⟨cb, 2, none⟩ (.int .i64 ((newV C).2 + 11)) = W1 at *
  refine (l09Draw_any cb C (newAt C 11) _ p T _ HCA.out (aggR_mk (projR_good.dr (projR_good.bel HP.out G1 HT.out) HDA.out (fun b hb => ⟨by have := HT.out b hb; have := G1.size; omega, by have := HT.out b hb; omega⟩))) (fun b hb => ⟨by have := HT.out b hb; have := G1.size; have := HDA.out.size; omega, by have := HT.out b hb; omega⟩) HOK.out).mono ?_
  rintro e w2 ⟨cs2, rfl, hr, hc2, hd2⟩
  have HBR2 := Lib.hid ((HBR1.out.dr HDA.out (by omega)).dr hd2 (by omega))
  have HG := Lib.hid ((HDA.out.trans hd2).bel G1 (by omega))
  have HR := Lib.hid hr
  have hz1 := HBR1.out.lt
  have hz11 := HDA.out.size
  obtain ⟨X, hX⟩ : ∃ X, (schV C p (newAt C 11)).1 = X := ⟨_, rfl⟩
  rw [hX] at hr HR
  have HXQ := Lib.hid hX
  obtain ⟨x0, x1, rfl, q0, q1⟩ := schR_open hr
  obtain ⟨z0, c0, rfl, -⟩ := sliceR_open q0
  obtain ⟨z1, c1, rfl, -⟩ := sliceR_open q1
  have r0 := HBR2.out.cellv (j := 0) (by simp)
  have r1 := HBR2.out.cellv (j := 1) (by simp)
  simp only [List.getElem_cons_zero, List.getElem_cons_succ] at r0 r1
  have fr0 := HBR2.out.frozen 0
  have fr1 := HBR2.out.frozen 1
  clear hr q0 q1 hc2 hd2 hX
  go_wp2_with fail
  have HBW := Lib.hid (((Below.refl (w.heap.size + 1) w2).setCell (p := ⟨w.heap.size + 1, 0, none⟩) (Nat.le_refl _) (.slice z0 X.1.length c0)).setCell (p := ⟨w.heap.size + 1, 1, none⟩) (Nat.le_refl _) (.slice z1 X.2.length c1))
  have HIF := Lib.hid (((Hi.refl (w.heap.size + 1 + 1) w2).set (q := w.heap.size + 1) (j := 0) (.slice z0 X.1.length c0) (.inl (by omega))).set (q := w.heap.size + 1) (j := 1) (.slice z1 X.2.length c1) (.inl (by omega)))
  have HBF := Lib.hid ((HBR2.out.set 0 (.slice z0 X.1.length c0)).set 1 (.slice z1 X.2.length c1))
  generalize ((w2.setCell ⟨w.heap.size + 1, 0, none⟩ (.slice z0 X.1.length c0)).setCell ⟨w.heap.size + 1, 1, none⟩ (.slice z1 X.2.length c1)) = WF at *
  have k0_ := HBF.out.cellv (j := 0) (by simp)
  have k1_ := HBF.out.cellv (j := 1) (by simp)
  simp only [List.set_cons_zero, List.set_cons_succ, List.getElem_cons_zero, List.getElem_cons_succ] at k0_ k1_
  clear HBF
  exact bodyPost_ret (v := .agg #[.slice z0 X.1.length c0, .slice z1 X.2.length c1]) (by simp [results, Try.results16, go_sem, k0_, k1_]) rfl ⟨[.slice z0 X.1.length c0, .slice z1 X.2.length c1], rfl, by rw [HXQ.out]; have HR2 := schR_good.stay HR.out (w' := WF) (fun b hb => HIF.out.2 b (by have := hb.1; omega) hb.2); exact schR_good.mono HR2 (fun b hb => ⟨by have := hb.1; omega, by have := hb.2; have := HIF.out.1; omega⟩), by have h1 := HG.out; have h2 := Below.mono HBW.out (show w.heap.size ≤ w.heap.size + 1 from by omega); exact Below.trans h1 h2⟩

set_option maxHeartbeats 2000000 in
theorem MakeLit_any (v : Value) (C : List Int) (S : Nat → Prop) (v1 : Value) (p : ProjT) (T : Nat → Prop) (t : Int) (w : World) (hx : bytesR S w [v] C) (hS : ∀ b, S b → b < w.heap.size) (hl : C.length ≤ 1048576) (hp : aggR projR T w v1 p) (hT : ∀ b, T b → b < w.heap.size) (hok : projOk p = true) (ht : 0 ≤ t ∧ t ≤ 1000) :
    Calls Try.prog 17 #[v, v1, .int .i64 t] w (fun e w' => e = .returned (.agg #[.int .i64 (litD C p (newAt C t)).1.1, .int .i64 (litD C p (newAt C t)).1.2.1, .int .i64 (litD C p (newAt C t)).1.2.2]) ∧ Bel w w') := by
  obtain ⟨cs, rfl, hp⟩ := hp
  obtain ⟨y1, y2, y3, y4, rfl, q0, q1, q2, q3, q4⟩ := projR_open hp
  obtain ⟨p1, k1, rfl, -⟩ := sliceR_open q1
  obtain ⟨p2, k2, rfl, -⟩ := sliceR_open q2
  obtain ⟨p3, k3, rfl, -⟩ := sliceR_open q3
  obtain ⟨p4, k4, rfl, -⟩ := sliceR_open q4
  have HP := Lib.hid hp
  have HT := Lib.hid hT
  have HOK := Lib.hid hok
  have HX0 := Lib.hid hx
  have HS0 := Lib.hid hS
  clear hp q0 q1 q2 q3 q4 hT hok hx hS
  obtain ⟨W0, hW0⟩ : ∃ W, W = (w.alloc (.cells #[.int .i64 p.1, .slice p1 p.2.1.length k1, .slice p2 p.2.2.1.length k2, .slice p3 p.2.2.2.1.length k3, .slice p4 p.2.2.2.2.length k4] 34)).alloc (.cells #[.int .i64 0, .int .i64 0, .int .i64 0] 44) := ⟨_, rfl⟩
  have hB0 : Bel w W0 := by rw [hW0]; (repeat (first | assumption | exact Bel.refl _ | apply Bel.drewN | apply Bel.drew | apply Bel.alloc | refine Bel.trans ?_ (by assumption)))
  have hz0 : W0.heap.size = w.heap.size + 2 := by rw [hW0]; simp
  have HBR := Lib.hid (show Blk W0 (w.heap.size + 1) 44 [.int .i64 0, .int .i64 0, .int .i64 0] from by rw [hW0]; exact Blk.new' _ (by simp))
  have HBP := Lib.hid (show Blk W0 w.heap.size 34 [.int .i64 p.1, .slice p1 p.2.1.length k1, .slice p2 p.2.2.1.length k2, .slice p3 p.2.2.2.1.length k3, .slice p4 p.2.2.2.2.length k4] from by rw [hW0]; exact (Blk.new' _ rfl).alloc _)
  have HX := Lib.hid (bytesR_good.bel HX0.out hB0 HS0.out)
  have HS := Lib.hid (show ∀ b, S b → b < W0.heap.size from fun b hb => by have := HS0.out b hb; omega)
  have HW0 := Lib.hid hW0
  have hz0' : w.heap.size + 2 ≤ W0.heap.size := by omega
  show Calls Try.prog 17 #[v, .agg #[.int .i64 p.1, .slice p1 p.2.1.length k1, .slice p2 p.2.2.1.length k2, .slice p3 p.2.2.2.1.length k3, .slice p4 p.2.2.2.2.length k4], .int .i64 t] w _
  go_enter Try.func17, Try.ntmps17
  clear hW0 hz0
  go_wp2_with fail
  rw [← HW0.out]
  refine (l01New_any v C S _ HX.out HS.out hl).mono ?_
  rintro e w1 ⟨cb, rfl, hcb, hc1, g1⟩
  have HBR1 := Lib.hid (HBR.out.bel g1)
  have HBP1 := Lib.hid (HBP.out.bel g1)
  have G1 := hB0.trans g1
  have hcb' : w.heap.size + 2 ≤ cb := by omega
  obtain ⟨u0, u1, u2, u3, u4, u5, u6, u7⟩ := hc1.ex
  have f2 := u6 2
  have hni := newV_in C hl
  have hwt : IntKind.i64.wrap ((newV C).2 + t) = (newV C).2 + t := IntWalk.i64_in _ (by omega)
  have HCA := Lib.hid (show Cur (w1.setCell ⟨cb, 2, none⟩ (.int .i64 ((newV C).2 + t))) cb C (newAt C t) from hc1.set (j := 2) (.inr ⟨rfl, rfl, by unfold I64; omega⟩))
  have HDA := Lib.hid ((Dr.refl cb w1).put 2 (.int .i64 ((newV C).2 + t)))
  have hlt1 := hc1.lt
  have b0 := HBP1.out.cellv (j := 0) (by simp)
  have b1 := HBP1.out.cellv (j := 1) (by simp)
  have b2 := HBP1.out.cellv (j := 2) (by simp)
  have b3 := HBP1.out.cellv (j := 3) (by simp)
  have b4 := HBP1.out.cellv (j := 4) (by simp)
  simp only [List.getElem_cons_zero, List.getElem_cons_succ] at b0 b1 b2 b3 b4
  clear u6 u7 hc1 g1 hB0 u3 u4 hcb
  go_wp2_with fail
  generalize w1.setCell ⟨cb, 2, none⟩ (.int .i64 ((newV C).2 + t)) = W1 at *
  refine (l11Draw_any cb C (newAt C t) _ p T _ HCA.out (aggR_mk (projR_good.dr (projR_good.bel HP.out G1 HT.out) HDA.out (fun b hb => ⟨by have := HT.out b hb; have := G1.size; omega, by have := HT.out b hb; omega⟩))) (fun b hb => ⟨by have := HT.out b hb; have := G1.size; have := HDA.out.size; omega, by have := HT.out b hb; omega⟩) HOK.out).mono ?_
  rintro e w2 ⟨rfl, hc2, hd2⟩
  have HBR2 := Lib.hid ((HBR1.out.dr HDA.out (by omega)).dr hd2 (by omega))
  have HG := Lib.hid ((HDA.out.trans hd2).bel G1 (by omega))
  obtain ⟨X, hX⟩ : ∃ X, (litD C p (newAt C t)).1 = X := ⟨_, rfl⟩
  rw [hX]
  have HXQ := Lib.hid hX
  have r0 := HBR2.out.cellv (j := 0) (by simp)
  have r1 := HBR2.out.cellv (j := 1) (by simp)
  have r2 := HBR2.out.cellv (j := 2) (by simp)
  simp only [List.getElem_cons_zero, List.getElem_cons_succ] at r0 r1 r2
  have fr0 := HBR2.out.frozen 0
  have fr1 := HBR2.out.frozen 1
  have fr2 := HBR2.out.frozen 2
  clear hc2 hd2 hX
  go_wp2_with fail
  have HBW := Lib.hid ((((Below.refl (w.heap.size + 1) w2).setCell (p := ⟨w.heap.size + 1, 0, none⟩) (Nat.le_refl _) (.int .i64 X.1)).setCell (p := ⟨w.heap.size + 1, 1, none⟩) (Nat.le_refl _) (.int .i64 X.2.1)).setCell (p := ⟨w.heap.size + 1, 2, none⟩) (Nat.le_refl _) (.int .i64 X.2.2))
  have HIF := Lib.hid ((((Hi.refl (w.heap.size + 1 + 1) w2).set (q := w.heap.size + 1) (j := 0) (.int .i64 X.1) (.inl (by omega))).set (q := w.heap.size + 1) (j := 1) (.int .i64 X.2.1) (.inl (by omega))).set (q := w.heap.size + 1) (j := 2) (.int .i64 X.2.2) (.inl (by omega)))
  have HBF := Lib.hid (((HBR2.out.set 0 (.int .i64 X.1)).set 1 (.int .i64 X.2.1)).set 2 (.int .i64 X.2.2))
  generalize (((w2.setCell ⟨w.heap.size + 1, 0, none⟩ (.int .i64 X.1)).setCell ⟨w.heap.size + 1, 1, none⟩ (.int .i64 X.2.1)).setCell ⟨w.heap.size + 1, 2, none⟩ (.int .i64 X.2.2)) = WF at *
  have c0 := HBF.out.cellv (j := 0) (by simp)
  have c1 := HBF.out.cellv (j := 1) (by simp)
  have c2 := HBF.out.cellv (j := 2) (by simp)
  simp only [List.set_cons_zero, List.set_cons_succ, List.getElem_cons_zero, List.getElem_cons_succ] at c0 c1 c2
  clear HBF
  exact bodyPost_ret (v := .agg #[.int .i64 X.1, .int .i64 X.2.1, .int .i64 X.2.2]) (by simp [results, Try.results17, go_sem, c0, c1, c2]) rfl ⟨by rw [HXQ.out], by have h1 := HG.out; have h2 := Below.mono HBW.out (show w.heap.size ≤ w.heap.size + 1 from by omega); exact Below.trans h1 h2⟩

end Go.Proofs.Ytiaamddhocdhaaa
