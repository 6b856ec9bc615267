/- The walk of laws.FnLits. -/
import Derived.Test.YtiaamddhocdhaaaMake
import Derived.Test.YtiaamddhocdhaaaLitsF
import Derived.Test.YtiaamddhocdhaaaBulkOk
import Derived.Test.YtiaamddhocdhaaaCode
import Derived.Test.YtiaamddhocdhaaaKeep
import Derived.Test.YtiaamddhocdhaaaEq
import Derived.Deep.RegionHeld3
namespace Go.Proofs.Ytiaamddhocdhaaa
open Go.ChangeShapes Go.WideShapes Go.ChangeAt Go.RowKit
set_option linter.unusedVariables false

theorem litFields' : Try.prog.fieldsOf 44 = #[⟨ "Kind", 3, 0, false, "", "", 0⟩, ⟨ "Activity", 3, 1, false, "", "", 8⟩, ⟨ "Value", 3, 2, false, "", "", 16⟩] := by kernel_rfl
theorem litStood' : Try.prog.stoodInHeld 44 = false := by kernel_rfl
theorem litGuard' : Try.prog.eqGuardType Try.prog.depth 44 = false := by kernel_rfl
theorem run_eql_lit (a b c a' b' c' : Int) (w : World) : Sem.run Try.prog (binOp .eql 44 (.agg #[.int .i64 a, .int .i64 b, .int .i64 c]) (.agg #[.int .i64 a', .int .i64 b', .int .i64 c'])) w = .ok (.bool (eqLitB a b c a' b' c')) w := by
  have h3 := Try.underlying3
  rw [run_eql_struct, run_equalIn_agg (d := 9999) w _ _ _ (by rw [litFields']; exact Try.underlying44) litStood', litFields']
  simp [Op.eqFields, go_sem, h3, eqLitB]
  repeat' (first | rfl | split)
  all_goals simp_all
theorem run_guard_lit' (op : BinOp) (x y : Operand) (xs ys : Array Value) (w : World) : Sem.run Try.prog (eqGuard op 44 x y (.agg xs) (.agg ys)) w = .ok () w := run_eqGuard_agg w op 44 x y xs ys litGuard'
set_option maxRecDepth 100000 in
set_option maxHeartbeats 4000000 in
theorem fnLits_walk (v0 : Value) (C : List Int) (w : World) (h0 : bytesR (Old w) w [v0] C) :
    Calls Try.prog 4 #[v0] w fun e w' => e = .returned (.bool true) ∧ Bel w w' := by
  obtain ⟨q, c, rfl, hq1, hq2, -⟩ := sliceR_open h0
  unfold maxLen at hq2
  have HC := Lib.hid (show ∀ W, Bel w W → bytesR (Old w) W [.slice q C.length c] C ∧ (∀ b, Old w b → b < W.heap.size) from fun W hW => ⟨bytesR_good.bel h0 hW (fun b hb => hb), fun b hb => Nat.lt_of_lt_of_le hb hW.size⟩)
  clear h0
  by_cases hl : C.length ≤ 1048576
  rotate_left
  · have hli : (1048576 : Int) < (C.length : Int) := by omega
    go_enter Try.func4, Try.ntmps4
    go_wp2_with fail
    go_ret
    exact ⟨rfl, Bel.refl _⟩
  have hli : ¬ (1048576 : Int) < (C.length : Int) := by omega
  have heq1 := run_eql_lit
  have heq2 := run_guard_lit'
  go_enter Try.func4, Try.ntmps4
  go_wp2_with fail
  refine (MakeProject_any _ C _ _ (HC.out _ (Bel.refl _)).1 (HC.out _ (Bel.refl _)).2 hl).mono ?_
  rintro e w1 ⟨cs, rfl, hr, g1⟩
  obtain ⟨P, hP⟩ : ∃ P, (drawP C 3 (newV C)).1 = P := ⟨_, rfl⟩
  have hPD := drawP_ok C 3 (newV C) (by decide) (by decide)
  have hPD : Drawn P 3 := by have h3 : (drawP C ((3 : Nat) : Int) (newV C)).1 = P := hP; rw [h3] at hPD; exact hPD
  rw [hP] at hr
  have hok := hPD.ok
  have HPO := Lib.hid hok
  have HBP := Lib.hid (bulkProj_ok hok)
  obtain ⟨x1, x2, x3, x4, rfl, u0, u1, u2, u3, u4⟩ := projR_open hr
  obtain ⟨p1, k1, rfl, -⟩ := sliceR_open u1
  obtain ⟨p2, k2, rfl, -⟩ := sliceR_open u2
  obtain ⟨p3, k3, rfl, -⟩ := sliceR_open u3
  obtain ⟨p4, k4, rfl, -⟩ := sliceR_open u4
  have HPR := Lib.hid (stays_agg projR_good hr)
  have G1 : Bel w w1 := g1
  clear hr u0 u1 u2 u3 u4 hP hPD hok g1
  go_wp2_with fail
  refine (MakeSched_any _ C _ _ P (New w w1) _ (HC.out _ (by (repeat (first | assumption | exact Bel.refl _ | apply Bel.drewN | apply Bel.drew | apply Bel.alloc | refine Bel.trans ?_ (by assumption))))).1 (HC.out _ (by (repeat (first | assumption | exact Bel.refl _ | apply Bel.drewN | apply Bel.drew | apply Bel.alloc | refine Bel.trans ?_ (by assumption))))).2 hl (HPR.out _ (by (repeat (first | assumption | exact Bel.refl _ | apply Bel.drewN | apply Bel.drew | apply Bel.alloc | refine Bel.trans ?_ (by assumption))))).1 (HPR.out _ (by (repeat (first | assumption | exact Bel.refl _ | apply Bel.drewN | apply Bel.drew | apply Bel.alloc | refine Bel.trans ?_ (by assumption))))).2 HPO.out).mono ?_
  rintro e w2 ⟨cs, rfl, hr, g2⟩
  obtain ⟨Q, hQ⟩ : ∃ Q, (schV C P (newAt C 11)).1 = Q := ⟨_, rfl⟩
  have hsf := schV_ok C P (newAt C 11) HPO.out
  rw [hQ] at hr hsf
  have HSF := Lib.hid hsf
  have HBS := Lib.hid (bulkSch_ok hsf)
  obtain ⟨x0, x1, rfl, u0, u1⟩ := schR_open hr
  obtain ⟨z0, e0, rfl, -⟩ := sliceR_open u0
  obtain ⟨z1, e1, rfl, -⟩ := sliceR_open u1
  have HSR := Lib.hid (show ∀ W, Bel w2 W → aggR schR (New w1 w2) W (.agg #[.slice z0 Q.1.length e0, .slice z1 Q.2.length e1]) Q ∧ (∀ k, New w1 w2 k → k < W.heap.size) from stays_agg schR_good (schR_good.mono hr (fun b hb => ⟨by have := hb.1; simp at this; omega, hb.2⟩)))
  have G2 : Bel w1 w2 := by (repeat (first | assumption | exact Bel.refl _ | apply Bel.drewN | apply Bel.drew | apply Bel.alloc | refine Bel.trans ?_ (by assumption)))
  have HB3 := Lib.hid (show ∀ W, Bel w2 W → W.cell? ⟨w1.heap.size, 0, none⟩ = some (.int .i64 P.1) ∧ W.cell? ⟨w1.heap.size, 1, none⟩ = some (.slice p1 P.2.1.length k1) ∧ W.cell? ⟨w1.heap.size, 2, none⟩ = some (.slice p2 P.2.2.1.length k2) ∧ W.cell? ⟨w1.heap.size, 3, none⟩ = some (.slice p3 P.2.2.2.1.length k3) ∧ W.cell? ⟨w1.heap.size, 4, none⟩ = some (.slice p4 P.2.2.2.2.length k4) from fun W hW => ⟨hW.cell (g2.cell (by simp [go_sem])), hW.cell (g2.cell (by simp [go_sem])), hW.cell (g2.cell (by simp [go_sem])), hW.cell (g2.cell (by simp [go_sem])), hW.cell (g2.cell (by simp [go_sem]))⟩)
  obtain ⟨b0, b1, b2, b3, b4⟩ := HB3.out w2 (Bel.refl _)
  have ab0 := fun o => ((Bel.refl w2).alloc o).cell b0
  have ab1 := fun o => ((Bel.refl w2).alloc o).cell b1
  have ab2 := fun o => ((Bel.refl w2).alloc o).cell b2
  have ab3 := fun o => ((Bel.refl w2).alloc o).cell b3
  have ab4 := fun o => ((Bel.refl w2).alloc o).cell b4
  clear hr u0 u1 hQ hsf g2
  go_wp2_with fail
  refine (MakeLit_any _ C _ _ P (New w w1) 1 _ (HC.out _ (by (repeat (first | assumption | exact Bel.refl _ | apply Bel.drewN | apply Bel.drew | apply Bel.alloc | refine Bel.trans ?_ (by assumption))))).1 (HC.out _ (by (repeat (first | assumption | exact Bel.refl _ | apply Bel.drewN | apply Bel.drew | apply Bel.alloc | refine Bel.trans ?_ (by assumption))))).2 hl (HPR.out _ (by (repeat (first | assumption | exact Bel.refl _ | apply Bel.drewN | apply Bel.drew | apply Bel.alloc | refine Bel.trans ?_ (by assumption))))).1 (HPR.out _ (by (repeat (first | assumption | exact Bel.refl _ | apply Bel.drewN | apply Bel.drew | apply Bel.alloc | refine Bel.trans ?_ (by assumption))))).2 HPO.out (by decide)).mono ?_
  rintro e w3 ⟨rfl, g3⟩
  have hlo := litD_ok C P (newAt C 1) HPO.out
  generalize (litD C P (newAt C 1)).1 = L at *
  have HB4 := Lib.hid (show ∀ W, Bel w3 W → W.cell? ⟨w2.heap.size, 0, none⟩ = some (.slice z0 Q.1.length e0) ∧ W.cell? ⟨w2.heap.size, 1, none⟩ = some (.slice z1 Q.2.length e1) from fun W hW => ⟨hW.cell (g3.cell (by simp [go_sem])), hW.cell (g3.cell (by simp [go_sem]))⟩)
  have G3 : Bel w2 w3 := by (repeat (first | assumption | exact Bel.refl _ | apply Bel.drewN | apply Bel.drew | apply Bel.alloc | refine Bel.trans ?_ (by assumption)))
  clear b0 b1 b2 b3 b4 ab0 ab1 ab2 ab3 ab4
  obtain ⟨b0, b1, b2, b3, b4⟩ := HB3.out w3 G3
  have ab0 := fun o => ((Bel.refl w3).alloc o).cell b0
  have ab1 := fun o => ((Bel.refl w3).alloc o).cell b1
  have ab2 := fun o => ((Bel.refl w3).alloc o).cell b2
  have ab3 := fun o => ((Bel.refl w3).alloc o).cell b3
  have ab4 := fun o => ((Bel.refl w3).alloc o).cell b4
  obtain ⟨l1, l2, l3⟩ := L
  simp only at *
  go_wp2_with fail
  refine (MakeLit_any _ C _ _ P (New w w1) 2 _ (HC.out _ (by (repeat (first | assumption | exact Bel.refl _ | apply Bel.drewN | apply Bel.drew | apply Bel.alloc | refine Bel.trans ?_ (by assumption))))).1 (HC.out _ (by (repeat (first | assumption | exact Bel.refl _ | apply Bel.drewN | apply Bel.drew | apply Bel.alloc | refine Bel.trans ?_ (by assumption))))).2 hl (HPR.out _ (by (repeat (first | assumption | exact Bel.refl _ | apply Bel.drewN | apply Bel.drew | apply Bel.alloc | refine Bel.trans ?_ (by assumption))))).1 (HPR.out _ (by (repeat (first | assumption | exact Bel.refl _ | apply Bel.drewN | apply Bel.drew | apply Bel.alloc | refine Bel.trans ?_ (by assumption))))).2 HPO.out (by decide)).mono ?_
  rintro e w4 ⟨rfl, g4⟩
  generalize (litD C P (newAt C 2)).1 = O at *
  obtain ⟨o1, o2, o3⟩ := O
  simp only at *
  have HB5 := Lib.hid (show ∀ W, Bel w4 W → W.cell? ⟨w3.heap.size, 0, none⟩ = some (.int .i64 l1) ∧ W.cell? ⟨w3.heap.size, 1, none⟩ = some (.int .i64 l2) ∧ W.cell? ⟨w3.heap.size, 2, none⟩ = some (.int .i64 l3) from fun W hW => ⟨hW.cell (g4.cell (by simp [go_sem])), hW.cell (g4.cell (by simp [go_sem])), hW.cell (g4.cell (by simp [go_sem]))⟩)
  have G4 : Bel w3 w4 := by (repeat (first | assumption | exact Bel.refl _ | apply Bel.drewN | apply Bel.drew | apply Bel.alloc | refine Bel.trans ?_ (by assumption)))
  clear b0 b1 b2 b3 b4 ab0 ab1 ab2 ab3 ab4
  obtain ⟨c0, c1, c2⟩ := HB5.out w4 (Bel.refl _)
  have ac0 := fun o => ((Bel.refl w4).alloc o).cell c0
  have ac1 := fun o => ((Bel.refl w4).alloc o).cell c1
  have ac2 := fun o => ((Bel.refl w4).alloc o).cell c2
  go_wp2_with fail
  refine (iNegate l1 l2 l3 _).mono ?_
  rintro e w5 ⟨rfl, g5⟩
  have HN1 := Lib.hid (neg_holds hlo.1 HSF.out)
  have HN2 := Lib.hid (neg_neg hlo.1)
  have HSGN := Lib.hid (sign_some hlo.1)
  simp only at HN1 HN2 HSGN
  generalize hK : negL l1 l2 l3 = K at *
  obtain ⟨n1, n2, n3⟩ := K
  simp only [litV] at *
  have HOK := Lib.hid hlo.1
  have HB6 := Lib.hid (show ∀ W, Bel w5 W → W.cell? ⟨w4.heap.size, 0, none⟩ = some (.int .i64 o1) ∧ W.cell? ⟨w4.heap.size, 1, none⟩ = some (.int .i64 o2) ∧ W.cell? ⟨w4.heap.size, 2, none⟩ = some (.int .i64 o3) from fun W hW => ⟨hW.cell (g5.cell (by simp [go_sem])), hW.cell (g5.cell (by simp [go_sem])), hW.cell (g5.cell (by simp [go_sem]))⟩)
  have G5 : Bel w4 w5 := by (repeat (first | assumption | exact Bel.refl _ | apply Bel.drewN | apply Bel.drew | apply Bel.alloc | refine Bel.trans ?_ (by assumption)))
  clear c0 c1 c2 ac0 ac1 ac2 hlo hK
  have HALL := Lib.hid (show ∀ W, Bel (w5.alloc (.cells #[.int .i64 n1, .int .i64 n2, .int .i64 n3] 44)) W → W.cell? ⟨w1.heap.size, 0, none⟩ = some (.int .i64 P.1) ∧ W.cell? ⟨w1.heap.size, 1, none⟩ = some (.slice p1 P.2.1.length k1) ∧ W.cell? ⟨w1.heap.size, 2, none⟩ = some (.slice p2 P.2.2.1.length k2) ∧ W.cell? ⟨w1.heap.size, 3, none⟩ = some (.slice p3 P.2.2.2.1.length k3) ∧ W.cell? ⟨w1.heap.size, 4, none⟩ = some (.slice p4 P.2.2.2.2.length k4) ∧ W.cell? ⟨w2.heap.size, 0, none⟩ = some (.slice z0 Q.1.length e0) ∧ W.cell? ⟨w2.heap.size, 1, none⟩ = some (.slice z1 Q.2.length e1) ∧ W.cell? ⟨w3.heap.size, 0, none⟩ = some (.int .i64 l1) ∧ W.cell? ⟨w3.heap.size, 1, none⟩ = some (.int .i64 l2) ∧ W.cell? ⟨w3.heap.size, 2, none⟩ = some (.int .i64 l3) ∧ W.cell? ⟨w4.heap.size, 0, none⟩ = some (.int .i64 o1) ∧ W.cell? ⟨w4.heap.size, 1, none⟩ = some (.int .i64 o2) ∧ W.cell? ⟨w4.heap.size, 2, none⟩ = some (.int .i64 o3) ∧ W.cell? ⟨w5.heap.size, 0, none⟩ = some (.int .i64 n1) ∧ W.cell? ⟨w5.heap.size, 1, none⟩ = some (.int .i64 n2) ∧ W.cell? ⟨w5.heap.size, 2, none⟩ = some (.int .i64 n3) from fun W hW => by
    have hW5 : Bel w5 W := ((Bel.refl w5).alloc _).trans hW
    obtain ⟨a0, a1, a2, a3, a4⟩ := HB3.out W (G3.trans (G4.trans (G5.trans hW5)))
    obtain ⟨a5, a6⟩ := HB4.out W (G4.trans (G5.trans hW5))
    obtain ⟨a7, a8, a9⟩ := HB5.out W (G5.trans hW5)
    obtain ⟨a10, a11, a12⟩ := HB6.out W hW5
    exact ⟨a0, a1, a2, a3, a4, a5, a6, a7, a8, a9, a10, a11, a12, hW.cell (by simp [go_sem]), hW.cell (by simp [go_sem]), hW.cell (by simp [go_sem])⟩)
  obtain ⟨W6, hW6⟩ : ∃ W, W = w5.alloc (.cells #[.int .i64 n1, .int .i64 n2, .int .i64 n3] 44) := ⟨_, rfl⟩
  have G6 : Bel w5 W6 := by rw [hW6]; (repeat (first | assumption | exact Bel.refl _ | apply Bel.drewN | apply Bel.drew | apply Bel.alloc | refine Bel.trans ?_ (by assumption)))
  rw [← hW6] at HALL
  have HW6 := Lib.hid hW6
  clear hW6
  have hcm : cmpL o1 o2 o3 l1 l2 l3 = -cmpL l1 l2 l3 o1 o2 o3 := cmpL_swap _ _ _ _ _ _
  have hz := cmpL_zero l1 l2 l3 o1 o2 o3
  have hbd := cmpL_bd l1 l2 l3 o1 o2 o3
  obtain ⟨M, hMq⟩ : ∃ M, cmpL l1 l2 l3 o1 o2 o3 = M := ⟨_, rfl⟩
  rw [hMq] at hcm hz hbd
  have HC2 := Lib.hid hcm
  have HC1 := Lib.hid hMq
  obtain ⟨H, hH⟩ : ∃ H, litHolds (l1, l2, l3) Q = H := ⟨_, rfl⟩
  have HH1 := Lib.hid hH
  have HH2 := Lib.hid (show litHolds (n1, n2, n3) Q = !H from by rw [← hH]; exact HN1.out)
  have hb1 : (H != !H) = true := by cases H <;> rfl
  obtain ⟨sg, hsg⟩ : ∃ sg, signF l1 = sg := ⟨_, rfl⟩
  have HSG := Lib.hid hsg
  have hs0 : sg ≠ ⟨#[]⟩ := by rw [← hsg]; exact HSGN.out
  have hs3 : (sg.toList == (⟨#[]⟩ : ByteArray).toList) = false := beq_eq_false_iff_ne.2 fun h => hs0 (toList_inj h)
  have hs4 : (sg.toList == ([] : List UInt8)) = false := by
    have h := hs3
    rwa [show (⟨#[]⟩ : ByteArray).toList = [] from by rw [ByteArray.toList_eq]] at h
  clear hs3
  have HNN := Lib.hid HN2.out
  have hself := eqLitB_self l1 l2 l3
  clear hcm hH hsg hs0 hMq
  go_wp2_with fail
  rw [← HW6.out]
  have hwa : IntKind.i64.wrap (-1) = -1 := by rw [IntKind.wrap_i64]; decide
  have hwb : IntKind.i64.wrap 1 = 1 := by rw [IntKind.wrap_i64]; decide
  have hwc : IntKind.i64.wrap 0 = 0 := by rw [IntKind.wrap_i64]; decide
  have hwd : IntKind.i64.wrap (-(-1)) = 1 := by rw [IntKind.wrap_i64]; decide
  have hwe : IntKind.i64.wrap (-0) = 0 := by rw [IntKind.wrap_i64]; decide
  have hM : M = -1 ∨ M = 0 ∨ M = 1 := by omega
  rcases hM with rfl | rfl | rfl
  · have hef : eqLitB l1 l2 l3 o1 o2 o3 = false := by
      rw [← Bool.not_eq_true]
      intro h
      simp only [eqLitB, Bool.and_eq_true, beq_iff_eq] at h
      have := hz.2 h
      omega
    clear hz hbd
    have HC2 := Lib.hid (show cmpL o1 o2 o3 l1 l2 l3 = 1 from by rw [HC2.out]; first | done | rfl)
    refine wp_region_held_drew (S := (fun W => W.cell? ⟨w1.heap.size, 0, none⟩ = some (.int .i64 P.1) ∧ W.cell? ⟨w1.heap.size, 1, none⟩ = some (.slice p1 P.2.1.length k1) ∧ W.cell? ⟨w1.heap.size, 2, none⟩ = some (.slice p2 P.2.2.1.length k2) ∧ W.cell? ⟨w1.heap.size, 3, none⟩ = some (.slice p3 P.2.2.2.1.length k3) ∧ W.cell? ⟨w1.heap.size, 4, none⟩ = some (.slice p4 P.2.2.2.2.length k4) ∧ W.cell? ⟨w2.heap.size, 0, none⟩ = some (.slice z0 Q.1.length e0) ∧ W.cell? ⟨w2.heap.size, 1, none⟩ = some (.slice z1 Q.2.length e1) ∧ W.cell? ⟨w3.heap.size, 0, none⟩ = some (.int .i64 l1) ∧ W.cell? ⟨w3.heap.size, 1, none⟩ = some (.int .i64 l2) ∧ W.cell? ⟨w3.heap.size, 2, none⟩ = some (.int .i64 l3) ∧ W.cell? ⟨w4.heap.size, 0, none⟩ = some (.int .i64 o1) ∧ W.cell? ⟨w4.heap.size, 1, none⟩ = some (.int .i64 o2) ∧ W.cell? ⟨w4.heap.size, 2, none⟩ = some (.int .i64 o3) ∧ W.cell? ⟨w5.heap.size, 0, none⟩ = some (.int .i64 n1) ∧ W.cell? ⟨w5.heap.size, 1, none⟩ = some (.int .i64 n2) ∧ W.cell? ⟨w5.heap.size, 2, none⟩ = some (.int .i64 n3))) (by kernel_rfl) ?_ (fun hHeld => ?_)
    · ((try dsimp only); (first | exact keep16 (by assumption) (by assumption) | (with_reducible exact HALL.out _ (by (repeat (first | assumption | exact Bel.refl _ | apply Bel.drewN | apply Bel.drew | apply Bel.alloc | refine Bel.trans ?_ (by assumption))))) | exact HALL.out _ (by (repeat (first | assumption | exact Bel.refl _ | apply Bel.drewN | apply Bel.drew | apply Bel.alloc | refine Bel.trans ?_ (by assumption))))))
    refine wpAnyH_take (i := 0) (v := ?_) rfl (by kernel_rfl) (by kernel_rfl) (by kernel_rfl) (fun _ _ _ h => h) (Or.inl ⟨by rfl, ?_⟩) (by assumption) ?_
    rotate_left
    · (intro w hSw; (try dsimp only at hSw); go_simp <;> with_reducible rfl)
    try walk_nrm
    refine wpAnyH_take (i := 1) (v := ?_) rfl (by kernel_rfl) (by kernel_rfl) (by kernel_rfl) (fun _ _ _ h => h) (Or.inl ⟨by rfl, ?_⟩) (by assumption) ?_
    rotate_left
    · (intro w hSw; (try dsimp only at hSw); go_simp <;> with_reducible rfl)
    try walk_nrm
    refine wpAnyH_ready (rs := [2]) (by kernel_rfl) (by simp) ?_
    refine AllReadyH.cons rfl (fun K hK => ?_) AllReadyH.nil
    · go_simp
      (go_at_call 19; (with_reducible refine (iLiteralOk_any _ P (New w w1) (l1, l2, l3) _ (HPR.out _ (by (repeat (first | assumption | exact Bel.refl _ | apply Bel.drewN | apply Bel.drew | apply Bel.alloc | refine Bel.trans ?_ (by assumption))))).1 (HPR.out _ (by (repeat (first | assumption | exact Bel.refl _ | apply Bel.drewN | apply Bel.drew | apply Bel.alloc | refine Bel.trans ?_ (by assumption))))).2 HBP.out).mono ?_); rintro e wt ⟨rfl, gt⟩; rw [HOK.out])
      try go_wp2_with fail
      refine hK.out _ _ ?_ (fun hHeld => ?_)
      · ((try dsimp only); (first | exact keep16 (by assumption) (by assumption) | (with_reducible exact HALL.out _ (by (repeat (first | assumption | exact Bel.refl _ | apply Bel.drewN | apply Bel.drew | apply Bel.alloc | refine Bel.trans ?_ (by assumption))))) | exact HALL.out _ (by (repeat (first | assumption | exact Bel.refl _ | apply Bel.drewN | apply Bel.drew | apply Bel.alloc | refine Bel.trans ?_ (by assumption))))))
      clear hK K
      try walk_nrm
      refine wpAnyH_take (i := 3) (v := ?_) rfl (by kernel_rfl) (by kernel_rfl) (by kernel_rfl) (fun _ _ _ h => h) (Or.inl ⟨by rfl, ?_⟩) (by assumption) ?_
      rotate_left
      · (intro w hSw; (try dsimp only at hSw); go_simp <;> with_reducible rfl)
      try walk_nrm
      refine wpAnyH_take (i := 4) (v := ?_) rfl (by kernel_rfl) (by kernel_rfl) (by kernel_rfl) (fun _ _ _ h => h) (Or.inl ⟨by rfl, ?_⟩) (by assumption) ?_
      rotate_left
      · (intro w hSw; (try dsimp only at hSw); go_simp <;> with_reducible rfl)
      try walk_nrm
      refine wpAnyH_take (i := 5) (v := ?_) rfl (by kernel_rfl) (by kernel_rfl) (by kernel_rfl) (fun _ _ _ h => h) (Or.inl ⟨by rfl, ?_⟩) (by assumption) ?_
      rotate_left
      · (intro w hSw; (try dsimp only at hSw); go_simp <;> with_reducible rfl)
      try walk_nrm
      refine wpAnyH_take (i := 7) (v := ?_) rfl (by kernel_rfl) (by kernel_rfl) (by kernel_rfl) (fun _ _ _ h => h) (Or.inl ⟨by rfl, ?_⟩) (by assumption) ?_
      rotate_left
      · (intro w hSw; (try dsimp only at hSw); go_simp <;> with_reducible rfl)
      try walk_nrm
      refine wpAnyH_take (i := 8) (v := ?_) rfl (by kernel_rfl) (by kernel_rfl) (by kernel_rfl) (fun _ _ _ h => h) (Or.inl ⟨by rfl, ?_⟩) (by assumption) ?_
      rotate_left
      · (intro w hSw; (try dsimp only at hSw); go_simp <;> with_reducible rfl)
      try walk_nrm
      refine wpAnyH_ready (rs := [6]) (by kernel_rfl) (by simp) ?_
      refine AllReadyH.cons rfl (fun K hK => ?_) AllReadyH.nil
      · go_simp
        (go_at_call 20; (with_reducible refine (iLiteralHolds_any (l1, l2, l3) _ Q (New w1 w2) _ (HSR.out _ (by (repeat (first | assumption | exact Bel.refl _ | apply Bel.drewN | apply Bel.drew | apply Bel.alloc | refine Bel.trans ?_ (by assumption))))).1 (HSR.out _ (by (repeat (first | assumption | exact Bel.refl _ | apply Bel.drewN | apply Bel.drew | apply Bel.alloc | refine Bel.trans ?_ (by assumption))))).2 HBS.out).mono ?_); rintro e wt ⟨rfl, gt⟩; rw [HH1.out])
        try go_wp2_with fail
        refine hK.out _ _ ?_ (fun hHeld => ?_)
        · ((try dsimp only); (first | exact keep16 (by assumption) (by assumption) | (with_reducible exact HALL.out _ (by (repeat (first | assumption | exact Bel.refl _ | apply Bel.drewN | apply Bel.drew | apply Bel.alloc | refine Bel.trans ?_ (by assumption))))) | exact HALL.out _ (by (repeat (first | assumption | exact Bel.refl _ | apply Bel.drewN | apply Bel.drew | apply Bel.alloc | refine Bel.trans ?_ (by assumption))))))
        clear hK K
        try walk_nrm
        refine wpAnyH_ready (rs := [9]) (by kernel_rfl) (by simp) ?_
        refine AllReadyH.cons rfl (fun K hK => ?_) AllReadyH.nil
        · go_simp
          (go_at_call 20; (with_reducible refine (iLiteralHolds_any (n1, n2, n3) _ Q (New w1 w2) _ (HSR.out _ (by (repeat (first | assumption | exact Bel.refl _ | apply Bel.drewN | apply Bel.drew | apply Bel.alloc | refine Bel.trans ?_ (by assumption))))).1 (HSR.out _ (by (repeat (first | assumption | exact Bel.refl _ | apply Bel.drewN | apply Bel.drew | apply Bel.alloc | refine Bel.trans ?_ (by assumption))))).2 HBS.out).mono ?_); rintro e wt ⟨rfl, gt⟩; rw [HH2.out])
          try go_wp2_with fail
          refine hK.out _ _ ?_ (fun hHeld => ?_)
          · ((try dsimp only); (first | exact keep16 (by assumption) (by assumption) | (with_reducible exact HALL.out _ (by (repeat (first | assumption | exact Bel.refl _ | apply Bel.drewN | apply Bel.drew | apply Bel.alloc | refine Bel.trans ?_ (by assumption))))) | exact HALL.out _ (by (repeat (first | assumption | exact Bel.refl _ | apply Bel.drewN | apply Bel.drew | apply Bel.alloc | refine Bel.trans ?_ (by assumption))))))
          clear hK K
          try walk_nrm
          refine wpAnyH_take (i := 10) (v := ?_) rfl (by kernel_rfl) (by kernel_rfl) (by kernel_rfl) (fun _ _ _ h => h) (Or.inl ⟨by rfl, ?_⟩) (by assumption) ?_
          rotate_left
          · (intro w hSw; (try dsimp only at hSw); go_simp <;> with_reducible rfl)
          try walk_nrm
          refine wpAnyH_take (i := 11) (v := ?_) rfl (by kernel_rfl) (by kernel_rfl) (by kernel_rfl) (fun _ _ _ h => h) (Or.inl ⟨by rfl, ?_⟩) (by assumption) ?_
          rotate_left
          · (intro w hSw; (try dsimp only at hSw); go_simp <;> with_reducible rfl)
          try walk_nrm
          refine wpAnyH_take (i := 12) (v := ?_) rfl (by kernel_rfl) (by kernel_rfl) (by kernel_rfl) (fun _ _ _ h => h) (Or.inl ⟨by rfl, ?_⟩) (by assumption) ?_
          rotate_left
          · (intro w hSw; (try dsimp only at hSw); go_simp <;> with_reducible rfl)
          try walk_nrm
          refine wpAnyH_take (i := 13) (v := ?_) rfl (by kernel_rfl) (by kernel_rfl) (by kernel_rfl) (fun _ _ _ h => h) (Or.inl ⟨by rfl, ?_⟩) (by assumption) ?_
          rotate_left
          · (intro w hSw; (try dsimp only at hSw); go_simp <;> with_reducible rfl)
          try walk_nrm
          refine wpAnyH_take (i := 15) (v := ?_) rfl (by kernel_rfl) (by kernel_rfl) (by kernel_rfl) (fun _ _ _ h => h) (Or.inl ⟨by rfl, ?_⟩) (by assumption) ?_
          rotate_left
          · (intro w hSw; (try dsimp only at hSw); go_simp <;> with_reducible rfl)
          try walk_nrm
          refine wpAnyH_ready (rs := [14]) (by kernel_rfl) (by simp) ?_
          refine AllReadyH.cons rfl (fun K hK => ?_) AllReadyH.nil
          · go_simp
            (go_at_call 18; (with_reducible refine (iNegate n1 n2 n3 _).mono ?_); rintro e wt ⟨rfl, gt⟩; rw [HNN.out]; simp only [litV])
            try go_wp2_with fail
            refine hK.out _ _ ?_ (fun hHeld => ?_)
            · ((try dsimp only); (first | exact keep16 (by assumption) (by assumption) | (with_reducible exact HALL.out _ (by (repeat (first | assumption | exact Bel.refl _ | apply Bel.drewN | apply Bel.drew | apply Bel.alloc | refine Bel.trans ?_ (by assumption))))) | exact HALL.out _ (by (repeat (first | assumption | exact Bel.refl _ | apply Bel.drewN | apply Bel.drew | apply Bel.alloc | refine Bel.trans ?_ (by assumption))))))
            clear hK K
            try walk_nrm
            refine wpAnyH_take (i := 16) (v := ?_) rfl (by kernel_rfl) (by kernel_rfl) (by kernel_rfl) (fun _ _ _ h => h) (Or.inl ⟨by rfl, ?_⟩) (by assumption) ?_
            rotate_left
            · (intro w hSw; (try dsimp only at hSw); go_simp <;> with_reducible rfl)
            try walk_nrm
            refine wpAnyH_take (i := 17) (v := ?_) rfl (by kernel_rfl) (by kernel_rfl) (by kernel_rfl) (fun _ _ _ h => h) (Or.inl ⟨by rfl, ?_⟩) (by assumption) ?_
            rotate_left
            · (intro w hSw; (try dsimp only at hSw); go_simp <;> with_reducible rfl)
            try walk_nrm
            refine wpAnyH_take (i := 18) (v := ?_) rfl (by kernel_rfl) (by kernel_rfl) (by kernel_rfl) (fun _ _ _ h => h) (Or.inl ⟨by rfl, ?_⟩) (by assumption) ?_
            rotate_left
            · (intro w hSw; (try dsimp only at hSw); go_simp <;> with_reducible rfl)
            try walk_nrm
            refine wpAnyH_take (i := 19) (v := ?_) rfl (by kernel_rfl) (by kernel_rfl) (by kernel_rfl) (fun _ _ _ h => h) (Or.inl ⟨by rfl, ?_⟩) (by assumption) ?_
            rotate_left
            · (intro w hSw; (try dsimp only at hSw); go_simp <;> with_reducible rfl)
            try walk_nrm
            refine wpAnyH_take (i := 20) (v := ?_) rfl (by kernel_rfl) (by kernel_rfl) (by kernel_rfl) (fun _ _ _ h => h) (Or.inl ⟨by rfl, ?_⟩) (by assumption) ?_
            rotate_left
            · (intro w hSw; (try dsimp only at hSw); go_simp <;> with_reducible rfl)
            try walk_nrm
            refine wpAnyH_take (i := 22) (v := ?_) rfl (by kernel_rfl) (by kernel_rfl) (by kernel_rfl) (fun _ _ _ h => h) (Or.inl ⟨by rfl, ?_⟩) (by assumption) ?_
            rotate_left
            · (intro w hSw; (try dsimp only at hSw); go_simp <;> with_reducible rfl)
            try walk_nrm
            refine wpAnyH_take (i := 23) (v := ?_) rfl (by kernel_rfl) (by kernel_rfl) (by kernel_rfl) (fun _ _ _ h => h) (Or.inl ⟨by rfl, ?_⟩) (by assumption) ?_
            rotate_left
            · (intro w hSw; (try dsimp only at hSw); go_simp <;> with_reducible rfl)
            try walk_nrm
            refine wpAnyH_ready (rs := [21]) (by kernel_rfl) (by simp) ?_
            refine AllReadyH.cons rfl (fun K hK => ?_) AllReadyH.nil
            · go_simp
              (go_at_call 21; (with_reducible refine (iCompareLiterals l1 l2 l3 o1 o2 o3 _).mono ?_); rintro e wt ⟨rfl, gt⟩; rw [HC1.out])
              try go_wp2_with fail
              refine hK.out _ _ ?_ (fun hHeld => ?_)
              · ((try dsimp only); (first | exact keep16 (by assumption) (by assumption) | (with_reducible exact HALL.out _ (by (repeat (first | assumption | exact Bel.refl _ | apply Bel.drewN | apply Bel.drew | apply Bel.alloc | refine Bel.trans ?_ (by assumption))))) | exact HALL.out _ (by (repeat (first | assumption | exact Bel.refl _ | apply Bel.drewN | apply Bel.drew | apply Bel.alloc | refine Bel.trans ?_ (by assumption))))))
              clear hK K
              try walk_nrm
              refine wpAnyH_ready (rs := [24]) (by kernel_rfl) (by simp) ?_
              refine AllReadyH.cons rfl (fun K hK => ?_) AllReadyH.nil
              · go_simp
                (go_at_call 21; (with_reducible refine (iCompareLiterals o1 o2 o3 l1 l2 l3 _).mono ?_); rintro e wt ⟨rfl, gt⟩; rw [HC2.out])
                try go_wp2_with fail
                refine hK.out _ _ ?_ (fun hHeld => ?_)
                · ((try dsimp only); (first | exact keep16 (by assumption) (by assumption) | (with_reducible exact HALL.out _ (by (repeat (first | assumption | exact Bel.refl _ | apply Bel.drewN | apply Bel.drew | apply Bel.alloc | refine Bel.trans ?_ (by assumption))))) | exact HALL.out _ (by (repeat (first | assumption | exact Bel.refl _ | apply Bel.drewN | apply Bel.drew | apply Bel.alloc | refine Bel.trans ?_ (by assumption))))))
                clear hK K
                try walk_nrm
                refine wpAnyH_take (i := 25) (v := ?_) rfl (by kernel_rfl) (by kernel_rfl) (by kernel_rfl) (fun _ _ _ h => h) (Or.inl ⟨by rfl, ?_⟩) (by assumption) ?_
                rotate_left
                · (intro w hSw; (try dsimp only at hSw); go_simp <;> with_reducible rfl)
                try walk_nrm
                refine wpAnyH_take (i := 26) (v := ?_) rfl (by kernel_rfl) (by kernel_rfl) (by kernel_rfl) (fun _ _ _ h => h) (Or.inl ⟨by rfl, ?_⟩) (by assumption) ?_
                rotate_left
                · (intro w hSw; (try dsimp only at hSw); go_simp <;> with_reducible rfl)
                try walk_nrm
                refine wpAnyH_take (i := 27) (v := ?_) rfl (by kernel_rfl) (by kernel_rfl) (by kernel_rfl) (fun _ _ _ h => h) (Or.inl ⟨by rfl, ?_⟩) (by assumption) ?_
                rotate_left
                · (intro w hSw; (try dsimp only at hSw); go_simp <;> with_reducible rfl)
                try walk_nrm
                refine wpAnyH_take (i := 28) (v := ?_) rfl (by kernel_rfl) (by kernel_rfl) (by kernel_rfl) (fun _ _ _ h => h) (Or.inl ⟨by rfl, ?_⟩) (by assumption) ?_
                rotate_left
                · (intro w hSw; (try dsimp only at hSw); go_simp <;> with_reducible rfl)
                try walk_nrm
                refine wpAnyH_take (i := 29) (v := ?_) rfl (by kernel_rfl) (by kernel_rfl) (by kernel_rfl) (fun _ _ _ h => h) (Or.inl ⟨by rfl, ?_⟩) (by assumption) ?_
                rotate_left
                · (intro w hSw; (try dsimp only at hSw); go_simp <;> with_reducible rfl)
                try walk_nrm
                refine wpAnyH_take (i := 30) (v := ?_) rfl (by kernel_rfl) (by kernel_rfl) (by kernel_rfl) (fun _ _ _ h => h) (Or.inl ⟨by rfl, ?_⟩) (by assumption) ?_
                rotate_left
                · (intro w hSw; (try dsimp only at hSw); go_simp <;> with_reducible rfl)
                try walk_nrm
                refine wpAnyH_take (i := 33) (v := ?_) rfl (by kernel_rfl) (by kernel_rfl) (by kernel_rfl) (fun _ _ _ h => h) (Or.inl ⟨by rfl, ?_⟩) (by assumption) ?_
                rotate_left
                · (intro w hSw; (try dsimp only at hSw); go_simp <;> with_reducible rfl)
                try walk_nrm
                refine wpAnyH_take (i := 34) (v := ?_) rfl (by kernel_rfl) (by kernel_rfl) (by kernel_rfl) (fun _ _ _ h => h) (Or.inl ⟨by rfl, ?_⟩) (by assumption) ?_
                rotate_left
                · (intro w hSw; (try dsimp only at hSw); go_simp <;> with_reducible rfl)
                try walk_nrm
                refine wpAnyH_take (i := 35) (v := ?_) rfl (by kernel_rfl) (by kernel_rfl) (by kernel_rfl) (fun _ _ _ h => h) (Or.inl ⟨by rfl, ?_⟩) (by assumption) ?_
                rotate_left
                · (intro w hSw; (try dsimp only at hSw); go_simp <;> with_reducible rfl)
                try walk_nrm
                refine wpAnyH_ready (rs := [31]) (by kernel_rfl) (by simp) ?_
                refine AllReadyH.cons rfl (fun K hK => ?_) AllReadyH.nil
                · go_simp
                  (go_at_call 21; (with_reducible refine (iCompareLiterals l1 l2 l3 o1 o2 o3 _).mono ?_); rintro e wt ⟨rfl, gt⟩; rw [HC1.out])
                  try go_wp2_with fail
                  refine hK.out _ _ ?_ (fun hHeld => ?_)
                  · ((try dsimp only); (first | exact keep16 (by assumption) (by assumption) | (with_reducible exact HALL.out _ (by (repeat (first | assumption | exact Bel.refl _ | apply Bel.drewN | apply Bel.drew | apply Bel.alloc | refine Bel.trans ?_ (by assumption))))) | exact HALL.out _ (by (repeat (first | assumption | exact Bel.refl _ | apply Bel.drewN | apply Bel.drew | apply Bel.alloc | refine Bel.trans ?_ (by assumption))))))
                  clear hK K
                  try walk_nrm
                  refine wpAnyH_take (i := 32) (v := ?_) rfl (by kernel_rfl) (by kernel_rfl) (by kernel_rfl) (fun _ _ _ h => h) (Or.inl ⟨by rfl, ?_⟩) (by assumption) ?_
                  rotate_left
                  · (intro w hSw; (try dsimp only at hSw); go_simp <;> with_reducible rfl)
                  try walk_nrm
                  refine wpAnyH_take (i := 36) (v := ?_) rfl (by kernel_rfl) (by kernel_rfl) (by kernel_rfl) (fun _ _ _ h => h) (Or.inl ⟨by rfl, ?_⟩) (by assumption) ?_
                  rotate_left
                  · (intro w hSw; (try dsimp only at hSw); go_simp <;> with_reducible rfl)
                  try walk_nrm
                  refine wpAnyH_take (i := 37) (v := ?_) rfl (by kernel_rfl) (by kernel_rfl) (by kernel_rfl) (fun _ _ _ h => h) (Or.inl ⟨by rfl, ?_⟩) (by assumption) ?_
                  rotate_left
                  · (intro w hSw; (try dsimp only at hSw); go_simp <;> with_reducible rfl)
                  try walk_nrm
                  refine wpAnyH_take (i := 38) (v := ?_) rfl (by kernel_rfl) (by kernel_rfl) (by kernel_rfl) (fun _ _ _ h => h) (Or.inl ⟨by rfl, ?_⟩) (by assumption) ?_
                  rotate_left
                  · (intro w hSw; (try dsimp only at hSw); go_simp <;> with_reducible rfl)
                  try walk_nrm
                  refine wpAnyH_take (i := 39) (v := ?_) rfl (by kernel_rfl) (by kernel_rfl) (by kernel_rfl) (fun _ _ _ h => h) (Or.inl ⟨by rfl, ?_⟩) (by assumption) ?_
                  rotate_left
                  · (intro w hSw; (try dsimp only at hSw); go_simp <;> with_reducible rfl)
                  try walk_nrm
                  refine wpAnyH_take (i := 40) (v := ?_) rfl (by kernel_rfl) (by kernel_rfl) (by kernel_rfl) (fun _ _ _ h => h) (Or.inl ⟨by rfl, ?_⟩) (by assumption) ?_
                  rotate_left
                  · (intro w hSw; (try dsimp only at hSw); go_simp <;> with_reducible rfl)
                  try walk_nrm
                  refine wpAnyH_ready (rs := [41]) (by kernel_rfl) (by simp) ?_
                  refine AllReadyH.cons rfl (fun K hK => ?_) AllReadyH.nil
                  · go_simp
                    (go_at_call 22; (with_reducible refine (iLiteralSign l1 _).mono ?_); rintro e wt ⟨rfl, rfl⟩; rw [HSG.out])
                    try go_wp2_with fail
                    refine hK.out _ _ ?_ (fun hHeld => ?_)
                    · ((try dsimp only); (first | exact keep16 (by assumption) (by assumption) | (with_reducible exact HALL.out _ (by (repeat (first | assumption | exact Bel.refl _ | apply Bel.drewN | apply Bel.drew | apply Bel.alloc | refine Bel.trans ?_ (by assumption))))) | exact HALL.out _ (by (repeat (first | assumption | exact Bel.refl _ | apply Bel.drewN | apply Bel.drew | apply Bel.alloc | refine Bel.trans ?_ (by assumption))))))
                    clear hK K
                    try walk_nrm
                    refine wpAnyH_take (i := 42) (v := ?_) rfl (by kernel_rfl) (by kernel_rfl) (by kernel_rfl) (fun _ _ _ h => h) (Or.inl ⟨by rfl, ?_⟩) (by assumption) ?_
                    rotate_left
                    · (intro w hSw; (try dsimp only at hSw); go_simp <;> with_reducible rfl)
                    try walk_nrm
                    refine wpAnyH_take (i := 43) (v := ?_) rfl (by kernel_rfl) (by kernel_rfl) (by kernel_rfl) (fun _ _ _ h => h) (Or.inl ⟨by rfl, ?_⟩) (by assumption) ?_
                    rotate_left
                    · (intro w hSw; (try dsimp only at hSw); go_simp <;> with_reducible rfl)
                    try walk_nrm
                    refine wpAnyH_take (i := 44) (v := ?_) rfl (by kernel_rfl) (by kernel_rfl) (by kernel_rfl) (fun _ _ _ h => h) (Or.inl ⟨by rfl, ?_⟩) (by assumption) ?_
                    rotate_left
                    · (intro w hSw; (try dsimp only at hSw); go_simp <;> with_reducible rfl)
                    try walk_nrm
                    refine wpAnyH_done (by kernel_rfl) ?_ _
                    go_wp2_with fail
                    go_ret
                    exact ⟨rfl, by (repeat (first | assumption | exact Bel.refl _ | apply Bel.drewN | apply Bel.drew | apply Bel.alloc | refine Bel.trans ?_ (by assumption)))⟩
  · obtain ⟨rfl, rfl, rfl⟩ := hz.1 rfl
    clear hz hbd
    refine wp_region_held_drew (S := (fun W => W.cell? ⟨w1.heap.size, 0, none⟩ = some (.int .i64 P.1) ∧ W.cell? ⟨w1.heap.size, 1, none⟩ = some (.slice p1 P.2.1.length k1) ∧ W.cell? ⟨w1.heap.size, 2, none⟩ = some (.slice p2 P.2.2.1.length k2) ∧ W.cell? ⟨w1.heap.size, 3, none⟩ = some (.slice p3 P.2.2.2.1.length k3) ∧ W.cell? ⟨w1.heap.size, 4, none⟩ = some (.slice p4 P.2.2.2.2.length k4) ∧ W.cell? ⟨w2.heap.size, 0, none⟩ = some (.slice z0 Q.1.length e0) ∧ W.cell? ⟨w2.heap.size, 1, none⟩ = some (.slice z1 Q.2.length e1) ∧ W.cell? ⟨w3.heap.size, 0, none⟩ = some (.int .i64 l1) ∧ W.cell? ⟨w3.heap.size, 1, none⟩ = some (.int .i64 l2) ∧ W.cell? ⟨w3.heap.size, 2, none⟩ = some (.int .i64 l3) ∧ W.cell? ⟨w4.heap.size, 0, none⟩ = some (.int .i64 l1) ∧ W.cell? ⟨w4.heap.size, 1, none⟩ = some (.int .i64 l2) ∧ W.cell? ⟨w4.heap.size, 2, none⟩ = some (.int .i64 l3) ∧ W.cell? ⟨w5.heap.size, 0, none⟩ = some (.int .i64 n1) ∧ W.cell? ⟨w5.heap.size, 1, none⟩ = some (.int .i64 n2) ∧ W.cell? ⟨w5.heap.size, 2, none⟩ = some (.int .i64 n3))) (by kernel_rfl) ?_ (fun hHeld => ?_)
    · ((try dsimp only); (first | exact keep16 (by assumption) (by assumption) | (with_reducible exact HALL.out _ (by (repeat (first | assumption | exact Bel.refl _ | apply Bel.drewN | apply Bel.drew | apply Bel.alloc | refine Bel.trans ?_ (by assumption))))) | exact HALL.out _ (by (repeat (first | assumption | exact Bel.refl _ | apply Bel.drewN | apply Bel.drew | apply Bel.alloc | refine Bel.trans ?_ (by assumption))))))
    refine wpAnyH_take (i := 0) (v := ?_) rfl (by kernel_rfl) (by kernel_rfl) (by kernel_rfl) (fun _ _ _ h => h) (Or.inl ⟨by rfl, ?_⟩) (by assumption) ?_
    rotate_left
    · (intro w hSw; (try dsimp only at hSw); go_simp <;> with_reducible rfl)
    try walk_nrm
    refine wpAnyH_take (i := 1) (v := ?_) rfl (by kernel_rfl) (by kernel_rfl) (by kernel_rfl) (fun _ _ _ h => h) (Or.inl ⟨by rfl, ?_⟩) (by assumption) ?_
    rotate_left
    · (intro w hSw; (try dsimp only at hSw); go_simp <;> with_reducible rfl)
    try walk_nrm
    refine wpAnyH_ready (rs := [2]) (by kernel_rfl) (by simp) ?_
    refine AllReadyH.cons rfl (fun K hK => ?_) AllReadyH.nil
    · go_simp
      (go_at_call 19; (with_reducible refine (iLiteralOk_any _ P (New w w1) (l1, l2, l3) _ (HPR.out _ (by (repeat (first | assumption | exact Bel.refl _ | apply Bel.drewN | apply Bel.drew | apply Bel.alloc | refine Bel.trans ?_ (by assumption))))).1 (HPR.out _ (by (repeat (first | assumption | exact Bel.refl _ | apply Bel.drewN | apply Bel.drew | apply Bel.alloc | refine Bel.trans ?_ (by assumption))))).2 HBP.out).mono ?_); rintro e wt ⟨rfl, gt⟩; rw [HOK.out])
      try go_wp2_with fail
      refine hK.out _ _ ?_ (fun hHeld => ?_)
      · ((try dsimp only); (first | exact keep16 (by assumption) (by assumption) | (with_reducible exact HALL.out _ (by (repeat (first | assumption | exact Bel.refl _ | apply Bel.drewN | apply Bel.drew | apply Bel.alloc | refine Bel.trans ?_ (by assumption))))) | exact HALL.out _ (by (repeat (first | assumption | exact Bel.refl _ | apply Bel.drewN | apply Bel.drew | apply Bel.alloc | refine Bel.trans ?_ (by assumption))))))
      clear hK K
      try walk_nrm
      refine wpAnyH_take (i := 3) (v := ?_) rfl (by kernel_rfl) (by kernel_rfl) (by kernel_rfl) (fun _ _ _ h => h) (Or.inl ⟨by rfl, ?_⟩) (by assumption) ?_
      rotate_left
      · (intro w hSw; (try dsimp only at hSw); go_simp <;> with_reducible rfl)
      try walk_nrm
      refine wpAnyH_take (i := 4) (v := ?_) rfl (by kernel_rfl) (by kernel_rfl) (by kernel_rfl) (fun _ _ _ h => h) (Or.inl ⟨by rfl, ?_⟩) (by assumption) ?_
      rotate_left
      · (intro w hSw; (try dsimp only at hSw); go_simp <;> with_reducible rfl)
      try walk_nrm
      refine wpAnyH_take (i := 5) (v := ?_) rfl (by kernel_rfl) (by kernel_rfl) (by kernel_rfl) (fun _ _ _ h => h) (Or.inl ⟨by rfl, ?_⟩) (by assumption) ?_
      rotate_left
      · (intro w hSw; (try dsimp only at hSw); go_simp <;> with_reducible rfl)
      try walk_nrm
      refine wpAnyH_take (i := 7) (v := ?_) rfl (by kernel_rfl) (by kernel_rfl) (by kernel_rfl) (fun _ _ _ h => h) (Or.inl ⟨by rfl, ?_⟩) (by assumption) ?_
      rotate_left
      · (intro w hSw; (try dsimp only at hSw); go_simp <;> with_reducible rfl)
      try walk_nrm
      refine wpAnyH_take (i := 8) (v := ?_) rfl (by kernel_rfl) (by kernel_rfl) (by kernel_rfl) (fun _ _ _ h => h) (Or.inl ⟨by rfl, ?_⟩) (by assumption) ?_
      rotate_left
      · (intro w hSw; (try dsimp only at hSw); go_simp <;> with_reducible rfl)
      try walk_nrm
      refine wpAnyH_ready (rs := [6]) (by kernel_rfl) (by simp) ?_
      refine AllReadyH.cons rfl (fun K hK => ?_) AllReadyH.nil
      · go_simp
        (go_at_call 20; (with_reducible refine (iLiteralHolds_any (l1, l2, l3) _ Q (New w1 w2) _ (HSR.out _ (by (repeat (first | assumption | exact Bel.refl _ | apply Bel.drewN | apply Bel.drew | apply Bel.alloc | refine Bel.trans ?_ (by assumption))))).1 (HSR.out _ (by (repeat (first | assumption | exact Bel.refl _ | apply Bel.drewN | apply Bel.drew | apply Bel.alloc | refine Bel.trans ?_ (by assumption))))).2 HBS.out).mono ?_); rintro e wt ⟨rfl, gt⟩; rw [HH1.out])
        try go_wp2_with fail
        refine hK.out _ _ ?_ (fun hHeld => ?_)
        · ((try dsimp only); (first | exact keep16 (by assumption) (by assumption) | (with_reducible exact HALL.out _ (by (repeat (first | assumption | exact Bel.refl _ | apply Bel.drewN | apply Bel.drew | apply Bel.alloc | refine Bel.trans ?_ (by assumption))))) | exact HALL.out _ (by (repeat (first | assumption | exact Bel.refl _ | apply Bel.drewN | apply Bel.drew | apply Bel.alloc | refine Bel.trans ?_ (by assumption))))))
        clear hK K
        try walk_nrm
        refine wpAnyH_ready (rs := [9]) (by kernel_rfl) (by simp) ?_
        refine AllReadyH.cons rfl (fun K hK => ?_) AllReadyH.nil
        · go_simp
          (go_at_call 20; (with_reducible refine (iLiteralHolds_any (n1, n2, n3) _ Q (New w1 w2) _ (HSR.out _ (by (repeat (first | assumption | exact Bel.refl _ | apply Bel.drewN | apply Bel.drew | apply Bel.alloc | refine Bel.trans ?_ (by assumption))))).1 (HSR.out _ (by (repeat (first | assumption | exact Bel.refl _ | apply Bel.drewN | apply Bel.drew | apply Bel.alloc | refine Bel.trans ?_ (by assumption))))).2 HBS.out).mono ?_); rintro e wt ⟨rfl, gt⟩; rw [HH2.out])
          try go_wp2_with fail
          refine hK.out _ _ ?_ (fun hHeld => ?_)
          · ((try dsimp only); (first | exact keep16 (by assumption) (by assumption) | (with_reducible exact HALL.out _ (by (repeat (first | assumption | exact Bel.refl _ | apply Bel.drewN | apply Bel.drew | apply Bel.alloc | refine Bel.trans ?_ (by assumption))))) | exact HALL.out _ (by (repeat (first | assumption | exact Bel.refl _ | apply Bel.drewN | apply Bel.drew | apply Bel.alloc | refine Bel.trans ?_ (by assumption))))))
          clear hK K
          try walk_nrm
          refine wpAnyH_take (i := 10) (v := ?_) rfl (by kernel_rfl) (by kernel_rfl) (by kernel_rfl) (fun _ _ _ h => h) (Or.inl ⟨by rfl, ?_⟩) (by assumption) ?_
          rotate_left
          · (intro w hSw; (try dsimp only at hSw); go_simp <;> with_reducible rfl)
          try walk_nrm
          refine wpAnyH_take (i := 11) (v := ?_) rfl (by kernel_rfl) (by kernel_rfl) (by kernel_rfl) (fun _ _ _ h => h) (Or.inl ⟨by rfl, ?_⟩) (by assumption) ?_
          rotate_left
          · (intro w hSw; (try dsimp only at hSw); go_simp <;> with_reducible rfl)
          try walk_nrm
          refine wpAnyH_take (i := 12) (v := ?_) rfl (by kernel_rfl) (by kernel_rfl) (by kernel_rfl) (fun _ _ _ h => h) (Or.inl ⟨by rfl, ?_⟩) (by assumption) ?_
          rotate_left
          · (intro w hSw; (try dsimp only at hSw); go_simp <;> with_reducible rfl)
          try walk_nrm
          refine wpAnyH_take (i := 13) (v := ?_) rfl (by kernel_rfl) (by kernel_rfl) (by kernel_rfl) (fun _ _ _ h => h) (Or.inl ⟨by rfl, ?_⟩) (by assumption) ?_
          rotate_left
          · (intro w hSw; (try dsimp only at hSw); go_simp <;> with_reducible rfl)
          try walk_nrm
          refine wpAnyH_take (i := 15) (v := ?_) rfl (by kernel_rfl) (by kernel_rfl) (by kernel_rfl) (fun _ _ _ h => h) (Or.inl ⟨by rfl, ?_⟩) (by assumption) ?_
          rotate_left
          · (intro w hSw; (try dsimp only at hSw); go_simp <;> with_reducible rfl)
          try walk_nrm
          refine wpAnyH_ready (rs := [14]) (by kernel_rfl) (by simp) ?_
          refine AllReadyH.cons rfl (fun K hK => ?_) AllReadyH.nil
          · go_simp
            (go_at_call 18; (with_reducible refine (iNegate n1 n2 n3 _).mono ?_); rintro e wt ⟨rfl, gt⟩; rw [HNN.out]; simp only [litV])
            try go_wp2_with fail
            refine hK.out _ _ ?_ (fun hHeld => ?_)
            · ((try dsimp only); (first | exact keep16 (by assumption) (by assumption) | (with_reducible exact HALL.out _ (by (repeat (first | assumption | exact Bel.refl _ | apply Bel.drewN | apply Bel.drew | apply Bel.alloc | refine Bel.trans ?_ (by assumption))))) | exact HALL.out _ (by (repeat (first | assumption | exact Bel.refl _ | apply Bel.drewN | apply Bel.drew | apply Bel.alloc | refine Bel.trans ?_ (by assumption))))))
            clear hK K
            try walk_nrm
            refine wpAnyH_take (i := 16) (v := ?_) rfl (by kernel_rfl) (by kernel_rfl) (by kernel_rfl) (fun _ _ _ h => h) (Or.inl ⟨by rfl, ?_⟩) (by assumption) ?_
            rotate_left
            · (intro w hSw; (try dsimp only at hSw); go_simp <;> with_reducible rfl)
            try walk_nrm
            refine wpAnyH_take (i := 17) (v := ?_) rfl (by kernel_rfl) (by kernel_rfl) (by kernel_rfl) (fun _ _ _ h => h) (Or.inl ⟨by rfl, ?_⟩) (by assumption) ?_
            rotate_left
            · (intro w hSw; (try dsimp only at hSw); go_simp <;> with_reducible rfl)
            try walk_nrm
            refine wpAnyH_take (i := 18) (v := ?_) rfl (by kernel_rfl) (by kernel_rfl) (by kernel_rfl) (fun _ _ _ h => h) (Or.inl ⟨by rfl, ?_⟩) (by assumption) ?_
            rotate_left
            · (intro w hSw; (try dsimp only at hSw); go_simp <;> with_reducible rfl)
            try walk_nrm
            refine wpAnyH_take (i := 19) (v := ?_) rfl (by kernel_rfl) (by kernel_rfl) (by kernel_rfl) (fun _ _ _ h => h) (Or.inl ⟨by rfl, ?_⟩) (by assumption) ?_
            rotate_left
            · (intro w hSw; (try dsimp only at hSw); go_simp <;> with_reducible rfl)
            try walk_nrm
            refine wpAnyH_take (i := 20) (v := ?_) rfl (by kernel_rfl) (by kernel_rfl) (by kernel_rfl) (fun _ _ _ h => h) (Or.inl ⟨by rfl, ?_⟩) (by assumption) ?_
            rotate_left
            · (intro w hSw; (try dsimp only at hSw); go_simp <;> with_reducible rfl)
            try walk_nrm
            refine wpAnyH_take (i := 22) (v := ?_) rfl (by kernel_rfl) (by kernel_rfl) (by kernel_rfl) (fun _ _ _ h => h) (Or.inl ⟨by rfl, ?_⟩) (by assumption) ?_
            rotate_left
            · (intro w hSw; (try dsimp only at hSw); go_simp <;> with_reducible rfl)
            try walk_nrm
            refine wpAnyH_take (i := 23) (v := ?_) rfl (by kernel_rfl) (by kernel_rfl) (by kernel_rfl) (fun _ _ _ h => h) (Or.inl ⟨by rfl, ?_⟩) (by assumption) ?_
            rotate_left
            · (intro w hSw; (try dsimp only at hSw); go_simp <;> with_reducible rfl)
            try walk_nrm
            refine wpAnyH_ready (rs := [21]) (by kernel_rfl) (by simp) ?_
            refine AllReadyH.cons rfl (fun K hK => ?_) AllReadyH.nil
            · go_simp
              (go_at_call 21; (with_reducible refine (iCompareLiterals l1 l2 l3 l1 l2 l3 _).mono ?_); rintro e wt ⟨rfl, gt⟩; rw [HC1.out])
              try go_wp2_with fail
              refine hK.out _ _ ?_ (fun hHeld => ?_)
              · ((try dsimp only); (first | exact keep16 (by assumption) (by assumption) | (with_reducible exact HALL.out _ (by (repeat (first | assumption | exact Bel.refl _ | apply Bel.drewN | apply Bel.drew | apply Bel.alloc | refine Bel.trans ?_ (by assumption))))) | exact HALL.out _ (by (repeat (first | assumption | exact Bel.refl _ | apply Bel.drewN | apply Bel.drew | apply Bel.alloc | refine Bel.trans ?_ (by assumption))))))
              clear hK K
              try walk_nrm
              refine wpAnyH_ready (rs := [24]) (by kernel_rfl) (by simp) ?_
              refine AllReadyH.cons rfl (fun K hK => ?_) AllReadyH.nil
              · go_simp
                (go_at_call 21; (with_reducible refine (iCompareLiterals l1 l2 l3 l1 l2 l3 _).mono ?_); rintro e wt ⟨rfl, gt⟩; rw [HC2.out])
                try go_wp2_with fail
                refine hK.out _ _ ?_ (fun hHeld => ?_)
                · ((try dsimp only); (first | exact keep16 (by assumption) (by assumption) | (with_reducible exact HALL.out _ (by (repeat (first | assumption | exact Bel.refl _ | apply Bel.drewN | apply Bel.drew | apply Bel.alloc | refine Bel.trans ?_ (by assumption))))) | exact HALL.out _ (by (repeat (first | assumption | exact Bel.refl _ | apply Bel.drewN | apply Bel.drew | apply Bel.alloc | refine Bel.trans ?_ (by assumption))))))
                clear hK K
                try walk_nrm
                refine wpAnyH_take (i := 25) (v := ?_) rfl (by kernel_rfl) (by kernel_rfl) (by kernel_rfl) (fun _ _ _ h => h) (Or.inl ⟨by rfl, ?_⟩) (by assumption) ?_
                rotate_left
                · (intro w hSw; (try dsimp only at hSw); go_simp <;> with_reducible rfl)
                try walk_nrm
                refine wpAnyH_take (i := 26) (v := ?_) rfl (by kernel_rfl) (by kernel_rfl) (by kernel_rfl) (fun _ _ _ h => h) (Or.inl ⟨by rfl, ?_⟩) (by assumption) ?_
                rotate_left
                · (intro w hSw; (try dsimp only at hSw); go_simp <;> with_reducible rfl)
                try walk_nrm
                refine wpAnyH_take (i := 27) (v := ?_) rfl (by kernel_rfl) (by kernel_rfl) (by kernel_rfl) (fun _ _ _ h => h) (Or.inl ⟨by rfl, ?_⟩) (by assumption) ?_
                rotate_left
                · (intro w hSw; (try dsimp only at hSw); go_simp <;> with_reducible rfl)
                try walk_nrm
                refine wpAnyH_take (i := 28) (v := ?_) rfl (by kernel_rfl) (by kernel_rfl) (by kernel_rfl) (fun _ _ _ h => h) (Or.inl ⟨by rfl, ?_⟩) (by assumption) ?_
                rotate_left
                · (intro w hSw; (try dsimp only at hSw); go_simp <;> with_reducible rfl)
                try walk_nrm
                refine wpAnyH_take (i := 29) (v := ?_) rfl (by kernel_rfl) (by kernel_rfl) (by kernel_rfl) (fun _ _ _ h => h) (Or.inl ⟨by rfl, ?_⟩) (by assumption) ?_
                rotate_left
                · (intro w hSw; (try dsimp only at hSw); go_simp <;> with_reducible rfl)
                try walk_nrm
                refine wpAnyH_take (i := 30) (v := ?_) rfl (by kernel_rfl) (by kernel_rfl) (by kernel_rfl) (fun _ _ _ h => h) (Or.inl ⟨by rfl, ?_⟩) (by assumption) ?_
                rotate_left
                · (intro w hSw; (try dsimp only at hSw); go_simp <;> with_reducible rfl)
                try walk_nrm
                refine wpAnyH_take (i := 33) (v := ?_) rfl (by kernel_rfl) (by kernel_rfl) (by kernel_rfl) (fun _ _ _ h => h) (Or.inl ⟨by rfl, ?_⟩) (by assumption) ?_
                rotate_left
                · (intro w hSw; (try dsimp only at hSw); go_simp <;> with_reducible rfl)
                try walk_nrm
                refine wpAnyH_take (i := 34) (v := ?_) rfl (by kernel_rfl) (by kernel_rfl) (by kernel_rfl) (fun _ _ _ h => h) (Or.inl ⟨by rfl, ?_⟩) (by assumption) ?_
                rotate_left
                · (intro w hSw; (try dsimp only at hSw); go_simp <;> with_reducible rfl)
                try walk_nrm
                refine wpAnyH_take (i := 35) (v := ?_) rfl (by kernel_rfl) (by kernel_rfl) (by kernel_rfl) (fun _ _ _ h => h) (Or.inl ⟨by rfl, ?_⟩) (by assumption) ?_
                rotate_left
                · (intro w hSw; (try dsimp only at hSw); go_simp <;> with_reducible rfl)
                try walk_nrm
                refine wpAnyH_ready (rs := [31]) (by kernel_rfl) (by simp) ?_
                refine AllReadyH.cons rfl (fun K hK => ?_) AllReadyH.nil
                · go_simp
                  (go_at_call 21; (with_reducible refine (iCompareLiterals l1 l2 l3 l1 l2 l3 _).mono ?_); rintro e wt ⟨rfl, gt⟩; rw [HC1.out])
                  try go_wp2_with fail
                  refine hK.out _ _ ?_ (fun hHeld => ?_)
                  · ((try dsimp only); (first | exact keep16 (by assumption) (by assumption) | (with_reducible exact HALL.out _ (by (repeat (first | assumption | exact Bel.refl _ | apply Bel.drewN | apply Bel.drew | apply Bel.alloc | refine Bel.trans ?_ (by assumption))))) | exact HALL.out _ (by (repeat (first | assumption | exact Bel.refl _ | apply Bel.drewN | apply Bel.drew | apply Bel.alloc | refine Bel.trans ?_ (by assumption))))))
                  clear hK K
                  try walk_nrm
                  refine wpAnyH_take (i := 32) (v := ?_) rfl (by kernel_rfl) (by kernel_rfl) (by kernel_rfl) (fun _ _ _ h => h) (Or.inl ⟨by rfl, ?_⟩) (by assumption) ?_
                  rotate_left
                  · (intro w hSw; (try dsimp only at hSw); go_simp <;> with_reducible rfl)
                  try walk_nrm
                  refine wpAnyH_take (i := 36) (v := ?_) rfl (by kernel_rfl) (by kernel_rfl) (by kernel_rfl) (fun _ _ _ h => h) (Or.inl ⟨by rfl, ?_⟩) (by assumption) ?_
                  rotate_left
                  · (intro w hSw; (try dsimp only at hSw); go_simp <;> with_reducible rfl)
                  try walk_nrm
                  refine wpAnyH_take (i := 37) (v := ?_) rfl (by kernel_rfl) (by kernel_rfl) (by kernel_rfl) (fun _ _ _ h => h) (Or.inl ⟨by rfl, ?_⟩) (by assumption) ?_
                  rotate_left
                  · (intro w hSw; (try dsimp only at hSw); go_simp <;> with_reducible rfl)
                  try walk_nrm
                  refine wpAnyH_take (i := 38) (v := ?_) rfl (by kernel_rfl) (by kernel_rfl) (by kernel_rfl) (fun _ _ _ h => h) (Or.inl ⟨by rfl, ?_⟩) (by assumption) ?_
                  rotate_left
                  · (intro w hSw; (try dsimp only at hSw); go_simp <;> with_reducible rfl)
                  try walk_nrm
                  refine wpAnyH_take (i := 39) (v := ?_) rfl (by kernel_rfl) (by kernel_rfl) (by kernel_rfl) (fun _ _ _ h => h) (Or.inl ⟨by rfl, ?_⟩) (by assumption) ?_
                  rotate_left
                  · (intro w hSw; (try dsimp only at hSw); go_simp <;> with_reducible rfl)
                  try walk_nrm
                  refine wpAnyH_take (i := 40) (v := ?_) rfl (by kernel_rfl) (by kernel_rfl) (by kernel_rfl) (fun _ _ _ h => h) (Or.inl ⟨by rfl, ?_⟩) (by assumption) ?_
                  rotate_left
                  · (intro w hSw; (try dsimp only at hSw); go_simp <;> with_reducible rfl)
                  try walk_nrm
                  refine wpAnyH_ready (rs := [41]) (by kernel_rfl) (by simp) ?_
                  refine AllReadyH.cons rfl (fun K hK => ?_) AllReadyH.nil
                  · go_simp
                    (go_at_call 22; (with_reducible refine (iLiteralSign l1 _).mono ?_); rintro e wt ⟨rfl, rfl⟩; rw [HSG.out])
                    try go_wp2_with fail
                    refine hK.out _ _ ?_ (fun hHeld => ?_)
                    · ((try dsimp only); (first | exact keep16 (by assumption) (by assumption) | (with_reducible exact HALL.out _ (by (repeat (first | assumption | exact Bel.refl _ | apply Bel.drewN | apply Bel.drew | apply Bel.alloc | refine Bel.trans ?_ (by assumption))))) | exact HALL.out _ (by (repeat (first | assumption | exact Bel.refl _ | apply Bel.drewN | apply Bel.drew | apply Bel.alloc | refine Bel.trans ?_ (by assumption))))))
                    clear hK K
                    try walk_nrm
                    refine wpAnyH_take (i := 42) (v := ?_) rfl (by kernel_rfl) (by kernel_rfl) (by kernel_rfl) (fun _ _ _ h => h) (Or.inl ⟨by rfl, ?_⟩) (by assumption) ?_
                    rotate_left
                    · (intro w hSw; (try dsimp only at hSw); go_simp <;> with_reducible rfl)
                    try walk_nrm
                    refine wpAnyH_take (i := 43) (v := ?_) rfl (by kernel_rfl) (by kernel_rfl) (by kernel_rfl) (fun _ _ _ h => h) (Or.inl ⟨by rfl, ?_⟩) (by assumption) ?_
                    rotate_left
                    · (intro w hSw; (try dsimp only at hSw); go_simp <;> with_reducible rfl)
                    try walk_nrm
                    refine wpAnyH_take (i := 44) (v := ?_) rfl (by kernel_rfl) (by kernel_rfl) (by kernel_rfl) (fun _ _ _ h => h) (Or.inl ⟨by rfl, ?_⟩) (by assumption) ?_
                    rotate_left
                    · (intro w hSw; (try dsimp only at hSw); go_simp <;> with_reducible rfl)
                    try walk_nrm
                    refine wpAnyH_done (by kernel_rfl) ?_ _
                    go_wp2_with fail
                    go_ret
                    exact ⟨rfl, by (repeat (first | assumption | exact Bel.refl _ | apply Bel.drewN | apply Bel.drew | apply Bel.alloc | refine Bel.trans ?_ (by assumption)))⟩
  · have hef : eqLitB l1 l2 l3 o1 o2 o3 = false := by
      rw [← Bool.not_eq_true]
      intro h
      simp only [eqLitB, Bool.and_eq_true, beq_iff_eq] at h
      have := hz.2 h
      omega
    clear hz hbd
    have HC2 := Lib.hid (show cmpL o1 o2 o3 l1 l2 l3 = -1 from by rw [HC2.out]; first | done | rfl)
    refine wp_region_held_drew (S := (fun W => W.cell? ⟨w1.heap.size, 0, none⟩ = some (.int .i64 P.1) ∧ W.cell? ⟨w1.heap.size, 1, none⟩ = some (.slice p1 P.2.1.length k1) ∧ W.cell? ⟨w1.heap.size, 2, none⟩ = some (.slice p2 P.2.2.1.length k2) ∧ W.cell? ⟨w1.heap.size, 3, none⟩ = some (.slice p3 P.2.2.2.1.length k3) ∧ W.cell? ⟨w1.heap.size, 4, none⟩ = some (.slice p4 P.2.2.2.2.length k4) ∧ W.cell? ⟨w2.heap.size, 0, none⟩ = some (.slice z0 Q.1.length e0) ∧ W.cell? ⟨w2.heap.size, 1, none⟩ = some (.slice z1 Q.2.length e1) ∧ W.cell? ⟨w3.heap.size, 0, none⟩ = some (.int .i64 l1) ∧ W.cell? ⟨w3.heap.size, 1, none⟩ = some (.int .i64 l2) ∧ W.cell? ⟨w3.heap.size, 2, none⟩ = some (.int .i64 l3) ∧ W.cell? ⟨w4.heap.size, 0, none⟩ = some (.int .i64 o1) ∧ W.cell? ⟨w4.heap.size, 1, none⟩ = some (.int .i64 o2) ∧ W.cell? ⟨w4.heap.size, 2, none⟩ = some (.int .i64 o3) ∧ W.cell? ⟨w5.heap.size, 0, none⟩ = some (.int .i64 n1) ∧ W.cell? ⟨w5.heap.size, 1, none⟩ = some (.int .i64 n2) ∧ W.cell? ⟨w5.heap.size, 2, none⟩ = some (.int .i64 n3))) (by kernel_rfl) ?_ (fun hHeld => ?_)
    · ((try dsimp only); (first | exact keep16 (by assumption) (by assumption) | (with_reducible exact HALL.out _ (by (repeat (first | assumption | exact Bel.refl _ | apply Bel.drewN | apply Bel.drew | apply Bel.alloc | refine Bel.trans ?_ (by assumption))))) | exact HALL.out _ (by (repeat (first | assumption | exact Bel.refl _ | apply Bel.drewN | apply Bel.drew | apply Bel.alloc | refine Bel.trans ?_ (by assumption))))))
    refine wpAnyH_take (i := 0) (v := ?_) rfl (by kernel_rfl) (by kernel_rfl) (by kernel_rfl) (fun _ _ _ h => h) (Or.inl ⟨by rfl, ?_⟩) (by assumption) ?_
    rotate_left
    · (intro w hSw; (try dsimp only at hSw); go_simp <;> with_reducible rfl)
    try walk_nrm
    refine wpAnyH_take (i := 1) (v := ?_) rfl (by kernel_rfl) (by kernel_rfl) (by kernel_rfl) (fun _ _ _ h => h) (Or.inl ⟨by rfl, ?_⟩) (by assumption) ?_
    rotate_left
    · (intro w hSw; (try dsimp only at hSw); go_simp <;> with_reducible rfl)
    try walk_nrm
    refine wpAnyH_ready (rs := [2]) (by kernel_rfl) (by simp) ?_
    refine AllReadyH.cons rfl (fun K hK => ?_) AllReadyH.nil
    · go_simp
      (go_at_call 19; (with_reducible refine (iLiteralOk_any _ P (New w w1) (l1, l2, l3) _ (HPR.out _ (by (repeat (first | assumption | exact Bel.refl _ | apply Bel.drewN | apply Bel.drew | apply Bel.alloc | refine Bel.trans ?_ (by assumption))))).1 (HPR.out _ (by (repeat (first | assumption | exact Bel.refl _ | apply Bel.drewN | apply Bel.drew | apply Bel.alloc | refine Bel.trans ?_ (by assumption))))).2 HBP.out).mono ?_); rintro e wt ⟨rfl, gt⟩; rw [HOK.out])
      try go_wp2_with fail
      refine hK.out _ _ ?_ (fun hHeld => ?_)
      · ((try dsimp only); (first | exact keep16 (by assumption) (by assumption) | (with_reducible exact HALL.out _ (by (repeat (first | assumption | exact Bel.refl _ | apply Bel.drewN | apply Bel.drew | apply Bel.alloc | refine Bel.trans ?_ (by assumption))))) | exact HALL.out _ (by (repeat (first | assumption | exact Bel.refl _ | apply Bel.drewN | apply Bel.drew | apply Bel.alloc | refine Bel.trans ?_ (by assumption))))))
      clear hK K
      try walk_nrm
      refine wpAnyH_take (i := 3) (v := ?_) rfl (by kernel_rfl) (by kernel_rfl) (by kernel_rfl) (fun _ _ _ h => h) (Or.inl ⟨by rfl, ?_⟩) (by assumption) ?_
      rotate_left
      · (intro w hSw; (try dsimp only at hSw); go_simp <;> with_reducible rfl)
      try walk_nrm
      refine wpAnyH_take (i := 4) (v := ?_) rfl (by kernel_rfl) (by kernel_rfl) (by kernel_rfl) (fun _ _ _ h => h) (Or.inl ⟨by rfl, ?_⟩) (by assumption) ?_
      rotate_left
      · (intro w hSw; (try dsimp only at hSw); go_simp <;> with_reducible rfl)
      try walk_nrm
      refine wpAnyH_take (i := 5) (v := ?_) rfl (by kernel_rfl) (by kernel_rfl) (by kernel_rfl) (fun _ _ _ h => h) (Or.inl ⟨by rfl, ?_⟩) (by assumption) ?_
      rotate_left
      · (intro w hSw; (try dsimp only at hSw); go_simp <;> with_reducible rfl)
      try walk_nrm
      refine wpAnyH_take (i := 7) (v := ?_) rfl (by kernel_rfl) (by kernel_rfl) (by kernel_rfl) (fun _ _ _ h => h) (Or.inl ⟨by rfl, ?_⟩) (by assumption) ?_
      rotate_left
      · (intro w hSw; (try dsimp only at hSw); go_simp <;> with_reducible rfl)
      try walk_nrm
      refine wpAnyH_take (i := 8) (v := ?_) rfl (by kernel_rfl) (by kernel_rfl) (by kernel_rfl) (fun _ _ _ h => h) (Or.inl ⟨by rfl, ?_⟩) (by assumption) ?_
      rotate_left
      · (intro w hSw; (try dsimp only at hSw); go_simp <;> with_reducible rfl)
      try walk_nrm
      refine wpAnyH_ready (rs := [6]) (by kernel_rfl) (by simp) ?_
      refine AllReadyH.cons rfl (fun K hK => ?_) AllReadyH.nil
      · go_simp
        (go_at_call 20; (with_reducible refine (iLiteralHolds_any (l1, l2, l3) _ Q (New w1 w2) _ (HSR.out _ (by (repeat (first | assumption | exact Bel.refl _ | apply Bel.drewN | apply Bel.drew | apply Bel.alloc | refine Bel.trans ?_ (by assumption))))).1 (HSR.out _ (by (repeat (first | assumption | exact Bel.refl _ | apply Bel.drewN | apply Bel.drew | apply Bel.alloc | refine Bel.trans ?_ (by assumption))))).2 HBS.out).mono ?_); rintro e wt ⟨rfl, gt⟩; rw [HH1.out])
        try go_wp2_with fail
        refine hK.out _ _ ?_ (fun hHeld => ?_)
        · ((try dsimp only); (first | exact keep16 (by assumption) (by assumption) | (with_reducible exact HALL.out _ (by (repeat (first | assumption | exact Bel.refl _ | apply Bel.drewN | apply Bel.drew | apply Bel.alloc | refine Bel.trans ?_ (by assumption))))) | exact HALL.out _ (by (repeat (first | assumption | exact Bel.refl _ | apply Bel.drewN | apply Bel.drew | apply Bel.alloc | refine Bel.trans ?_ (by assumption))))))
        clear hK K
        try walk_nrm
        refine wpAnyH_ready (rs := [9]) (by kernel_rfl) (by simp) ?_
        refine AllReadyH.cons rfl (fun K hK => ?_) AllReadyH.nil
        · go_simp
          (go_at_call 20; (with_reducible refine (iLiteralHolds_any (n1, n2, n3) _ Q (New w1 w2) _ (HSR.out _ (by (repeat (first | assumption | exact Bel.refl _ | apply Bel.drewN | apply Bel.drew | apply Bel.alloc | refine Bel.trans ?_ (by assumption))))).1 (HSR.out _ (by (repeat (first | assumption | exact Bel.refl _ | apply Bel.drewN | apply Bel.drew | apply Bel.alloc | refine Bel.trans ?_ (by assumption))))).2 HBS.out).mono ?_); rintro e wt ⟨rfl, gt⟩; rw [HH2.out])
          try go_wp2_with fail
          refine hK.out _ _ ?_ (fun hHeld => ?_)
          · ((try dsimp only); (first | exact keep16 (by assumption) (by assumption) | (with_reducible exact HALL.out _ (by (repeat (first | assumption | exact Bel.refl _ | apply Bel.drewN | apply Bel.drew | apply Bel.alloc | refine Bel.trans ?_ (by assumption))))) | exact HALL.out _ (by (repeat (first | assumption | exact Bel.refl _ | apply Bel.drewN | apply Bel.drew | apply Bel.alloc | refine Bel.trans ?_ (by assumption))))))
          clear hK K
          try walk_nrm
          refine wpAnyH_take (i := 10) (v := ?_) rfl (by kernel_rfl) (by kernel_rfl) (by kernel_rfl) (fun _ _ _ h => h) (Or.inl ⟨by rfl, ?_⟩) (by assumption) ?_
          rotate_left
          · (intro w hSw; (try dsimp only at hSw); go_simp <;> with_reducible rfl)
          try walk_nrm
          refine wpAnyH_take (i := 11) (v := ?_) rfl (by kernel_rfl) (by kernel_rfl) (by kernel_rfl) (fun _ _ _ h => h) (Or.inl ⟨by rfl, ?_⟩) (by assumption) ?_
          rotate_left
          · (intro w hSw; (try dsimp only at hSw); go_simp <;> with_reducible rfl)
          try walk_nrm
          refine wpAnyH_take (i := 12) (v := ?_) rfl (by kernel_rfl) (by kernel_rfl) (by kernel_rfl) (fun _ _ _ h => h) (Or.inl ⟨by rfl, ?_⟩) (by assumption) ?_
          rotate_left
          · (intro w hSw; (try dsimp only at hSw); go_simp <;> with_reducible rfl)
          try walk_nrm
          refine wpAnyH_take (i := 13) (v := ?_) rfl (by kernel_rfl) (by kernel_rfl) (by kernel_rfl) (fun _ _ _ h => h) (Or.inl ⟨by rfl, ?_⟩) (by assumption) ?_
          rotate_left
          · (intro w hSw; (try dsimp only at hSw); go_simp <;> with_reducible rfl)
          try walk_nrm
          refine wpAnyH_take (i := 15) (v := ?_) rfl (by kernel_rfl) (by kernel_rfl) (by kernel_rfl) (fun _ _ _ h => h) (Or.inl ⟨by rfl, ?_⟩) (by assumption) ?_
          rotate_left
          · (intro w hSw; (try dsimp only at hSw); go_simp <;> with_reducible rfl)
          try walk_nrm
          refine wpAnyH_ready (rs := [14]) (by kernel_rfl) (by simp) ?_
          refine AllReadyH.cons rfl (fun K hK => ?_) AllReadyH.nil
          · go_simp
            (go_at_call 18; (with_reducible refine (iNegate n1 n2 n3 _).mono ?_); rintro e wt ⟨rfl, gt⟩; rw [HNN.out]; simp only [litV])
            try go_wp2_with fail
            refine hK.out _ _ ?_ (fun hHeld => ?_)
            · ((try dsimp only); (first | exact keep16 (by assumption) (by assumption) | (with_reducible exact HALL.out _ (by (repeat (first | assumption | exact Bel.refl _ | apply Bel.drewN | apply Bel.drew | apply Bel.alloc | refine Bel.trans ?_ (by assumption))))) | exact HALL.out _ (by (repeat (first | assumption | exact Bel.refl _ | apply Bel.drewN | apply Bel.drew | apply Bel.alloc | refine Bel.trans ?_ (by assumption))))))
            clear hK K
            try walk_nrm
            refine wpAnyH_take (i := 16) (v := ?_) rfl (by kernel_rfl) (by kernel_rfl) (by kernel_rfl) (fun _ _ _ h => h) (Or.inl ⟨by rfl, ?_⟩) (by assumption) ?_
            rotate_left
            · (intro w hSw; (try dsimp only at hSw); go_simp <;> with_reducible rfl)
            try walk_nrm
            refine wpAnyH_take (i := 17) (v := ?_) rfl (by kernel_rfl) (by kernel_rfl) (by kernel_rfl) (fun _ _ _ h => h) (Or.inl ⟨by rfl, ?_⟩) (by assumption) ?_
            rotate_left
            · (intro w hSw; (try dsimp only at hSw); go_simp <;> with_reducible rfl)
            try walk_nrm
            refine wpAnyH_take (i := 18) (v := ?_) rfl (by kernel_rfl) (by kernel_rfl) (by kernel_rfl) (fun _ _ _ h => h) (Or.inl ⟨by rfl, ?_⟩) (by assumption) ?_
            rotate_left
            · (intro w hSw; (try dsimp only at hSw); go_simp <;> with_reducible rfl)
            try walk_nrm
            refine wpAnyH_take (i := 19) (v := ?_) rfl (by kernel_rfl) (by kernel_rfl) (by kernel_rfl) (fun _ _ _ h => h) (Or.inl ⟨by rfl, ?_⟩) (by assumption) ?_
            rotate_left
            · (intro w hSw; (try dsimp only at hSw); go_simp <;> with_reducible rfl)
            try walk_nrm
            refine wpAnyH_take (i := 20) (v := ?_) rfl (by kernel_rfl) (by kernel_rfl) (by kernel_rfl) (fun _ _ _ h => h) (Or.inl ⟨by rfl, ?_⟩) (by assumption) ?_
            rotate_left
            · (intro w hSw; (try dsimp only at hSw); go_simp <;> with_reducible rfl)
            try walk_nrm
            refine wpAnyH_take (i := 22) (v := ?_) rfl (by kernel_rfl) (by kernel_rfl) (by kernel_rfl) (fun _ _ _ h => h) (Or.inl ⟨by rfl, ?_⟩) (by assumption) ?_
            rotate_left
            · (intro w hSw; (try dsimp only at hSw); go_simp <;> with_reducible rfl)
            try walk_nrm
            refine wpAnyH_take (i := 23) (v := ?_) rfl (by kernel_rfl) (by kernel_rfl) (by kernel_rfl) (fun _ _ _ h => h) (Or.inl ⟨by rfl, ?_⟩) (by assumption) ?_
            rotate_left
            · (intro w hSw; (try dsimp only at hSw); go_simp <;> with_reducible rfl)
            try walk_nrm
            refine wpAnyH_ready (rs := [21]) (by kernel_rfl) (by simp) ?_
            refine AllReadyH.cons rfl (fun K hK => ?_) AllReadyH.nil
            · go_simp
              (go_at_call 21; (with_reducible refine (iCompareLiterals l1 l2 l3 o1 o2 o3 _).mono ?_); rintro e wt ⟨rfl, gt⟩; rw [HC1.out])
              try go_wp2_with fail
              refine hK.out _ _ ?_ (fun hHeld => ?_)
              · ((try dsimp only); (first | exact keep16 (by assumption) (by assumption) | (with_reducible exact HALL.out _ (by (repeat (first | assumption | exact Bel.refl _ | apply Bel.drewN | apply Bel.drew | apply Bel.alloc | refine Bel.trans ?_ (by assumption))))) | exact HALL.out _ (by (repeat (first | assumption | exact Bel.refl _ | apply Bel.drewN | apply Bel.drew | apply Bel.alloc | refine Bel.trans ?_ (by assumption))))))
              clear hK K
              try walk_nrm
              refine wpAnyH_ready (rs := [24]) (by kernel_rfl) (by simp) ?_
              refine AllReadyH.cons rfl (fun K hK => ?_) AllReadyH.nil
              · go_simp
                (go_at_call 21; (with_reducible refine (iCompareLiterals o1 o2 o3 l1 l2 l3 _).mono ?_); rintro e wt ⟨rfl, gt⟩; rw [HC2.out])
                try go_wp2_with fail
                refine hK.out _ _ ?_ (fun hHeld => ?_)
                · ((try dsimp only); (first | exact keep16 (by assumption) (by assumption) | (with_reducible exact HALL.out _ (by (repeat (first | assumption | exact Bel.refl _ | apply Bel.drewN | apply Bel.drew | apply Bel.alloc | refine Bel.trans ?_ (by assumption))))) | exact HALL.out _ (by (repeat (first | assumption | exact Bel.refl _ | apply Bel.drewN | apply Bel.drew | apply Bel.alloc | refine Bel.trans ?_ (by assumption))))))
                clear hK K
                try walk_nrm
                refine wpAnyH_take (i := 25) (v := ?_) rfl (by kernel_rfl) (by kernel_rfl) (by kernel_rfl) (fun _ _ _ h => h) (Or.inl ⟨by rfl, ?_⟩) (by assumption) ?_
                rotate_left
                · (intro w hSw; (try dsimp only at hSw); go_simp <;> with_reducible rfl)
                try walk_nrm
                refine wpAnyH_take (i := 26) (v := ?_) rfl (by kernel_rfl) (by kernel_rfl) (by kernel_rfl) (fun _ _ _ h => h) (Or.inl ⟨by rfl, ?_⟩) (by assumption) ?_
                rotate_left
                · (intro w hSw; (try dsimp only at hSw); go_simp <;> with_reducible rfl)
                try walk_nrm
                refine wpAnyH_take (i := 27) (v := ?_) rfl (by kernel_rfl) (by kernel_rfl) (by kernel_rfl) (fun _ _ _ h => h) (Or.inl ⟨by rfl, ?_⟩) (by assumption) ?_
                rotate_left
                · (intro w hSw; (try dsimp only at hSw); go_simp <;> with_reducible rfl)
                try walk_nrm
                refine wpAnyH_take (i := 28) (v := ?_) rfl (by kernel_rfl) (by kernel_rfl) (by kernel_rfl) (fun _ _ _ h => h) (Or.inl ⟨by rfl, ?_⟩) (by assumption) ?_
                rotate_left
                · (intro w hSw; (try dsimp only at hSw); go_simp <;> with_reducible rfl)
                try walk_nrm
                refine wpAnyH_take (i := 29) (v := ?_) rfl (by kernel_rfl) (by kernel_rfl) (by kernel_rfl) (fun _ _ _ h => h) (Or.inl ⟨by rfl, ?_⟩) (by assumption) ?_
                rotate_left
                · (intro w hSw; (try dsimp only at hSw); go_simp <;> with_reducible rfl)
                try walk_nrm
                refine wpAnyH_take (i := 30) (v := ?_) rfl (by kernel_rfl) (by kernel_rfl) (by kernel_rfl) (fun _ _ _ h => h) (Or.inl ⟨by rfl, ?_⟩) (by assumption) ?_
                rotate_left
                · (intro w hSw; (try dsimp only at hSw); go_simp <;> with_reducible rfl)
                try walk_nrm
                refine wpAnyH_take (i := 33) (v := ?_) rfl (by kernel_rfl) (by kernel_rfl) (by kernel_rfl) (fun _ _ _ h => h) (Or.inl ⟨by rfl, ?_⟩) (by assumption) ?_
                rotate_left
                · (intro w hSw; (try dsimp only at hSw); go_simp <;> with_reducible rfl)
                try walk_nrm
                refine wpAnyH_take (i := 34) (v := ?_) rfl (by kernel_rfl) (by kernel_rfl) (by kernel_rfl) (fun _ _ _ h => h) (Or.inl ⟨by rfl, ?_⟩) (by assumption) ?_
                rotate_left
                · (intro w hSw; (try dsimp only at hSw); go_simp <;> with_reducible rfl)
                try walk_nrm
                refine wpAnyH_take (i := 35) (v := ?_) rfl (by kernel_rfl) (by kernel_rfl) (by kernel_rfl) (fun _ _ _ h => h) (Or.inl ⟨by rfl, ?_⟩) (by assumption) ?_
                rotate_left
                · (intro w hSw; (try dsimp only at hSw); go_simp <;> with_reducible rfl)
                try walk_nrm
                refine wpAnyH_ready (rs := [31]) (by kernel_rfl) (by simp) ?_
                refine AllReadyH.cons rfl (fun K hK => ?_) AllReadyH.nil
                · go_simp
                  (go_at_call 21; (with_reducible refine (iCompareLiterals l1 l2 l3 o1 o2 o3 _).mono ?_); rintro e wt ⟨rfl, gt⟩; rw [HC1.out])
                  try go_wp2_with fail
                  refine hK.out _ _ ?_ (fun hHeld => ?_)
                  · ((try dsimp only); (first | exact keep16 (by assumption) (by assumption) | (with_reducible exact HALL.out _ (by (repeat (first | assumption | exact Bel.refl _ | apply Bel.drewN | apply Bel.drew | apply Bel.alloc | refine Bel.trans ?_ (by assumption))))) | exact HALL.out _ (by (repeat (first | assumption | exact Bel.refl _ | apply Bel.drewN | apply Bel.drew | apply Bel.alloc | refine Bel.trans ?_ (by assumption))))))
                  clear hK K
                  try walk_nrm
                  refine wpAnyH_take (i := 32) (v := ?_) rfl (by kernel_rfl) (by kernel_rfl) (by kernel_rfl) (fun _ _ _ h => h) (Or.inl ⟨by rfl, ?_⟩) (by assumption) ?_
                  rotate_left
                  · (intro w hSw; (try dsimp only at hSw); go_simp <;> with_reducible rfl)
                  try walk_nrm
                  refine wpAnyH_take (i := 36) (v := ?_) rfl (by kernel_rfl) (by kernel_rfl) (by kernel_rfl) (fun _ _ _ h => h) (Or.inl ⟨by rfl, ?_⟩) (by assumption) ?_
                  rotate_left
                  · (intro w hSw; (try dsimp only at hSw); go_simp <;> with_reducible rfl)
                  try walk_nrm
                  refine wpAnyH_take (i := 37) (v := ?_) rfl (by kernel_rfl) (by kernel_rfl) (by kernel_rfl) (fun _ _ _ h => h) (Or.inl ⟨by rfl, ?_⟩) (by assumption) ?_
                  rotate_left
                  · (intro w hSw; (try dsimp only at hSw); go_simp <;> with_reducible rfl)
                  try walk_nrm
                  refine wpAnyH_take (i := 38) (v := ?_) rfl (by kernel_rfl) (by kernel_rfl) (by kernel_rfl) (fun _ _ _ h => h) (Or.inl ⟨by rfl, ?_⟩) (by assumption) ?_
                  rotate_left
                  · (intro w hSw; (try dsimp only at hSw); go_simp <;> with_reducible rfl)
                  try walk_nrm
                  refine wpAnyH_take (i := 39) (v := ?_) rfl (by kernel_rfl) (by kernel_rfl) (by kernel_rfl) (fun _ _ _ h => h) (Or.inl ⟨by rfl, ?_⟩) (by assumption) ?_
                  rotate_left
                  · (intro w hSw; (try dsimp only at hSw); go_simp <;> with_reducible rfl)
                  try walk_nrm
                  refine wpAnyH_take (i := 40) (v := ?_) rfl (by kernel_rfl) (by kernel_rfl) (by kernel_rfl) (fun _ _ _ h => h) (Or.inl ⟨by rfl, ?_⟩) (by assumption) ?_
                  rotate_left
                  · (intro w hSw; (try dsimp only at hSw); go_simp <;> with_reducible rfl)
                  try walk_nrm
                  refine wpAnyH_ready (rs := [41]) (by kernel_rfl) (by simp) ?_
                  refine AllReadyH.cons rfl (fun K hK => ?_) AllReadyH.nil
                  · go_simp
                    (go_at_call 22; (with_reducible refine (iLiteralSign l1 _).mono ?_); rintro e wt ⟨rfl, rfl⟩; rw [HSG.out])
                    try go_wp2_with fail
                    refine hK.out _ _ ?_ (fun hHeld => ?_)
                    · ((try dsimp only); (first | exact keep16 (by assumption) (by assumption) | (with_reducible exact HALL.out _ (by (repeat (first | assumption | exact Bel.refl _ | apply Bel.drewN | apply Bel.drew | apply Bel.alloc | refine Bel.trans ?_ (by assumption))))) | exact HALL.out _ (by (repeat (first | assumption | exact Bel.refl _ | apply Bel.drewN | apply Bel.drew | apply Bel.alloc | refine Bel.trans ?_ (by assumption))))))
                    clear hK K
                    try walk_nrm
                    refine wpAnyH_take (i := 42) (v := ?_) rfl (by kernel_rfl) (by kernel_rfl) (by kernel_rfl) (fun _ _ _ h => h) (Or.inl ⟨by rfl, ?_⟩) (by assumption) ?_
                    rotate_left
                    · (intro w hSw; (try dsimp only at hSw); go_simp <;> with_reducible rfl)
                    try walk_nrm
                    refine wpAnyH_take (i := 43) (v := ?_) rfl (by kernel_rfl) (by kernel_rfl) (by kernel_rfl) (fun _ _ _ h => h) (Or.inl ⟨by rfl, ?_⟩) (by assumption) ?_
                    rotate_left
                    · (intro w hSw; (try dsimp only at hSw); go_simp <;> with_reducible rfl)
                    try walk_nrm
                    refine wpAnyH_take (i := 44) (v := ?_) rfl (by kernel_rfl) (by kernel_rfl) (by kernel_rfl) (fun _ _ _ h => h) (Or.inl ⟨by rfl, ?_⟩) (by assumption) ?_
                    rotate_left
                    · (intro w hSw; (try dsimp only at hSw); go_simp <;> with_reducible rfl)
                    try walk_nrm
                    refine wpAnyH_done (by kernel_rfl) ?_ _
                    go_wp2_with fail
                    go_ret
                    exact ⟨rfl, by (repeat (first | assumption | exact Bel.refl _ | apply Bel.drewN | apply Bel.drew | apply Bel.alloc | refine Bel.trans ?_ (by assumption)))⟩

end Go.Proofs.Ytiaamddhocdhaaa
