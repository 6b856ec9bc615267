/- ParseRule of the reference. -/
import Derived.Test.YtkfpciggolkjeaaGreatDoorRuleP
import Derived.Test.YtkfpciggolkjeaaGreatDoorLitParse
import Derived.Test.YtkfpciggolkjeaaGreatDoorOwnStr
import Derived.Deep.CutBlock
namespace Go.Proofs.YtkfpciggolkjeaaGreatDoor
open Go.ChangeShapes Go.WideShapes Go.ChangeAt Go.RowKit
set_option linter.unusedVariables false

set_option maxRecDepth 100000 in
set_option maxHeartbeats 8000000 in
theorem sParseRule_any (v : Value) (p : ProjT) (S : Nat → Prop) (s : ByteArray) (w : World) (hx : aggR projR S w v p) (hS : ∀ b, S b → b < w.heap.size) (_hn : bulkProject p ≤ 1048576) (hs : s.size ≤ 1048576) :
    Calls Tryz.prog 16 #[v, .string s] w fun e w' => e = .returned (.tuple #[.agg #[.int .i64 (parseRuleV p s).1.1, .int .i64 (parseRuleV p s).1.2.1, .int .i64 (parseRuleV p s).1.2.2.1, .int .i64 (parseRuleV p s).1.2.2.2], .bool (parseRuleV p s).2]) ∧ Bel w w' := by
  obtain ⟨cs, rfl, hx⟩ := hx
  obtain ⟨c1, c2, c3, c4, rfl, q0, q1, q2, q3, q4⟩ := projR_open hx
  have Q1 := Lib.hid q1
  have Q2 := Lib.hid q2
  have Q3 := Lib.hid q3
  have Q4 := Lib.hid q4
  have HP := Lib.hid hx
  obtain ⟨p1, k1, rfl, l1, l1', -⟩ := sliceR_open q1
  obtain ⟨p2, k2, rfl, l2, l2', -⟩ := sliceR_open q2
  obtain ⟨p3, k3, rfl, l3, l3', -⟩ := sliceR_open q3
  obtain ⟨p4, k4, rfl, l4, l4', -⟩ := sliceR_open q4
  unfold maxLen at l1' l2' l3' l4'
  clear hx q0 q1 q2 q3 q4
  have HS := Lib.hid hS
  have HNB := Lib.hid _hn
  clear hS _hn
  have HPR := Lib.hid (show ∀ W, Bel w W → aggR projR S W (.agg #[.int .i64 p.1, .slice p1 p.2.1.length k1, .slice p2 p.2.2.1.length k2, .slice p3 p.2.2.2.1.length k3, .slice p4 p.2.2.2.2.length k4]) p ∧ (∀ b, S b → b < W.heap.size) from fun W hW => ⟨aggR_mk (projR_good.bel HP.out hW HS.out), fun b hb => Nat.lt_of_lt_of_le (HS.out b hb) hW.size⟩)
  show Calls Tryz.prog 16 #[.agg #[.int .i64 p.1, .slice p1 p.2.1.length k1, .slice p2 p.2.2.1.length k2, .slice p3 p.2.2.2.1.length k3, .slice p4 p.2.2.2.2.length k4], .string s] w _
  go_enter Tryz.func16, Tryz.ntmps16
  go_wp2_with fail
  obtain ⟨W0, hW0⟩ : ∃ W, W = (w.alloc (.cells #[.int .i64 p.1, .slice p1 p.2.1.length k1, .slice p2 p.2.2.1.length k2, .slice p3 p.2.2.2.1.length k3, .slice p4 p.2.2.2.2.length k4] 36)).alloc (.cells #[.int .i64 0, .int .i64 0, .int .i64 0, .int .i64 0] 38) := ⟨_, rfl⟩
  rw [← hW0]
  have G0 : Bel w W0 := by rw [hW0]; (repeat (first | assumption | exact Bel.refl _ | apply Bel.drewN | apply Bel.drew | apply Bel.alloc | refine Bel.trans ?_ (by assumption)))
  have HRB := Lib.hid (show Blk W0 (w.heap.size + 1) 38 [.int .i64 0, .int .i64 0, .int .i64 0, .int .i64 0] from by rw [hW0]; exact Blk.new' _ (by simp))
  have HBX := Lib.hid (show ∀ W, Bel W0 W → W.cell? ⟨w.heap.size, 0, none⟩ = some (.int .i64 p.1) ∧ W.cell? ⟨w.heap.size, 1, none⟩ = some (.slice p1 p.2.1.length k1) ∧ W.cell? ⟨w.heap.size, 2, none⟩ = some (.slice p2 p.2.2.1.length k2) ∧ W.cell? ⟨w.heap.size, 3, none⟩ = some (.slice p3 p.2.2.2.1.length k3) ∧ W.cell? ⟨w.heap.size, 4, none⟩ = some (.slice p4 p.2.2.2.2.length k4) from fun W hW => ⟨hW.cell (by rw [hW0]; simp [go_sem]), hW.cell (by rw [hW0]; simp [go_sem]), hW.cell (by rw [hW0]; simp [go_sem]), hW.cell (by rw [hW0]; simp [go_sem]), hW.cell (by rw [hW0]; simp [go_sem])⟩)
  have HW0 := Lib.hid hW0
  have hz0 : W0.heap.size = w.heap.size + 1 + 1 := by rw [hW0]; simp
  have HZ0 := Lib.hid hz0
  clear hW0 hz0
  refine (sSplitAny_own s ⟨#[32]⟩ _ hs (by decide)).mono ?_
  rintro e w1 ⟨q, cap, rfl, hO, g1⟩
  have HRD := Lib.hid (fun r (h : RuleOf p s r) => rule_read h)
  have hwl := splitV_le s ⟨#[32]⟩
  have HSZ := Lib.hid (fun x hx => splitV_size (s := s) (by_ := ⟨#[32]⟩) x hx)
  have z0 := splitV_getD (s := s) (by_ := ⟨#[32]⟩) 0
  have z1 := splitV_getD (s := s) (by_ := ⟨#[32]⟩) 1
  have z2 := splitV_getD (s := s) (by_ := ⟨#[32]⟩) 2
  have z3 := splitV_getD (s := s) (by_ := ⟨#[32]⟩) 3
  generalize splitV s ⟨#[32]⟩ = ws at *
  have hg1 := g1.size
  go_wp2_with (at_builtin; refine wpList_strsO (e := 9) (B := W0.heap.size) _ rfl _ _ 64 rfl Tryz.underlying64 (by kernel_rfl) q cap ws rfl (hO.bel strR_goodJ (by (repeat (first | assumption | exact Bel.refl _ | apply Bel.drewN | apply Bel.drew | apply Bel.alloc | refine Bel.trans ?_ (by assumption))))) _ 9 (List.replicate 3 ⟨#[]⟩) rfl (show Blk _ _ _ _ from alloc_at (by first | rfl | (simp; done))) (by decide) (by intro y hy; rw [List.eq_of_mem_replicate hy]; decide) (by simp <;> omega) (by first | omega | (simp; omega)) ?_; intro q' cap' w2 hO2 hBW)
  have G02 : Bel W0 w2 := hBW W0 (by (repeat (first | assumption | exact Bel.refl _ | apply Bel.drewN | apply Bel.drew | apply Bel.alloc | refine Bel.trans ?_ (by assumption)))) (Nat.le_refl _)
  have G2 : Bel w w2 := G0.trans G02
  have hd := hO2.done (T := New W0 w2) strR_goodJ (fun b h _ => h.elim) (fun b h1 h2 => ⟨h1, h2⟩)
  obtain ⟨qb, qo, rfl, -, hrow⟩ := strs_at hd (by simp <;> omega)
  have HD0 := Lib.hid (show ∀ W, Bel w2 W → W.cell? ⟨qb, qo, none⟩ = some (.string (ws.getD 0 ⟨#[]⟩)) from fun W hW => hW.cell (by have h := hrow 0 (by simp <;> omega); rw [getD_pad] at h; exact h))
  have HD1 := Lib.hid (show ∀ W, Bel w2 W → W.cell? ⟨qb, qo + 1, none⟩ = some (.string (ws.getD 1 ⟨#[]⟩)) from fun W hW => hW.cell (by have h := hrow 1 (by simp <;> omega); rw [getD_pad] at h; exact h))
  have HD2 := Lib.hid (show ∀ W, Bel w2 W → W.cell? ⟨qb, qo + 2, none⟩ = some (.string (ws.getD 2 ⟨#[]⟩)) from fun W hW => hW.cell (by have h := hrow 2 (by simp <;> omega); rw [getD_pad] at h; exact h))
  have HD3 := Lib.hid (show ∀ W, Bel w2 W → W.cell? ⟨qb, qo + 3, none⟩ = some (.string (ws.getD 3 ⟨#[]⟩)) from fun W hW => hW.cell (by have h := hrow 3 (by simp <;> omega); rw [getD_pad] at h; exact h))
  have HRR := Lib.hid (show Blk (w2.alloc (.cells #[.int .i64 0, .int .i64 0, .int .i64 0, .int .i64 0] 38)) w2.heap.size 38 [.int .i64 0, .int .i64 0, .int .i64 0, .int .i64 0] from Blk.new' _ rfl)
  have hsz2 := G2.size
  have hz0w : w.heap.size + 1 + 1 ≤ w2.heap.size := by have := G02.size; have := HZ0.out; omega
  have hwn : 1 ≤ ws.length := hwl.1
  clear hBW hd hrow hO2 hO g1 hg1
  generalize ws.getD 0 ⟨#[]⟩ = n0 at *
  generalize ws.getD 1 ⟨#[]⟩ = n1 at *
  generalize ws.getD 2 ⟨#[]⟩ = n2 at *
  generalize ws.getD 3 ⟨#[]⟩ = n3 at *
  go_loopw [8] (fun kk wr => ∃ k : Nat, 1 ≤ k ∧ k ≤ 7 ∧ kk = .int .i64 k ∧ Blk wr w2.heap.size 38 [.int .i64 (kindTo n0 (k - 1)), .int .i64 0, .int .i64 0, .int .i64 0] ∧ Bel w2 wr) (fun kk _ => 7 - (intOf kk).toNat)
  case atStart => exact ⟨1, by omega, by omega, rfl, HRR.out, by (repeat (first | assumption | exact Bel.refl _ | apply Bel.drewN | apply Bel.drew | apply Bel.alloc | refine Bel.trans ?_ (by assumption)))⟩
  case round =>
    obtain ⟨k, hk1, hk7, rfl, hBR, hB⟩ := hrel
    have HBR := Lib.hid hBR
    have hszr := hB.size
    have hrb := hBR.lt
    clear hBR
    by_cases hk : k ≤ 6
    · have hki : (k : Int) ≤ 6 := by omega
      have hwi : (0 : Int) < (ws.length : Int) + 3 := by omega
      obtain ⟨kz, hkz⟩ : ∃ z, kindTo n0 (k - 1) = z := ⟨_, rfl⟩
      rw [hkz] at HBR
      by_cases he : ruleNameF (k : Int) = n0
      · have HK := Lib.hid (kindTo_yes1 hk1 he)
        have hE : ((ruleNameF (k : Int)).toList == n0.toList) = true := by rw [he]; simp
        clear he hkz
        go_wp2_with fail
        go_region_held3 (fun W => W.cell? ⟨qb, qo, none⟩ = some (.string n0)) (first | (with_reducible exact HD0.out _ (by (repeat (first | assumption | exact Bel.refl _ | apply Bel.drewN | apply Bel.drew | apply Bel.alloc | refine Bel.set ?_ (by first | exact Nat.le_refl _ | exact Nat.le_add_right _ _ | (simp; done) | (simp; omega) | omega) _ | refine Bel.trans ?_ (by assumption))))) | exact HD0.out _ (by (repeat (first | assumption | exact Bel.refl _ | apply Bel.drewN | apply Bel.drew | apply Bel.alloc | refine Bel.set ?_ (by first | exact Nat.le_refl _ | exact Nat.le_add_right _ _ | (simp; done) | (simp; omega) | omega) _ | refine Bel.trans ?_ (by assumption))))) ((go_at_call 30; (with_reducible refine (sRuleName (k : Int) _).mono ?_); rintro e wt ⟨rfl, gt⟩))
        have HBT := Lib.hid (HBR.out.bel (show Bel wr wt from by (repeat (first | assumption | exact Bel.refl _ | apply Bel.drewN | apply Bel.drew | apply Bel.alloc | refine Bel.trans ?_ (by assumption)))))
        have kf0 := HBT.out.frozen 0
        have kf1 := HBT.out.frozen 1
        have kf2 := HBT.out.frozen 2
        have kf3 := HBT.out.frozen 3
        have kc0 := HBT.out.cellv (j := 0) (by simp)
        have kc1 := HBT.out.cellv (j := 1) (by simp)
        have kc2 := HBT.out.cellv (j := 2) (by simp)
        have kc3 := HBT.out.cellv (j := 3) (by simp)
        simp only [List.getElem_cons_zero, List.getElem_cons_succ] at kc0 kc1 kc2 kc3
        go_wp2_with fail
        exact ⟨⟨k + 1, by omega, by omega, by go_num, by rw [Nat.add_sub_cancel, HK.out]; exact HBT.out.set 0 (.int .i64 (k : Int)), by (repeat (first | assumption | exact Bel.refl _ | apply Bel.drewN | apply Bel.drew | apply Bel.alloc | refine Bel.set ?_ (by first | exact Nat.le_refl _ | exact Nat.le_add_right _ _ | (simp; done) | (simp; omega) | omega) _ | refine Bel.trans ?_ (by assumption)))⟩, by simp [intOf]; omega⟩
      · have HK := Lib.hid ((kindTo_no1 hk1 he).trans hkz)
        have hE : ((ruleNameF (k : Int)).toList == n0.toList) = false := by rw [beq_eq_false_iff_ne]; intro h; exact he (toList_inj h)
        clear he hkz
        go_wp2_with fail
        go_region_held3 (fun W => W.cell? ⟨qb, qo, none⟩ = some (.string n0)) (first | (with_reducible exact HD0.out _ (by (repeat (first | assumption | exact Bel.refl _ | apply Bel.drewN | apply Bel.drew | apply Bel.alloc | refine Bel.set ?_ (by first | exact Nat.le_refl _ | exact Nat.le_add_right _ _ | (simp; done) | (simp; omega) | omega) _ | refine Bel.trans ?_ (by assumption))))) | exact HD0.out _ (by (repeat (first | assumption | exact Bel.refl _ | apply Bel.drewN | apply Bel.drew | apply Bel.alloc | refine Bel.set ?_ (by first | exact Nat.le_refl _ | exact Nat.le_add_right _ _ | (simp; done) | (simp; omega) | omega) _ | refine Bel.trans ?_ (by assumption))))) ((go_at_call 30; (with_reducible refine (sRuleName (k : Int) _).mono ?_); rintro e wt ⟨rfl, gt⟩))
        go_wp2_with fail
        exact ⟨⟨k + 1, by omega, by omega, by go_num, by rw [Nat.add_sub_cancel, HK.out]; exact HBR.out.bel (by (repeat (first | assumption | exact Bel.refl _ | apply Bel.drewN | apply Bel.drew | apply Bel.alloc | refine Bel.trans ?_ (by assumption)))), by (repeat (first | assumption | exact Bel.refl _ | apply Bel.drewN | apply Bel.drew | apply Bel.alloc | refine Bel.trans ?_ (by assumption)))⟩, by simp [intOf]; omega⟩
    · obtain rfl : k = 7 := by omega
      have hkin := kindTo_in n0 6
      have HBR := Lib.hid (show Blk wr w2.heap.size 38 [.int .i64 (kindTo n0 6), .int .i64 0, .int .i64 0, .int .i64 0] from HBR.out)
      obtain ⟨K, hK⟩ : ∃ z, kindTo n0 6 = z := ⟨_, rfl⟩
      rw [hK] at HBR HRD hkin
      clear hK hk hk1 hk7
      have G3 : Bel w wr := G2.trans hB
      have hwi1 : (1 : Int) < (ws.length : Int) + 3 := by omega
      have hwi2 : (2 : Int) < (ws.length : Int) + 3 := by omega
      have hwi3 : (3 : Int) < (ws.length : Int) + 3 := by omega
      have hszw := hz0w
      have e : K = 0 ∨ K = 1 ∨ K = 2 ∨ K = 3 ∨ K = 4 ∨ K = 5 ∨ K = 6 := by omega
      clear hkin
      rcases e with rfl | rfl | rfl | rfl | rfl | rfl | rfl
      · have HC := Lib.hid (fun r (h : RuleOf p s r) => (show r = (0, (parseV n1).1, 0, 0) ∧ s ≠ ⟨#[]⟩ from ⟨(HRD.out r h).1.trans (by simp [specRule, pvI]), (HRD.out r h).2⟩))
        have x0f0 := HBR.out.frozen 0
        have x0f1 := HBR.out.frozen 1
        have x0f2 := HBR.out.frozen 2
        have x0f3 := HBR.out.frozen 3
        have x0c0 := HBR.out.cellv (j := 0) (by simp)
        have x0c1 := HBR.out.cellv (j := 1) (by simp)
        have x0c2 := HBR.out.cellv (j := 2) (by simp)
        have x0c3 := HBR.out.cellv (j := 3) (by simp)
        simp only [List.getElem_cons_zero, List.getElem_cons_succ] at x0c0 x0c1 x0c2 x0c3
        have d1 := HD1.out wr hB
        go_wp2_with fail
        refine (sParseInt_any n1 _ (by omega)).mono ?_
        rintro e v1 ⟨rfl, h1⟩
        have HB1 := Lib.hid (show Blk v1 w2.heap.size 38 [.int .i64 0, .int .i64 0, .int .i64 0, .int .i64 0] from HBR.out.bel h1)
        have B_v1 : Bel w2 v1 := by (repeat (first | assumption | exact Bel.refl _ | apply Bel.drewN | apply Bel.drew | apply Bel.alloc | refine Bel.set ?_ (by first | exact Nat.le_refl _ | exact Nat.le_add_right _ _ | (simp; done) | (simp; omega) | omega) _ | refine Bel.trans ?_ (by assumption)))
        generalize (parseV n1).1 = a1 at *
        generalize (parseV n1).2 = t1 at *
        clear x0f0 x0f1 x0f2 x0f3 x0c0 x0c1 x0c2 x0c3
        clear d1
        have x1f0 := HB1.out.frozen 0
        have x1f1 := HB1.out.frozen 1
        have x1f2 := HB1.out.frozen 2
        have x1f3 := HB1.out.frozen 3
        have x1c0 := HB1.out.cellv (j := 0) (by simp)
        have x1c1 := HB1.out.cellv (j := 1) (by simp)
        have x1c2 := HB1.out.cellv (j := 2) (by simp)
        have x1c3 := HB1.out.cellv (j := 3) (by simp)
        simp only [List.getElem_cons_zero, List.getElem_cons_succ] at x1c0 x1c1 x1c2 x1c3
        obtain ⟨b0, b1, b2, b3, b4⟩ := HBX.out v1 (G02.trans B_v1)
        obtain ⟨Fm, hFm⟩ : ∃ z, fmtRuleV p (0, a1, 0, 0) = z := ⟨_, rfl⟩
        have HFM := Lib.hid hFm
        clear hFm
        go_wp2_with fail
        refine (sFormatRule_any _ p S (0, a1, 0, 0) _ (HPR.out _ (G2.trans (by (repeat (first | assumption | exact Bel.refl _ | apply Bel.drewN | apply Bel.drew | apply Bel.alloc | refine Bel.set ?_ (by first | exact Nat.le_refl _ | exact Nat.le_add_right _ _ | (simp; done) | (simp; omega) | omega) _ | refine Bel.trans ?_ (by assumption)))))).1 (HPR.out _ (G2.trans (by (repeat (first | assumption | exact Bel.refl _ | apply Bel.drewN | apply Bel.drew | apply Bel.alloc | refine Bel.set ?_ (by first | exact Nat.le_refl _ | exact Nat.le_add_right _ _ | (simp; done) | (simp; omega) | omega) _ | refine Bel.trans ?_ (by assumption)))))).2 HNB.out).mono ?_
        rintro e wf ⟨rfl, gf⟩
        rw [HFM.out]
        have HBF := Lib.hid (show Blk wf w2.heap.size 38 [.int .i64 0, .int .i64 a1, .int .i64 0, .int .i64 0] from (HB1.out.set 1 (.int .i64 a1)).bel gf)
        have B_wf : Bel w2 wf := by (repeat (first | assumption | exact Bel.refl _ | apply Bel.drewN | apply Bel.drew | apply Bel.alloc | refine Bel.set ?_ (by first | exact Nat.le_refl _ | exact Nat.le_add_right _ _ | (simp; done) | (simp; omega) | omega) _ | refine Bel.trans ?_ (by assumption)))
        have G_wf : Bel w wf := G2.trans B_wf
        have HR_wf := Lib.hid (HRB.out.bel (G02.trans B_wf))
        by_cases h0 : Fm = ⟨#[]⟩
        · have HNO := Lib.hid (fun r (h : RuleOf p s r) => (HC.out r h).2 (by rw [← h.2, (HC.out r h).1, HFM.out]; exact h0))
          have hE0 : Fm.toList = [] := by rw [h0, ByteArray.toList_eq]
          have hE1 : Fm.toList.isEmpty = true := by rw [hE0]; rfl
          clear h0
          have HF := Lib.hid (parseRule_no (p := p) (s := s) HNO.out)
          have zf0 := HR_wf.out.frozen 0
          have zf1 := HR_wf.out.frozen 1
          have zf2 := HR_wf.out.frozen 2
          have zf3 := HR_wf.out.frozen 3
          have zc0 := HR_wf.out.cellv (j := 0) (by simp)
          have zc1 := HR_wf.out.cellv (j := 1) (by simp)
          have zc2 := HR_wf.out.cellv (j := 2) (by simp)
          have zc3 := HR_wf.out.cellv (j := 3) (by simp)
          simp only [List.getElem_cons_zero, List.getElem_cons_succ] at zc0 zc1 zc2 zc3
          go_wp2_with fail
          rw [HF.out]
          exact bodyPost_ret (v := .tuple #[.agg #[.int .i64 0, .int .i64 0, .int .i64 0, .int .i64 0], .bool false]) (by simp [results, Tryz.results16, go_sem, zc0, zc1, zc2, zc3]) rfl ⟨rfl, by (repeat (first | assumption | exact Bel.refl _ | apply Bel.drewN | apply Bel.drew | apply Bel.alloc | refine Bel.set ?_ (by first | exact Nat.le_refl _ | exact Nat.le_add_right _ _ | (simp; done) | (simp; omega) | omega) _ | refine Bel.trans ?_ (by assumption)))⟩
        · have hE0 : ¬ Fm.toList = [] := fun h => h0 (toList_inj (h.trans (by rw [ByteArray.toList_eq])))
          have hE1 : Fm.toList.isEmpty = false := by cases hl : Fm.toList with | nil => exact absurd hl hE0 | cons _ _ => rfl
          have rf0 := HBF.out.frozen 0
          have rf1 := HBF.out.frozen 1
          have rf2 := HBF.out.frozen 2
          have rf3 := HBF.out.frozen 3
          have rc0 := HBF.out.cellv (j := 0) (by simp)
          have rc1 := HBF.out.cellv (j := 1) (by simp)
          have rc2 := HBF.out.cellv (j := 2) (by simp)
          have rc3 := HBF.out.cellv (j := 3) (by simp)
          simp only [List.getElem_cons_zero, List.getElem_cons_succ] at rc0 rc1 rc2 rc3
          obtain ⟨b0, b1, b2, b3, b4⟩ := HBX.out wf (G02.trans B_wf)
          go_wp2_with fail
          refine (sFormatRule_any _ p S (0, a1, 0, 0) _ (HPR.out _ (G2.trans (by (repeat (first | assumption | exact Bel.refl _ | apply Bel.drewN | apply Bel.drew | apply Bel.alloc | refine Bel.set ?_ (by first | exact Nat.le_refl _ | exact Nat.le_add_right _ _ | (simp; done) | (simp; omega) | omega) _ | refine Bel.trans ?_ (by assumption)))))).1 (HPR.out _ (G2.trans (by (repeat (first | assumption | exact Bel.refl _ | apply Bel.drewN | apply Bel.drew | apply Bel.alloc | refine Bel.set ?_ (by first | exact Nat.le_refl _ | exact Nat.le_add_right _ _ | (simp; done) | (simp; omega) | omega) _ | refine Bel.trans ?_ (by assumption)))))).2 HNB.out).mono ?_
          rintro e wg ⟨rfl, gg⟩
          rw [HFM.out]
          have B_wg : Bel w2 wg := by (repeat (first | assumption | exact Bel.refl _ | apply Bel.drewN | apply Bel.drew | apply Bel.alloc | refine Bel.set ?_ (by first | exact Nat.le_refl _ | exact Nat.le_add_right _ _ | (simp; done) | (simp; omega) | omega) _ | refine Bel.trans ?_ (by assumption)))
          have G_wg : Bel w wg := G2.trans B_wg
          have HR_wg := Lib.hid (HRB.out.bel (G02.trans B_wg))
          by_cases h1 : Fm = s
          · have HF := Lib.hid (parseRule_of (ruleOf_fmt (HFM.out.trans h1) (h1 ▸ h0)))
            have hE2 : (Fm.toList == s.toList) = true := by rw [h1]; simp
            have HBG := Lib.hid (HBF.out.bel gg)
            clear h0 h1 rf0 rc0 rf1 rc1 rf2 rc2 rf3 rc3
            have rf0 := HBG.out.frozen 0
            have rf1 := HBG.out.frozen 1
            have rf2 := HBG.out.frozen 2
            have rf3 := HBG.out.frozen 3
            have rc0 := HBG.out.cellv (j := 0) (by simp)
            have rc1 := HBG.out.cellv (j := 1) (by simp)
            have rc2 := HBG.out.cellv (j := 2) (by simp)
            have rc3 := HBG.out.cellv (j := 3) (by simp)
            simp only [List.getElem_cons_zero, List.getElem_cons_succ] at rc0 rc1 rc2 rc3
            have zf0 := HR_wg.out.frozen 0
            have zf1 := HR_wg.out.frozen 1
            have zf2 := HR_wg.out.frozen 2
            have zf3 := HR_wg.out.frozen 3
            have zc0 := HR_wg.out.cellv (j := 0) (by simp)
            have zc1 := HR_wg.out.cellv (j := 1) (by simp)
            have zc2 := HR_wg.out.cellv (j := 2) (by simp)
            have zc3 := HR_wg.out.cellv (j := 3) (by simp)
            simp only [List.getElem_cons_zero, List.getElem_cons_succ] at zc0 zc1 zc2 zc3
            go_wp2_with fail
            rw [HF.out]
            exact bodyPost_ret (v := .tuple #[.agg #[.int .i64 0, .int .i64 a1, .int .i64 0, .int .i64 0], .bool true]) (by simp [results, Tryz.results16, go_sem, zc0, zc1, zc2, zc3]) rfl ⟨rfl, by (repeat (first | assumption | exact Bel.refl _ | apply Bel.drewN | apply Bel.drew | apply Bel.alloc | refine Bel.set ?_ (by first | exact Nat.le_refl _ | exact Nat.le_add_right _ _ | (simp; done) | (simp; omega) | omega) _ | refine Bel.trans ?_ (by assumption)))⟩
          · have HNO := Lib.hid (fun r (h : RuleOf p s r) => h1 (by rw [← HFM.out, ← (HC.out r h).1]; exact h.2))
            have hE2 : (Fm.toList == s.toList) = false := by rw [beq_eq_false_iff_ne]; intro h; exact h1 (toList_inj h)
            clear h0 h1
            have HF := Lib.hid (parseRule_no (p := p) (s := s) HNO.out)
            have zf0 := HR_wg.out.frozen 0
            have zf1 := HR_wg.out.frozen 1
            have zf2 := HR_wg.out.frozen 2
            have zf3 := HR_wg.out.frozen 3
            have zc0 := HR_wg.out.cellv (j := 0) (by simp)
            have zc1 := HR_wg.out.cellv (j := 1) (by simp)
            have zc2 := HR_wg.out.cellv (j := 2) (by simp)
            have zc3 := HR_wg.out.cellv (j := 3) (by simp)
            simp only [List.getElem_cons_zero, List.getElem_cons_succ] at zc0 zc1 zc2 zc3
            go_wp2_with fail
            rw [HF.out]
            exact bodyPost_ret (v := .tuple #[.agg #[.int .i64 0, .int .i64 0, .int .i64 0, .int .i64 0], .bool false]) (by simp [results, Tryz.results16, go_sem, zc0, zc1, zc2, zc3]) rfl ⟨rfl, by (repeat (first | assumption | exact Bel.refl _ | apply Bel.drewN | apply Bel.drew | apply Bel.alloc | refine Bel.set ?_ (by first | exact Nat.le_refl _ | exact Nat.le_add_right _ _ | (simp; done) | (simp; omega) | omega) _ | refine Bel.trans ?_ (by assumption)))⟩
      · have HC := Lib.hid (fun r (h : RuleOf p s r) => (show r = (1, (parseV n1).1, 0, 0) ∧ s ≠ ⟨#[]⟩ from ⟨(HRD.out r h).1.trans (by simp [specRule, pvI]), (HRD.out r h).2⟩))
        have x0f0 := HBR.out.frozen 0
        have x0f1 := HBR.out.frozen 1
        have x0f2 := HBR.out.frozen 2
        have x0f3 := HBR.out.frozen 3
        have x0c0 := HBR.out.cellv (j := 0) (by simp)
        have x0c1 := HBR.out.cellv (j := 1) (by simp)
        have x0c2 := HBR.out.cellv (j := 2) (by simp)
        have x0c3 := HBR.out.cellv (j := 3) (by simp)
        simp only [List.getElem_cons_zero, List.getElem_cons_succ] at x0c0 x0c1 x0c2 x0c3
        have d1 := HD1.out wr hB
        go_wp2_with fail
        refine (sParseInt_any n1 _ (by omega)).mono ?_
        rintro e v1 ⟨rfl, h1⟩
        have HB1 := Lib.hid (show Blk v1 w2.heap.size 38 [.int .i64 1, .int .i64 0, .int .i64 0, .int .i64 0] from HBR.out.bel h1)
        have B_v1 : Bel w2 v1 := by (repeat (first | assumption | exact Bel.refl _ | apply Bel.drewN | apply Bel.drew | apply Bel.alloc | refine Bel.set ?_ (by first | exact Nat.le_refl _ | exact Nat.le_add_right _ _ | (simp; done) | (simp; omega) | omega) _ | refine Bel.trans ?_ (by assumption)))
        generalize (parseV n1).1 = a1 at *
        generalize (parseV n1).2 = t1 at *
        clear x0f0 x0f1 x0f2 x0f3 x0c0 x0c1 x0c2 x0c3
        clear d1
        have x1f0 := HB1.out.frozen 0
        have x1f1 := HB1.out.frozen 1
        have x1f2 := HB1.out.frozen 2
        have x1f3 := HB1.out.frozen 3
        have x1c0 := HB1.out.cellv (j := 0) (by simp)
        have x1c1 := HB1.out.cellv (j := 1) (by simp)
        have x1c2 := HB1.out.cellv (j := 2) (by simp)
        have x1c3 := HB1.out.cellv (j := 3) (by simp)
        simp only [List.getElem_cons_zero, List.getElem_cons_succ] at x1c0 x1c1 x1c2 x1c3
        obtain ⟨b0, b1, b2, b3, b4⟩ := HBX.out v1 (G02.trans B_v1)
        obtain ⟨Fm, hFm⟩ : ∃ z, fmtRuleV p (1, a1, 0, 0) = z := ⟨_, rfl⟩
        have HFM := Lib.hid hFm
        clear hFm
        go_wp2_with fail
        refine (sFormatRule_any _ p S (1, a1, 0, 0) _ (HPR.out _ (G2.trans (by (repeat (first | assumption | exact Bel.refl _ | apply Bel.drewN | apply Bel.drew | apply Bel.alloc | refine Bel.set ?_ (by first | exact Nat.le_refl _ | exact Nat.le_add_right _ _ | (simp; done) | (simp; omega) | omega) _ | refine Bel.trans ?_ (by assumption)))))).1 (HPR.out _ (G2.trans (by (repeat (first | assumption | exact Bel.refl _ | apply Bel.drewN | apply Bel.drew | apply Bel.alloc | refine Bel.set ?_ (by first | exact Nat.le_refl _ | exact Nat.le_add_right _ _ | (simp; done) | (simp; omega) | omega) _ | refine Bel.trans ?_ (by assumption)))))).2 HNB.out).mono ?_
        rintro e wf ⟨rfl, gf⟩
        rw [HFM.out]
        have HBF := Lib.hid (show Blk wf w2.heap.size 38 [.int .i64 1, .int .i64 a1, .int .i64 0, .int .i64 0] from (HB1.out.set 1 (.int .i64 a1)).bel gf)
        have B_wf : Bel w2 wf := by (repeat (first | assumption | exact Bel.refl _ | apply Bel.drewN | apply Bel.drew | apply Bel.alloc | refine Bel.set ?_ (by first | exact Nat.le_refl _ | exact Nat.le_add_right _ _ | (simp; done) | (simp; omega) | omega) _ | refine Bel.trans ?_ (by assumption)))
        have G_wf : Bel w wf := G2.trans B_wf
        have HR_wf := Lib.hid (HRB.out.bel (G02.trans B_wf))
        by_cases h0 : Fm = ⟨#[]⟩
        · have HNO := Lib.hid (fun r (h : RuleOf p s r) => (HC.out r h).2 (by rw [← h.2, (HC.out r h).1, HFM.out]; exact h0))
          have hE0 : Fm.toList = [] := by rw [h0, ByteArray.toList_eq]
          have hE1 : Fm.toList.isEmpty = true := by rw [hE0]; rfl
          clear h0
          have HF := Lib.hid (parseRule_no (p := p) (s := s) HNO.out)
          have zf0 := HR_wf.out.frozen 0
          have zf1 := HR_wf.out.frozen 1
          have zf2 := HR_wf.out.frozen 2
          have zf3 := HR_wf.out.frozen 3
          have zc0 := HR_wf.out.cellv (j := 0) (by simp)
          have zc1 := HR_wf.out.cellv (j := 1) (by simp)
          have zc2 := HR_wf.out.cellv (j := 2) (by simp)
          have zc3 := HR_wf.out.cellv (j := 3) (by simp)
          simp only [List.getElem_cons_zero, List.getElem_cons_succ] at zc0 zc1 zc2 zc3
          go_wp2_with fail
          rw [HF.out]
          exact bodyPost_ret (v := .tuple #[.agg #[.int .i64 0, .int .i64 0, .int .i64 0, .int .i64 0], .bool false]) (by simp [results, Tryz.results16, go_sem, zc0, zc1, zc2, zc3]) rfl ⟨rfl, by (repeat (first | assumption | exact Bel.refl _ | apply Bel.drewN | apply Bel.drew | apply Bel.alloc | refine Bel.set ?_ (by first | exact Nat.le_refl _ | exact Nat.le_add_right _ _ | (simp; done) | (simp; omega) | omega) _ | refine Bel.trans ?_ (by assumption)))⟩
        · have hE0 : ¬ Fm.toList = [] := fun h => h0 (toList_inj (h.trans (by rw [ByteArray.toList_eq])))
          have hE1 : Fm.toList.isEmpty = false := by cases hl : Fm.toList with | nil => exact absurd hl hE0 | cons _ _ => rfl
          have rf0 := HBF.out.frozen 0
          have rf1 := HBF.out.frozen 1
          have rf2 := HBF.out.frozen 2
          have rf3 := HBF.out.frozen 3
          have rc0 := HBF.out.cellv (j := 0) (by simp)
          have rc1 := HBF.out.cellv (j := 1) (by simp)
          have rc2 := HBF.out.cellv (j := 2) (by simp)
          have rc3 := HBF.out.cellv (j := 3) (by simp)
          simp only [List.getElem_cons_zero, List.getElem_cons_succ] at rc0 rc1 rc2 rc3
          obtain ⟨b0, b1, b2, b3, b4⟩ := HBX.out wf (G02.trans B_wf)
          go_wp2_with fail
          refine (sFormatRule_any _ p S (1, a1, 0, 0) _ (HPR.out _ (G2.trans (by (repeat (first | assumption | exact Bel.refl _ | apply Bel.drewN | apply Bel.drew | apply Bel.alloc | refine Bel.set ?_ (by first | exact Nat.le_refl _ | exact Nat.le_add_right _ _ | (simp; done) | (simp; omega) | omega) _ | refine Bel.trans ?_ (by assumption)))))).1 (HPR.out _ (G2.trans (by (repeat (first | assumption | exact Bel.refl _ | apply Bel.drewN | apply Bel.drew | apply Bel.alloc | refine Bel.set ?_ (by first | exact Nat.le_refl _ | exact Nat.le_add_right _ _ | (simp; done) | (simp; omega) | omega) _ | refine Bel.trans ?_ (by assumption)))))).2 HNB.out).mono ?_
          rintro e wg ⟨rfl, gg⟩
          rw [HFM.out]
          have B_wg : Bel w2 wg := by (repeat (first | assumption | exact Bel.refl _ | apply Bel.drewN | apply Bel.drew | apply Bel.alloc | refine Bel.set ?_ (by first | exact Nat.le_refl _ | exact Nat.le_add_right _ _ | (simp; done) | (simp; omega) | omega) _ | refine Bel.trans ?_ (by assumption)))
          have G_wg : Bel w wg := G2.trans B_wg
          have HR_wg := Lib.hid (HRB.out.bel (G02.trans B_wg))
          by_cases h1 : Fm = s
          · have HF := Lib.hid (parseRule_of (ruleOf_fmt (HFM.out.trans h1) (h1 ▸ h0)))
            have hE2 : (Fm.toList == s.toList) = true := by rw [h1]; simp
            have HBG := Lib.hid (HBF.out.bel gg)
            clear h0 h1 rf0 rc0 rf1 rc1 rf2 rc2 rf3 rc3
            have rf0 := HBG.out.frozen 0
            have rf1 := HBG.out.frozen 1
            have rf2 := HBG.out.frozen 2
            have rf3 := HBG.out.frozen 3
            have rc0 := HBG.out.cellv (j := 0) (by simp)
            have rc1 := HBG.out.cellv (j := 1) (by simp)
            have rc2 := HBG.out.cellv (j := 2) (by simp)
            have rc3 := HBG.out.cellv (j := 3) (by simp)
            simp only [List.getElem_cons_zero, List.getElem_cons_succ] at rc0 rc1 rc2 rc3
            have zf0 := HR_wg.out.frozen 0
            have zf1 := HR_wg.out.frozen 1
            have zf2 := HR_wg.out.frozen 2
            have zf3 := HR_wg.out.frozen 3
            have zc0 := HR_wg.out.cellv (j := 0) (by simp)
            have zc1 := HR_wg.out.cellv (j := 1) (by simp)
            have zc2 := HR_wg.out.cellv (j := 2) (by simp)
            have zc3 := HR_wg.out.cellv (j := 3) (by simp)
            simp only [List.getElem_cons_zero, List.getElem_cons_succ] at zc0 zc1 zc2 zc3
            go_wp2_with fail
            rw [HF.out]
            exact bodyPost_ret (v := .tuple #[.agg #[.int .i64 1, .int .i64 a1, .int .i64 0, .int .i64 0], .bool true]) (by simp [results, Tryz.results16, go_sem, zc0, zc1, zc2, zc3]) rfl ⟨rfl, by (repeat (first | assumption | exact Bel.refl _ | apply Bel.drewN | apply Bel.drew | apply Bel.alloc | refine Bel.set ?_ (by first | exact Nat.le_refl _ | exact Nat.le_add_right _ _ | (simp; done) | (simp; omega) | omega) _ | refine Bel.trans ?_ (by assumption)))⟩
          · have HNO := Lib.hid (fun r (h : RuleOf p s r) => h1 (by rw [← HFM.out, ← (HC.out r h).1]; exact h.2))
            have hE2 : (Fm.toList == s.toList) = false := by rw [beq_eq_false_iff_ne]; intro h; exact h1 (toList_inj h)
            clear h0 h1
            have HF := Lib.hid (parseRule_no (p := p) (s := s) HNO.out)
            have zf0 := HR_wg.out.frozen 0
            have zf1 := HR_wg.out.frozen 1
            have zf2 := HR_wg.out.frozen 2
            have zf3 := HR_wg.out.frozen 3
            have zc0 := HR_wg.out.cellv (j := 0) (by simp)
            have zc1 := HR_wg.out.cellv (j := 1) (by simp)
            have zc2 := HR_wg.out.cellv (j := 2) (by simp)
            have zc3 := HR_wg.out.cellv (j := 3) (by simp)
            simp only [List.getElem_cons_zero, List.getElem_cons_succ] at zc0 zc1 zc2 zc3
            go_wp2_with fail
            rw [HF.out]
            exact bodyPost_ret (v := .tuple #[.agg #[.int .i64 0, .int .i64 0, .int .i64 0, .int .i64 0], .bool false]) (by simp [results, Tryz.results16, go_sem, zc0, zc1, zc2, zc3]) rfl ⟨rfl, by (repeat (first | assumption | exact Bel.refl _ | apply Bel.drewN | apply Bel.drew | apply Bel.alloc | refine Bel.set ?_ (by first | exact Nat.le_refl _ | exact Nat.le_add_right _ _ | (simp; done) | (simp; omega) | omega) _ | refine Bel.trans ?_ (by assumption)))⟩
      · have HC := Lib.hid (fun r (h : RuleOf p s r) => (show r = (2, actIndex p.2.1 n1, 0, 0) ∧ s ≠ ⟨#[]⟩ from ⟨(HRD.out r h).1.trans (by simp [specRule]), (HRD.out r h).2⟩))
        have x0f0 := HBR.out.frozen 0
        have x0f1 := HBR.out.frozen 1
        have x0f2 := HBR.out.frozen 2
        have x0f3 := HBR.out.frozen 3
        have x0c0 := HBR.out.cellv (j := 0) (by simp)
        have x0c1 := HBR.out.cellv (j := 1) (by simp)
        have x0c2 := HBR.out.cellv (j := 2) (by simp)
        have x0c3 := HBR.out.cellv (j := 3) (by simp)
        simp only [List.getElem_cons_zero, List.getElem_cons_succ] at x0c0 x0c1 x0c2 x0c3
        have d1 := HD1.out wr hB
        go_wp2_with fail
        refine (sParseInt_any n1 _ (by omega)).mono ?_
        rintro e v1 ⟨rfl, h1⟩
        have HB1 := Lib.hid (show Blk v1 w2.heap.size 38 [.int .i64 2, .int .i64 0, .int .i64 0, .int .i64 0] from HBR.out.bel h1)
        have B_v1 : Bel w2 v1 := by (repeat (first | assumption | exact Bel.refl _ | apply Bel.drewN | apply Bel.drew | apply Bel.alloc | refine Bel.set ?_ (by first | exact Nat.le_refl _ | exact Nat.le_add_right _ _ | (simp; done) | (simp; omega) | omega) _ | refine Bel.trans ?_ (by assumption)))
        generalize (parseV n1).1 = a1 at *
        generalize (parseV n1).2 = t1 at *
        clear x0f0 x0f1 x0f2 x0f3 x0c0 x0c1 x0c2 x0c3
        clear d1
        have x1f0 := HB1.out.frozen 0
        have x1f1 := HB1.out.frozen 1
        have x1f2 := HB1.out.frozen 2
        have x1f3 := HB1.out.frozen 3
        have x1c0 := HB1.out.cellv (j := 0) (by simp)
        have x1c1 := HB1.out.cellv (j := 1) (by simp)
        have x1c2 := HB1.out.cellv (j := 2) (by simp)
        have x1c3 := HB1.out.cellv (j := 3) (by simp)
        simp only [List.getElem_cons_zero, List.getElem_cons_succ] at x1c0 x1c1 x1c2 x1c3
        obtain ⟨i1, hi1⟩ : ∃ z, actIndex p.2.1 n1 = z := ⟨_, rfl⟩
        rw [hi1] at HC
        have HAI1 := Lib.hid hi1
        clear hi1
        have HSA1 := Lib.hid (show ∀ W, Bel w2 W → W.cell? ⟨w.heap.size, 0, none⟩ = some (.int .i64 p.1) ∧ W.cell? ⟨w.heap.size, 1, none⟩ = some (.slice p1 p.2.1.length k1) ∧ W.cell? ⟨w.heap.size, 2, none⟩ = some (.slice p2 p.2.2.1.length k2) ∧ W.cell? ⟨w.heap.size, 3, none⟩ = some (.slice p3 p.2.2.2.1.length k3) ∧ W.cell? ⟨w.heap.size, 4, none⟩ = some (.slice p4 p.2.2.2.2.length k4) ∧ W.cell? ⟨qb, qo + 1, none⟩ = some (.string n1) from fun W hW => by
          obtain ⟨b0, b1, b2, b3, b4⟩ := HBX.out W (G02.trans hW)
          exact ⟨b0, b1, b2, b3, b4, HD1.out W hW⟩)
        go_wp2_with fail
        go_region_held3 (fun W => W.cell? ⟨w.heap.size, 0, none⟩ = some (.int .i64 p.1) ∧ W.cell? ⟨w.heap.size, 1, none⟩ = some (.slice p1 p.2.1.length k1) ∧ W.cell? ⟨w.heap.size, 2, none⟩ = some (.slice p2 p.2.2.1.length k2) ∧ W.cell? ⟨w.heap.size, 3, none⟩ = some (.slice p3 p.2.2.2.1.length k3) ∧ W.cell? ⟨w.heap.size, 4, none⟩ = some (.slice p4 p.2.2.2.2.length k4) ∧ W.cell? ⟨qb, qo + 1, none⟩ = some (.string n1)) (first | (with_reducible exact HSA1.out _ (by (repeat (first | assumption | exact Bel.refl _ | apply Bel.drewN | apply Bel.drew | apply Bel.alloc | refine Bel.set ?_ (by first | exact Nat.le_refl _ | exact Nat.le_add_right _ _ | (simp; done) | (simp; omega) | omega) _ | refine Bel.trans ?_ (by assumption))))) | exact HSA1.out _ (by (repeat (first | assumption | exact Bel.refl _ | apply Bel.drewN | apply Bel.drew | apply Bel.alloc | refine Bel.set ?_ (by first | exact Nat.le_refl _ | exact Nat.le_add_right _ _ | (simp; done) | (simp; omega) | omega) _ | refine Bel.trans ?_ (by assumption))))) ((go_at_call 47; (with_reducible refine (sActivityIndex_any _ p n1 S _ (HPR.out _ (G2.trans (by (repeat (first | assumption | exact Bel.refl _ | apply Bel.drewN | apply Bel.drew | apply Bel.alloc | refine Bel.set ?_ (by first | exact Nat.le_refl _ | exact Nat.le_add_right _ _ | (simp; done) | (simp; omega) | omega) _ | refine Bel.trans ?_ (by assumption)))))).1 (HPR.out _ (G2.trans (by (repeat (first | assumption | exact Bel.refl _ | apply Bel.drewN | apply Bel.drew | apply Bel.alloc | refine Bel.set ?_ (by first | exact Nat.le_refl _ | exact Nat.le_add_right _ _ | (simp; done) | (simp; omega) | omega) _ | refine Bel.trans ?_ (by assumption)))))).2).mono ?_); rintro e v2 ⟨rfl, h2⟩; rw [HAI1.out]; have HC2 := Lib.hid (show Blk v2 w2.heap.size 38 [.int .i64 2, .int .i64 a1, .int .i64 0, .int .i64 0] from (HB1.out.set 1 (.int .i64 a1)).bel (Bel.trans (Bel.drew (Bel.refl _)) h2)); have y0 := HC2.out.frozen 1; have y1 := HC2.out.cellv (j := 1) (by simp); simp only [List.getElem_cons_zero, List.getElem_cons_succ] at y1; have B_v2 : Bel w2 v2 := (by (repeat (first | assumption | exact Bel.refl _ | apply Bel.drewN | apply Bel.drew | apply Bel.alloc | refine Bel.set ?_ (by first | exact Nat.le_refl _ | exact Nat.le_add_right _ _ | (simp; done) | (simp; omega) | omega) _ | refine Bel.trans ?_ (by assumption))))))
        clear y0 y1
        have x2f0 := HC2.out.frozen 0
        have x2f1 := HC2.out.frozen 1
        have x2f2 := HC2.out.frozen 2
        have x2f3 := HC2.out.frozen 3
        have x2c0 := HC2.out.cellv (j := 0) (by simp)
        have x2c1 := HC2.out.cellv (j := 1) (by simp)
        have x2c2 := HC2.out.cellv (j := 2) (by simp)
        have x2c3 := HC2.out.cellv (j := 3) (by simp)
        simp only [List.getElem_cons_zero, List.getElem_cons_succ] at x2c0 x2c1 x2c2 x2c3
        obtain ⟨b0, b1, b2, b3, b4⟩ := HBX.out v2 (G02.trans B_v2)
        obtain ⟨Fm, hFm⟩ : ∃ z, fmtRuleV p (2, i1, 0, 0) = z := ⟨_, rfl⟩
        have HFM := Lib.hid hFm
        clear hFm
        go_wp2_with fail
        refine (sFormatRule_any _ p S (2, i1, 0, 0) _ (HPR.out _ (G2.trans (by (repeat (first | assumption | exact Bel.refl _ | apply Bel.drewN | apply Bel.drew | apply Bel.alloc | refine Bel.set ?_ (by first | exact Nat.le_refl _ | exact Nat.le_add_right _ _ | (simp; done) | (simp; omega) | omega) _ | refine Bel.trans ?_ (by assumption)))))).1 (HPR.out _ (G2.trans (by (repeat (first | assumption | exact Bel.refl _ | apply Bel.drewN | apply Bel.drew | apply Bel.alloc | refine Bel.set ?_ (by first | exact Nat.le_refl _ | exact Nat.le_add_right _ _ | (simp; done) | (simp; omega) | omega) _ | refine Bel.trans ?_ (by assumption)))))).2 HNB.out).mono ?_
        rintro e wf ⟨rfl, gf⟩
        rw [HFM.out]
        have HBF := Lib.hid (show Blk wf w2.heap.size 38 [.int .i64 2, .int .i64 i1, .int .i64 0, .int .i64 0] from (HC2.out.set 1 (.int .i64 i1)).bel gf)
        have B_wf : Bel w2 wf := by (repeat (first | assumption | exact Bel.refl _ | apply Bel.drewN | apply Bel.drew | apply Bel.alloc | refine Bel.set ?_ (by first | exact Nat.le_refl _ | exact Nat.le_add_right _ _ | (simp; done) | (simp; omega) | omega) _ | refine Bel.trans ?_ (by assumption)))
        have G_wf : Bel w wf := G2.trans B_wf
        have HR_wf := Lib.hid (HRB.out.bel (G02.trans B_wf))
        by_cases h0 : Fm = ⟨#[]⟩
        · have HNO := Lib.hid (fun r (h : RuleOf p s r) => (HC.out r h).2 (by rw [← h.2, (HC.out r h).1, HFM.out]; exact h0))
          have hE0 : Fm.toList = [] := by rw [h0, ByteArray.toList_eq]
          have hE1 : Fm.toList.isEmpty = true := by rw [hE0]; rfl
          clear h0
          have HF := Lib.hid (parseRule_no (p := p) (s := s) HNO.out)
          have zf0 := HR_wf.out.frozen 0
          have zf1 := HR_wf.out.frozen 1
          have zf2 := HR_wf.out.frozen 2
          have zf3 := HR_wf.out.frozen 3
          have zc0 := HR_wf.out.cellv (j := 0) (by simp)
          have zc1 := HR_wf.out.cellv (j := 1) (by simp)
          have zc2 := HR_wf.out.cellv (j := 2) (by simp)
          have zc3 := HR_wf.out.cellv (j := 3) (by simp)
          simp only [List.getElem_cons_zero, List.getElem_cons_succ] at zc0 zc1 zc2 zc3
          go_wp2_with fail
          rw [HF.out]
          exact bodyPost_ret (v := .tuple #[.agg #[.int .i64 0, .int .i64 0, .int .i64 0, .int .i64 0], .bool false]) (by simp [results, Tryz.results16, go_sem, zc0, zc1, zc2, zc3]) rfl ⟨rfl, by (repeat (first | assumption | exact Bel.refl _ | apply Bel.drewN | apply Bel.drew | apply Bel.alloc | refine Bel.set ?_ (by first | exact Nat.le_refl _ | exact Nat.le_add_right _ _ | (simp; done) | (simp; omega) | omega) _ | refine Bel.trans ?_ (by assumption)))⟩
        · have hE0 : ¬ Fm.toList = [] := fun h => h0 (toList_inj (h.trans (by rw [ByteArray.toList_eq])))
          have hE1 : Fm.toList.isEmpty = false := by cases hl : Fm.toList with | nil => exact absurd hl hE0 | cons _ _ => rfl
          have rf0 := HBF.out.frozen 0
          have rf1 := HBF.out.frozen 1
          have rf2 := HBF.out.frozen 2
          have rf3 := HBF.out.frozen 3
          have rc0 := HBF.out.cellv (j := 0) (by simp)
          have rc1 := HBF.out.cellv (j := 1) (by simp)
          have rc2 := HBF.out.cellv (j := 2) (by simp)
          have rc3 := HBF.out.cellv (j := 3) (by simp)
          simp only [List.getElem_cons_zero, List.getElem_cons_succ] at rc0 rc1 rc2 rc3
          obtain ⟨b0, b1, b2, b3, b4⟩ := HBX.out wf (G02.trans B_wf)
          go_wp2_with fail
          refine (sFormatRule_any _ p S (2, i1, 0, 0) _ (HPR.out _ (G2.trans (by (repeat (first | assumption | exact Bel.refl _ | apply Bel.drewN | apply Bel.drew | apply Bel.alloc | refine Bel.set ?_ (by first | exact Nat.le_refl _ | exact Nat.le_add_right _ _ | (simp; done) | (simp; omega) | omega) _ | refine Bel.trans ?_ (by assumption)))))).1 (HPR.out _ (G2.trans (by (repeat (first | assumption | exact Bel.refl _ | apply Bel.drewN | apply Bel.drew | apply Bel.alloc | refine Bel.set ?_ (by first | exact Nat.le_refl _ | exact Nat.le_add_right _ _ | (simp; done) | (simp; omega) | omega) _ | refine Bel.trans ?_ (by assumption)))))).2 HNB.out).mono ?_
          rintro e wg ⟨rfl, gg⟩
          rw [HFM.out]
          have B_wg : Bel w2 wg := by (repeat (first | assumption | exact Bel.refl _ | apply Bel.drewN | apply Bel.drew | apply Bel.alloc | refine Bel.set ?_ (by first | exact Nat.le_refl _ | exact Nat.le_add_right _ _ | (simp; done) | (simp; omega) | omega) _ | refine Bel.trans ?_ (by assumption)))
          have G_wg : Bel w wg := G2.trans B_wg
          have HR_wg := Lib.hid (HRB.out.bel (G02.trans B_wg))
          by_cases h1 : Fm = s
          · have HF := Lib.hid (parseRule_of (ruleOf_fmt (HFM.out.trans h1) (h1 ▸ h0)))
            have hE2 : (Fm.toList == s.toList) = true := by rw [h1]; simp
            have HBG := Lib.hid (HBF.out.bel gg)
            clear h0 h1 rf0 rc0 rf1 rc1 rf2 rc2 rf3 rc3
            have rf0 := HBG.out.frozen 0
            have rf1 := HBG.out.frozen 1
            have rf2 := HBG.out.frozen 2
            have rf3 := HBG.out.frozen 3
            have rc0 := HBG.out.cellv (j := 0) (by simp)
            have rc1 := HBG.out.cellv (j := 1) (by simp)
            have rc2 := HBG.out.cellv (j := 2) (by simp)
            have rc3 := HBG.out.cellv (j := 3) (by simp)
            simp only [List.getElem_cons_zero, List.getElem_cons_succ] at rc0 rc1 rc2 rc3
            have zf0 := HR_wg.out.frozen 0
            have zf1 := HR_wg.out.frozen 1
            have zf2 := HR_wg.out.frozen 2
            have zf3 := HR_wg.out.frozen 3
            have zc0 := HR_wg.out.cellv (j := 0) (by simp)
            have zc1 := HR_wg.out.cellv (j := 1) (by simp)
            have zc2 := HR_wg.out.cellv (j := 2) (by simp)
            have zc3 := HR_wg.out.cellv (j := 3) (by simp)
            simp only [List.getElem_cons_zero, List.getElem_cons_succ] at zc0 zc1 zc2 zc3
            go_wp2_with fail
            rw [HF.out]
            exact bodyPost_ret (v := .tuple #[.agg #[.int .i64 2, .int .i64 i1, .int .i64 0, .int .i64 0], .bool true]) (by simp [results, Tryz.results16, go_sem, zc0, zc1, zc2, zc3]) rfl ⟨rfl, by (repeat (first | assumption | exact Bel.refl _ | apply Bel.drewN | apply Bel.drew | apply Bel.alloc | refine Bel.set ?_ (by first | exact Nat.le_refl _ | exact Nat.le_add_right _ _ | (simp; done) | (simp; omega) | omega) _ | refine Bel.trans ?_ (by assumption)))⟩
          · have HNO := Lib.hid (fun r (h : RuleOf p s r) => h1 (by rw [← HFM.out, ← (HC.out r h).1]; exact h.2))
            have hE2 : (Fm.toList == s.toList) = false := by rw [beq_eq_false_iff_ne]; intro h; exact h1 (toList_inj h)
            clear h0 h1
            have HF := Lib.hid (parseRule_no (p := p) (s := s) HNO.out)
            have zf0 := HR_wg.out.frozen 0
            have zf1 := HR_wg.out.frozen 1
            have zf2 := HR_wg.out.frozen 2
            have zf3 := HR_wg.out.frozen 3
            have zc0 := HR_wg.out.cellv (j := 0) (by simp)
            have zc1 := HR_wg.out.cellv (j := 1) (by simp)
            have zc2 := HR_wg.out.cellv (j := 2) (by simp)
            have zc3 := HR_wg.out.cellv (j := 3) (by simp)
            simp only [List.getElem_cons_zero, List.getElem_cons_succ] at zc0 zc1 zc2 zc3
            go_wp2_with fail
            rw [HF.out]
            exact bodyPost_ret (v := .tuple #[.agg #[.int .i64 0, .int .i64 0, .int .i64 0, .int .i64 0], .bool false]) (by simp [results, Tryz.results16, go_sem, zc0, zc1, zc2, zc3]) rfl ⟨rfl, by (repeat (first | assumption | exact Bel.refl _ | apply Bel.drewN | apply Bel.drew | apply Bel.alloc | refine Bel.set ?_ (by first | exact Nat.le_refl _ | exact Nat.le_add_right _ _ | (simp; done) | (simp; omega) | omega) _ | refine Bel.trans ?_ (by assumption)))⟩
      · have HC := Lib.hid (fun r (h : RuleOf p s r) => (show r = (3, (parseV n1).1, (parseV n2).1, 0) ∧ s ≠ ⟨#[]⟩ from ⟨(HRD.out r h).1.trans (by simp [specRule, pvI]), (HRD.out r h).2⟩))
        have x0f0 := HBR.out.frozen 0
        have x0f1 := HBR.out.frozen 1
        have x0f2 := HBR.out.frozen 2
        have x0f3 := HBR.out.frozen 3
        have x0c0 := HBR.out.cellv (j := 0) (by simp)
        have x0c1 := HBR.out.cellv (j := 1) (by simp)
        have x0c2 := HBR.out.cellv (j := 2) (by simp)
        have x0c3 := HBR.out.cellv (j := 3) (by simp)
        simp only [List.getElem_cons_zero, List.getElem_cons_succ] at x0c0 x0c1 x0c2 x0c3
        have d1 := HD1.out wr hB
        go_wp2_with fail
        refine (sParseInt_any n1 _ (by omega)).mono ?_
        rintro e v1 ⟨rfl, h1⟩
        have HB1 := Lib.hid (show Blk v1 w2.heap.size 38 [.int .i64 3, .int .i64 0, .int .i64 0, .int .i64 0] from HBR.out.bel h1)
        have B_v1 : Bel w2 v1 := by (repeat (first | assumption | exact Bel.refl _ | apply Bel.drewN | apply Bel.drew | apply Bel.alloc | refine Bel.set ?_ (by first | exact Nat.le_refl _ | exact Nat.le_add_right _ _ | (simp; done) | (simp; omega) | omega) _ | refine Bel.trans ?_ (by assumption)))
        generalize (parseV n1).1 = a1 at *
        generalize (parseV n1).2 = t1 at *
        clear x0f0 x0f1 x0f2 x0f3 x0c0 x0c1 x0c2 x0c3
        clear d1
        have x1f0 := HB1.out.frozen 0
        have x1f1 := HB1.out.frozen 1
        have x1f2 := HB1.out.frozen 2
        have x1f3 := HB1.out.frozen 3
        have x1c0 := HB1.out.cellv (j := 0) (by simp)
        have x1c1 := HB1.out.cellv (j := 1) (by simp)
        have x1c2 := HB1.out.cellv (j := 2) (by simp)
        have x1c3 := HB1.out.cellv (j := 3) (by simp)
        simp only [List.getElem_cons_zero, List.getElem_cons_succ] at x1c0 x1c1 x1c2 x1c3
        have d2 := HD2.out v1 B_v1
        go_wp2_with fail
        refine (sParseInt_any n2 _ (by omega)).mono ?_
        rintro e v2 ⟨rfl, h2⟩
        have HB2 := Lib.hid (show Blk v2 w2.heap.size 38 [.int .i64 3, .int .i64 a1, .int .i64 0, .int .i64 0] from (HB1.out.set 1 (.int .i64 a1)).bel h2)
        have B_v2 : Bel w2 v2 := by (repeat (first | assumption | exact Bel.refl _ | apply Bel.drewN | apply Bel.drew | apply Bel.alloc | refine Bel.set ?_ (by first | exact Nat.le_refl _ | exact Nat.le_add_right _ _ | (simp; done) | (simp; omega) | omega) _ | refine Bel.trans ?_ (by assumption)))
        generalize (parseV n2).1 = a2 at *
        generalize (parseV n2).2 = t2 at *
        clear x1f0 x1f1 x1f2 x1f3 x1c0 x1c1 x1c2 x1c3
        clear d2
        have x2f0 := HB2.out.frozen 0
        have x2f1 := HB2.out.frozen 1
        have x2f2 := HB2.out.frozen 2
        have x2f3 := HB2.out.frozen 3
        have x2c0 := HB2.out.cellv (j := 0) (by simp)
        have x2c1 := HB2.out.cellv (j := 1) (by simp)
        have x2c2 := HB2.out.cellv (j := 2) (by simp)
        have x2c3 := HB2.out.cellv (j := 3) (by simp)
        simp only [List.getElem_cons_zero, List.getElem_cons_succ] at x2c0 x2c1 x2c2 x2c3
        obtain ⟨b0, b1, b2, b3, b4⟩ := HBX.out v2 (G02.trans B_v2)
        obtain ⟨Fm, hFm⟩ : ∃ z, fmtRuleV p (3, a1, a2, 0) = z := ⟨_, rfl⟩
        have HFM := Lib.hid hFm
        clear hFm
        go_wp2_with fail
        refine (sFormatRule_any _ p S (3, a1, a2, 0) _ (HPR.out _ (G2.trans (by (repeat (first | assumption | exact Bel.refl _ | apply Bel.drewN | apply Bel.drew | apply Bel.alloc | refine Bel.set ?_ (by first | exact Nat.le_refl _ | exact Nat.le_add_right _ _ | (simp; done) | (simp; omega) | omega) _ | refine Bel.trans ?_ (by assumption)))))).1 (HPR.out _ (G2.trans (by (repeat (first | assumption | exact Bel.refl _ | apply Bel.drewN | apply Bel.drew | apply Bel.alloc | refine Bel.set ?_ (by first | exact Nat.le_refl _ | exact Nat.le_add_right _ _ | (simp; done) | (simp; omega) | omega) _ | refine Bel.trans ?_ (by assumption)))))).2 HNB.out).mono ?_
        rintro e wf ⟨rfl, gf⟩
        rw [HFM.out]
        have HBF := Lib.hid (show Blk wf w2.heap.size 38 [.int .i64 3, .int .i64 a1, .int .i64 a2, .int .i64 0] from (HB2.out.set 2 (.int .i64 a2)).bel gf)
        have B_wf : Bel w2 wf := by (repeat (first | assumption | exact Bel.refl _ | apply Bel.drewN | apply Bel.drew | apply Bel.alloc | refine Bel.set ?_ (by first | exact Nat.le_refl _ | exact Nat.le_add_right _ _ | (simp; done) | (simp; omega) | omega) _ | refine Bel.trans ?_ (by assumption)))
        have G_wf : Bel w wf := G2.trans B_wf
        have HR_wf := Lib.hid (HRB.out.bel (G02.trans B_wf))
        by_cases h0 : Fm = ⟨#[]⟩
        · have HNO := Lib.hid (fun r (h : RuleOf p s r) => (HC.out r h).2 (by rw [← h.2, (HC.out r h).1, HFM.out]; exact h0))
          have hE0 : Fm.toList = [] := by rw [h0, ByteArray.toList_eq]
          have hE1 : Fm.toList.isEmpty = true := by rw [hE0]; rfl
          clear h0
          have HF := Lib.hid (parseRule_no (p := p) (s := s) HNO.out)
          have zf0 := HR_wf.out.frozen 0
          have zf1 := HR_wf.out.frozen 1
          have zf2 := HR_wf.out.frozen 2
          have zf3 := HR_wf.out.frozen 3
          have zc0 := HR_wf.out.cellv (j := 0) (by simp)
          have zc1 := HR_wf.out.cellv (j := 1) (by simp)
          have zc2 := HR_wf.out.cellv (j := 2) (by simp)
          have zc3 := HR_wf.out.cellv (j := 3) (by simp)
          simp only [List.getElem_cons_zero, List.getElem_cons_succ] at zc0 zc1 zc2 zc3
          go_wp2_with fail
          rw [HF.out]
          exact bodyPost_ret (v := .tuple #[.agg #[.int .i64 0, .int .i64 0, .int .i64 0, .int .i64 0], .bool false]) (by simp [results, Tryz.results16, go_sem, zc0, zc1, zc2, zc3]) rfl ⟨rfl, by (repeat (first | assumption | exact Bel.refl _ | apply Bel.drewN | apply Bel.drew | apply Bel.alloc | refine Bel.set ?_ (by first | exact Nat.le_refl _ | exact Nat.le_add_right _ _ | (simp; done) | (simp; omega) | omega) _ | refine Bel.trans ?_ (by assumption)))⟩
        · have hE0 : ¬ Fm.toList = [] := fun h => h0 (toList_inj (h.trans (by rw [ByteArray.toList_eq])))
          have hE1 : Fm.toList.isEmpty = false := by cases hl : Fm.toList with | nil => exact absurd hl hE0 | cons _ _ => rfl
          have rf0 := HBF.out.frozen 0
          have rf1 := HBF.out.frozen 1
          have rf2 := HBF.out.frozen 2
          have rf3 := HBF.out.frozen 3
          have rc0 := HBF.out.cellv (j := 0) (by simp)
          have rc1 := HBF.out.cellv (j := 1) (by simp)
          have rc2 := HBF.out.cellv (j := 2) (by simp)
          have rc3 := HBF.out.cellv (j := 3) (by simp)
          simp only [List.getElem_cons_zero, List.getElem_cons_succ] at rc0 rc1 rc2 rc3
          obtain ⟨b0, b1, b2, b3, b4⟩ := HBX.out wf (G02.trans B_wf)
          go_wp2_with fail
          refine (sFormatRule_any _ p S (3, a1, a2, 0) _ (HPR.out _ (G2.trans (by (repeat (first | assumption | exact Bel.refl _ | apply Bel.drewN | apply Bel.drew | apply Bel.alloc | refine Bel.set ?_ (by first | exact Nat.le_refl _ | exact Nat.le_add_right _ _ | (simp; done) | (simp; omega) | omega) _ | refine Bel.trans ?_ (by assumption)))))).1 (HPR.out _ (G2.trans (by (repeat (first | assumption | exact Bel.refl _ | apply Bel.drewN | apply Bel.drew | apply Bel.alloc | refine Bel.set ?_ (by first | exact Nat.le_refl _ | exact Nat.le_add_right _ _ | (simp; done) | (simp; omega) | omega) _ | refine Bel.trans ?_ (by assumption)))))).2 HNB.out).mono ?_
          rintro e wg ⟨rfl, gg⟩
          rw [HFM.out]
          have B_wg : Bel w2 wg := by (repeat (first | assumption | exact Bel.refl _ | apply Bel.drewN | apply Bel.drew | apply Bel.alloc | refine Bel.set ?_ (by first | exact Nat.le_refl _ | exact Nat.le_add_right _ _ | (simp; done) | (simp; omega) | omega) _ | refine Bel.trans ?_ (by assumption)))
          have G_wg : Bel w wg := G2.trans B_wg
          have HR_wg := Lib.hid (HRB.out.bel (G02.trans B_wg))
          by_cases h1 : Fm = s
          · have HF := Lib.hid (parseRule_of (ruleOf_fmt (HFM.out.trans h1) (h1 ▸ h0)))
            have hE2 : (Fm.toList == s.toList) = true := by rw [h1]; simp
            have HBG := Lib.hid (HBF.out.bel gg)
            clear h0 h1 rf0 rc0 rf1 rc1 rf2 rc2 rf3 rc3
            have rf0 := HBG.out.frozen 0
            have rf1 := HBG.out.frozen 1
            have rf2 := HBG.out.frozen 2
            have rf3 := HBG.out.frozen 3
            have rc0 := HBG.out.cellv (j := 0) (by simp)
            have rc1 := HBG.out.cellv (j := 1) (by simp)
            have rc2 := HBG.out.cellv (j := 2) (by simp)
            have rc3 := HBG.out.cellv (j := 3) (by simp)
            simp only [List.getElem_cons_zero, List.getElem_cons_succ] at rc0 rc1 rc2 rc3
            have zf0 := HR_wg.out.frozen 0
            have zf1 := HR_wg.out.frozen 1
            have zf2 := HR_wg.out.frozen 2
            have zf3 := HR_wg.out.frozen 3
            have zc0 := HR_wg.out.cellv (j := 0) (by simp)
            have zc1 := HR_wg.out.cellv (j := 1) (by simp)
            have zc2 := HR_wg.out.cellv (j := 2) (by simp)
            have zc3 := HR_wg.out.cellv (j := 3) (by simp)
            simp only [List.getElem_cons_zero, List.getElem_cons_succ] at zc0 zc1 zc2 zc3
            go_wp2_with fail
            rw [HF.out]
            exact bodyPost_ret (v := .tuple #[.agg #[.int .i64 3, .int .i64 a1, .int .i64 a2, .int .i64 0], .bool true]) (by simp [results, Tryz.results16, go_sem, zc0, zc1, zc2, zc3]) rfl ⟨rfl, by (repeat (first | assumption | exact Bel.refl _ | apply Bel.drewN | apply Bel.drew | apply Bel.alloc | refine Bel.set ?_ (by first | exact Nat.le_refl _ | exact Nat.le_add_right _ _ | (simp; done) | (simp; omega) | omega) _ | refine Bel.trans ?_ (by assumption)))⟩
          · have HNO := Lib.hid (fun r (h : RuleOf p s r) => h1 (by rw [← HFM.out, ← (HC.out r h).1]; exact h.2))
            have hE2 : (Fm.toList == s.toList) = false := by rw [beq_eq_false_iff_ne]; intro h; exact h1 (toList_inj h)
            clear h0 h1
            have HF := Lib.hid (parseRule_no (p := p) (s := s) HNO.out)
            have zf0 := HR_wg.out.frozen 0
            have zf1 := HR_wg.out.frozen 1
            have zf2 := HR_wg.out.frozen 2
            have zf3 := HR_wg.out.frozen 3
            have zc0 := HR_wg.out.cellv (j := 0) (by simp)
            have zc1 := HR_wg.out.cellv (j := 1) (by simp)
            have zc2 := HR_wg.out.cellv (j := 2) (by simp)
            have zc3 := HR_wg.out.cellv (j := 3) (by simp)
            simp only [List.getElem_cons_zero, List.getElem_cons_succ] at zc0 zc1 zc2 zc3
            go_wp2_with fail
            rw [HF.out]
            exact bodyPost_ret (v := .tuple #[.agg #[.int .i64 0, .int .i64 0, .int .i64 0, .int .i64 0], .bool false]) (by simp [results, Tryz.results16, go_sem, zc0, zc1, zc2, zc3]) rfl ⟨rfl, by (repeat (first | assumption | exact Bel.refl _ | apply Bel.drewN | apply Bel.drew | apply Bel.alloc | refine Bel.set ?_ (by first | exact Nat.le_refl _ | exact Nat.le_add_right _ _ | (simp; done) | (simp; omega) | omega) _ | refine Bel.trans ?_ (by assumption)))⟩
      · have HC := Lib.hid (fun r (h : RuleOf p s r) => (show r = (4, (parseV n1).1, (parseV n2).1, (parseV n3).1) ∧ s ≠ ⟨#[]⟩ from ⟨(HRD.out r h).1.trans (by simp [specRule, pvI]), (HRD.out r h).2⟩))
        have x0f0 := HBR.out.frozen 0
        have x0f1 := HBR.out.frozen 1
        have x0f2 := HBR.out.frozen 2
        have x0f3 := HBR.out.frozen 3
        have x0c0 := HBR.out.cellv (j := 0) (by simp)
        have x0c1 := HBR.out.cellv (j := 1) (by simp)
        have x0c2 := HBR.out.cellv (j := 2) (by simp)
        have x0c3 := HBR.out.cellv (j := 3) (by simp)
        simp only [List.getElem_cons_zero, List.getElem_cons_succ] at x0c0 x0c1 x0c2 x0c3
        have d1 := HD1.out wr hB
        go_wp2_with fail
        refine (sParseInt_any n1 _ (by omega)).mono ?_
        rintro e v1 ⟨rfl, h1⟩
        have HB1 := Lib.hid (show Blk v1 w2.heap.size 38 [.int .i64 4, .int .i64 0, .int .i64 0, .int .i64 0] from HBR.out.bel h1)
        have B_v1 : Bel w2 v1 := by (repeat (first | assumption | exact Bel.refl _ | apply Bel.drewN | apply Bel.drew | apply Bel.alloc | refine Bel.set ?_ (by first | exact Nat.le_refl _ | exact Nat.le_add_right _ _ | (simp; done) | (simp; omega) | omega) _ | refine Bel.trans ?_ (by assumption)))
        generalize (parseV n1).1 = a1 at *
        generalize (parseV n1).2 = t1 at *
        clear x0f0 x0f1 x0f2 x0f3 x0c0 x0c1 x0c2 x0c3
        clear d1
        have x1f0 := HB1.out.frozen 0
        have x1f1 := HB1.out.frozen 1
        have x1f2 := HB1.out.frozen 2
        have x1f3 := HB1.out.frozen 3
        have x1c0 := HB1.out.cellv (j := 0) (by simp)
        have x1c1 := HB1.out.cellv (j := 1) (by simp)
        have x1c2 := HB1.out.cellv (j := 2) (by simp)
        have x1c3 := HB1.out.cellv (j := 3) (by simp)
        simp only [List.getElem_cons_zero, List.getElem_cons_succ] at x1c0 x1c1 x1c2 x1c3
        have d2 := HD2.out v1 B_v1
        go_wp2_with fail
        refine (sParseInt_any n2 _ (by omega)).mono ?_
        rintro e v2 ⟨rfl, h2⟩
        have HB2 := Lib.hid (show Blk v2 w2.heap.size 38 [.int .i64 4, .int .i64 a1, .int .i64 0, .int .i64 0] from (HB1.out.set 1 (.int .i64 a1)).bel h2)
        have B_v2 : Bel w2 v2 := by (repeat (first | assumption | exact Bel.refl _ | apply Bel.drewN | apply Bel.drew | apply Bel.alloc | refine Bel.set ?_ (by first | exact Nat.le_refl _ | exact Nat.le_add_right _ _ | (simp; done) | (simp; omega) | omega) _ | refine Bel.trans ?_ (by assumption)))
        generalize (parseV n2).1 = a2 at *
        generalize (parseV n2).2 = t2 at *
        clear x1f0 x1f1 x1f2 x1f3 x1c0 x1c1 x1c2 x1c3
        clear d2
        have x2f0 := HB2.out.frozen 0
        have x2f1 := HB2.out.frozen 1
        have x2f2 := HB2.out.frozen 2
        have x2f3 := HB2.out.frozen 3
        have x2c0 := HB2.out.cellv (j := 0) (by simp)
        have x2c1 := HB2.out.cellv (j := 1) (by simp)
        have x2c2 := HB2.out.cellv (j := 2) (by simp)
        have x2c3 := HB2.out.cellv (j := 3) (by simp)
        simp only [List.getElem_cons_zero, List.getElem_cons_succ] at x2c0 x2c1 x2c2 x2c3
        have d3 := HD3.out v2 B_v2
        go_wp2_with fail
        refine (sParseInt_any n3 _ (by omega)).mono ?_
        rintro e v3 ⟨rfl, h3⟩
        have HB3 := Lib.hid (show Blk v3 w2.heap.size 38 [.int .i64 4, .int .i64 a1, .int .i64 a2, .int .i64 0] from (HB2.out.set 2 (.int .i64 a2)).bel h3)
        have B_v3 : Bel w2 v3 := by (repeat (first | assumption | exact Bel.refl _ | apply Bel.drewN | apply Bel.drew | apply Bel.alloc | refine Bel.set ?_ (by first | exact Nat.le_refl _ | exact Nat.le_add_right _ _ | (simp; done) | (simp; omega) | omega) _ | refine Bel.trans ?_ (by assumption)))
        generalize (parseV n3).1 = a3 at *
        generalize (parseV n3).2 = t3 at *
        clear x2f0 x2f1 x2f2 x2f3 x2c0 x2c1 x2c2 x2c3
        clear d3
        have x3f0 := HB3.out.frozen 0
        have x3f1 := HB3.out.frozen 1
        have x3f2 := HB3.out.frozen 2
        have x3f3 := HB3.out.frozen 3
        have x3c0 := HB3.out.cellv (j := 0) (by simp)
        have x3c1 := HB3.out.cellv (j := 1) (by simp)
        have x3c2 := HB3.out.cellv (j := 2) (by simp)
        have x3c3 := HB3.out.cellv (j := 3) (by simp)
        simp only [List.getElem_cons_zero, List.getElem_cons_succ] at x3c0 x3c1 x3c2 x3c3
        obtain ⟨b0, b1, b2, b3, b4⟩ := HBX.out v3 (G02.trans B_v3)
        obtain ⟨Fm, hFm⟩ : ∃ z, fmtRuleV p (4, a1, a2, a3) = z := ⟨_, rfl⟩
        have HFM := Lib.hid hFm
        clear hFm
        go_wp2_with fail
        refine (sFormatRule_any _ p S (4, a1, a2, a3) _ (HPR.out _ (G2.trans (by (repeat (first | assumption | exact Bel.refl _ | apply Bel.drewN | apply Bel.drew | apply Bel.alloc | refine Bel.set ?_ (by first | exact Nat.le_refl _ | exact Nat.le_add_right _ _ | (simp; done) | (simp; omega) | omega) _ | refine Bel.trans ?_ (by assumption)))))).1 (HPR.out _ (G2.trans (by (repeat (first | assumption | exact Bel.refl _ | apply Bel.drewN | apply Bel.drew | apply Bel.alloc | refine Bel.set ?_ (by first | exact Nat.le_refl _ | exact Nat.le_add_right _ _ | (simp; done) | (simp; omega) | omega) _ | refine Bel.trans ?_ (by assumption)))))).2 HNB.out).mono ?_
        rintro e wf ⟨rfl, gf⟩
        rw [HFM.out]
        have HBF := Lib.hid (show Blk wf w2.heap.size 38 [.int .i64 4, .int .i64 a1, .int .i64 a2, .int .i64 a3] from (HB3.out.set 3 (.int .i64 a3)).bel gf)
        have B_wf : Bel w2 wf := by (repeat (first | assumption | exact Bel.refl _ | apply Bel.drewN | apply Bel.drew | apply Bel.alloc | refine Bel.set ?_ (by first | exact Nat.le_refl _ | exact Nat.le_add_right _ _ | (simp; done) | (simp; omega) | omega) _ | refine Bel.trans ?_ (by assumption)))
        have G_wf : Bel w wf := G2.trans B_wf
        have HR_wf := Lib.hid (HRB.out.bel (G02.trans B_wf))
        by_cases h0 : Fm = ⟨#[]⟩
        · have HNO := Lib.hid (fun r (h : RuleOf p s r) => (HC.out r h).2 (by rw [← h.2, (HC.out r h).1, HFM.out]; exact h0))
          have hE0 : Fm.toList = [] := by rw [h0, ByteArray.toList_eq]
          have hE1 : Fm.toList.isEmpty = true := by rw [hE0]; rfl
          clear h0
          have HF := Lib.hid (parseRule_no (p := p) (s := s) HNO.out)
          have zf0 := HR_wf.out.frozen 0
          have zf1 := HR_wf.out.frozen 1
          have zf2 := HR_wf.out.frozen 2
          have zf3 := HR_wf.out.frozen 3
          have zc0 := HR_wf.out.cellv (j := 0) (by simp)
          have zc1 := HR_wf.out.cellv (j := 1) (by simp)
          have zc2 := HR_wf.out.cellv (j := 2) (by simp)
          have zc3 := HR_wf.out.cellv (j := 3) (by simp)
          simp only [List.getElem_cons_zero, List.getElem_cons_succ] at zc0 zc1 zc2 zc3
          go_wp2_with fail
          rw [HF.out]
          exact bodyPost_ret (v := .tuple #[.agg #[.int .i64 0, .int .i64 0, .int .i64 0, .int .i64 0], .bool false]) (by simp [results, Tryz.results16, go_sem, zc0, zc1, zc2, zc3]) rfl ⟨rfl, by (repeat (first | assumption | exact Bel.refl _ | apply Bel.drewN | apply Bel.drew | apply Bel.alloc | refine Bel.set ?_ (by first | exact Nat.le_refl _ | exact Nat.le_add_right _ _ | (simp; done) | (simp; omega) | omega) _ | refine Bel.trans ?_ (by assumption)))⟩
        · have hE0 : ¬ Fm.toList = [] := fun h => h0 (toList_inj (h.trans (by rw [ByteArray.toList_eq])))
          have hE1 : Fm.toList.isEmpty = false := by cases hl : Fm.toList with | nil => exact absurd hl hE0 | cons _ _ => rfl
          have rf0 := HBF.out.frozen 0
          have rf1 := HBF.out.frozen 1
          have rf2 := HBF.out.frozen 2
          have rf3 := HBF.out.frozen 3
          have rc0 := HBF.out.cellv (j := 0) (by simp)
          have rc1 := HBF.out.cellv (j := 1) (by simp)
          have rc2 := HBF.out.cellv (j := 2) (by simp)
          have rc3 := HBF.out.cellv (j := 3) (by simp)
          simp only [List.getElem_cons_zero, List.getElem_cons_succ] at rc0 rc1 rc2 rc3
          obtain ⟨b0, b1, b2, b3, b4⟩ := HBX.out wf (G02.trans B_wf)
          go_wp2_with fail
          refine (sFormatRule_any _ p S (4, a1, a2, a3) _ (HPR.out _ (G2.trans (by (repeat (first | assumption | exact Bel.refl _ | apply Bel.drewN | apply Bel.drew | apply Bel.alloc | refine Bel.set ?_ (by first | exact Nat.le_refl _ | exact Nat.le_add_right _ _ | (simp; done) | (simp; omega) | omega) _ | refine Bel.trans ?_ (by assumption)))))).1 (HPR.out _ (G2.trans (by (repeat (first | assumption | exact Bel.refl _ | apply Bel.drewN | apply Bel.drew | apply Bel.alloc | refine Bel.set ?_ (by first | exact Nat.le_refl _ | exact Nat.le_add_right _ _ | (simp; done) | (simp; omega) | omega) _ | refine Bel.trans ?_ (by assumption)))))).2 HNB.out).mono ?_
          rintro e wg ⟨rfl, gg⟩
          rw [HFM.out]
          have B_wg : Bel w2 wg := by (repeat (first | assumption | exact Bel.refl _ | apply Bel.drewN | apply Bel.drew | apply Bel.alloc | refine Bel.set ?_ (by first | exact Nat.le_refl _ | exact Nat.le_add_right _ _ | (simp; done) | (simp; omega) | omega) _ | refine Bel.trans ?_ (by assumption)))
          have G_wg : Bel w wg := G2.trans B_wg
          have HR_wg := Lib.hid (HRB.out.bel (G02.trans B_wg))
          by_cases h1 : Fm = s
          · have HF := Lib.hid (parseRule_of (ruleOf_fmt (HFM.out.trans h1) (h1 ▸ h0)))
            have hE2 : (Fm.toList == s.toList) = true := by rw [h1]; simp
            have HBG := Lib.hid (HBF.out.bel gg)
            clear h0 h1 rf0 rc0 rf1 rc1 rf2 rc2 rf3 rc3
            have rf0 := HBG.out.frozen 0
            have rf1 := HBG.out.frozen 1
            have rf2 := HBG.out.frozen 2
            have rf3 := HBG.out.frozen 3
            have rc0 := HBG.out.cellv (j := 0) (by simp)
            have rc1 := HBG.out.cellv (j := 1) (by simp)
            have rc2 := HBG.out.cellv (j := 2) (by simp)
            have rc3 := HBG.out.cellv (j := 3) (by simp)
            simp only [List.getElem_cons_zero, List.getElem_cons_succ] at rc0 rc1 rc2 rc3
            have zf0 := HR_wg.out.frozen 0
            have zf1 := HR_wg.out.frozen 1
            have zf2 := HR_wg.out.frozen 2
            have zf3 := HR_wg.out.frozen 3
            have zc0 := HR_wg.out.cellv (j := 0) (by simp)
            have zc1 := HR_wg.out.cellv (j := 1) (by simp)
            have zc2 := HR_wg.out.cellv (j := 2) (by simp)
            have zc3 := HR_wg.out.cellv (j := 3) (by simp)
            simp only [List.getElem_cons_zero, List.getElem_cons_succ] at zc0 zc1 zc2 zc3
            go_wp2_with fail
            rw [HF.out]
            exact bodyPost_ret (v := .tuple #[.agg #[.int .i64 4, .int .i64 a1, .int .i64 a2, .int .i64 a3], .bool true]) (by simp [results, Tryz.results16, go_sem, zc0, zc1, zc2, zc3]) rfl ⟨rfl, by (repeat (first | assumption | exact Bel.refl _ | apply Bel.drewN | apply Bel.drew | apply Bel.alloc | refine Bel.set ?_ (by first | exact Nat.le_refl _ | exact Nat.le_add_right _ _ | (simp; done) | (simp; omega) | omega) _ | refine Bel.trans ?_ (by assumption)))⟩
          · have HNO := Lib.hid (fun r (h : RuleOf p s r) => h1 (by rw [← HFM.out, ← (HC.out r h).1]; exact h.2))
            have hE2 : (Fm.toList == s.toList) = false := by rw [beq_eq_false_iff_ne]; intro h; exact h1 (toList_inj h)
            clear h0 h1
            have HF := Lib.hid (parseRule_no (p := p) (s := s) HNO.out)
            have zf0 := HR_wg.out.frozen 0
            have zf1 := HR_wg.out.frozen 1
            have zf2 := HR_wg.out.frozen 2
            have zf3 := HR_wg.out.frozen 3
            have zc0 := HR_wg.out.cellv (j := 0) (by simp)
            have zc1 := HR_wg.out.cellv (j := 1) (by simp)
            have zc2 := HR_wg.out.cellv (j := 2) (by simp)
            have zc3 := HR_wg.out.cellv (j := 3) (by simp)
            simp only [List.getElem_cons_zero, List.getElem_cons_succ] at zc0 zc1 zc2 zc3
            go_wp2_with fail
            rw [HF.out]
            exact bodyPost_ret (v := .tuple #[.agg #[.int .i64 0, .int .i64 0, .int .i64 0, .int .i64 0], .bool false]) (by simp [results, Tryz.results16, go_sem, zc0, zc1, zc2, zc3]) rfl ⟨rfl, by (repeat (first | assumption | exact Bel.refl _ | apply Bel.drewN | apply Bel.drew | apply Bel.alloc | refine Bel.set ?_ (by first | exact Nat.le_refl _ | exact Nat.le_add_right _ _ | (simp; done) | (simp; omega) | omega) _ | refine Bel.trans ?_ (by assumption)))⟩
      · have HC := Lib.hid (fun r (h : RuleOf p s r) => (show r = (5, (parseV n1).1, actIndex p.2.1 n2, actIndex p.2.1 n3) ∧ s ≠ ⟨#[]⟩ from ⟨(HRD.out r h).1.trans (by simp [specRule, pvI]), (HRD.out r h).2⟩))
        have x0f0 := HBR.out.frozen 0
        have x0f1 := HBR.out.frozen 1
        have x0f2 := HBR.out.frozen 2
        have x0f3 := HBR.out.frozen 3
        have x0c0 := HBR.out.cellv (j := 0) (by simp)
        have x0c1 := HBR.out.cellv (j := 1) (by simp)
        have x0c2 := HBR.out.cellv (j := 2) (by simp)
        have x0c3 := HBR.out.cellv (j := 3) (by simp)
        simp only [List.getElem_cons_zero, List.getElem_cons_succ] at x0c0 x0c1 x0c2 x0c3
        have d1 := HD1.out wr hB
        go_wp2_with fail
        refine (sParseInt_any n1 _ (by omega)).mono ?_
        rintro e v1 ⟨rfl, h1⟩
        have HB1 := Lib.hid (show Blk v1 w2.heap.size 38 [.int .i64 5, .int .i64 0, .int .i64 0, .int .i64 0] from HBR.out.bel h1)
        have B_v1 : Bel w2 v1 := by (repeat (first | assumption | exact Bel.refl _ | apply Bel.drewN | apply Bel.drew | apply Bel.alloc | refine Bel.set ?_ (by first | exact Nat.le_refl _ | exact Nat.le_add_right _ _ | (simp; done) | (simp; omega) | omega) _ | refine Bel.trans ?_ (by assumption)))
        generalize (parseV n1).1 = a1 at *
        generalize (parseV n1).2 = t1 at *
        clear x0f0 x0f1 x0f2 x0f3 x0c0 x0c1 x0c2 x0c3
        clear d1
        have x1f0 := HB1.out.frozen 0
        have x1f1 := HB1.out.frozen 1
        have x1f2 := HB1.out.frozen 2
        have x1f3 := HB1.out.frozen 3
        have x1c0 := HB1.out.cellv (j := 0) (by simp)
        have x1c1 := HB1.out.cellv (j := 1) (by simp)
        have x1c2 := HB1.out.cellv (j := 2) (by simp)
        have x1c3 := HB1.out.cellv (j := 3) (by simp)
        simp only [List.getElem_cons_zero, List.getElem_cons_succ] at x1c0 x1c1 x1c2 x1c3
        obtain ⟨i2, hi2⟩ : ∃ z, actIndex p.2.1 n2 = z := ⟨_, rfl⟩
        rw [hi2] at HC
        have HAI2 := Lib.hid hi2
        clear hi2
        have HSA2 := Lib.hid (show ∀ W, Bel w2 W → W.cell? ⟨w.heap.size, 0, none⟩ = some (.int .i64 p.1) ∧ W.cell? ⟨w.heap.size, 1, none⟩ = some (.slice p1 p.2.1.length k1) ∧ W.cell? ⟨w.heap.size, 2, none⟩ = some (.slice p2 p.2.2.1.length k2) ∧ W.cell? ⟨w.heap.size, 3, none⟩ = some (.slice p3 p.2.2.2.1.length k3) ∧ W.cell? ⟨w.heap.size, 4, none⟩ = some (.slice p4 p.2.2.2.2.length k4) ∧ W.cell? ⟨qb, qo + 2, none⟩ = some (.string n2) from fun W hW => by
          obtain ⟨b0, b1, b2, b3, b4⟩ := HBX.out W (G02.trans hW)
          exact ⟨b0, b1, b2, b3, b4, HD2.out W hW⟩)
        go_wp2_with fail
        go_region_held3 (fun W => W.cell? ⟨w.heap.size, 0, none⟩ = some (.int .i64 p.1) ∧ W.cell? ⟨w.heap.size, 1, none⟩ = some (.slice p1 p.2.1.length k1) ∧ W.cell? ⟨w.heap.size, 2, none⟩ = some (.slice p2 p.2.2.1.length k2) ∧ W.cell? ⟨w.heap.size, 3, none⟩ = some (.slice p3 p.2.2.2.1.length k3) ∧ W.cell? ⟨w.heap.size, 4, none⟩ = some (.slice p4 p.2.2.2.2.length k4) ∧ W.cell? ⟨qb, qo + 2, none⟩ = some (.string n2)) (first | (with_reducible exact HSA2.out _ (by (repeat (first | assumption | exact Bel.refl _ | apply Bel.drewN | apply Bel.drew | apply Bel.alloc | refine Bel.set ?_ (by first | exact Nat.le_refl _ | exact Nat.le_add_right _ _ | (simp; done) | (simp; omega) | omega) _ | refine Bel.trans ?_ (by assumption))))) | exact HSA2.out _ (by (repeat (first | assumption | exact Bel.refl _ | apply Bel.drewN | apply Bel.drew | apply Bel.alloc | refine Bel.set ?_ (by first | exact Nat.le_refl _ | exact Nat.le_add_right _ _ | (simp; done) | (simp; omega) | omega) _ | refine Bel.trans ?_ (by assumption))))) ((go_at_call 47; (with_reducible refine (sActivityIndex_any _ p n2 S _ (HPR.out _ (G2.trans (by (repeat (first | assumption | exact Bel.refl _ | apply Bel.drewN | apply Bel.drew | apply Bel.alloc | refine Bel.set ?_ (by first | exact Nat.le_refl _ | exact Nat.le_add_right _ _ | (simp; done) | (simp; omega) | omega) _ | refine Bel.trans ?_ (by assumption)))))).1 (HPR.out _ (G2.trans (by (repeat (first | assumption | exact Bel.refl _ | apply Bel.drewN | apply Bel.drew | apply Bel.alloc | refine Bel.set ?_ (by first | exact Nat.le_refl _ | exact Nat.le_add_right _ _ | (simp; done) | (simp; omega) | omega) _ | refine Bel.trans ?_ (by assumption)))))).2).mono ?_); rintro e v2 ⟨rfl, h2⟩; rw [HAI2.out]; have HC2 := Lib.hid (show Blk v2 w2.heap.size 38 [.int .i64 5, .int .i64 a1, .int .i64 0, .int .i64 0] from (HB1.out.set 1 (.int .i64 a1)).bel (Bel.trans (Bel.drew (Bel.refl _)) h2)); have y0 := HC2.out.frozen 2; have y1 := HC2.out.cellv (j := 2) (by simp); simp only [List.getElem_cons_zero, List.getElem_cons_succ] at y1; have B_v2 : Bel w2 v2 := (by (repeat (first | assumption | exact Bel.refl _ | apply Bel.drewN | apply Bel.drew | apply Bel.alloc | refine Bel.set ?_ (by first | exact Nat.le_refl _ | exact Nat.le_add_right _ _ | (simp; done) | (simp; omega) | omega) _ | refine Bel.trans ?_ (by assumption))))))
        clear y0 y1
        obtain ⟨i3, hi3⟩ : ∃ z, actIndex p.2.1 n3 = z := ⟨_, rfl⟩
        rw [hi3] at HC
        have HAI3 := Lib.hid hi3
        clear hi3
        have HSA3 := Lib.hid (show ∀ W, Bel w2 W → W.cell? ⟨w.heap.size, 0, none⟩ = some (.int .i64 p.1) ∧ W.cell? ⟨w.heap.size, 1, none⟩ = some (.slice p1 p.2.1.length k1) ∧ W.cell? ⟨w.heap.size, 2, none⟩ = some (.slice p2 p.2.2.1.length k2) ∧ W.cell? ⟨w.heap.size, 3, none⟩ = some (.slice p3 p.2.2.2.1.length k3) ∧ W.cell? ⟨w.heap.size, 4, none⟩ = some (.slice p4 p.2.2.2.2.length k4) ∧ W.cell? ⟨qb, qo + 3, none⟩ = some (.string n3) from fun W hW => by
          obtain ⟨b0, b1, b2, b3, b4⟩ := HBX.out W (G02.trans hW)
          exact ⟨b0, b1, b2, b3, b4, HD3.out W hW⟩)
        go_wp2_with fail
        go_region_held3 (fun W => W.cell? ⟨w.heap.size, 0, none⟩ = some (.int .i64 p.1) ∧ W.cell? ⟨w.heap.size, 1, none⟩ = some (.slice p1 p.2.1.length k1) ∧ W.cell? ⟨w.heap.size, 2, none⟩ = some (.slice p2 p.2.2.1.length k2) ∧ W.cell? ⟨w.heap.size, 3, none⟩ = some (.slice p3 p.2.2.2.1.length k3) ∧ W.cell? ⟨w.heap.size, 4, none⟩ = some (.slice p4 p.2.2.2.2.length k4) ∧ W.cell? ⟨qb, qo + 3, none⟩ = some (.string n3)) (first | (with_reducible exact HSA3.out _ (by (repeat (first | assumption | exact Bel.refl _ | apply Bel.drewN | apply Bel.drew | apply Bel.alloc | refine Bel.set ?_ (by first | exact Nat.le_refl _ | exact Nat.le_add_right _ _ | (simp; done) | (simp; omega) | omega) _ | refine Bel.trans ?_ (by assumption))))) | exact HSA3.out _ (by (repeat (first | assumption | exact Bel.refl _ | apply Bel.drewN | apply Bel.drew | apply Bel.alloc | refine Bel.set ?_ (by first | exact Nat.le_refl _ | exact Nat.le_add_right _ _ | (simp; done) | (simp; omega) | omega) _ | refine Bel.trans ?_ (by assumption))))) ((go_at_call 47; (with_reducible refine (sActivityIndex_any _ p n3 S _ (HPR.out _ (G2.trans (by (repeat (first | assumption | exact Bel.refl _ | apply Bel.drewN | apply Bel.drew | apply Bel.alloc | refine Bel.set ?_ (by first | exact Nat.le_refl _ | exact Nat.le_add_right _ _ | (simp; done) | (simp; omega) | omega) _ | refine Bel.trans ?_ (by assumption)))))).1 (HPR.out _ (G2.trans (by (repeat (first | assumption | exact Bel.refl _ | apply Bel.drewN | apply Bel.drew | apply Bel.alloc | refine Bel.set ?_ (by first | exact Nat.le_refl _ | exact Nat.le_add_right _ _ | (simp; done) | (simp; omega) | omega) _ | refine Bel.trans ?_ (by assumption)))))).2).mono ?_); rintro e v3 ⟨rfl, h3⟩; rw [HAI3.out]; have HC3 := Lib.hid (show Blk v3 w2.heap.size 38 [.int .i64 5, .int .i64 a1, .int .i64 i2, .int .i64 0] from (HC2.out.set 2 (.int .i64 i2)).bel (Bel.trans (Bel.drew (Bel.refl _)) h3)); have y0 := HC3.out.frozen 3; have y1 := HC3.out.cellv (j := 3) (by simp); simp only [List.getElem_cons_zero, List.getElem_cons_succ] at y1; have B_v3 : Bel w2 v3 := (by (repeat (first | assumption | exact Bel.refl _ | apply Bel.drewN | apply Bel.drew | apply Bel.alloc | refine Bel.set ?_ (by first | exact Nat.le_refl _ | exact Nat.le_add_right _ _ | (simp; done) | (simp; omega) | omega) _ | refine Bel.trans ?_ (by assumption))))))
        clear y0 y1
        have x3f0 := HC3.out.frozen 0
        have x3f1 := HC3.out.frozen 1
        have x3f2 := HC3.out.frozen 2
        have x3f3 := HC3.out.frozen 3
        have x3c0 := HC3.out.cellv (j := 0) (by simp)
        have x3c1 := HC3.out.cellv (j := 1) (by simp)
        have x3c2 := HC3.out.cellv (j := 2) (by simp)
        have x3c3 := HC3.out.cellv (j := 3) (by simp)
        simp only [List.getElem_cons_zero, List.getElem_cons_succ] at x3c0 x3c1 x3c2 x3c3
        obtain ⟨b0, b1, b2, b3, b4⟩ := HBX.out v3 (G02.trans B_v3)
        obtain ⟨Fm, hFm⟩ : ∃ z, fmtRuleV p (5, a1, i2, i3) = z := ⟨_, rfl⟩
        have HFM := Lib.hid hFm
        clear hFm
        go_wp2_with fail
        refine (sFormatRule_any _ p S (5, a1, i2, i3) _ (HPR.out _ (G2.trans (by (repeat (first | assumption | exact Bel.refl _ | apply Bel.drewN | apply Bel.drew | apply Bel.alloc | refine Bel.set ?_ (by first | exact Nat.le_refl _ | exact Nat.le_add_right _ _ | (simp; done) | (simp; omega) | omega) _ | refine Bel.trans ?_ (by assumption)))))).1 (HPR.out _ (G2.trans (by (repeat (first | assumption | exact Bel.refl _ | apply Bel.drewN | apply Bel.drew | apply Bel.alloc | refine Bel.set ?_ (by first | exact Nat.le_refl _ | exact Nat.le_add_right _ _ | (simp; done) | (simp; omega) | omega) _ | refine Bel.trans ?_ (by assumption)))))).2 HNB.out).mono ?_
        rintro e wf ⟨rfl, gf⟩
        rw [HFM.out]
        have HBF := Lib.hid (show Blk wf w2.heap.size 38 [.int .i64 5, .int .i64 a1, .int .i64 i2, .int .i64 i3] from (HC3.out.set 3 (.int .i64 i3)).bel gf)
        have B_wf : Bel w2 wf := by (repeat (first | assumption | exact Bel.refl _ | apply Bel.drewN | apply Bel.drew | apply Bel.alloc | refine Bel.set ?_ (by first | exact Nat.le_refl _ | exact Nat.le_add_right _ _ | (simp; done) | (simp; omega) | omega) _ | refine Bel.trans ?_ (by assumption)))
        have G_wf : Bel w wf := G2.trans B_wf
        have HR_wf := Lib.hid (HRB.out.bel (G02.trans B_wf))
        by_cases h0 : Fm = ⟨#[]⟩
        · have HNO := Lib.hid (fun r (h : RuleOf p s r) => (HC.out r h).2 (by rw [← h.2, (HC.out r h).1, HFM.out]; exact h0))
          have hE0 : Fm.toList = [] := by rw [h0, ByteArray.toList_eq]
          have hE1 : Fm.toList.isEmpty = true := by rw [hE0]; rfl
          clear h0
          have HF := Lib.hid (parseRule_no (p := p) (s := s) HNO.out)
          have zf0 := HR_wf.out.frozen 0
          have zf1 := HR_wf.out.frozen 1
          have zf2 := HR_wf.out.frozen 2
          have zf3 := HR_wf.out.frozen 3
          have zc0 := HR_wf.out.cellv (j := 0) (by simp)
          have zc1 := HR_wf.out.cellv (j := 1) (by simp)
          have zc2 := HR_wf.out.cellv (j := 2) (by simp)
          have zc3 := HR_wf.out.cellv (j := 3) (by simp)
          simp only [List.getElem_cons_zero, List.getElem_cons_succ] at zc0 zc1 zc2 zc3
          go_wp2_with fail
          rw [HF.out]
          exact bodyPost_ret (v := .tuple #[.agg #[.int .i64 0, .int .i64 0, .int .i64 0, .int .i64 0], .bool false]) (by simp [results, Tryz.results16, go_sem, zc0, zc1, zc2, zc3]) rfl ⟨rfl, by (repeat (first | assumption | exact Bel.refl _ | apply Bel.drewN | apply Bel.drew | apply Bel.alloc | refine Bel.set ?_ (by first | exact Nat.le_refl _ | exact Nat.le_add_right _ _ | (simp; done) | (simp; omega) | omega) _ | refine Bel.trans ?_ (by assumption)))⟩
        · have hE0 : ¬ Fm.toList = [] := fun h => h0 (toList_inj (h.trans (by rw [ByteArray.toList_eq])))
          have hE1 : Fm.toList.isEmpty = false := by cases hl : Fm.toList with | nil => exact absurd hl hE0 | cons _ _ => rfl
          have rf0 := HBF.out.frozen 0
          have rf1 := HBF.out.frozen 1
          have rf2 := HBF.out.frozen 2
          have rf3 := HBF.out.frozen 3
          have rc0 := HBF.out.cellv (j := 0) (by simp)
          have rc1 := HBF.out.cellv (j := 1) (by simp)
          have rc2 := HBF.out.cellv (j := 2) (by simp)
          have rc3 := HBF.out.cellv (j := 3) (by simp)
          simp only [List.getElem_cons_zero, List.getElem_cons_succ] at rc0 rc1 rc2 rc3
          obtain ⟨b0, b1, b2, b3, b4⟩ := HBX.out wf (G02.trans B_wf)
          go_wp2_with fail
          refine (sFormatRule_any _ p S (5, a1, i2, i3) _ (HPR.out _ (G2.trans (by (repeat (first | assumption | exact Bel.refl _ | apply Bel.drewN | apply Bel.drew | apply Bel.alloc | refine Bel.set ?_ (by first | exact Nat.le_refl _ | exact Nat.le_add_right _ _ | (simp; done) | (simp; omega) | omega) _ | refine Bel.trans ?_ (by assumption)))))).1 (HPR.out _ (G2.trans (by (repeat (first | assumption | exact Bel.refl _ | apply Bel.drewN | apply Bel.drew | apply Bel.alloc | refine Bel.set ?_ (by first | exact Nat.le_refl _ | exact Nat.le_add_right _ _ | (simp; done) | (simp; omega) | omega) _ | refine Bel.trans ?_ (by assumption)))))).2 HNB.out).mono ?_
          rintro e wg ⟨rfl, gg⟩
          rw [HFM.out]
          have B_wg : Bel w2 wg := by (repeat (first | assumption | exact Bel.refl _ | apply Bel.drewN | apply Bel.drew | apply Bel.alloc | refine Bel.set ?_ (by first | exact Nat.le_refl _ | exact Nat.le_add_right _ _ | (simp; done) | (simp; omega) | omega) _ | refine Bel.trans ?_ (by assumption)))
          have G_wg : Bel w wg := G2.trans B_wg
          have HR_wg := Lib.hid (HRB.out.bel (G02.trans B_wg))
          by_cases h1 : Fm = s
          · have HF := Lib.hid (parseRule_of (ruleOf_fmt (HFM.out.trans h1) (h1 ▸ h0)))
            have hE2 : (Fm.toList == s.toList) = true := by rw [h1]; simp
            have HBG := Lib.hid (HBF.out.bel gg)
            clear h0 h1 rf0 rc0 rf1 rc1 rf2 rc2 rf3 rc3
            have rf0 := HBG.out.frozen 0
            have rf1 := HBG.out.frozen 1
            have rf2 := HBG.out.frozen 2
            have rf3 := HBG.out.frozen 3
            have rc0 := HBG.out.cellv (j := 0) (by simp)
            have rc1 := HBG.out.cellv (j := 1) (by simp)
            have rc2 := HBG.out.cellv (j := 2) (by simp)
            have rc3 := HBG.out.cellv (j := 3) (by simp)
            simp only [List.getElem_cons_zero, List.getElem_cons_succ] at rc0 rc1 rc2 rc3
            have zf0 := HR_wg.out.frozen 0
            have zf1 := HR_wg.out.frozen 1
            have zf2 := HR_wg.out.frozen 2
            have zf3 := HR_wg.out.frozen 3
            have zc0 := HR_wg.out.cellv (j := 0) (by simp)
            have zc1 := HR_wg.out.cellv (j := 1) (by simp)
            have zc2 := HR_wg.out.cellv (j := 2) (by simp)
            have zc3 := HR_wg.out.cellv (j := 3) (by simp)
            simp only [List.getElem_cons_zero, List.getElem_cons_succ] at zc0 zc1 zc2 zc3
            go_wp2_with fail
            rw [HF.out]
            exact bodyPost_ret (v := .tuple #[.agg #[.int .i64 5, .int .i64 a1, .int .i64 i2, .int .i64 i3], .bool true]) (by simp [results, Tryz.results16, go_sem, zc0, zc1, zc2, zc3]) rfl ⟨rfl, by (repeat (first | assumption | exact Bel.refl _ | apply Bel.drewN | apply Bel.drew | apply Bel.alloc | refine Bel.set ?_ (by first | exact Nat.le_refl _ | exact Nat.le_add_right _ _ | (simp; done) | (simp; omega) | omega) _ | refine Bel.trans ?_ (by assumption)))⟩
          · have HNO := Lib.hid (fun r (h : RuleOf p s r) => h1 (by rw [← HFM.out, ← (HC.out r h).1]; exact h.2))
            have hE2 : (Fm.toList == s.toList) = false := by rw [beq_eq_false_iff_ne]; intro h; exact h1 (toList_inj h)
            clear h0 h1
            have HF := Lib.hid (parseRule_no (p := p) (s := s) HNO.out)
            have zf0 := HR_wg.out.frozen 0
            have zf1 := HR_wg.out.frozen 1
            have zf2 := HR_wg.out.frozen 2
            have zf3 := HR_wg.out.frozen 3
            have zc0 := HR_wg.out.cellv (j := 0) (by simp)
            have zc1 := HR_wg.out.cellv (j := 1) (by simp)
            have zc2 := HR_wg.out.cellv (j := 2) (by simp)
            have zc3 := HR_wg.out.cellv (j := 3) (by simp)
            simp only [List.getElem_cons_zero, List.getElem_cons_succ] at zc0 zc1 zc2 zc3
            go_wp2_with fail
            rw [HF.out]
            exact bodyPost_ret (v := .tuple #[.agg #[.int .i64 0, .int .i64 0, .int .i64 0, .int .i64 0], .bool false]) (by simp [results, Tryz.results16, go_sem, zc0, zc1, zc2, zc3]) rfl ⟨rfl, by (repeat (first | assumption | exact Bel.refl _ | apply Bel.drewN | apply Bel.drew | apply Bel.alloc | refine Bel.set ?_ (by first | exact Nat.le_refl _ | exact Nat.le_add_right _ _ | (simp; done) | (simp; omega) | omega) _ | refine Bel.trans ?_ (by assumption)))⟩
      · have HC := Lib.hid (fun r (h : RuleOf p s r) => (show r = (6, (parseV n1).1, 0, 0) ∧ s ≠ ⟨#[]⟩ from ⟨(HRD.out r h).1.trans (by simp [specRule, pvI]), (HRD.out r h).2⟩))
        have x0f0 := HBR.out.frozen 0
        have x0f1 := HBR.out.frozen 1
        have x0f2 := HBR.out.frozen 2
        have x0f3 := HBR.out.frozen 3
        have x0c0 := HBR.out.cellv (j := 0) (by simp)
        have x0c1 := HBR.out.cellv (j := 1) (by simp)
        have x0c2 := HBR.out.cellv (j := 2) (by simp)
        have x0c3 := HBR.out.cellv (j := 3) (by simp)
        simp only [List.getElem_cons_zero, List.getElem_cons_succ] at x0c0 x0c1 x0c2 x0c3
        have d1 := HD1.out wr hB
        go_wp2_with fail
        refine (sParseInt_any n1 _ (by omega)).mono ?_
        rintro e v1 ⟨rfl, h1⟩
        have HB1 := Lib.hid (show Blk v1 w2.heap.size 38 [.int .i64 6, .int .i64 0, .int .i64 0, .int .i64 0] from HBR.out.bel h1)
        have B_v1 : Bel w2 v1 := by (repeat (first | assumption | exact Bel.refl _ | apply Bel.drewN | apply Bel.drew | apply Bel.alloc | refine Bel.set ?_ (by first | exact Nat.le_refl _ | exact Nat.le_add_right _ _ | (simp; done) | (simp; omega) | omega) _ | refine Bel.trans ?_ (by assumption)))
        generalize (parseV n1).1 = a1 at *
        generalize (parseV n1).2 = t1 at *
        clear x0f0 x0f1 x0f2 x0f3 x0c0 x0c1 x0c2 x0c3
        clear d1
        have x1f0 := HB1.out.frozen 0
        have x1f1 := HB1.out.frozen 1
        have x1f2 := HB1.out.frozen 2
        have x1f3 := HB1.out.frozen 3
        have x1c0 := HB1.out.cellv (j := 0) (by simp)
        have x1c1 := HB1.out.cellv (j := 1) (by simp)
        have x1c2 := HB1.out.cellv (j := 2) (by simp)
        have x1c3 := HB1.out.cellv (j := 3) (by simp)
        simp only [List.getElem_cons_zero, List.getElem_cons_succ] at x1c0 x1c1 x1c2 x1c3
        obtain ⟨b0, b1, b2, b3, b4⟩ := HBX.out v1 (G02.trans B_v1)
        obtain ⟨Fm, hFm⟩ : ∃ z, fmtRuleV p (6, a1, 0, 0) = z := ⟨_, rfl⟩
        have HFM := Lib.hid hFm
        clear hFm
        go_wp2_with fail
        refine (sFormatRule_any _ p S (6, a1, 0, 0) _ (HPR.out _ (G2.trans (by (repeat (first | assumption | exact Bel.refl _ | apply Bel.drewN | apply Bel.drew | apply Bel.alloc | refine Bel.set ?_ (by first | exact Nat.le_refl _ | exact Nat.le_add_right _ _ | (simp; done) | (simp; omega) | omega) _ | refine Bel.trans ?_ (by assumption)))))).1 (HPR.out _ (G2.trans (by (repeat (first | assumption | exact Bel.refl _ | apply Bel.drewN | apply Bel.drew | apply Bel.alloc | refine Bel.set ?_ (by first | exact Nat.le_refl _ | exact Nat.le_add_right _ _ | (simp; done) | (simp; omega) | omega) _ | refine Bel.trans ?_ (by assumption)))))).2 HNB.out).mono ?_
        rintro e wf ⟨rfl, gf⟩
        rw [HFM.out]
        have HBF := Lib.hid (show Blk wf w2.heap.size 38 [.int .i64 6, .int .i64 a1, .int .i64 0, .int .i64 0] from (HB1.out.set 1 (.int .i64 a1)).bel gf)
        have B_wf : Bel w2 wf := by (repeat (first | assumption | exact Bel.refl _ | apply Bel.drewN | apply Bel.drew | apply Bel.alloc | refine Bel.set ?_ (by first | exact Nat.le_refl _ | exact Nat.le_add_right _ _ | (simp; done) | (simp; omega) | omega) _ | refine Bel.trans ?_ (by assumption)))
        have G_wf : Bel w wf := G2.trans B_wf
        have HR_wf := Lib.hid (HRB.out.bel (G02.trans B_wf))
        by_cases h0 : Fm = ⟨#[]⟩
        · have HNO := Lib.hid (fun r (h : RuleOf p s r) => (HC.out r h).2 (by rw [← h.2, (HC.out r h).1, HFM.out]; exact h0))
          have hE0 : Fm.toList = [] := by rw [h0, ByteArray.toList_eq]
          have hE1 : Fm.toList.isEmpty = true := by rw [hE0]; rfl
          clear h0
          have HF := Lib.hid (parseRule_no (p := p) (s := s) HNO.out)
          have zf0 := HR_wf.out.frozen 0
          have zf1 := HR_wf.out.frozen 1
          have zf2 := HR_wf.out.frozen 2
          have zf3 := HR_wf.out.frozen 3
          have zc0 := HR_wf.out.cellv (j := 0) (by simp)
          have zc1 := HR_wf.out.cellv (j := 1) (by simp)
          have zc2 := HR_wf.out.cellv (j := 2) (by simp)
          have zc3 := HR_wf.out.cellv (j := 3) (by simp)
          simp only [List.getElem_cons_zero, List.getElem_cons_succ] at zc0 zc1 zc2 zc3
          go_wp2_with fail
          rw [HF.out]
          exact bodyPost_ret (v := .tuple #[.agg #[.int .i64 0, .int .i64 0, .int .i64 0, .int .i64 0], .bool false]) (by simp [results, Tryz.results16, go_sem, zc0, zc1, zc2, zc3]) rfl ⟨rfl, by (repeat (first | assumption | exact Bel.refl _ | apply Bel.drewN | apply Bel.drew | apply Bel.alloc | refine Bel.set ?_ (by first | exact Nat.le_refl _ | exact Nat.le_add_right _ _ | (simp; done) | (simp; omega) | omega) _ | refine Bel.trans ?_ (by assumption)))⟩
        · have hE0 : ¬ Fm.toList = [] := fun h => h0 (toList_inj (h.trans (by rw [ByteArray.toList_eq])))
          have hE1 : Fm.toList.isEmpty = false := by cases hl : Fm.toList with | nil => exact absurd hl hE0 | cons _ _ => rfl
          have rf0 := HBF.out.frozen 0
          have rf1 := HBF.out.frozen 1
          have rf2 := HBF.out.frozen 2
          have rf3 := HBF.out.frozen 3
          have rc0 := HBF.out.cellv (j := 0) (by simp)
          have rc1 := HBF.out.cellv (j := 1) (by simp)
          have rc2 := HBF.out.cellv (j := 2) (by simp)
          have rc3 := HBF.out.cellv (j := 3) (by simp)
          simp only [List.getElem_cons_zero, List.getElem_cons_succ] at rc0 rc1 rc2 rc3
          obtain ⟨b0, b1, b2, b3, b4⟩ := HBX.out wf (G02.trans B_wf)
          go_wp2_with fail
          refine (sFormatRule_any _ p S (6, a1, 0, 0) _ (HPR.out _ (G2.trans (by (repeat (first | assumption | exact Bel.refl _ | apply Bel.drewN | apply Bel.drew | apply Bel.alloc | refine Bel.set ?_ (by first | exact Nat.le_refl _ | exact Nat.le_add_right _ _ | (simp; done) | (simp; omega) | omega) _ | refine Bel.trans ?_ (by assumption)))))).1 (HPR.out _ (G2.trans (by (repeat (first | assumption | exact Bel.refl _ | apply Bel.drewN | apply Bel.drew | apply Bel.alloc | refine Bel.set ?_ (by first | exact Nat.le_refl _ | exact Nat.le_add_right _ _ | (simp; done) | (simp; omega) | omega) _ | refine Bel.trans ?_ (by assumption)))))).2 HNB.out).mono ?_
          rintro e wg ⟨rfl, gg⟩
          rw [HFM.out]
          have B_wg : Bel w2 wg := by (repeat (first | assumption | exact Bel.refl _ | apply Bel.drewN | apply Bel.drew | apply Bel.alloc | refine Bel.set ?_ (by first | exact Nat.le_refl _ | exact Nat.le_add_right _ _ | (simp; done) | (simp; omega) | omega) _ | refine Bel.trans ?_ (by assumption)))
          have G_wg : Bel w wg := G2.trans B_wg
          have HR_wg := Lib.hid (HRB.out.bel (G02.trans B_wg))
          by_cases h1 : Fm = s
          · have HF := Lib.hid (parseRule_of (ruleOf_fmt (HFM.out.trans h1) (h1 ▸ h0)))
            have hE2 : (Fm.toList == s.toList) = true := by rw [h1]; simp
            have HBG := Lib.hid (HBF.out.bel gg)
            clear h0 h1 rf0 rc0 rf1 rc1 rf2 rc2 rf3 rc3
            have rf0 := HBG.out.frozen 0
            have rf1 := HBG.out.frozen 1
            have rf2 := HBG.out.frozen 2
            have rf3 := HBG.out.frozen 3
            have rc0 := HBG.out.cellv (j := 0) (by simp)
            have rc1 := HBG.out.cellv (j := 1) (by simp)
            have rc2 := HBG.out.cellv (j := 2) (by simp)
            have rc3 := HBG.out.cellv (j := 3) (by simp)
            simp only [List.getElem_cons_zero, List.getElem_cons_succ] at rc0 rc1 rc2 rc3
            have zf0 := HR_wg.out.frozen 0
            have zf1 := HR_wg.out.frozen 1
            have zf2 := HR_wg.out.frozen 2
            have zf3 := HR_wg.out.frozen 3
            have zc0 := HR_wg.out.cellv (j := 0) (by simp)
            have zc1 := HR_wg.out.cellv (j := 1) (by simp)
            have zc2 := HR_wg.out.cellv (j := 2) (by simp)
            have zc3 := HR_wg.out.cellv (j := 3) (by simp)
            simp only [List.getElem_cons_zero, List.getElem_cons_succ] at zc0 zc1 zc2 zc3
            go_wp2_with fail
            rw [HF.out]
            exact bodyPost_ret (v := .tuple #[.agg #[.int .i64 6, .int .i64 a1, .int .i64 0, .int .i64 0], .bool true]) (by simp [results, Tryz.results16, go_sem, zc0, zc1, zc2, zc3]) rfl ⟨rfl, by (repeat (first | assumption | exact Bel.refl _ | apply Bel.drewN | apply Bel.drew | apply Bel.alloc | refine Bel.set ?_ (by first | exact Nat.le_refl _ | exact Nat.le_add_right _ _ | (simp; done) | (simp; omega) | omega) _ | refine Bel.trans ?_ (by assumption)))⟩
          · have HNO := Lib.hid (fun r (h : RuleOf p s r) => h1 (by rw [← HFM.out, ← (HC.out r h).1]; exact h.2))
            have hE2 : (Fm.toList == s.toList) = false := by rw [beq_eq_false_iff_ne]; intro h; exact h1 (toList_inj h)
            clear h0 h1
            have HF := Lib.hid (parseRule_no (p := p) (s := s) HNO.out)
            have zf0 := HR_wg.out.frozen 0
            have zf1 := HR_wg.out.frozen 1
            have zf2 := HR_wg.out.frozen 2
            have zf3 := HR_wg.out.frozen 3
            have zc0 := HR_wg.out.cellv (j := 0) (by simp)
            have zc1 := HR_wg.out.cellv (j := 1) (by simp)
            have zc2 := HR_wg.out.cellv (j := 2) (by simp)
            have zc3 := HR_wg.out.cellv (j := 3) (by simp)
            simp only [List.getElem_cons_zero, List.getElem_cons_succ] at zc0 zc1 zc2 zc3
            go_wp2_with fail
            rw [HF.out]
            exact bodyPost_ret (v := .tuple #[.agg #[.int .i64 0, .int .i64 0, .int .i64 0, .int .i64 0], .bool false]) (by simp [results, Tryz.results16, go_sem, zc0, zc1, zc2, zc3]) rfl ⟨rfl, by (repeat (first | assumption | exact Bel.refl _ | apply Bel.drewN | apply Bel.drew | apply Bel.alloc | refine Bel.set ?_ (by first | exact Nat.le_refl _ | exact Nat.le_add_right _ _ | (simp; done) | (simp; omega) | omega) _ | refine Bel.trans ?_ (by assumption)))⟩

end Go.Proofs.YtkfpciggolkjeaaGreatDoor
