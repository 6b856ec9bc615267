/- ParseRule of the program. -/
import Derived.Test.YtkfpciggolkjeaaGreatDoorRuleQ
import Derived.Test.YtkfpciggolkjeaaGreatDoorLitParse
import Derived.Test.YtkfpciggolkjeaaGreatDoorOwnStr
import Derived.Deep.CutBlock
namespace Go.Proofs.YtkfpciggolkjeaaGreatDoor
open Go.ChangeShapes Go.WideShapes Go.ChangeAt Go.RowKit
set_option linter.unusedVariables false

set_option maxRecDepth 100000 in
set_option maxHeartbeats 8000000 in
theorem iParseRule_any (v : Value) (p : ProjT) (S : Nat → Prop) (s : ByteArray) (w : World) (hx : aggR projR S w v p) (hS : ∀ b, S b → b < w.heap.size) (_hn : bulkProject p ≤ 1048576) (hs : s.size ≤ 1048576) (htab : Lib.TabIs Tryz.prog w "internal/strconv.uint64pow10" .u64 Lib.pow10Tab) (herr : ErrVars w) :
    Calls Tryz.prog 17 #[v, .string s] w fun e w' => e = .returned (.tuple #[.agg #[.int .i64 (parseRuleV p s).1.1, .int .i64 (parseRuleV p s).1.2.1, .int .i64 (parseRuleV p s).1.2.2.1, .int .i64 (parseRuleV p s).1.2.2.2], .bool (parseRuleV p s).2]) ∧ Bel w w' := by
  obtain ⟨cs, rfl, hx⟩ := hx
  obtain ⟨c1, c2, c3, c4, rfl, q0, q1, q2, q3, q4⟩ := projR_open hx
  have Q1 := Lib.hid q1
  have Q2 := Lib.hid q2
  have Q3 := Lib.hid q3
  have Q4 := Lib.hid q4
  have HP := Lib.hid hx
  obtain ⟨p1, k1, rfl, l1, l1', -⟩ := sliceR_open q1
  obtain ⟨p2, k2, rfl, l2, l2', -⟩ := sliceR_open q2
  obtain ⟨p3, k3, rfl, l3, l3', -⟩ := sliceR_open q3
  obtain ⟨p4, k4, rfl, l4, l4', -⟩ := sliceR_open q4
  unfold maxLen at l1' l2' l3' l4'
  clear hx q0 q1 q2 q3 q4
  have HS := Lib.hid hS
  have HNB := Lib.hid _hn
  have HTB := Lib.hid htab
  have HER := Lib.hid herr
  clear hS _hn htab herr
  have HPR := Lib.hid (show ∀ W, Bel w W → aggR projR S W (.agg #[.int .i64 p.1, .slice p1 p.2.1.length k1, .slice p2 p.2.2.1.length k2, .slice p3 p.2.2.2.1.length k3, .slice p4 p.2.2.2.2.length k4]) p ∧ (∀ b, S b → b < W.heap.size) from fun W hW => ⟨aggR_mk (projR_good.bel HP.out hW HS.out), fun b hb => Nat.lt_of_lt_of_le (HS.out b hb) hW.size⟩)
  show Calls Tryz.prog 17 #[.agg #[.int .i64 p.1, .slice p1 p.2.1.length k1, .slice p2 p.2.2.1.length k2, .slice p3 p.2.2.2.1.length k3, .slice p4 p.2.2.2.2.length k4], .string s] w _
  go_enter Tryz.func17, Tryz.ntmps17
  go_wp2_with fail
  obtain ⟨W0, hW0⟩ : ∃ W, W = (w.alloc (.cells #[.int .i64 p.1, .slice p1 p.2.1.length k1, .slice p2 p.2.2.1.length k2, .slice p3 p.2.2.2.1.length k3, .slice p4 p.2.2.2.2.length k4] 36)).alloc (.cells #[.int .i64 0, .int .i64 0, .int .i64 0, .int .i64 0] 38) := ⟨_, rfl⟩
  rw [← hW0]
  have G0 : Bel w W0 := by rw [hW0]; (repeat (first | assumption | exact Bel.refl _ | apply Bel.drewN | apply Bel.drew | apply Bel.alloc | refine Bel.trans ?_ (by assumption)))
  have HRB := Lib.hid (show Blk W0 (w.heap.size + 1) 38 [.int .i64 0, .int .i64 0, .int .i64 0, .int .i64 0] from by rw [hW0]; exact Blk.new' _ (by simp))
  have HBX := Lib.hid (show ∀ W, Bel W0 W → W.cell? ⟨w.heap.size, 0, none⟩ = some (.int .i64 p.1) ∧ W.cell? ⟨w.heap.size, 1, none⟩ = some (.slice p1 p.2.1.length k1) ∧ W.cell? ⟨w.heap.size, 2, none⟩ = some (.slice p2 p.2.2.1.length k2) ∧ W.cell? ⟨w.heap.size, 3, none⟩ = some (.slice p3 p.2.2.2.1.length k3) ∧ W.cell? ⟨w.heap.size, 4, none⟩ = some (.slice p4 p.2.2.2.2.length k4) from fun W hW => ⟨hW.cell (by rw [hW0]; simp [go_sem]), hW.cell (by rw [hW0]; simp [go_sem]), hW.cell (by rw [hW0]; simp [go_sem]), hW.cell (by rw [hW0]; simp [go_sem]), hW.cell (by rw [hW0]; simp [go_sem])⟩)
  have HW0 := Lib.hid hW0
  have hz0 : W0.heap.size = w.heap.size + 1 + 1 := by rw [hW0]; simp
  have HZ0 := Lib.hid hz0
  clear hW0 hz0
  refine (iSplitAny_any s ⟨#[32]⟩ _ hs).mono ?_
  rintro e w1 ⟨vq, rfl, hq, g1⟩
  have HRD := Lib.hid (fun r (h : RuleOf p s r) => rule_imp h)
  have hwl := splitV_le s ⟨#[32]⟩
  have HSZ := Lib.hid (fun i => splitV_getD (s := s) (by_ := ⟨#[32]⟩) i)
  generalize splitV s ⟨#[32]⟩ = ws at *
  obtain ⟨q, cap, rfl, hc1, hc2, -⟩ := sliceR_open hq
  obtain ⟨qb, qo, rfl, -, hrow⟩ := strs_at hq hwl.1
  have G01 : Bel W0 w1 := g1
  have G1 : Bel w w1 := G0.trans G01
  have HDA := Lib.hid (show ∀ W, Bel w1 W → ∀ i, i < ws.length → W.cell? ⟨qb, qo + i, none⟩ = some (.string (ws.getD i ⟨#[]⟩)) from fun W hW i hi => hW.cell (hrow i hi))
  have HD0 := Lib.hid (show ∀ W, Bel w1 W → W.cell? ⟨qb, qo, none⟩ = some (.string (ws.getD 0 ⟨#[]⟩)) from fun W hW => HDA.out W hW 0 hwl.1)
  have hsz1 := G1.size
  have hz0w : w.heap.size + 1 + 1 ≤ w1.heap.size := by have := G01.size; have := HZ0.out; omega
  have hwn : 1 ≤ ws.length := hwl.1
  unfold maxLen at hc2
  clear hrow hq g1
  obtain ⟨n0, hn0⟩ : ∃ x, ws.getD 0 ⟨#[]⟩ = x := ⟨_, rfl⟩
  rw [hn0] at HD0
  have HN0 := Lib.hid hn0
  clear hn0
  go_wp2_with fail
  obtain ⟨W2, hW2⟩ : ∃ W, W = (w1.alloc (.cells #[.int .i64 0, .int .i64 0, .int .i64 0, .int .i64 0] 38)).alloc (.cells #[.int .i64 0, .int .i64 0, .int .i64 0] 82) := ⟨_, rfl⟩
  rw [← hW2]
  have G12 : Bel w1 W2 := by rw [hW2]; (repeat (first | assumption | exact Bel.refl _ | apply Bel.drewN | apply Bel.drew | apply Bel.alloc | refine Bel.trans ?_ (by assumption)))
  have HRR := Lib.hid (show Blk W2 w1.heap.size 38 [.int .i64 0, .int .i64 0, .int .i64 0, .int .i64 0] from by rw [hW2]; exact (Blk.new' (w := w1) _ (by simp)).alloc _)
  have HFF := Lib.hid (show Blk W2 (w1.heap.size + 1) 82 (flds p ws 1) from by rw [flds_one, hW2]; exact Blk.new' _ (by simp))
  have HW2 := Lib.hid hW2
  clear hW2
  go_loopw [9] (fun kk wr => ∃ k : Nat, 1 ≤ k ∧ k ≤ 7 ∧ kk = .int .i64 k ∧ Blk wr w1.heap.size 38 [.int .i64 (kindTo n0 (k - 1)), .int .i64 0, .int .i64 0, .int .i64 0] ∧ Blk wr (w1.heap.size + 1) 82 (flds p ws 1) ∧ Bel w1 wr) (fun kk _ => 7 - (intOf kk).toNat)
  case atStart => exact ⟨1, by omega, by omega, rfl, HRR.out, HFF.out, G12⟩
  case round =>
    obtain ⟨k, hk1, hk7, rfl, hBR, hBF, hB⟩ := hrel
    have HBR := Lib.hid hBR
    have HBF := Lib.hid hBF
    have hszr := hB.size
    have hrb := hBF.lt
    clear hBR hBF
    by_cases hk : k ≤ 6
    · have hki : (k : Int) ≤ 6 := by omega
      have hw0 : 0 < ws.length := by omega
      have hwi : (0 : Int) < (ws.length : Int) := by omega
      obtain ⟨kz, hkz⟩ : ∃ z, kindTo n0 (k - 1) = z := ⟨_, rfl⟩
      rw [hkz] at HBR
      by_cases he : ruleNameF (k : Int) = n0
      · have HK := Lib.hid (kindTo_yes1 hk1 he)
        have hE : ((ruleNameF (k : Int)).toList == n0.toList) = true := by rw [he]; simp
        clear he hkz
        go_wp2_with fail
        go_region_held3 (fun W => W.cell? ⟨qb, qo, none⟩ = some (.string n0)) (first | (with_reducible exact HD0.out _ (by (repeat (first | assumption | exact Bel.refl _ | apply Bel.drewN | apply Bel.drew | apply Bel.alloc | refine Bel.set ?_ (by first | exact Nat.le_refl _ | exact Nat.le_add_right _ _ | (simp; done) | (simp; omega) | omega) _ | refine Bel.trans ?_ (by assumption))))) | exact HD0.out _ (by (repeat (first | assumption | exact Bel.refl _ | apply Bel.drewN | apply Bel.drew | apply Bel.alloc | refine Bel.set ?_ (by first | exact Nat.le_refl _ | exact Nat.le_add_right _ _ | (simp; done) | (simp; omega) | omega) _ | refine Bel.trans ?_ (by assumption))))) ((go_at_call 38; (with_reducible refine (iRuleName (k : Int) _).mono ?_); rintro e wt ⟨rfl, gt⟩))
        have HBT := Lib.hid (HBR.out.bel (show Bel wr wt from by (repeat (first | assumption | exact Bel.refl _ | apply Bel.drewN | apply Bel.drew | apply Bel.alloc | refine Bel.trans ?_ (by assumption)))))
        have HFT := Lib.hid (HBF.out.bel (show Bel wr wt from by (repeat (first | assumption | exact Bel.refl _ | apply Bel.drewN | apply Bel.drew | apply Bel.alloc | refine Bel.trans ?_ (by assumption)))))
        have kf0 := HBT.out.frozen 0
        have kf1 := HBT.out.frozen 1
        have kf2 := HBT.out.frozen 2
        have kf3 := HBT.out.frozen 3
        have kc0 := HBT.out.cellv (j := 0) (by simp)
        have kc1 := HBT.out.cellv (j := 1) (by simp)
        have kc2 := HBT.out.cellv (j := 2) (by simp)
        have kc3 := HBT.out.cellv (j := 3) (by simp)
        simp only [List.getElem_cons_zero, List.getElem_cons_succ] at kc0 kc1 kc2 kc3
        go_wp2_with fail
        exact ⟨⟨k + 1, by omega, by omega, by go_num, by rw [Nat.add_sub_cancel, HK.out]; exact HBT.out.set 0 (.int .i64 (k : Int)), HFT.out.setAt (by omega) 0 (.int .i64 (k : Int)), by (repeat (first | assumption | exact Bel.refl _ | apply Bel.drewN | apply Bel.drew | apply Bel.alloc | refine Bel.set ?_ (by first | exact Nat.le_refl _ | exact Nat.le_add_right _ _ | (simp; done) | (simp; omega) | omega) _ | refine Bel.trans ?_ (by assumption)))⟩, by simp [intOf]; omega⟩
      · have HK := Lib.hid ((kindTo_no1 hk1 he).trans hkz)
        have hE : ((ruleNameF (k : Int)).toList == n0.toList) = false := by rw [beq_eq_false_iff_ne]; intro h; exact he (toList_inj h)
        clear he hkz
        go_wp2_with fail
        go_region_held3 (fun W => W.cell? ⟨qb, qo, none⟩ = some (.string n0)) (first | (with_reducible exact HD0.out _ (by (repeat (first | assumption | exact Bel.refl _ | apply Bel.drewN | apply Bel.drew | apply Bel.alloc | refine Bel.set ?_ (by first | exact Nat.le_refl _ | exact Nat.le_add_right _ _ | (simp; done) | (simp; omega) | omega) _ | refine Bel.trans ?_ (by assumption))))) | exact HD0.out _ (by (repeat (first | assumption | exact Bel.refl _ | apply Bel.drewN | apply Bel.drew | apply Bel.alloc | refine Bel.set ?_ (by first | exact Nat.le_refl _ | exact Nat.le_add_right _ _ | (simp; done) | (simp; omega) | omega) _ | refine Bel.trans ?_ (by assumption))))) ((go_at_call 38; (with_reducible refine (iRuleName (k : Int) _).mono ?_); rintro e wt ⟨rfl, gt⟩))
        go_wp2_with fail
        exact ⟨⟨k + 1, by omega, by omega, by go_num, by rw [Nat.add_sub_cancel, HK.out]; exact HBR.out.bel (by (repeat (first | assumption | exact Bel.refl _ | apply Bel.drewN | apply Bel.drew | apply Bel.alloc | refine Bel.trans ?_ (by assumption)))), HBF.out.bel (by (repeat (first | assumption | exact Bel.refl _ | apply Bel.drewN | apply Bel.drew | apply Bel.alloc | refine Bel.trans ?_ (by assumption)))), by (repeat (first | assumption | exact Bel.refl _ | apply Bel.drewN | apply Bel.drew | apply Bel.alloc | refine Bel.trans ?_ (by assumption)))⟩, by simp [intOf]; omega⟩
    · have hk9 : (k : Int) = 7 := by omega
      rw [hk9]
      clear hk9
      obtain rfl : k = 7 := by omega
      have HBR := Lib.hid (show Blk wr w1.heap.size 38 [.int .i64 (kindTo n0 6), .int .i64 0, .int .i64 0, .int .i64 0] from HBR.out)
      have HRD := Lib.hid (fun r h => (show r = (kindTo n0 6, fldAt p ws ws.length 1, fldAt p ws ws.length 2, fldAt p ws ws.length 3) ∧ ws.length ≤ 4 ∧ s ≠ ⟨#[]⟩ from HN0.out ▸ HRD.out r h))
      obtain ⟨K, hK⟩ : ∃ z, kindTo n0 6 = z := ⟨_, rfl⟩
      rw [hK] at HBR HRD
      clear hK hk hk1 hk7
      by_cases hcap : cap = 1
      · subst hcap
        obtain ⟨m, hm⟩ : ∃ m, ws.length - 1 = m := ⟨_, rfl⟩
        have hm0 : m = 0 := by omega
        have hmn : ws.length = m + 1 := by omega
        have HRD := Lib.hid (show ∀ r, RuleOf p s r → r = (K, fldAt p ws (m + 1) 1, fldAt p ws (m + 1) 2, fldAt p ws (m + 1) 3) ∧ m + 1 ≤ 4 ∧ s ≠ ⟨#[]⟩ from fun r h => hmn ▸ HRD.out r h)
        have hmb : m ≤ 0 := by omega
        clear hmn hm0
        go_wp2_with fail
        try rw [hm]
        clear hm
        go_loopw [33] (fun i wr => ∃ k : Nat, k ≤ m ∧ k ≤ 3 ∧ i = .int .i64 k ∧ Blk wr w1.heap.size 38 [.int .i64 K, .int .i64 0, .int .i64 0, .int .i64 0] ∧ Blk wr (w1.heap.size + 1) 82 (flds p ws (k + 1)) ∧ Bel w1 wr) (fun i _ => m - (intOf i).toNat)
        case atStart => exact ⟨0, by omega, by omega, rfl, HBR.out, HBF.out, hB⟩
        case round =>
          clear HBR HBF hB hszr hrb
          obtain ⟨k, hkm, hk3, rfl, hBR, hBF, hB⟩ := hrel
          have HBR := Lib.hid hBR
          have HBF := Lib.hid hBF
          have hszr := hB.size
          have hrb := hBF.lt
          have Gw : Bel w wr := G1.trans hB
          clear hBR hBF
          by_cases hlt : k < m
          · exact absurd hlt (by omega)
          · obtain rfl : k = m := by omega
            have HRE := Lib.hid (show ∀ r, RuleOf p s r → r = (K, fldAt p ws (k + 1) 1, fldAt p ws (k + 1) 2, fldAt p ws (k + 1) 3) ∧ s ≠ ⟨#[]⟩ from fun r h => ⟨(HRD.out r h).1, (HRD.out r h).2.2⟩)
            have HBF := Lib.hid (show Blk wr (w1.heap.size + 1) 82 [.int .i64 (fldAt p ws (k + 1) 1), .int .i64 (fldAt p ws (k + 1) 2), .int .i64 (fldAt p ws (k + 1) 3)] from HBF.out)
            obtain ⟨A, hA⟩ : ∃ z, fldAt p ws (k + 1) 1 = z := ⟨_, rfl⟩
            obtain ⟨B, hB1⟩ : ∃ z, fldAt p ws (k + 1) 2 = z := ⟨_, rfl⟩
            obtain ⟨C, hC⟩ : ∃ z, fldAt p ws (k + 1) 3 = z := ⟨_, rfl⟩
            rw [hA, hB1, hC] at HBF HRE
            clear hA hB1 hC HRD
            have rf0 := HBR.out.frozen 0
            have rf1 := HBR.out.frozen 1
            have rf2 := HBR.out.frozen 2
            have rf3 := HBR.out.frozen 3
            have rc0 := HBR.out.cellv (j := 0) (by simp)
            have rc1 := HBR.out.cellv (j := 1) (by simp)
            have rc2 := HBR.out.cellv (j := 2) (by simp)
            have rc3 := HBR.out.cellv (j := 3) (by simp)
            simp only [List.getElem_cons_zero, List.getElem_cons_succ] at rc0 rc1 rc2 rc3
            have q0 := HBF.out.cellv (j := 0) (by simp)
            have q1 := HBF.out.cellv (j := 1) (by simp)
            have q2 := HBF.out.cellv (j := 2) (by simp)
            simp only [List.getElem_cons_zero, List.getElem_cons_succ] at q0 q1 q2
            go_wp2_with fail
            go_region_held3 (fun W => W.cell? ⟨w1.heap.size + 1, 0, none⟩ = some (.int .i64 A) ∧ W.cell? ⟨w1.heap.size + 1, 1, none⟩ = some (.int .i64 B) ∧ W.cell? ⟨w1.heap.size + 1, 2, none⟩ = some (.int .i64 C)) (go_keep) (fail)
            obtain ⟨W9, hW9⟩ : ∃ W, W = (((wr.setCell ⟨w1.heap.size, 1, none⟩ (.int .i64 A)).setCell ⟨w1.heap.size, 2, none⟩ (.int .i64 B)).setCell ⟨w1.heap.size, 3, none⟩ (.int .i64 C)).drew := ⟨_, rfl⟩
            rw [← hW9]
            have HB9 := Lib.hid (show Blk W9 w1.heap.size 38 [.int .i64 K, .int .i64 A, .int .i64 B, .int .i64 C] from by rw [hW9]; exact (((HBR.out.set 1 (.int .i64 A)).set 2 (.int .i64 B)).set 3 (.int .i64 C)).drew)
            have G9 : Bel w1 W9 := by rw [hW9]; (repeat (first | assumption | exact Bel.refl _ | apply Bel.drewN | apply Bel.drew | apply Bel.alloc | refine Bel.set ?_ (by first | exact Nat.le_refl _ | exact Nat.le_add_right _ _ | (simp; done) | (simp; omega) | omega) _ | refine Bel.trans ?_ (by assumption)))
            have G9w : Bel w W9 := G1.trans G9
            have HR_W9 := Lib.hid (HRB.out.bel (G01.trans G9))
            have HW9 := Lib.hid hW9
            clear hW9 q0 q1 q2 rf0 rc0 rf1 rc1 rf2 rc2 rf3 rc3
            by_cases hs0 : s = ⟨#[]⟩
            · have hE0 : s.toList = [] := by rw [hs0, ByteArray.toList_eq]
              have hE1 : s.toList.isEmpty = true := by rw [hE0]; rfl
              have HF := Lib.hid (parseRule_no (p := p) (s := s) (fun r h => (HRE.out r h).2 hs0))
              clear hs0
              have zf0 := HR_W9.out.frozen 0
              have zf1 := HR_W9.out.frozen 1
              have zf2 := HR_W9.out.frozen 2
              have zf3 := HR_W9.out.frozen 3
              have zc0 := HR_W9.out.cellv (j := 0) (by simp)
              have zc1 := HR_W9.out.cellv (j := 1) (by simp)
              have zc2 := HR_W9.out.cellv (j := 2) (by simp)
              have zc3 := HR_W9.out.cellv (j := 3) (by simp)
              simp only [List.getElem_cons_zero, List.getElem_cons_succ] at zc0 zc1 zc2 zc3
              go_wp2_with fail
              rw [HF.out]
              exact bodyPost_ret (v := .tuple #[.agg #[.int .i64 0, .int .i64 0, .int .i64 0, .int .i64 0], .bool false]) (by simp [results, Tryz.results17, go_sem, zc0, zc1, zc2, zc3]) rfl ⟨rfl, by (repeat (first | assumption | exact Bel.refl _ | apply Bel.drewN | apply Bel.drew | apply Bel.alloc | refine Bel.set ?_ (by first | exact Nat.le_refl _ | exact Nat.le_add_right _ _ | (simp; done) | (simp; omega) | omega) _ | refine Bel.trans ?_ (by assumption)))⟩
            · have hE0 : ¬ s.toList = [] := fun h => hs0 (toList_inj (h.trans (by rw [ByteArray.toList_eq])))
              have hE1 : s.toList.isEmpty = false := by cases hl : s.toList with | nil => exact absurd hl hE0 | cons _ _ => rfl
              have HS0 := Lib.hid hs0
              clear hs0
              obtain ⟨b0, b1, b2, b3, b4⟩ := HBX.out W9 (G01.trans G9)
              have rf0 := HB9.out.frozen 0
              have rf1 := HB9.out.frozen 1
              have rf2 := HB9.out.frozen 2
              have rf3 := HB9.out.frozen 3
              have rc0 := HB9.out.cellv (j := 0) (by simp)
              have rc1 := HB9.out.cellv (j := 1) (by simp)
              have rc2 := HB9.out.cellv (j := 2) (by simp)
              have rc3 := HB9.out.cellv (j := 3) (by simp)
              simp only [List.getElem_cons_zero, List.getElem_cons_succ] at rc0 rc1 rc2 rc3
              go_wp2_with fail
              refine (iFormatRule_any _ p S (K, A, B, C) _ (HPR.out _ (Bel.trans G9w (by (repeat (first | assumption | exact Bel.refl _ | apply Bel.drewN | apply Bel.drew | apply Bel.alloc | refine Bel.set ?_ (by first | exact Nat.le_refl _ | exact Nat.le_add_right _ _ | (simp; done) | (simp; omega) | omega) _ | refine Bel.trans ?_ (by assumption)))))).1 (HPR.out _ (Bel.trans G9w (by (repeat (first | assumption | exact Bel.refl _ | apply Bel.drewN | apply Bel.drew | apply Bel.alloc | refine Bel.set ?_ (by first | exact Nat.le_refl _ | exact Nat.le_add_right _ _ | (simp; done) | (simp; omega) | omega) _ | refine Bel.trans ?_ (by assumption)))))).2 HNB.out (tabIs_bel HTB.out (Bel.trans G9w (by (repeat (first | assumption | exact Bel.refl _ | apply Bel.drewN | apply Bel.drew | apply Bel.alloc | refine Bel.set ?_ (by first | exact Nat.le_refl _ | exact Nat.le_add_right _ _ | (simp; done) | (simp; omega) | omega) _ | refine Bel.trans ?_ (by assumption))))))).mono ?_
              rintro e wf ⟨rfl, gf⟩
              have Gwf : Bel w wf := by (repeat (first | assumption | exact Bel.refl _ | apply Bel.drewN | apply Bel.drew | apply Bel.alloc | refine Bel.set ?_ (by first | exact Nat.le_refl _ | exact Nat.le_add_right _ _ | (simp; done) | (simp; omega) | omega) _ | refine Bel.trans ?_ (by assumption)))
              have HR_wf := Lib.hid (HR_W9.out.bel (show Bel W9 wf from by (repeat (first | assumption | exact Bel.refl _ | apply Bel.drewN | apply Bel.drew | apply Bel.alloc | refine Bel.set ?_ (by first | exact Nat.le_refl _ | exact Nat.le_add_right _ _ | (simp; done) | (simp; omega) | omega) _ | refine Bel.trans ?_ (by assumption)))))
              have HBf := Lib.hid (HB9.out.bel (show Bel W9 wf from by (repeat (first | assumption | exact Bel.refl _ | apply Bel.drewN | apply Bel.drew | apply Bel.alloc | refine Bel.set ?_ (by first | exact Nat.le_refl _ | exact Nat.le_add_right _ _ | (simp; done) | (simp; omega) | omega) _ | refine Bel.trans ?_ (by assumption)))))
              by_cases h1 : fmtRuleV p (K, A, B, C) = s
              · have HF := Lib.hid (parseRule_of (ruleOf_fmt h1 HS0.out))
                have hE2 : ((fmtRuleV p (K, A, B, C)).toList == s.toList) = true := by rw [h1]; simp
                clear h1 rf0 rc0 rf1 rc1 rf2 rc2 rf3 rc3
                have rf0 := HBf.out.frozen 0
                have rf1 := HBf.out.frozen 1
                have rf2 := HBf.out.frozen 2
                have rf3 := HBf.out.frozen 3
                have rc0 := HBf.out.cellv (j := 0) (by simp)
                have rc1 := HBf.out.cellv (j := 1) (by simp)
                have rc2 := HBf.out.cellv (j := 2) (by simp)
                have rc3 := HBf.out.cellv (j := 3) (by simp)
                simp only [List.getElem_cons_zero, List.getElem_cons_succ] at rc0 rc1 rc2 rc3
                have zf0 := HR_wf.out.frozen 0
                have zf1 := HR_wf.out.frozen 1
                have zf2 := HR_wf.out.frozen 2
                have zf3 := HR_wf.out.frozen 3
                have zc0 := HR_wf.out.cellv (j := 0) (by simp)
                have zc1 := HR_wf.out.cellv (j := 1) (by simp)
                have zc2 := HR_wf.out.cellv (j := 2) (by simp)
                have zc3 := HR_wf.out.cellv (j := 3) (by simp)
                simp only [List.getElem_cons_zero, List.getElem_cons_succ] at zc0 zc1 zc2 zc3
                go_wp2_with fail
                rw [HF.out]
                exact bodyPost_ret (v := .tuple #[.agg #[.int .i64 K, .int .i64 A, .int .i64 B, .int .i64 C], .bool true]) (by simp [results, Tryz.results17, go_sem, zc0, zc1, zc2, zc3]) rfl ⟨rfl, by (repeat (first | assumption | exact Bel.refl _ | apply Bel.drewN | apply Bel.drew | apply Bel.alloc | refine Bel.set ?_ (by first | exact Nat.le_refl _ | exact Nat.le_add_right _ _ | (simp; done) | (simp; omega) | omega) _ | refine Bel.trans ?_ (by assumption)))⟩
              · have HF := Lib.hid (parseRule_no (p := p) (s := s) (fun r h => h1 (by rw [← (HRE.out r h).1]; exact h.2)))
                have hE2 : ((fmtRuleV p (K, A, B, C)).toList == s.toList) = false := by rw [beq_eq_false_iff_ne]; intro h; exact h1 (toList_inj h)
                clear h1
                have zf0 := HR_wf.out.frozen 0
                have zf1 := HR_wf.out.frozen 1
                have zf2 := HR_wf.out.frozen 2
                have zf3 := HR_wf.out.frozen 3
                have zc0 := HR_wf.out.cellv (j := 0) (by simp)
                have zc1 := HR_wf.out.cellv (j := 1) (by simp)
                have zc2 := HR_wf.out.cellv (j := 2) (by simp)
                have zc3 := HR_wf.out.cellv (j := 3) (by simp)
                simp only [List.getElem_cons_zero, List.getElem_cons_succ] at zc0 zc1 zc2 zc3
                go_wp2_with fail
                rw [HF.out]
                exact bodyPost_ret (v := .tuple #[.agg #[.int .i64 0, .int .i64 0, .int .i64 0, .int .i64 0], .bool false]) (by simp [results, Tryz.results17, go_sem, zc0, zc1, zc2, zc3]) rfl ⟨rfl, by (repeat (first | assumption | exact Bel.refl _ | apply Bel.drewN | apply Bel.drew | apply Bel.alloc | refine Bel.set ?_ (by first | exact Nat.le_refl _ | exact Nat.le_add_right _ _ | (simp; done) | (simp; omega) | omega) _ | refine Bel.trans ?_ (by assumption)))⟩
      · have hcap' : (cap == 1) = false := by simpa using hcap
        obtain ⟨m, hm⟩ : ∃ m, ws.length - 1 = m := ⟨_, rfl⟩
        have hmn : ws.length = m + 1 := by omega
        have HDM := Lib.hid (show ∀ W, Bel w1 W → ∀ k, k < m → W.cell? ⟨qb, qo + 1 + k, none⟩ = some (.string (ws.getD (k + 1) ⟨#[]⟩)) from fun W hW k hk => by rw [Nat.add_assoc, Nat.add_comm 1 k]; exact HDA.out W hW (k + 1) (by omega))
        have HRD := Lib.hid (show ∀ r, RuleOf p s r → r = (K, fldAt p ws (m + 1) 1, fldAt p ws (m + 1) 2, fldAt p ws (m + 1) 3) ∧ m + 1 ≤ 4 ∧ s ≠ ⟨#[]⟩ from fun r h => hmn ▸ HRD.out r h)
        have hmb : m ≤ 1048576 := by omega
        clear hmn
        go_wp2_with fail
        try rw [hm]
        clear hm hcap hcap'
        go_loopw [33] (fun i wr => ∃ k : Nat, k ≤ m ∧ k ≤ 3 ∧ i = .int .i64 k ∧ Blk wr w1.heap.size 38 [.int .i64 K, .int .i64 0, .int .i64 0, .int .i64 0] ∧ Blk wr (w1.heap.size + 1) 82 (flds p ws (k + 1)) ∧ Bel w1 wr) (fun i _ => m - (intOf i).toNat)
        case atStart => exact ⟨0, by omega, by omega, rfl, HBR.out, HBF.out, hB⟩
        case round =>
          clear HBR HBF hB hszr hrb
          obtain ⟨k, hkm, hk3, rfl, hBR, hBF, hB⟩ := hrel
          have HBR := Lib.hid hBR
          have HBF := Lib.hid hBF
          have hszr := hB.size
          have hrb := hBF.lt
          have Gw : Bel w wr := G1.trans hB
          clear hBR hBF
          by_cases hlt : k < m
          · skip
            have hki : (k : Int) < (m : Int) := by omega
            have dk := HDM.out wr hB k hlt
            by_cases hk2 : k ≤ 2
            · have hk2i : (k : Int) ≤ 2 := by omega
              have hk3i : (k : Int) < 3 := by omega
              have hzx := HSZ.out (k + 1)
              have HST := Lib.hid (flds_step p ws hk2)
              obtain ⟨x, hx⟩ : ∃ x, ws.getD (k + 1) ⟨#[]⟩ = x := ⟨_, rfl⟩
              rw [hx] at dk hzx HST
              clear hx
              go_wp2_with fail
              refine (iParseInt_any x _ (by omega) (tabIs_bel HTB.out (by (repeat (first | assumption | exact Bel.refl _ | apply Bel.drewN | apply Bel.drew | apply Bel.alloc | refine Bel.trans ?_ (by assumption))))) (errVars_bel HER.out (by (repeat (first | assumption | exact Bel.refl _ | apply Bel.drewN | apply Bel.drew | apply Bel.alloc | refine Bel.trans ?_ (by assumption)))))).mono ?_
              rintro e w3 ⟨rfl, g3⟩
              have Gr3 : Bel wr w3 := by (repeat (first | assumption | exact Bel.refl _ | apply Bel.drewN | apply Bel.drew | apply Bel.alloc | refine Bel.trans ?_ (by assumption)))
              have G3 : Bel w1 w3 := hB.trans Gr3
              cases hb : (parseV x).2
              · have hfv := fld_no (p := p) hb
                rw [hfv] at HST
                obtain ⟨b0, b1, b2, b3, b4⟩ := HBX.out w3 (G01.trans G3)
                clear hb hfv
                go_wp2_with fail
                refine (iActivityIndex_any _ p x S _ (HPR.out _ (Bel.trans (G1.trans G3) (by (repeat (first | assumption | exact Bel.refl _ | apply Bel.drewN | apply Bel.drew | apply Bel.alloc | refine Bel.trans ?_ (by assumption)))))).1 (HPR.out _ (Bel.trans (G1.trans G3) (by (repeat (first | assumption | exact Bel.refl _ | apply Bel.drewN | apply Bel.drew | apply Bel.alloc | refine Bel.trans ?_ (by assumption)))))).2).mono ?_
                rintro e w4 ⟨rfl, g4⟩
                have Gr4 : Bel wr w4 := Gr3.trans (by (repeat (first | assumption | exact Bel.refl _ | apply Bel.drewN | apply Bel.drew | apply Bel.alloc | refine Bel.trans ?_ (by assumption))))
                have G4 : Bel w1 w4 := hB.trans Gr4
                have HBw4 := Lib.hid (HBR.out.bel Gr4)
                have HFw4 := Lib.hid (HBF.out.bel Gr4)
                obtain ⟨fv, hfv⟩ : ∃ z, actIndex p.2.1 x = z := ⟨_, rfl⟩
                rw [hfv] at HST ⊢
                clear hfv
                have hz4 := G4.size
                have ff := HFw4.out.frozen k
                obtain ⟨fo, fc⟩ : ∃ u, w4.cell? ⟨w1.heap.size + 1, k, none⟩ = some u := ⟨_, HFw4.out.cellv (j := k) (by show k < 3; omega)⟩
                go_wp2_with fail
                exact ⟨⟨k + 1, by omega, by omega, by go_num, HBw4.out.setAt (by omega) k (.int .i64 fv), by rw [← HST.out]; exact HFw4.out.set k (.int .i64 fv), by (repeat (first | assumption | exact Bel.refl _ | apply Bel.drewN | apply Bel.drew | apply Bel.alloc | refine Bel.set ?_ (by first | exact Nat.le_refl _ | exact Nat.le_add_right _ _ | (simp; done) | (simp; omega) | omega) _ | refine Bel.trans ?_ (by assumption)))⟩, by simp [intOf]; omega⟩
              · have hfv := fld_yes (p := p) hb
                rw [hfv] at HST
                have HBw3 := Lib.hid (HBR.out.bel Gr3)
                have HFw3 := Lib.hid (HBF.out.bel Gr3)
                obtain ⟨fv, hfv⟩ : ∃ z, (parseV x).1 = z := ⟨_, rfl⟩
                rw [hfv] at HST ⊢
                clear hfv hb
                have hz3 := G3.size
                have ff := HFw3.out.frozen k
                obtain ⟨fo, fc⟩ : ∃ u, w3.cell? ⟨w1.heap.size + 1, k, none⟩ = some u := ⟨_, HFw3.out.cellv (j := k) (by show k < 3; omega)⟩
                go_wp2_with fail
                exact ⟨⟨k + 1, by omega, by omega, by go_num, HBw3.out.setAt (by omega) k (.int .i64 fv), by rw [← HST.out]; exact HFw3.out.set k (.int .i64 fv), by (repeat (first | assumption | exact Bel.refl _ | apply Bel.drewN | apply Bel.drew | apply Bel.alloc | refine Bel.set ?_ (by first | exact Nat.le_refl _ | exact Nat.le_add_right _ _ | (simp; done) | (simp; omega) | omega) _ | refine Bel.trans ?_ (by assumption)))⟩, by simp [intOf]; omega⟩
            · have hk2i : ¬ (k : Int) ≤ 2 := by omega
              have HF := Lib.hid (parseRule_no (p := p) (s := s) (fun r h => by have := (HRD.out r h).2.1; omega))
              have HR_wr := Lib.hid (HRB.out.bel (G01.trans hB))
              have zf0 := HR_wr.out.frozen 0
              have zf1 := HR_wr.out.frozen 1
              have zf2 := HR_wr.out.frozen 2
              have zf3 := HR_wr.out.frozen 3
              have zc0 := HR_wr.out.cellv (j := 0) (by simp)
              have zc1 := HR_wr.out.cellv (j := 1) (by simp)
              have zc2 := HR_wr.out.cellv (j := 2) (by simp)
              have zc3 := HR_wr.out.cellv (j := 3) (by simp)
              simp only [List.getElem_cons_zero, List.getElem_cons_succ] at zc0 zc1 zc2 zc3
              go_wp2_with fail
              rw [HF.out]
              exact bodyPost_ret (v := .tuple #[.agg #[.int .i64 0, .int .i64 0, .int .i64 0, .int .i64 0], .bool false]) (by simp [results, Tryz.results17, go_sem, zc0, zc1, zc2, zc3]) rfl ⟨rfl, by (repeat (first | assumption | exact Bel.refl _ | apply Bel.drewN | apply Bel.drew | apply Bel.alloc | refine Bel.set ?_ (by first | exact Nat.le_refl _ | exact Nat.le_add_right _ _ | (simp; done) | (simp; omega) | omega) _ | refine Bel.trans ?_ (by assumption)))⟩
          · obtain rfl : k = m := by omega
            have HRE := Lib.hid (show ∀ r, RuleOf p s r → r = (K, fldAt p ws (k + 1) 1, fldAt p ws (k + 1) 2, fldAt p ws (k + 1) 3) ∧ s ≠ ⟨#[]⟩ from fun r h => ⟨(HRD.out r h).1, (HRD.out r h).2.2⟩)
            have HBF := Lib.hid (show Blk wr (w1.heap.size + 1) 82 [.int .i64 (fldAt p ws (k + 1) 1), .int .i64 (fldAt p ws (k + 1) 2), .int .i64 (fldAt p ws (k + 1) 3)] from HBF.out)
            obtain ⟨A, hA⟩ : ∃ z, fldAt p ws (k + 1) 1 = z := ⟨_, rfl⟩
            obtain ⟨B, hB1⟩ : ∃ z, fldAt p ws (k + 1) 2 = z := ⟨_, rfl⟩
            obtain ⟨C, hC⟩ : ∃ z, fldAt p ws (k + 1) 3 = z := ⟨_, rfl⟩
            rw [hA, hB1, hC] at HBF HRE
            clear hA hB1 hC HRD
            have rf0 := HBR.out.frozen 0
            have rf1 := HBR.out.frozen 1
            have rf2 := HBR.out.frozen 2
            have rf3 := HBR.out.frozen 3
            have rc0 := HBR.out.cellv (j := 0) (by simp)
            have rc1 := HBR.out.cellv (j := 1) (by simp)
            have rc2 := HBR.out.cellv (j := 2) (by simp)
            have rc3 := HBR.out.cellv (j := 3) (by simp)
            simp only [List.getElem_cons_zero, List.getElem_cons_succ] at rc0 rc1 rc2 rc3
            have q0 := HBF.out.cellv (j := 0) (by simp)
            have q1 := HBF.out.cellv (j := 1) (by simp)
            have q2 := HBF.out.cellv (j := 2) (by simp)
            simp only [List.getElem_cons_zero, List.getElem_cons_succ] at q0 q1 q2
            go_wp2_with fail
            go_region_held3 (fun W => W.cell? ⟨w1.heap.size + 1, 0, none⟩ = some (.int .i64 A) ∧ W.cell? ⟨w1.heap.size + 1, 1, none⟩ = some (.int .i64 B) ∧ W.cell? ⟨w1.heap.size + 1, 2, none⟩ = some (.int .i64 C)) (go_keep) (fail)
            obtain ⟨W9, hW9⟩ : ∃ W, W = (((wr.setCell ⟨w1.heap.size, 1, none⟩ (.int .i64 A)).setCell ⟨w1.heap.size, 2, none⟩ (.int .i64 B)).setCell ⟨w1.heap.size, 3, none⟩ (.int .i64 C)).drew := ⟨_, rfl⟩
            rw [← hW9]
            have HB9 := Lib.hid (show Blk W9 w1.heap.size 38 [.int .i64 K, .int .i64 A, .int .i64 B, .int .i64 C] from by rw [hW9]; exact (((HBR.out.set 1 (.int .i64 A)).set 2 (.int .i64 B)).set 3 (.int .i64 C)).drew)
            have G9 : Bel w1 W9 := by rw [hW9]; (repeat (first | assumption | exact Bel.refl _ | apply Bel.drewN | apply Bel.drew | apply Bel.alloc | refine Bel.set ?_ (by first | exact Nat.le_refl _ | exact Nat.le_add_right _ _ | (simp; done) | (simp; omega) | omega) _ | refine Bel.trans ?_ (by assumption)))
            have G9w : Bel w W9 := G1.trans G9
            have HR_W9 := Lib.hid (HRB.out.bel (G01.trans G9))
            have HW9 := Lib.hid hW9
            clear hW9 q0 q1 q2 rf0 rc0 rf1 rc1 rf2 rc2 rf3 rc3
            by_cases hs0 : s = ⟨#[]⟩
            · have hE0 : s.toList = [] := by rw [hs0, ByteArray.toList_eq]
              have hE1 : s.toList.isEmpty = true := by rw [hE0]; rfl
              have HF := Lib.hid (parseRule_no (p := p) (s := s) (fun r h => (HRE.out r h).2 hs0))
              clear hs0
              have zf0 := HR_W9.out.frozen 0
              have zf1 := HR_W9.out.frozen 1
              have zf2 := HR_W9.out.frozen 2
              have zf3 := HR_W9.out.frozen 3
              have zc0 := HR_W9.out.cellv (j := 0) (by simp)
              have zc1 := HR_W9.out.cellv (j := 1) (by simp)
              have zc2 := HR_W9.out.cellv (j := 2) (by simp)
              have zc3 := HR_W9.out.cellv (j := 3) (by simp)
              simp only [List.getElem_cons_zero, List.getElem_cons_succ] at zc0 zc1 zc2 zc3
              go_wp2_with fail
              rw [HF.out]
              exact bodyPost_ret (v := .tuple #[.agg #[.int .i64 0, .int .i64 0, .int .i64 0, .int .i64 0], .bool false]) (by simp [results, Tryz.results17, go_sem, zc0, zc1, zc2, zc3]) rfl ⟨rfl, by (repeat (first | assumption | exact Bel.refl _ | apply Bel.drewN | apply Bel.drew | apply Bel.alloc | refine Bel.set ?_ (by first | exact Nat.le_refl _ | exact Nat.le_add_right _ _ | (simp; done) | (simp; omega) | omega) _ | refine Bel.trans ?_ (by assumption)))⟩
            · have hE0 : ¬ s.toList = [] := fun h => hs0 (toList_inj (h.trans (by rw [ByteArray.toList_eq])))
              have hE1 : s.toList.isEmpty = false := by cases hl : s.toList with | nil => exact absurd hl hE0 | cons _ _ => rfl
              have HS0 := Lib.hid hs0
              clear hs0
              obtain ⟨b0, b1, b2, b3, b4⟩ := HBX.out W9 (G01.trans G9)
              have rf0 := HB9.out.frozen 0
              have rf1 := HB9.out.frozen 1
              have rf2 := HB9.out.frozen 2
              have rf3 := HB9.out.frozen 3
              have rc0 := HB9.out.cellv (j := 0) (by simp)
              have rc1 := HB9.out.cellv (j := 1) (by simp)
              have rc2 := HB9.out.cellv (j := 2) (by simp)
              have rc3 := HB9.out.cellv (j := 3) (by simp)
              simp only [List.getElem_cons_zero, List.getElem_cons_succ] at rc0 rc1 rc2 rc3
              go_wp2_with fail
              refine (iFormatRule_any _ p S (K, A, B, C) _ (HPR.out _ (Bel.trans G9w (by (repeat (first | assumption | exact Bel.refl _ | apply Bel.drewN | apply Bel.drew | apply Bel.alloc | refine Bel.set ?_ (by first | exact Nat.le_refl _ | exact Nat.le_add_right _ _ | (simp; done) | (simp; omega) | omega) _ | refine Bel.trans ?_ (by assumption)))))).1 (HPR.out _ (Bel.trans G9w (by (repeat (first | assumption | exact Bel.refl _ | apply Bel.drewN | apply Bel.drew | apply Bel.alloc | refine Bel.set ?_ (by first | exact Nat.le_refl _ | exact Nat.le_add_right _ _ | (simp; done) | (simp; omega) | omega) _ | refine Bel.trans ?_ (by assumption)))))).2 HNB.out (tabIs_bel HTB.out (Bel.trans G9w (by (repeat (first | assumption | exact Bel.refl _ | apply Bel.drewN | apply Bel.drew | apply Bel.alloc | refine Bel.set ?_ (by first | exact Nat.le_refl _ | exact Nat.le_add_right _ _ | (simp; done) | (simp; omega) | omega) _ | refine Bel.trans ?_ (by assumption))))))).mono ?_
              rintro e wf ⟨rfl, gf⟩
              have Gwf : Bel w wf := by (repeat (first | assumption | exact Bel.refl _ | apply Bel.drewN | apply Bel.drew | apply Bel.alloc | refine Bel.set ?_ (by first | exact Nat.le_refl _ | exact Nat.le_add_right _ _ | (simp; done) | (simp; omega) | omega) _ | refine Bel.trans ?_ (by assumption)))
              have HR_wf := Lib.hid (HR_W9.out.bel (show Bel W9 wf from by (repeat (first | assumption | exact Bel.refl _ | apply Bel.drewN | apply Bel.drew | apply Bel.alloc | refine Bel.set ?_ (by first | exact Nat.le_refl _ | exact Nat.le_add_right _ _ | (simp; done) | (simp; omega) | omega) _ | refine Bel.trans ?_ (by assumption)))))
              have HBf := Lib.hid (HB9.out.bel (show Bel W9 wf from by (repeat (first | assumption | exact Bel.refl _ | apply Bel.drewN | apply Bel.drew | apply Bel.alloc | refine Bel.set ?_ (by first | exact Nat.le_refl _ | exact Nat.le_add_right _ _ | (simp; done) | (simp; omega) | omega) _ | refine Bel.trans ?_ (by assumption)))))
              by_cases h1 : fmtRuleV p (K, A, B, C) = s
              · have HF := Lib.hid (parseRule_of (ruleOf_fmt h1 HS0.out))
                have hE2 : ((fmtRuleV p (K, A, B, C)).toList == s.toList) = true := by rw [h1]; simp
                clear h1 rf0 rc0 rf1 rc1 rf2 rc2 rf3 rc3
                have rf0 := HBf.out.frozen 0
                have rf1 := HBf.out.frozen 1
                have rf2 := HBf.out.frozen 2
                have rf3 := HBf.out.frozen 3
                have rc0 := HBf.out.cellv (j := 0) (by simp)
                have rc1 := HBf.out.cellv (j := 1) (by simp)
                have rc2 := HBf.out.cellv (j := 2) (by simp)
                have rc3 := HBf.out.cellv (j := 3) (by simp)
                simp only [List.getElem_cons_zero, List.getElem_cons_succ] at rc0 rc1 rc2 rc3
                have zf0 := HR_wf.out.frozen 0
                have zf1 := HR_wf.out.frozen 1
                have zf2 := HR_wf.out.frozen 2
                have zf3 := HR_wf.out.frozen 3
                have zc0 := HR_wf.out.cellv (j := 0) (by simp)
                have zc1 := HR_wf.out.cellv (j := 1) (by simp)
                have zc2 := HR_wf.out.cellv (j := 2) (by simp)
                have zc3 := HR_wf.out.cellv (j := 3) (by simp)
                simp only [List.getElem_cons_zero, List.getElem_cons_succ] at zc0 zc1 zc2 zc3
                go_wp2_with fail
                rw [HF.out]
                exact bodyPost_ret (v := .tuple #[.agg #[.int .i64 K, .int .i64 A, .int .i64 B, .int .i64 C], .bool true]) (by simp [results, Tryz.results17, go_sem, zc0, zc1, zc2, zc3]) rfl ⟨rfl, by (repeat (first | assumption | exact Bel.refl _ | apply Bel.drewN | apply Bel.drew | apply Bel.alloc | refine Bel.set ?_ (by first | exact Nat.le_refl _ | exact Nat.le_add_right _ _ | (simp; done) | (simp; omega) | omega) _ | refine Bel.trans ?_ (by assumption)))⟩
              · have HF := Lib.hid (parseRule_no (p := p) (s := s) (fun r h => h1 (by rw [← (HRE.out r h).1]; exact h.2)))
                have hE2 : ((fmtRuleV p (K, A, B, C)).toList == s.toList) = false := by rw [beq_eq_false_iff_ne]; intro h; exact h1 (toList_inj h)
                clear h1
                have zf0 := HR_wf.out.frozen 0
                have zf1 := HR_wf.out.frozen 1
                have zf2 := HR_wf.out.frozen 2
                have zf3 := HR_wf.out.frozen 3
                have zc0 := HR_wf.out.cellv (j := 0) (by simp)
                have zc1 := HR_wf.out.cellv (j := 1) (by simp)
                have zc2 := HR_wf.out.cellv (j := 2) (by simp)
                have zc3 := HR_wf.out.cellv (j := 3) (by simp)
                simp only [List.getElem_cons_zero, List.getElem_cons_succ] at zc0 zc1 zc2 zc3
                go_wp2_with fail
                rw [HF.out]
                exact bodyPost_ret (v := .tuple #[.agg #[.int .i64 0, .int .i64 0, .int .i64 0, .int .i64 0], .bool false]) (by simp [results, Tryz.results17, go_sem, zc0, zc1, zc2, zc3]) rfl ⟨rfl, by (repeat (first | assumption | exact Bel.refl _ | apply Bel.drewN | apply Bel.drew | apply Bel.alloc | refine Bel.set ?_ (by first | exact Nat.le_refl _ | exact Nat.le_add_right _ _ | (simp; done) | (simp; omega) | omega) _ | refine Bel.trans ?_ (by assumption)))⟩

end Go.Proofs.YtkfpciggolkjeaaGreatDoor
