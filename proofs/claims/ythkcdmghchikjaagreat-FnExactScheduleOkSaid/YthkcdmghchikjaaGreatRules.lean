/- The list of all rules, both sides. -/
import Derived.Test.YthkcdmghchikjaaGreatRulesF
namespace Go.Proofs.YthkcdmghchikjaaGreat
open Go.ChangeShapes Go.WideShapes Go.ChangeAt Go.RowKit
set_option linter.unusedVariables false

theorem rule_rep {S : Nat → Prop} {w : World} {a b c d : Int} (ha : I64 a) (hb : I64 b) (hc : I64 c) (hd : I64 d) : ruleR S w [.int .i64 a, .int .i64 b, .int .i64 c, .int .i64 d] (a, b, c, d) :=
  ⟨_, [_, _, _], rfl, ⟨rfl, ha⟩, _, [_, _], rfl, ⟨rfl, hb⟩, _, [_], rfl, ⟨rfl, hc⟩, rfl, hd⟩
theorem rules_len7 {p : ProjT} (h : projOk p = true) {i b j : Nat} (hi : i < p.2.2.2.1.length) (hb : b < p.2.1.length) (hj : j ≤ p.2.1.length) : (accF (accM (rul4 p i) (rPair i) (pairN p i) b) (rPair i b) j).length ≤ 400 := by
  rw [accF_length]
  have h1 := accM_length (base := rul4 p i) (g := rPair i) (m := pairN p i) (pairN_le p i) b
  have h2 := (rules_small h).2.1 i (by omega)
  have h3 := (projOk_bd h).2.1
  have h4 : b * p.2.1.length ≤ 6 * 6 := Nat.mul_le_mul (by omega) h3
  omega
theorem rules_len3 {p : ProjT} (h : projOk p = true) {i j : Nat} (hi : i < p.2.2.2.1.length) (hj : j ≤ 61) : (accF (rul3 p i) (rTime i) j).length ≤ 400 := by
  rw [accF_length]
  have h2 := (rules_small h).1 i (by omega)
  omega
theorem rules_len2 {p : ProjT} (h : projOk p = true) {j : Nat} (hj : j ≤ p.2.1.length) : (accF (rul1 p) rEnd j).length ≤ 400 := by
  unfold rul1
  rw [accF_length, accF_length]
  have h3 := projOk_bd h
  simp only [List.length_nil]
  omega
theorem rules_len1 {p : ProjT} (h : projOk p = true) {j : Nat} (hj : j ≤ p.2.2.1.length) : (accF [] rLink j).length ≤ 400 := by
  rw [accF_length]
  have h3 := projOk_bd h
  simp only [List.length_nil]
  omega
theorem rules_len8 {p : ProjT} (h : projOk p = true) {j : Nat} (hj : j ≤ p.2.2.2.2.length) : (accF (rul4 p p.2.2.2.1.length) rStock j).length ≤ 400 := by
  rw [accF_length]
  have h3 := projOk_bd h
  have h2 := (rules_small h).2.1 _ (Nat.le_refl _)
  omega
set_option maxRecDepth 100000 in
set_option maxHeartbeats 4000000 in
theorem l10Rules_any (v : Value) (p : ProjT) (S : Nat → Prop) (w : World) (hx : aggR projR S w v p) (hS : ∀ b, S b → b < w.heap.size) (_hn : bulkProject p ≤ 1048576) (hp : projOk p = true) : Calls Tryz.prog 55 #[v] w (FreshV rulesR w (rulesV p)) := by
  obtain ⟨cs, rfl, hx⟩ := hx
  obtain ⟨c1, c2, c3, c4, rfl, q0, q1, q2, q3, q4⟩ := projR_open hx
  have Q1 := Lib.hid q1
  have Q2 := Lib.hid q2
  have Q3 := Lib.hid q3
  have Q4 := Lib.hid q4
  have HP := Lib.hid hx
  obtain ⟨p1, k1, rfl, l1, l1', -⟩ := sliceR_open q1
  obtain ⟨p2, k2, rfl, l2, l2', -⟩ := sliceR_open q2
  obtain ⟨p3, k3, rfl, l3, l3', -⟩ := sliceR_open q3
  obtain ⟨p4, k4, rfl, l4, l4', -⟩ := sliceR_open q4
  unfold maxLen at l1' l2' l3' l4'
  clear hx q0 q1 q2 q3 q4
  have HS := Lib.hid hS
  have HNB := Lib.hid _hn
  have HPO := Lib.hid hp
  have hbd := projOk_bd hp
  clear hS _hn hp
  have HP1 := Lib.hid (show ∀ W, Bel w W → aggR projR S W (.agg #[.int .i64 p.1, .slice p1 p.2.1.length k1, .slice p2 p.2.2.1.length k2, .slice p3 p.2.2.2.1.length k3, .slice p4 p.2.2.2.2.length k4]) p from fun W hW => aggR_mk (projR_good.bel HP.out hW HS.out))
  show Calls Tryz.prog 55 #[.agg #[.int .i64 p.1, .slice p1 p.2.1.length k1, .slice p2 p.2.2.1.length k2, .slice p3 p.2.2.2.1.length k3, .slice p4 p.2.2.2.2.length k4]] w _
  go_enter Tryz.func55, Tryz.ntmps55
  obtain ⟨W0, hW0, hwW, hsz0, hbx⟩ : ∃ W0, W0 = w.alloc (.cells #[.int .i64 p.1, .slice p1 p.2.1.length k1, .slice p2 p.2.2.1.length k2, .slice p3 p.2.2.2.1.length k3, .slice p4 p.2.2.2.2.length k4] 37) ∧ Bel w W0 ∧ W0.heap.size = w.heap.size + 1 ∧ W0.cell? ⟨w.heap.size, 0, none⟩ = some (.int .i64 p.1) ∧ W0.cell? ⟨w.heap.size, 1, none⟩ = some (.slice p1 p.2.1.length k1) ∧ W0.cell? ⟨w.heap.size, 2, none⟩ = some (.slice p2 p.2.2.1.length k2) ∧ W0.cell? ⟨w.heap.size, 3, none⟩ = some (.slice p3 p.2.2.2.1.length k3) ∧ W0.cell? ⟨w.heap.size, 4, none⟩ = some (.slice p4 p.2.2.2.2.length k4) := ⟨_, rfl, by (repeat (first | assumption | exact Bel.refl _ | apply Bel.drewN | apply Bel.drew | apply Bel.alloc | refine Bel.trans ?_ (by assumption))), by simp, by simp [go_sem], by simp [go_sem], by simp [go_sem], by simp [go_sem], by simp [go_sem]⟩
  have HBX := Lib.hid (show ∀ W, Bel W0 W → W.cell? ⟨w.heap.size, 0, none⟩ = some (.int .i64 p.1) ∧ W.cell? ⟨w.heap.size, 1, none⟩ = some (.slice p1 p.2.1.length k1) ∧ W.cell? ⟨w.heap.size, 2, none⟩ = some (.slice p2 p.2.2.1.length k2) ∧ W.cell? ⟨w.heap.size, 3, none⟩ = some (.slice p3 p.2.2.2.1.length k3) ∧ W.cell? ⟨w.heap.size, 4, none⟩ = some (.slice p4 p.2.2.2.2.length k4) from fun W hW => keep5 hbx hW)
  clear hbx
  have HSZ0 := Lib.hid hsz0
  clear hsz0
  go_wp2_with fail
  rw [← hW0]
  clear hW0
  go_loopw [3, 16] (fun o x wr => ∃ (k : Nat) (ys : List RuleT) (q1 : Option Addr) (c1 : Nat), k ≤ p.2.2.1.length ∧ x = .int .i64 k ∧ o = .slice q1 ys.length c1 ∧ ys = accF [] rLink k ∧ Own (fun _ => False) 4 ruleR 81 W0.heap.size wr q1 c1 ys ∧ Bel W0 wr) (fun _ i _ => p.2.2.1.length - (intOf i).toNat)
  case atStart => exact ⟨0, [], _, _, Nat.zero_le _, rfl, rfl, rfl, Own.empty (alloc_at HSZ0.out.symm) (by rw [HSZ0.out]; exact Nat.le_refl _), by (repeat (first | assumption | exact Bel.refl _ | apply Bel.drewN | apply Bel.drew | apply Bel.alloc | refine Bel.trans ?_ (by assumption)))⟩
  case round =>
    obtain ⟨k, ys, q1, c1, hkk, rfl, rfl, hys, hO, hB⟩ := hrel
    have hwsz := hB.size
    have HYS := Lib.hid hys
    have hyl : ys.length ≤ 400 := by rw [hys]; exact rules_len1 HPO.out hkk
    clear hys
    by_cases hlk : k < p.2.2.1.length
    · have hki : (k : Int) < ((p.2.2.1.length : Nat) : Int) := by omega
      have HSN := Lib.hid (show ys ++ [(1, ((k : Nat) : Int), 0, 0)] = accF [] rLink (k + 1) from by rw [HYS.out, accF_succ]; rfl)
      go_wp2_with ((at_builtin; refine wpList_app (n := 4) ruleR_good _ rfl _ _ 44 rfl (.agg #[.int .i64 0, .int .i64 0, .int .i64 0, .int .i64 0]) 32 Tryz.underlying44 (by kernel_rfl) rfl (by decide) (by decide) q1 c1 ys ((1, ((k : Nat) : Int), 0, 0)) rfl (hO.bel ruleR_good (by (repeat (first | assumption | exact Bel.refl _ | apply Bel.drewN | apply Bel.drew | apply Bel.alloc | refine Bel.trans ?_ (by assumption))))) _ 1 [.int .i64 (1), .int .i64 (((k : Nat) : Int)), .int .i64 (0), .int .i64 (0)] rfl rfl (World.news_of_block (alloc_at (by simp))) (by intro u hu; simp at hu; rcases hu with rfl | rfl | rfl | rfl <;> rfl) (rule_rep (by unfold I64; omega) (by unfold I64; omega) (by unfold I64; omega) (by unfold I64; omega)) (by omega) (by first | omega | (simp; omega)) ?_; intro q' cap' w' hO' hBW hsz'))
      have HB := Lib.hid (hBW W0 (by (repeat (first | assumption | exact Bel.refl _ | apply Bel.drewN | apply Bel.drew | apply Bel.alloc | refine Bel.trans ?_ (by assumption)))) (Nat.le_refl _))
      clear hBW hsz'
      go_roundw
      case rel => exact ⟨k + 1, ys ++ [(1, ((k : Nat) : Int), 0, 0)], q', cap', by omega, by go_num, by simp, HSN.out, hO', HB.out⟩
      case measure => simp [intOf]; omega
    · obtain rfl : k = p.2.2.1.length := by omega
      obtain ⟨b0, b1, b2, b3, b4⟩ := HBX.out wr hB
      go_wp2_with fail
      go_loopw [3, 28] (fun o x wr => ∃ (k : Nat) (ys : List RuleT) (q1 : Option Addr) (c1 : Nat), k ≤ p.2.1.length ∧ x = .int .i64 k ∧ o = .slice q1 ys.length c1 ∧ ys = accF (rul1 p) rEnd k ∧ Own (fun _ => False) 4 ruleR 81 W0.heap.size wr q1 c1 ys ∧ Bel W0 wr) (fun _ i _ => p.2.1.length - (intOf i).toNat)
      case atStart => exact ⟨0, ys, q1, c1, Nat.zero_le _, rfl, rfl, by rw [HYS.out, accF_zero]; rfl, hO.bel ruleR_good (by (repeat (first | assumption | exact Bel.refl _ | apply Bel.drewN | apply Bel.drew | apply Bel.alloc | refine Bel.trans ?_ (by assumption)))), by (repeat (first | assumption | exact Bel.refl _ | apply Bel.drewN | apply Bel.drew | apply Bel.alloc | refine Bel.trans ?_ (by assumption)))⟩
      case round =>
        obtain ⟨k, ys, q1, c1, hkk, rfl, rfl, hys, hO, hB⟩ := hrel
        have hwsz := hB.size
        have HYS := Lib.hid hys
        have hyl : ys.length ≤ 400 := by rw [hys]; exact rules_len2 HPO.out hkk
        clear hys
        by_cases hlk : k < p.2.1.length
        · have hki : (k : Int) < ((p.2.1.length : Nat) : Int) := by omega
          have HSN := Lib.hid (show ys ++ [(2, ((k : Nat) : Int), 0, 0)] = accF (rul1 p) rEnd (k + 1) from by rw [HYS.out, accF_succ]; rfl)
          go_wp2_with ((at_builtin; refine wpList_app (n := 4) ruleR_good _ rfl _ _ 44 rfl (.agg #[.int .i64 0, .int .i64 0, .int .i64 0, .int .i64 0]) 32 Tryz.underlying44 (by kernel_rfl) rfl (by decide) (by decide) q1 c1 ys ((2, ((k : Nat) : Int), 0, 0)) rfl (hO.bel ruleR_good (by (repeat (first | assumption | exact Bel.refl _ | apply Bel.drewN | apply Bel.drew | apply Bel.alloc | refine Bel.trans ?_ (by assumption))))) _ 1 [.int .i64 (2), .int .i64 (((k : Nat) : Int)), .int .i64 (0), .int .i64 (0)] rfl rfl (World.news_of_block (alloc_at (by simp))) (by intro u hu; simp at hu; rcases hu with rfl | rfl | rfl | rfl <;> rfl) (rule_rep (by unfold I64; omega) (by unfold I64; omega) (by unfold I64; omega) (by unfold I64; omega)) (by omega) (by first | omega | (simp; omega)) ?_; intro q' cap' w' hO' hBW hsz'))
          have HB := Lib.hid (hBW W0 (by (repeat (first | assumption | exact Bel.refl _ | apply Bel.drewN | apply Bel.drew | apply Bel.alloc | refine Bel.trans ?_ (by assumption)))) (Nat.le_refl _))
          clear hBW hsz'
          go_roundw
          case rel => exact ⟨k + 1, ys ++ [(2, ((k : Nat) : Int), 0, 0)], q', cap', by omega, by go_num, by simp, HSN.out, hO', HB.out⟩
          case measure => simp [intOf]; omega
        · obtain rfl : k = p.2.1.length := by omega
          have HYS := Lib.hid (show ys = rul3 p 0 from HYS.out)
          obtain ⟨b0, b1, b2, b3, b4⟩ := HBX.out wr hB
          go_wp2_with fail
          go_loopw [3, 40] (fun o x wr => ∃ (k : Nat) (ys : List RuleT) (q1 : Option Addr) (c1 : Nat), k ≤ p.2.2.2.1.length ∧ x = .int .i64 k ∧ o = .slice q1 ys.length c1 ∧ ys = rul3 p k ∧ Own (fun _ => False) 4 ruleR 81 W0.heap.size wr q1 c1 ys ∧ Bel W0 wr) (fun _ i _ => p.2.2.2.1.length - (intOf i).toNat)
          case atStart => exact ⟨0, ys, q1, c1, Nat.zero_le _, rfl, rfl, HYS.out, hO.bel ruleR_good (by (repeat (first | assumption | exact Bel.refl _ | apply Bel.drewN | apply Bel.drew | apply Bel.alloc | refine Bel.trans ?_ (by assumption)))), by (repeat (first | assumption | exact Bel.refl _ | apply Bel.drewN | apply Bel.drew | apply Bel.alloc | refine Bel.trans ?_ (by assumption)))⟩
          case round =>
            obtain ⟨k, ys, q1, c1, hk, rfl, rfl, hys, hO, hB⟩ := hrel
            have hwsz := hB.size
            have HYS := Lib.hid hys
            clear hys
            by_cases hlk : k < p.2.2.2.1.length
            · have hki : (k : Int) < ((p.2.2.2.1.length : Nat) : Int) := by omega
              go_wp2_with fail
              go_loopw [3, 7] (fun o x wr => ∃ (j : Nat) (ys : List RuleT) (q1 : Option Addr) (c1 : Nat), j ≤ 61 ∧ x = .int .i64 j ∧ o = .slice q1 ys.length c1 ∧ ys = accF (rul3 p k) (rTime k) j ∧ Own (fun _ => False) 4 ruleR 81 W0.heap.size wr q1 c1 ys ∧ Bel W0 wr) (fun _ i _ => 61 - (intOf i).toNat)
              case atStart => exact ⟨0, ys, q1, c1, Nat.zero_le _, rfl, rfl, by rw [HYS.out, accF_zero], hO.bel ruleR_good (by (repeat (first | assumption | exact Bel.refl _ | apply Bel.drewN | apply Bel.drew | apply Bel.alloc | refine Bel.trans ?_ (by assumption)))), by (repeat (first | assumption | exact Bel.refl _ | apply Bel.drewN | apply Bel.drew | apply Bel.alloc | refine Bel.trans ?_ (by assumption)))⟩
              case round =>
                obtain ⟨j, ys, q1, c1, hj, rfl, rfl, hys, hO, hB⟩ := hrel
                have hwsz := hB.size
                have HYS := Lib.hid hys
                have hyl : ys.length ≤ 400 := by rw [hys]; exact rules_len3 HPO.out hlk hj
                clear hys
                by_cases hlj : j < 61
                · have hji : (j : Int) ≤ (60 : Int) := by omega
                  have HSN := Lib.hid (show ys ++ [(3, ((k : Nat) : Int), ((j : Nat) : Int), 0)] = accF (rul3 p k) (rTime k) (j + 1) from by rw [HYS.out, accF_succ]; rfl)
                  go_wp2_with ((at_builtin; refine wpList_app (n := 4) ruleR_good _ rfl _ _ 44 rfl (.agg #[.int .i64 0, .int .i64 0, .int .i64 0, .int .i64 0]) 32 Tryz.underlying44 (by kernel_rfl) rfl (by decide) (by decide) q1 c1 ys ((3, ((k : Nat) : Int), ((j : Nat) : Int), 0)) rfl (hO.bel ruleR_good (by (repeat (first | assumption | exact Bel.refl _ | apply Bel.drewN | apply Bel.drew | apply Bel.alloc | refine Bel.trans ?_ (by assumption))))) _ 1 [.int .i64 (3), .int .i64 (((k : Nat) : Int)), .int .i64 (((j : Nat) : Int)), .int .i64 (0)] rfl rfl (World.news_of_block (alloc_at (by simp))) (by intro u hu; simp at hu; rcases hu with rfl | rfl | rfl | rfl <;> rfl) (rule_rep (by unfold I64; omega) (by unfold I64; omega) (by unfold I64; omega) (by unfold I64; omega)) (by omega) (by first | omega | (simp; omega)) ?_; intro q' cap' w' hO' hBW hsz'))
                  have HB := Lib.hid (hBW W0 (by (repeat (first | assumption | exact Bel.refl _ | apply Bel.drewN | apply Bel.drew | apply Bel.alloc | refine Bel.trans ?_ (by assumption)))) (Nat.le_refl _))
                  clear hBW hsz'
                  go_roundw
                  case rel => exact ⟨j + 1, ys ++ [(3, ((k : Nat) : Int), ((j : Nat) : Int), 0)], q', cap', by omega, by go_num, by simp, HSN.out, hO', HB.out⟩
                  case measure => simp [intOf]; omega
                · obtain rfl : j = 61 := by omega
                  have HYS := Lib.hid (show ys = rul3 p (k + 1) from HYS.out)
                  go_wp2_with fail
                  go_roundw
                  case rel => exact ⟨k + 1, ys, q1, c1, by omega, by go_num, rfl, HYS.out, hO, hB⟩
                  case measure => simp [intOf]; omega
            · obtain rfl : k = p.2.2.2.1.length := by omega
              have HYS := Lib.hid (show ys = rul4 p 0 from HYS.out)
              obtain ⟨b0, b1, b2, b3, b4⟩ := HBX.out wr hB
              go_wp2_with fail
              go_loopw [3, 57] (fun o x wr => ∃ (i : Nat) (ys : List RuleT) (q1 : Option Addr) (c1 : Nat), i ≤ p.2.2.2.1.length ∧ x = .int .i64 i ∧ o = .slice q1 ys.length c1 ∧ ys = rul4 p i ∧ Own (fun _ => False) 4 ruleR 81 W0.heap.size wr q1 c1 ys ∧ Bel W0 wr) (fun _ x _ => p.2.2.2.1.length - (intOf x).toNat)
              case atStart => exact ⟨0, ys, q1, c1, Nat.zero_le _, rfl, rfl, HYS.out, hO.bel ruleR_good (by (repeat (first | assumption | exact Bel.refl _ | apply Bel.drewN | apply Bel.drew | apply Bel.alloc | refine Bel.trans ?_ (by assumption)))), by (repeat (first | assumption | exact Bel.refl _ | apply Bel.drewN | apply Bel.drew | apply Bel.alloc | refine Bel.trans ?_ (by assumption)))⟩
              case round =>
                obtain ⟨i, ys, q1, c1, hi, rfl, rfl, hys, hO, hB⟩ := hrel
                have hwsz := hB.size
                have HYS := Lib.hid hys
                clear hys
                by_cases hli : i < p.2.2.2.1.length
                · have hki : (i : Int) < ((p.2.2.2.1.length : Nat) : Int) := by omega
                  obtain ⟨b0, b1, b2, b3, b4⟩ := HBX.out wr hB
                  go_wp2_with fail
                  go_loopw [3, 63] (fun o x wr => ∃ (b : Nat) (ys : List RuleT) (q1 : Option Addr) (c1 : Nat), b ≤ p.2.1.length ∧ x = .int .i64 b ∧ o = .slice q1 ys.length c1 ∧ ys = accM (rul4 p i) (rPair i) (pairN p i) b ∧ Own (fun _ => False) 4 ruleR 81 W0.heap.size wr q1 c1 ys ∧ Bel W0 wr) (fun _ i _ => p.2.1.length - (intOf i).toNat)
                  case atStart => exact ⟨0, ys, q1, c1, Nat.zero_le _, rfl, rfl, HYS.out, hO.bel ruleR_good (by (repeat (first | assumption | exact Bel.refl _ | apply Bel.drewN | apply Bel.drew | apply Bel.alloc | refine Bel.trans ?_ (by assumption)))), by (repeat (first | assumption | exact Bel.refl _ | apply Bel.drewN | apply Bel.drew | apply Bel.alloc | refine Bel.trans ?_ (by assumption)))⟩
                  case round =>
                    obtain ⟨b, ys, q1, c1, hb, rfl, rfl, hys, hO, hB⟩ := hrel
                    have hwsz := hB.size
                    have HYS := Lib.hid hys
                    clear hys
                    by_cases hlb : b < p.2.1.length
                    · have hki : (b : Int) < ((p.2.1.length : Nat) : Int) := by omega
                      go_wp2_with fail
                      go_loopw [3, 10] (fun o x wr => ∃ (j : Nat) (ys : List RuleT) (q1 : Option Addr) (c1 : Nat), j ≤ pairN p i b ∧ x = .int .i64 ((b + 1 + j : Nat) : Int) ∧ o = .slice q1 ys.length c1 ∧ ys = accF (accM (rul4 p i) (rPair i) (pairN p i) b) (rPair i b) j ∧ Own (fun _ => False) 4 ruleR 81 W0.heap.size wr q1 c1 ys ∧ Bel W0 wr) (fun _ x _ => p.2.1.length + 1 - (intOf x).toNat)
                      case atStart => exact ⟨0, ys, q1, c1, Nat.zero_le _, by go_num, rfl, by rw [HYS.out, accF_zero], hO.bel ruleR_good (by (repeat (first | assumption | exact Bel.refl _ | apply Bel.drewN | apply Bel.drew | apply Bel.alloc | refine Bel.trans ?_ (by assumption)))), by (repeat (first | assumption | exact Bel.refl _ | apply Bel.drewN | apply Bel.drew | apply Bel.alloc | refine Bel.trans ?_ (by assumption)))⟩
                      case round =>
                        obtain ⟨j, ys, q1, c1, hj, rfl, rfl, hys, hO, hB⟩ := hrel
                        have hwsz := hB.size
                        have HYS := Lib.hid hys
                        have hpn := pairN_le p i b
                        have hyl : ys.length ≤ 400 := by rw [hys]; exact rules_len7 HPO.out hli hlb (by omega)
                        clear hys
                        obtain ⟨b0, b1, b2, b3, b4⟩ := HBX.out wr hB
                        by_cases hlj : b + 1 + j < p.2.1.length
                        · have hki : ((b + 1 + j : Nat) : Int) < ((p.2.1.length : Nat) : Int) := by omega
                          go_wp2_with fail
                          refine (sIsMachine_any _ p S _ _ (HP1.out _ (by (repeat (first | assumption | exact Bel.refl _ | apply Bel.drewN | apply Bel.drew | apply Bel.alloc | refine Bel.trans ?_ (by assumption))))) (fun b hb => Nat.lt_of_lt_of_le (HS.out b hb) (Bel.size (by (repeat (first | assumption | exact Bel.refl _ | apply Bel.drewN | apply Bel.drew | apply Bel.alloc | refine Bel.trans ?_ (by assumption)))))) HNB.out).mono ?_
                          rintro e w2 ⟨rfl, g2⟩
                          have hO := hO.bel ruleR_good (show Bel wr w2 from by (repeat (first | assumption | exact Bel.refl _ | apply Bel.drewN | apply Bel.drew | apply Bel.alloc | refine Bel.trans ?_ (by assumption))))
                          have hB := hB.trans (show Bel wr w2 from by (repeat (first | assumption | exact Bel.refl _ | apply Bel.drewN | apply Bel.drew | apply Bel.alloc | refine Bel.trans ?_ (by assumption))))
                          have hwsz := hB.size
                          cases hm : machB p (i : Int)
                          · have hj0 := pairN_no hm b
                            obtain rfl : j = 0 := by omega
                            have HYS := Lib.hid (show ys = accM (rul4 p i) (rPair i) (pairN p i) (b + 1) from by rw [HYS.out]; show _ = accF _ _ _; rw [hj0])
                            clear hm
                            go_wp2_with fail
                            go_roundw
                            case rel => exact ⟨b + 1, ys, q1, c1, by omega, by go_num, rfl, HYS.out, hO, hB⟩
                            case measure => simp [intOf]; omega
                          · have hj1 := pairN_yes hm b
                            clear hm
                            have HSN := Lib.hid (show ys ++ [(5, ((i : Nat) : Int), ((b : Nat) : Int), ((b + 1 + j : Nat) : Int))] = accF (accM (rul4 p i) (rPair i) (pairN p i) b) (rPair i b) (j + 1) from by rw [HYS.out, accF_succ]; rfl)
                            go_wp2_with ((at_builtin; refine wpList_app (n := 4) ruleR_good _ rfl _ _ 44 rfl (.agg #[.int .i64 0, .int .i64 0, .int .i64 0, .int .i64 0]) 32 Tryz.underlying44 (by kernel_rfl) rfl (by decide) (by decide) q1 c1 ys ((5, ((i : Nat) : Int), ((b : Nat) : Int), ((b + 1 + j : Nat) : Int))) rfl (hO.bel ruleR_good (by (repeat (first | assumption | exact Bel.refl _ | apply Bel.drewN | apply Bel.drew | apply Bel.alloc | refine Bel.trans ?_ (by assumption))))) _ 1 [.int .i64 (5), .int .i64 (((i : Nat) : Int)), .int .i64 (((b : Nat) : Int)), .int .i64 (((b + 1 + j : Nat) : Int))] rfl rfl (World.news_of_block (alloc_at (by simp))) (by intro u hu; simp at hu; rcases hu with rfl | rfl | rfl | rfl <;> rfl) (rule_rep (by unfold I64; omega) (by unfold I64; omega) (by unfold I64; omega) (by unfold I64; omega)) (by omega) (by first | omega | (simp; omega)) ?_; intro q' cap' w' hO' hBW hsz'))
                            have HB := Lib.hid (hBW W0 (by (repeat (first | assumption | exact Bel.refl _ | apply Bel.drewN | apply Bel.drew | apply Bel.alloc | refine Bel.trans ?_ (by assumption)))) (Nat.le_refl _))
                            clear hBW hsz'
                            go_roundw
                            case rel => exact ⟨j + 1, ys ++ [(5, ((i : Nat) : Int), ((b : Nat) : Int), ((b + 1 + j : Nat) : Int))], q', cap', by omega, by go_num, by simp, HSN.out, hO', HB.out⟩
                            case measure => simp [intOf]; omega
                        · have hji : ¬ ((b + 1 + j : Nat) : Int) < ((p.2.1.length : Nat) : Int) := by omega
                          have HYS := Lib.hid (show ys = accM (rul4 p i) (rPair i) (pairN p i) (b + 1) from by
                            rw [HYS.out]; show _ = accF _ _ _
                            have e : j = pairN p i b := by
                              cases hm : machB p (i : Int)
                              · have := pairN_no hm b; omega
                              · have := pairN_yes hm b; omega
                            rw [← e])
                          go_wp2_with fail
                          go_roundw
                          case rel => exact ⟨b + 1, ys, q1, c1, by omega, by go_num, rfl, HYS.out, hO, hB⟩
                          case measure => simp [intOf]; omega
                    · obtain rfl : b = p.2.1.length := by omega
                      have HYS := Lib.hid (show ys = rul4 p (i + 1) from HYS.out)
                      go_wp2_with fail
                      go_roundw
                      case rel => exact ⟨i + 1, ys, q1, c1, by omega, by go_num, rfl, HYS.out, hO, hB⟩
                      case measure => simp [intOf]; omega
                · obtain rfl : i = p.2.2.2.1.length := by omega
                  obtain ⟨b0, b1, b2, b3, b4⟩ := HBX.out wr hB
                  go_wp2_with fail
                  go_loopw [3, 92] (fun o x wr => ∃ (k : Nat) (ys : List RuleT) (q1 : Option Addr) (c1 : Nat), k ≤ p.2.2.2.2.length ∧ x = .int .i64 k ∧ o = .slice q1 ys.length c1 ∧ ys = accF (rul4 p p.2.2.2.1.length) rStock k ∧ Own (fun _ => False) 4 ruleR 81 W0.heap.size wr q1 c1 ys ∧ Bel W0 wr) (fun _ i _ => p.2.2.2.2.length - (intOf i).toNat)
                  case atStart => exact ⟨0, ys, q1, c1, Nat.zero_le _, rfl, rfl, by rw [HYS.out, accF_zero], hO.bel ruleR_good (by (repeat (first | assumption | exact Bel.refl _ | apply Bel.drewN | apply Bel.drew | apply Bel.alloc | refine Bel.trans ?_ (by assumption)))), by (repeat (first | assumption | exact Bel.refl _ | apply Bel.drewN | apply Bel.drew | apply Bel.alloc | refine Bel.trans ?_ (by assumption)))⟩
                  case round =>
                    obtain ⟨k, ys, q1, c1, hkk, rfl, rfl, hys, hO, hB⟩ := hrel
                    have hwsz := hB.size
                    have HYS := Lib.hid hys
                    have hyl : ys.length ≤ 400 := by rw [hys]; exact rules_len8 HPO.out hkk
                    clear hys
                    by_cases hlk : k < p.2.2.2.2.length
                    · have hki : (k : Int) < ((p.2.2.2.2.length : Nat) : Int) := by omega
                      have HSN := Lib.hid (show ys ++ [(6, ((k : Nat) : Int), 0, 0)] = accF (rul4 p p.2.2.2.1.length) rStock (k + 1) from by rw [HYS.out, accF_succ]; rfl)
                      go_wp2_with ((at_builtin; refine wpList_app (n := 4) ruleR_good _ rfl _ _ 44 rfl (.agg #[.int .i64 0, .int .i64 0, .int .i64 0, .int .i64 0]) 32 Tryz.underlying44 (by kernel_rfl) rfl (by decide) (by decide) q1 c1 ys ((6, ((k : Nat) : Int), 0, 0)) rfl (hO.bel ruleR_good (by (repeat (first | assumption | exact Bel.refl _ | apply Bel.drewN | apply Bel.drew | apply Bel.alloc | refine Bel.trans ?_ (by assumption))))) _ 1 [.int .i64 (6), .int .i64 (((k : Nat) : Int)), .int .i64 (0), .int .i64 (0)] rfl rfl (World.news_of_block (alloc_at (by simp))) (by intro u hu; simp at hu; rcases hu with rfl | rfl | rfl | rfl <;> rfl) (rule_rep (by unfold I64; omega) (by unfold I64; omega) (by unfold I64; omega) (by unfold I64; omega)) (by omega) (by first | omega | (simp; omega)) ?_; intro q' cap' w' hO' hBW hsz'))
                      have HB := Lib.hid (hBW W0 (by (repeat (first | assumption | exact Bel.refl _ | apply Bel.drewN | apply Bel.drew | apply Bel.alloc | refine Bel.trans ?_ (by assumption)))) (Nat.le_refl _))
                      clear hBW hsz'
                      go_roundw
                      case rel => exact ⟨k + 1, ys ++ [(6, ((k : Nat) : Int), 0, 0)], q', cap', by omega, by go_num, by simp, HSN.out, hO', HB.out⟩
                      case measure => simp [intOf]; omega
                    · obtain rfl : k = p.2.2.2.2.length := by omega
                      have HRES := Lib.hid (show rulesR (New w wr) wr [.slice q1 ys.length c1] (rulesV p) from by
                        rw [show rulesV p = ys from HYS.out.symm]
                        exact hO.done ruleR_good (fun _ hf => hf.elim) (fun b h1 h2 => ⟨by have := hwW.size; omega, h2⟩))
                      clear hO
                      go_wp2
                      go_ret
                      exact ⟨_, rfl, HRES.out, hwW.trans hB⟩

set_option maxRecDepth 100000 in
set_option maxHeartbeats 4000000 in
theorem rules_any (v : Value) (p : ProjT) (S : Nat → Prop) (w : World) (hx : aggR projR S w v p) (hS : ∀ b, S b → b < w.heap.size) (_hn : bulkProject p ≤ 1048576) (hp : projOk p = true) : Calls Tryz.prog 57 #[v] w (FreshV rulesR w (rulesV p)) := by
  obtain ⟨cs, rfl, hx⟩ := hx
  obtain ⟨c1, c2, c3, c4, rfl, q0, q1, q2, q3, q4⟩ := projR_open hx
  have Q1 := Lib.hid q1
  have Q2 := Lib.hid q2
  have Q3 := Lib.hid q3
  have Q4 := Lib.hid q4
  have HP := Lib.hid hx
  obtain ⟨p1, k1, rfl, l1, l1', -⟩ := sliceR_open q1
  obtain ⟨p2, k2, rfl, l2, l2', -⟩ := sliceR_open q2
  obtain ⟨p3, k3, rfl, l3, l3', -⟩ := sliceR_open q3
  obtain ⟨p4, k4, rfl, l4, l4', -⟩ := sliceR_open q4
  unfold maxLen at l1' l2' l3' l4'
  clear hx q0 q1 q2 q3 q4
  have HS := Lib.hid hS
  have HNB := Lib.hid _hn
  have HPO := Lib.hid hp
  have hbd := projOk_bd hp
  clear hS _hn hp
  have HP1 := Lib.hid (show ∀ W, Bel w W → aggR projR S W (.agg #[.int .i64 p.1, .slice p1 p.2.1.length k1, .slice p2 p.2.2.1.length k2, .slice p3 p.2.2.2.1.length k3, .slice p4 p.2.2.2.2.length k4]) p from fun W hW => aggR_mk (projR_good.bel HP.out hW HS.out))
  show Calls Tryz.prog 57 #[.agg #[.int .i64 p.1, .slice p1 p.2.1.length k1, .slice p2 p.2.2.1.length k2, .slice p3 p.2.2.2.1.length k3, .slice p4 p.2.2.2.2.length k4]] w _
  go_enter Tryz.func57, Tryz.ntmps57
  obtain ⟨W0, hW0, hwW, hsz0, hbx⟩ : ∃ W0, W0 = w.alloc (.cells #[.int .i64 p.1, .slice p1 p.2.1.length k1, .slice p2 p.2.2.1.length k2, .slice p3 p.2.2.2.1.length k3, .slice p4 p.2.2.2.2.length k4] 37) ∧ Bel w W0 ∧ W0.heap.size = w.heap.size + 1 ∧ W0.cell? ⟨w.heap.size, 0, none⟩ = some (.int .i64 p.1) ∧ W0.cell? ⟨w.heap.size, 1, none⟩ = some (.slice p1 p.2.1.length k1) ∧ W0.cell? ⟨w.heap.size, 2, none⟩ = some (.slice p2 p.2.2.1.length k2) ∧ W0.cell? ⟨w.heap.size, 3, none⟩ = some (.slice p3 p.2.2.2.1.length k3) ∧ W0.cell? ⟨w.heap.size, 4, none⟩ = some (.slice p4 p.2.2.2.2.length k4) := ⟨_, rfl, by (repeat (first | assumption | exact Bel.refl _ | apply Bel.drewN | apply Bel.drew | apply Bel.alloc | refine Bel.trans ?_ (by assumption))), by simp, by simp [go_sem], by simp [go_sem], by simp [go_sem], by simp [go_sem], by simp [go_sem]⟩
  have HBX := Lib.hid (show ∀ W, Bel W0 W → W.cell? ⟨w.heap.size, 0, none⟩ = some (.int .i64 p.1) ∧ W.cell? ⟨w.heap.size, 1, none⟩ = some (.slice p1 p.2.1.length k1) ∧ W.cell? ⟨w.heap.size, 2, none⟩ = some (.slice p2 p.2.2.1.length k2) ∧ W.cell? ⟨w.heap.size, 3, none⟩ = some (.slice p3 p.2.2.2.1.length k3) ∧ W.cell? ⟨w.heap.size, 4, none⟩ = some (.slice p4 p.2.2.2.2.length k4) from fun W hW => keep5 hbx hW)
  clear hbx
  have HSZ0 := Lib.hid hsz0
  clear hsz0
  go_wp2_with fail
  rw [← hW0]
  clear hW0
  go_loopw [3, 16] (fun o x wr => ∃ (k : Nat) (ys : List RuleT) (q1 : Option Addr) (c1 : Nat), k ≤ p.2.2.1.length ∧ x = .int .i64 k ∧ o = .slice q1 ys.length c1 ∧ ys = accF [] rLink k ∧ Own (fun _ => False) 4 ruleR 81 W0.heap.size wr q1 c1 ys ∧ Bel W0 wr) (fun _ i _ => p.2.2.1.length - (intOf i).toNat)
  case atStart => exact ⟨0, [], _, _, Nat.zero_le _, rfl, rfl, rfl, Own.empty (alloc_at HSZ0.out.symm) (by rw [HSZ0.out]; exact Nat.le_refl _), by (repeat (first | assumption | exact Bel.refl _ | apply Bel.drewN | apply Bel.drew | apply Bel.alloc | refine Bel.trans ?_ (by assumption)))⟩
  case round =>
    obtain ⟨k, ys, q1, c1, hkk, rfl, rfl, hys, hO, hB⟩ := hrel
    have hwsz := hB.size
    have HYS := Lib.hid hys
    have hyl : ys.length ≤ 400 := by rw [hys]; exact rules_len1 HPO.out hkk
    clear hys
    by_cases hlk : k < p.2.2.1.length
    · have hki : (k : Int) < ((p.2.2.1.length : Nat) : Int) := by omega
      have HSN := Lib.hid (show ys ++ [(1, ((k : Nat) : Int), 0, 0)] = accF [] rLink (k + 1) from by rw [HYS.out, accF_succ]; rfl)
      go_wp2_with ((at_builtin; refine wpList_app (n := 4) ruleR_good _ rfl _ _ 44 rfl (.agg #[.int .i64 0, .int .i64 0, .int .i64 0, .int .i64 0]) 32 Tryz.underlying44 (by kernel_rfl) rfl (by decide) (by decide) q1 c1 ys ((1, ((k : Nat) : Int), 0, 0)) rfl (hO.bel ruleR_good (by (repeat (first | assumption | exact Bel.refl _ | apply Bel.drewN | apply Bel.drew | apply Bel.alloc | refine Bel.trans ?_ (by assumption))))) _ 1 [.int .i64 (1), .int .i64 (((k : Nat) : Int)), .int .i64 (0), .int .i64 (0)] rfl rfl (World.news_of_block (alloc_at (by simp))) (by intro u hu; simp at hu; rcases hu with rfl | rfl | rfl | rfl <;> rfl) (rule_rep (by unfold I64; omega) (by unfold I64; omega) (by unfold I64; omega) (by unfold I64; omega)) (by omega) (by first | omega | (simp; omega)) ?_; intro q' cap' w' hO' hBW hsz'))
      have HB := Lib.hid (hBW W0 (by (repeat (first | assumption | exact Bel.refl _ | apply Bel.drewN | apply Bel.drew | apply Bel.alloc | refine Bel.trans ?_ (by assumption)))) (Nat.le_refl _))
      clear hBW hsz'
      go_roundw
      case rel => exact ⟨k + 1, ys ++ [(1, ((k : Nat) : Int), 0, 0)], q', cap', by omega, by go_num, by simp, HSN.out, hO', HB.out⟩
      case measure => simp [intOf]; omega
    · obtain rfl : k = p.2.2.1.length := by omega
      obtain ⟨b0, b1, b2, b3, b4⟩ := HBX.out wr hB
      go_wp2_with fail
      go_loopw [3, 28] (fun o x wr => ∃ (k : Nat) (ys : List RuleT) (q1 : Option Addr) (c1 : Nat), k ≤ p.2.1.length ∧ x = .int .i64 k ∧ o = .slice q1 ys.length c1 ∧ ys = accF (rul1 p) rEnd k ∧ Own (fun _ => False) 4 ruleR 81 W0.heap.size wr q1 c1 ys ∧ Bel W0 wr) (fun _ i _ => p.2.1.length - (intOf i).toNat)
      case atStart => exact ⟨0, ys, q1, c1, Nat.zero_le _, rfl, rfl, by rw [HYS.out, accF_zero]; rfl, hO.bel ruleR_good (by (repeat (first | assumption | exact Bel.refl _ | apply Bel.drewN | apply Bel.drew | apply Bel.alloc | refine Bel.trans ?_ (by assumption)))), by (repeat (first | assumption | exact Bel.refl _ | apply Bel.drewN | apply Bel.drew | apply Bel.alloc | refine Bel.trans ?_ (by assumption)))⟩
      case round =>
        obtain ⟨k, ys, q1, c1, hkk, rfl, rfl, hys, hO, hB⟩ := hrel
        have hwsz := hB.size
        have HYS := Lib.hid hys
        have hyl : ys.length ≤ 400 := by rw [hys]; exact rules_len2 HPO.out hkk
        clear hys
        by_cases hlk : k < p.2.1.length
        · have hki : (k : Int) < ((p.2.1.length : Nat) : Int) := by omega
          have HSN := Lib.hid (show ys ++ [(2, ((k : Nat) : Int), 0, 0)] = accF (rul1 p) rEnd (k + 1) from by rw [HYS.out, accF_succ]; rfl)
          go_wp2_with ((at_builtin; refine wpList_app (n := 4) ruleR_good _ rfl _ _ 44 rfl (.agg #[.int .i64 0, .int .i64 0, .int .i64 0, .int .i64 0]) 32 Tryz.underlying44 (by kernel_rfl) rfl (by decide) (by decide) q1 c1 ys ((2, ((k : Nat) : Int), 0, 0)) rfl (hO.bel ruleR_good (by (repeat (first | assumption | exact Bel.refl _ | apply Bel.drewN | apply Bel.drew | apply Bel.alloc | refine Bel.trans ?_ (by assumption))))) _ 1 [.int .i64 (2), .int .i64 (((k : Nat) : Int)), .int .i64 (0), .int .i64 (0)] rfl rfl (World.news_of_block (alloc_at (by simp))) (by intro u hu; simp at hu; rcases hu with rfl | rfl | rfl | rfl <;> rfl) (rule_rep (by unfold I64; omega) (by unfold I64; omega) (by unfold I64; omega) (by unfold I64; omega)) (by omega) (by first | omega | (simp; omega)) ?_; intro q' cap' w' hO' hBW hsz'))
          have HB := Lib.hid (hBW W0 (by (repeat (first | assumption | exact Bel.refl _ | apply Bel.drewN | apply Bel.drew | apply Bel.alloc | refine Bel.trans ?_ (by assumption)))) (Nat.le_refl _))
          clear hBW hsz'
          go_roundw
          case rel => exact ⟨k + 1, ys ++ [(2, ((k : Nat) : Int), 0, 0)], q', cap', by omega, by go_num, by simp, HSN.out, hO', HB.out⟩
          case measure => simp [intOf]; omega
        · obtain rfl : k = p.2.1.length := by omega
          have HYS := Lib.hid (show ys = rul3 p 0 from HYS.out)
          obtain ⟨b0, b1, b2, b3, b4⟩ := HBX.out wr hB
          go_wp2_with fail
          go_loopw [3, 40] (fun o x wr => ∃ (k : Nat) (ys : List RuleT) (q1 : Option Addr) (c1 : Nat), k ≤ p.2.2.2.1.length ∧ x = .int .i64 k ∧ o = .slice q1 ys.length c1 ∧ ys = rul3 p k ∧ Own (fun _ => False) 4 ruleR 81 W0.heap.size wr q1 c1 ys ∧ Bel W0 wr) (fun _ i _ => p.2.2.2.1.length - (intOf i).toNat)
          case atStart => exact ⟨0, ys, q1, c1, Nat.zero_le _, rfl, rfl, HYS.out, hO.bel ruleR_good (by (repeat (first | assumption | exact Bel.refl _ | apply Bel.drewN | apply Bel.drew | apply Bel.alloc | refine Bel.trans ?_ (by assumption)))), by (repeat (first | assumption | exact Bel.refl _ | apply Bel.drewN | apply Bel.drew | apply Bel.alloc | refine Bel.trans ?_ (by assumption)))⟩
          case round =>
            obtain ⟨k, ys, q1, c1, hk, rfl, rfl, hys, hO, hB⟩ := hrel
            have hwsz := hB.size
            have HYS := Lib.hid hys
            clear hys
            by_cases hlk : k < p.2.2.2.1.length
            · have hki : (k : Int) < ((p.2.2.2.1.length : Nat) : Int) := by omega
              go_wp2_with fail
              go_loopw [3, 43] (fun o x wr => ∃ (j : Nat) (ys : List RuleT) (q1 : Option Addr) (c1 : Nat), j ≤ 61 ∧ x = .int .i64 j ∧ o = .slice q1 ys.length c1 ∧ ys = accF (rul3 p k) (rTime k) j ∧ Own (fun _ => False) 4 ruleR 81 W0.heap.size wr q1 c1 ys ∧ Bel W0 wr) (fun _ i _ => 61 - (intOf i).toNat)
              case atStart => exact ⟨0, ys, q1, c1, Nat.zero_le _, rfl, rfl, by rw [HYS.out, accF_zero], hO.bel ruleR_good (by (repeat (first | assumption | exact Bel.refl _ | apply Bel.drewN | apply Bel.drew | apply Bel.alloc | refine Bel.trans ?_ (by assumption)))), by (repeat (first | assumption | exact Bel.refl _ | apply Bel.drewN | apply Bel.drew | apply Bel.alloc | refine Bel.trans ?_ (by assumption)))⟩
              case round =>
                obtain ⟨j, ys, q1, c1, hj, rfl, rfl, hys, hO, hB⟩ := hrel
                have hwsz := hB.size
                have HYS := Lib.hid hys
                have hyl : ys.length ≤ 400 := by rw [hys]; exact rules_len3 HPO.out hlk hj
                clear hys
                by_cases hlj : j < 61
                · have hji : (j : Int) < (61 : Int) := by omega
                  have HSN := Lib.hid (show ys ++ [(3, ((k : Nat) : Int), ((j : Nat) : Int), 0)] = accF (rul3 p k) (rTime k) (j + 1) from by rw [HYS.out, accF_succ]; rfl)
                  go_wp2_with ((at_builtin; refine wpList_app (n := 4) ruleR_good _ rfl _ _ 44 rfl (.agg #[.int .i64 0, .int .i64 0, .int .i64 0, .int .i64 0]) 32 Tryz.underlying44 (by kernel_rfl) rfl (by decide) (by decide) q1 c1 ys ((3, ((k : Nat) : Int), ((j : Nat) : Int), 0)) rfl (hO.bel ruleR_good (by (repeat (first | assumption | exact Bel.refl _ | apply Bel.drewN | apply Bel.drew | apply Bel.alloc | refine Bel.trans ?_ (by assumption))))) _ 1 [.int .i64 (3), .int .i64 (((k : Nat) : Int)), .int .i64 (((j : Nat) : Int)), .int .i64 (0)] rfl rfl (World.news_of_block (alloc_at (by simp))) (by intro u hu; simp at hu; rcases hu with rfl | rfl | rfl | rfl <;> rfl) (rule_rep (by unfold I64; omega) (by unfold I64; omega) (by unfold I64; omega) (by unfold I64; omega)) (by omega) (by first | omega | (simp; omega)) ?_; intro q' cap' w' hO' hBW hsz'))
                  have HB := Lib.hid (hBW W0 (by (repeat (first | assumption | exact Bel.refl _ | apply Bel.drewN | apply Bel.drew | apply Bel.alloc | refine Bel.trans ?_ (by assumption)))) (Nat.le_refl _))
                  clear hBW hsz'
                  go_roundw
                  case rel => exact ⟨j + 1, ys ++ [(3, ((k : Nat) : Int), ((j : Nat) : Int), 0)], q', cap', by omega, by go_num, by simp, HSN.out, hO', HB.out⟩
                  case measure => simp [intOf]; omega
                · obtain rfl : j = 61 := by omega
                  have HYS := Lib.hid (show ys = rul3 p (k + 1) from HYS.out)
                  go_wp2_with fail
                  go_roundw
                  case rel => exact ⟨k + 1, ys, q1, c1, by omega, by go_num, rfl, HYS.out, hO, hB⟩
                  case measure => simp [intOf]; omega
            · obtain rfl : k = p.2.2.2.1.length := by omega
              have HYS := Lib.hid (show ys = rul4 p 0 from HYS.out)
              obtain ⟨b0, b1, b2, b3, b4⟩ := HBX.out wr hB
              go_wp2_with fail
              go_loopw [3, 57] (fun o x wr => ∃ (i : Nat) (ys : List RuleT) (q1 : Option Addr) (c1 : Nat), i ≤ p.2.2.2.1.length ∧ x = .int .i64 i ∧ o = .slice q1 ys.length c1 ∧ ys = rul4 p i ∧ Own (fun _ => False) 4 ruleR 81 W0.heap.size wr q1 c1 ys ∧ Bel W0 wr) (fun _ x _ => p.2.2.2.1.length - (intOf x).toNat)
              case atStart => exact ⟨0, ys, q1, c1, Nat.zero_le _, rfl, rfl, HYS.out, hO.bel ruleR_good (by (repeat (first | assumption | exact Bel.refl _ | apply Bel.drewN | apply Bel.drew | apply Bel.alloc | refine Bel.trans ?_ (by assumption)))), by (repeat (first | assumption | exact Bel.refl _ | apply Bel.drewN | apply Bel.drew | apply Bel.alloc | refine Bel.trans ?_ (by assumption)))⟩
              case round =>
                obtain ⟨i, ys, q1, c1, hi, rfl, rfl, hys, hO, hB⟩ := hrel
                have hwsz := hB.size
                have HYS := Lib.hid hys
                clear hys
                by_cases hli : i < p.2.2.2.1.length
                · have hki : (i : Int) < ((p.2.2.2.1.length : Nat) : Int) := by omega
                  obtain ⟨b0, b1, b2, b3, b4⟩ := HBX.out wr hB
                  go_wp2_with fail
                  go_loopw [3, 63] (fun o x wr => ∃ (b : Nat) (ys : List RuleT) (q1 : Option Addr) (c1 : Nat), b ≤ p.2.1.length ∧ x = .int .i64 b ∧ o = .slice q1 ys.length c1 ∧ ys = accM (rul4 p i) (rPair i) (pairN p i) b ∧ Own (fun _ => False) 4 ruleR 81 W0.heap.size wr q1 c1 ys ∧ Bel W0 wr) (fun _ i _ => p.2.1.length - (intOf i).toNat)
                  case atStart => exact ⟨0, ys, q1, c1, Nat.zero_le _, rfl, rfl, HYS.out, hO.bel ruleR_good (by (repeat (first | assumption | exact Bel.refl _ | apply Bel.drewN | apply Bel.drew | apply Bel.alloc | refine Bel.trans ?_ (by assumption)))), by (repeat (first | assumption | exact Bel.refl _ | apply Bel.drewN | apply Bel.drew | apply Bel.alloc | refine Bel.trans ?_ (by assumption)))⟩
                  case round =>
                    obtain ⟨b, ys, q1, c1, hb, rfl, rfl, hys, hO, hB⟩ := hrel
                    have hwsz := hB.size
                    have HYS := Lib.hid hys
                    clear hys
                    by_cases hlb : b < p.2.1.length
                    · have hki : (b : Int) < ((p.2.1.length : Nat) : Int) := by omega
                      go_wp2_with fail
                      go_loopw [3, 10] (fun o x wr => ∃ (j : Nat) (ys : List RuleT) (q1 : Option Addr) (c1 : Nat), j ≤ pairN p i b ∧ x = .int .i64 ((b + 1 + j : Nat) : Int) ∧ o = .slice q1 ys.length c1 ∧ ys = accF (accM (rul4 p i) (rPair i) (pairN p i) b) (rPair i b) j ∧ Own (fun _ => False) 4 ruleR 81 W0.heap.size wr q1 c1 ys ∧ Bel W0 wr) (fun _ x _ => p.2.1.length + 1 - (intOf x).toNat)
                      case atStart => exact ⟨0, ys, q1, c1, Nat.zero_le _, by go_num, rfl, by rw [HYS.out, accF_zero], hO.bel ruleR_good (by (repeat (first | assumption | exact Bel.refl _ | apply Bel.drewN | apply Bel.drew | apply Bel.alloc | refine Bel.trans ?_ (by assumption)))), by (repeat (first | assumption | exact Bel.refl _ | apply Bel.drewN | apply Bel.drew | apply Bel.alloc | refine Bel.trans ?_ (by assumption)))⟩
                      case round =>
                        obtain ⟨j, ys, q1, c1, hj, rfl, rfl, hys, hO, hB⟩ := hrel
                        have hwsz := hB.size
                        have HYS := Lib.hid hys
                        have hpn := pairN_le p i b
                        have hyl : ys.length ≤ 400 := by rw [hys]; exact rules_len7 HPO.out hli hlb (by omega)
                        clear hys
                        obtain ⟨b0, b1, b2, b3, b4⟩ := HBX.out wr hB
                        by_cases hlj : b + 1 + j < p.2.1.length
                        · have hki : ((b + 1 + j : Nat) : Int) < ((p.2.1.length : Nat) : Int) := by omega
                          go_wp2_with fail
                          refine (iIsMachine_any _ p S _ _ (HP1.out _ (by (repeat (first | assumption | exact Bel.refl _ | apply Bel.drewN | apply Bel.drew | apply Bel.alloc | refine Bel.trans ?_ (by assumption))))) (fun b hb => Nat.lt_of_lt_of_le (HS.out b hb) (Bel.size (by (repeat (first | assumption | exact Bel.refl _ | apply Bel.drewN | apply Bel.drew | apply Bel.alloc | refine Bel.trans ?_ (by assumption)))))) HNB.out).mono ?_
                          rintro e w2 ⟨rfl, g2⟩
                          have hO := hO.bel ruleR_good (show Bel wr w2 from by (repeat (first | assumption | exact Bel.refl _ | apply Bel.drewN | apply Bel.drew | apply Bel.alloc | refine Bel.trans ?_ (by assumption))))
                          have hB := hB.trans (show Bel wr w2 from by (repeat (first | assumption | exact Bel.refl _ | apply Bel.drewN | apply Bel.drew | apply Bel.alloc | refine Bel.trans ?_ (by assumption))))
                          have hwsz := hB.size
                          cases hm : machB p (i : Int)
                          · have hj0 := pairN_no hm b
                            obtain rfl : j = 0 := by omega
                            have HYS := Lib.hid (show ys = accM (rul4 p i) (rPair i) (pairN p i) (b + 1) from by rw [HYS.out]; show _ = accF _ _ _; rw [hj0])
                            clear hm
                            go_wp2_with fail
                            go_roundw
                            case rel => exact ⟨b + 1, ys, q1, c1, by omega, by go_num, rfl, HYS.out, hO, hB⟩
                            case measure => simp [intOf]; omega
                          · have hj1 := pairN_yes hm b
                            clear hm
                            have HSN := Lib.hid (show ys ++ [(5, ((i : Nat) : Int), ((b : Nat) : Int), ((b + 1 + j : Nat) : Int))] = accF (accM (rul4 p i) (rPair i) (pairN p i) b) (rPair i b) (j + 1) from by rw [HYS.out, accF_succ]; rfl)
                            go_wp2_with ((at_builtin; refine wpList_app (n := 4) ruleR_good _ rfl _ _ 44 rfl (.agg #[.int .i64 0, .int .i64 0, .int .i64 0, .int .i64 0]) 32 Tryz.underlying44 (by kernel_rfl) rfl (by decide) (by decide) q1 c1 ys ((5, ((i : Nat) : Int), ((b : Nat) : Int), ((b + 1 + j : Nat) : Int))) rfl (hO.bel ruleR_good (by (repeat (first | assumption | exact Bel.refl _ | apply Bel.drewN | apply Bel.drew | apply Bel.alloc | refine Bel.trans ?_ (by assumption))))) _ 1 [.int .i64 (5), .int .i64 (((i : Nat) : Int)), .int .i64 (((b : Nat) : Int)), .int .i64 (((b + 1 + j : Nat) : Int))] rfl rfl (World.news_of_block (alloc_at (by simp))) (by intro u hu; simp at hu; rcases hu with rfl | rfl | rfl | rfl <;> rfl) (rule_rep (by unfold I64; omega) (by unfold I64; omega) (by unfold I64; omega) (by unfold I64; omega)) (by omega) (by first | omega | (simp; omega)) ?_; intro q' cap' w' hO' hBW hsz'))
                            have HB := Lib.hid (hBW W0 (by (repeat (first | assumption | exact Bel.refl _ | apply Bel.drewN | apply Bel.drew | apply Bel.alloc | refine Bel.trans ?_ (by assumption)))) (Nat.le_refl _))
                            clear hBW hsz'
                            go_roundw
                            case rel => exact ⟨j + 1, ys ++ [(5, ((i : Nat) : Int), ((b : Nat) : Int), ((b + 1 + j : Nat) : Int))], q', cap', by omega, by go_num, by simp, HSN.out, hO', HB.out⟩
                            case measure => simp [intOf]; omega
                        · have hji : ¬ ((b + 1 + j : Nat) : Int) < ((p.2.1.length : Nat) : Int) := by omega
                          have HYS := Lib.hid (show ys = accM (rul4 p i) (rPair i) (pairN p i) (b + 1) from by
                            rw [HYS.out]; show _ = accF _ _ _
                            have e : j = pairN p i b := by
                              cases hm : machB p (i : Int)
                              · have := pairN_no hm b; omega
                              · have := pairN_yes hm b; omega
                            rw [← e])
                          go_wp2_with fail
                          go_roundw
                          case rel => exact ⟨b + 1, ys, q1, c1, by omega, by go_num, rfl, HYS.out, hO, hB⟩
                          case measure => simp [intOf]; omega
                    · obtain rfl : b = p.2.1.length := by omega
                      have HYS := Lib.hid (show ys = rul4 p (i + 1) from HYS.out)
                      go_wp2_with fail
                      go_roundw
                      case rel => exact ⟨i + 1, ys, q1, c1, by omega, by go_num, rfl, HYS.out, hO, hB⟩
                      case measure => simp [intOf]; omega
                · obtain rfl : i = p.2.2.2.1.length := by omega
                  obtain ⟨b0, b1, b2, b3, b4⟩ := HBX.out wr hB
                  go_wp2_with fail
                  go_loopw [3, 92] (fun o x wr => ∃ (k : Nat) (ys : List RuleT) (q1 : Option Addr) (c1 : Nat), k ≤ p.2.2.2.2.length ∧ x = .int .i64 k ∧ o = .slice q1 ys.length c1 ∧ ys = accF (rul4 p p.2.2.2.1.length) rStock k ∧ Own (fun _ => False) 4 ruleR 81 W0.heap.size wr q1 c1 ys ∧ Bel W0 wr) (fun _ i _ => p.2.2.2.2.length - (intOf i).toNat)
                  case atStart => exact ⟨0, ys, q1, c1, Nat.zero_le _, rfl, rfl, by rw [HYS.out, accF_zero], hO.bel ruleR_good (by (repeat (first | assumption | exact Bel.refl _ | apply Bel.drewN | apply Bel.drew | apply Bel.alloc | refine Bel.trans ?_ (by assumption)))), by (repeat (first | assumption | exact Bel.refl _ | apply Bel.drewN | apply Bel.drew | apply Bel.alloc | refine Bel.trans ?_ (by assumption)))⟩
                  case round =>
                    obtain ⟨k, ys, q1, c1, hkk, rfl, rfl, hys, hO, hB⟩ := hrel
                    have hwsz := hB.size
                    have HYS := Lib.hid hys
                    have hyl : ys.length ≤ 400 := by rw [hys]; exact rules_len8 HPO.out hkk
                    clear hys
                    by_cases hlk : k < p.2.2.2.2.length
                    · have hki : (k : Int) < ((p.2.2.2.2.length : Nat) : Int) := by omega
                      have HSN := Lib.hid (show ys ++ [(6, ((k : Nat) : Int), 0, 0)] = accF (rul4 p p.2.2.2.1.length) rStock (k + 1) from by rw [HYS.out, accF_succ]; rfl)
                      go_wp2_with ((at_builtin; refine wpList_app (n := 4) ruleR_good _ rfl _ _ 44 rfl (.agg #[.int .i64 0, .int .i64 0, .int .i64 0, .int .i64 0]) 32 Tryz.underlying44 (by kernel_rfl) rfl (by decide) (by decide) q1 c1 ys ((6, ((k : Nat) : Int), 0, 0)) rfl (hO.bel ruleR_good (by (repeat (first | assumption | exact Bel.refl _ | apply Bel.drewN | apply Bel.drew | apply Bel.alloc | refine Bel.trans ?_ (by assumption))))) _ 1 [.int .i64 (6), .int .i64 (((k : Nat) : Int)), .int .i64 (0), .int .i64 (0)] rfl rfl (World.news_of_block (alloc_at (by simp))) (by intro u hu; simp at hu; rcases hu with rfl | rfl | rfl | rfl <;> rfl) (rule_rep (by unfold I64; omega) (by unfold I64; omega) (by unfold I64; omega) (by unfold I64; omega)) (by omega) (by first | omega | (simp; omega)) ?_; intro q' cap' w' hO' hBW hsz'))
                      have HB := Lib.hid (hBW W0 (by (repeat (first | assumption | exact Bel.refl _ | apply Bel.drewN | apply Bel.drew | apply Bel.alloc | refine Bel.trans ?_ (by assumption)))) (Nat.le_refl _))
                      clear hBW hsz'
                      go_roundw
                      case rel => exact ⟨k + 1, ys ++ [(6, ((k : Nat) : Int), 0, 0)], q', cap', by omega, by go_num, by simp, HSN.out, hO', HB.out⟩
                      case measure => simp [intOf]; omega
                    · obtain rfl : k = p.2.2.2.2.length := by omega
                      have HRES := Lib.hid (show rulesR (New w wr) wr [.slice q1 ys.length c1] (rulesV p) from by
                        rw [show rulesV p = ys from HYS.out.symm]
                        exact hO.done ruleR_good (fun _ hf => hf.elim) (fun b h1 h2 => ⟨by have := hwW.size; omega, h2⟩))
                      clear hO
                      go_wp2
                      go_ret
                      exact ⟨_, rfl, HRES.out, hwW.trans hB⟩

end Go.Proofs.YthkcdmghchikjaaGreat
