/- laws.FnFaults: for every input the law returns true, and each argument reads afterwards as it read before. No condition. -/
import Derived.Test.YtiaamddhocdhaaaBFnFaults1
import Derived.Test.YtiaamddhocdhaaaOwn
import Derived.Test.YtiaamddhocdhaaaMode
import Derived.Test.YtiaamddhocdhaaaReps
import Derived.Test.YtiaamddhocdhaaaSchForm
import Derived.Test.YtiaamddhocdhaaaRows
import Derived.Test.YtiaamddhocdhaaaCur
import Derived.Test.YtiaamddhocdhaaaDrawQ
import Derived.Test.YtiaamddhocdhaaaKeep
import Derived.Test.YtiaamddhocdhaaaEq
import Derived.Test.YtiaamddhocdhaaaUse
import Derived.Test.YtiaamddhocdhaaaIdle
import Derived.Deep.RegionHeld3
import Derived.ProofKit
import Derived.OpenShut
import Derived.ChangeOld

/- Rules -/
section
namespace Go.Proofs.Ytiaamddhocdhaaa
open Go.ChangeShapes Go.WideShapes Go.ChangeAt Go.RowKit
set_option linter.unusedVariables false

theorem rule_rep {S : Nat → Prop} {w : World} {a b c d : Int} (ha : I64 a) (hb : I64 b) (hc : I64 c) (hd : I64 d) : ruleR S w [.int .i64 a, .int .i64 b, .int .i64 c, .int .i64 d] (a, b, c, d) :=
  ⟨_, [_, _, _], rfl, ⟨rfl, ha⟩, _, [_, _], rfl, ⟨rfl, hb⟩, _, [_], rfl, ⟨rfl, hc⟩, rfl, hd⟩
theorem rules_len7 {p : ProjT} (h : projOk p = true) {i b j : Nat} (hi : i < p.2.2.2.1.length) (hb : b < p.2.1.length) (hj : j ≤ p.2.1.length) : (accF (accM (rul4 p i) (rPair i) (pairN p i) b) (rPair i b) j).length ≤ 400 := by
  rw [accF_length]
  have h1 := accM_length (base := rul4 p i) (g := rPair i) (m := pairN p i) (pairN_le p i) b
  have h2 := (rules_small h).2.1 i (by omega)
  have h3 := (projOk_bd h).2.1
  have h4 : b * p.2.1.length ≤ 6 * 6 := Nat.mul_le_mul (by omega) h3
  omega
theorem rules_len3 {p : ProjT} (h : projOk p = true) {i j : Nat} (hi : i < p.2.2.2.1.length) (hj : j ≤ 61) : (accF (rul3 p i) (rTime i) j).length ≤ 400 := by
  rw [accF_length]
  have h2 := (rules_small h).1 i (by omega)
  omega
theorem rules_len2 {p : ProjT} (h : projOk p = true) {j : Nat} (hj : j ≤ p.2.1.length) : (accF (rul1 p) rEnd j).length ≤ 400 := by
  unfold rul1
  rw [accF_length, accF_length]
  have h3 := projOk_bd h
  simp only [List.length_nil]
  omega
theorem rules_len1 {p : ProjT} (h : projOk p = true) {j : Nat} (hj : j ≤ p.2.2.1.length) : (accF [] rLink j).length ≤ 400 := by
  rw [accF_length]
  have h3 := projOk_bd h
  simp only [List.length_nil]
  omega
theorem rules_len8 {p : ProjT} (h : projOk p = true) {j : Nat} (hj : j ≤ p.2.2.2.2.length) : (accF (rul4 p p.2.2.2.1.length) rStock j).length ≤ 400 := by
  rw [accF_length]
  have h3 := projOk_bd h
  have h2 := (rules_small h).2.1 _ (Nat.le_refl _)
  omega

set_option maxRecDepth 100000 in
set_option maxHeartbeats 4000000 in
theorem rules_any (v : Value) (p : ProjT) (S : Nat → Prop) (w : World) (hx : aggR projR S w v p) (hS : ∀ b, S b → b < w.heap.size) (_hn : bulkProject p ≤ 1048576) (hp : projOk p = true) : Calls Try.prog 85 #[v] w (FreshV rulesR w (rulesV p)) := by
  obtain ⟨cs, rfl, hx⟩ := hx
  obtain ⟨c1, c2, c3, c4, rfl, q0, q1, q2, q3, q4⟩ := projR_open hx
  have Q1 := Lib.hid q1
  have Q2 := Lib.hid q2
  have Q3 := Lib.hid q3
  have Q4 := Lib.hid q4
  have HP := Lib.hid hx
  obtain ⟨p1, k1, rfl, l1, l1', -⟩ := sliceR_open q1
  obtain ⟨p2, k2, rfl, l2, l2', -⟩ := sliceR_open q2
  obtain ⟨p3, k3, rfl, l3, l3', -⟩ := sliceR_open q3
  obtain ⟨p4, k4, rfl, l4, l4', -⟩ := sliceR_open q4
  unfold maxLen at l1' l2' l3' l4'
  clear hx q0 q1 q2 q3 q4
  have HS := Lib.hid hS
  have HNB := Lib.hid _hn
  have HPO := Lib.hid hp
  have hbd := projOk_bd hp
  clear hS _hn hp
  have HP1 := Lib.hid (show ∀ W, Bel w W → aggR projR S W (.agg #[.int .i64 p.1, .slice p1 p.2.1.length k1, .slice p2 p.2.2.1.length k2, .slice p3 p.2.2.2.1.length k3, .slice p4 p.2.2.2.2.length k4]) p from fun W hW => aggR_mk (projR_good.bel HP.out hW HS.out))
  show Calls Try.prog 85 #[.agg #[.int .i64 p.1, .slice p1 p.2.1.length k1, .slice p2 p.2.2.1.length k2, .slice p3 p.2.2.2.1.length k3, .slice p4 p.2.2.2.2.length k4]] w _
  go_enter Try.func85, Try.ntmps85
  obtain ⟨W0, hW0, hwW, hsz0, hbx⟩ : ∃ W0, W0 = w.alloc (.cells #[.int .i64 p.1, .slice p1 p.2.1.length k1, .slice p2 p.2.2.1.length k2, .slice p3 p.2.2.2.1.length k3, .slice p4 p.2.2.2.2.length k4] 34) ∧ Bel w W0 ∧ W0.heap.size = w.heap.size + 1 ∧ W0.cell? ⟨w.heap.size, 0, none⟩ = some (.int .i64 p.1) ∧ W0.cell? ⟨w.heap.size, 1, none⟩ = some (.slice p1 p.2.1.length k1) ∧ W0.cell? ⟨w.heap.size, 2, none⟩ = some (.slice p2 p.2.2.1.length k2) ∧ W0.cell? ⟨w.heap.size, 3, none⟩ = some (.slice p3 p.2.2.2.1.length k3) ∧ W0.cell? ⟨w.heap.size, 4, none⟩ = some (.slice p4 p.2.2.2.2.length k4) := ⟨_, rfl, by (repeat (first | assumption | exact Bel.refl _ | apply Bel.drewN | apply Bel.drew | apply Bel.alloc | refine Bel.trans ?_ (by assumption))), by simp, by simp [go_sem], by simp [go_sem], by simp [go_sem], by simp [go_sem], by simp [go_sem]⟩
  have HBX := Lib.hid (show ∀ W, Bel W0 W → W.cell? ⟨w.heap.size, 0, none⟩ = some (.int .i64 p.1) ∧ W.cell? ⟨w.heap.size, 1, none⟩ = some (.slice p1 p.2.1.length k1) ∧ W.cell? ⟨w.heap.size, 2, none⟩ = some (.slice p2 p.2.2.1.length k2) ∧ W.cell? ⟨w.heap.size, 3, none⟩ = some (.slice p3 p.2.2.2.1.length k3) ∧ W.cell? ⟨w.heap.size, 4, none⟩ = some (.slice p4 p.2.2.2.2.length k4) from fun W hW => keep5 hbx hW)
  clear hbx
  have HSZ0 := Lib.hid hsz0
  clear hsz0
  go_wp2_with fail
  rw [← hW0]
  clear hW0
  go_loopw [3, 16] (fun o x wr => ∃ (k : Nat) (ys : List RuleT) (q1 : Option Addr) (c1 : Nat), k ≤ p.2.2.1.length ∧ x = .int .i64 k ∧ o = .slice q1 ys.length c1 ∧ ys = accF [] rLink k ∧ Own (fun _ => False) 4 ruleR 55 W0.heap.size wr q1 c1 ys ∧ Bel W0 wr) (fun _ i _ => p.2.2.1.length - (intOf i).toNat)
  case atStart => exact ⟨0, [], _, _, Nat.zero_le _, rfl, rfl, rfl, Own.empty (alloc_at HSZ0.out.symm) (by rw [HSZ0.out]; exact Nat.le_refl _), by (repeat (first | assumption | exact Bel.refl _ | apply Bel.drewN | apply Bel.drew | apply Bel.alloc | refine Bel.trans ?_ (by assumption)))⟩
  case round =>
    obtain ⟨k, ys, q1, c1, hkk, rfl, rfl, hys, hO, hB⟩ := hrel
    have hwsz := hB.size
    have HYS := Lib.hid hys
    have hyl : ys.length ≤ 400 := by rw [hys]; exact rules_len1 HPO.out hkk
    clear hys
    by_cases hlk : k < p.2.2.1.length
    · have hki : (k : Int) < ((p.2.2.1.length : Nat) : Int) := by omega
      have HSN := Lib.hid (show ys ++ [(1, ((k : Nat) : Int), 0, 0)] = accF [] rLink (k + 1) from by rw [HYS.out, accF_succ]; rfl)
      go_wp2_with ((at_builtin; refine wpList_app (n := 4) ruleR_good _ rfl _ _ 52 rfl (.agg #[.int .i64 0, .int .i64 0, .int .i64 0, .int .i64 0]) 32 Try.underlying52 (by kernel_rfl) rfl (by decide) (by decide) q1 c1 ys ((1, ((k : Nat) : Int), 0, 0)) rfl (hO.bel ruleR_good (by (repeat (first | assumption | exact Bel.refl _ | apply Bel.drewN | apply Bel.drew | apply Bel.alloc | refine Bel.trans ?_ (by assumption))))) _ 1 [.int .i64 (1), .int .i64 (((k : Nat) : Int)), .int .i64 (0), .int .i64 (0)] rfl rfl (World.news_of_block (alloc_at (by simp))) (by intro u hu; simp at hu; rcases hu with rfl | rfl | rfl | rfl <;> rfl) (rule_rep (by unfold I64; omega) (by unfold I64; omega) (by unfold I64; omega) (by unfold I64; omega)) (by omega) (by first | omega | (simp; omega)) ?_; intro q' cap' w' hO' hBW hsz'))
      have HB := Lib.hid (hBW W0 (by (repeat (first | assumption | exact Bel.refl _ | apply Bel.drewN | apply Bel.drew | apply Bel.alloc | refine Bel.trans ?_ (by assumption)))) (Nat.le_refl _))
      clear hBW hsz'
      go_roundw
      case rel => exact ⟨k + 1, ys ++ [(1, ((k : Nat) : Int), 0, 0)], q', cap', by omega, by go_num, by simp, HSN.out, hO', HB.out⟩
      case measure => simp [intOf]; omega
    · obtain rfl : k = p.2.2.1.length := by omega
      obtain ⟨b0, b1, b2, b3, b4⟩ := HBX.out wr hB
      go_wp2_with fail
      go_loopw [3, 28] (fun o x wr => ∃ (k : Nat) (ys : List RuleT) (q1 : Option Addr) (c1 : Nat), k ≤ p.2.1.length ∧ x = .int .i64 k ∧ o = .slice q1 ys.length c1 ∧ ys = accF (rul1 p) rEnd k ∧ Own (fun _ => False) 4 ruleR 55 W0.heap.size wr q1 c1 ys ∧ Bel W0 wr) (fun _ i _ => p.2.1.length - (intOf i).toNat)
      case atStart => exact ⟨0, ys, q1, c1, Nat.zero_le _, rfl, rfl, by rw [HYS.out, accF_zero]; rfl, hO.bel ruleR_good (by (repeat (first | assumption | exact Bel.refl _ | apply Bel.drewN | apply Bel.drew | apply Bel.alloc | refine Bel.trans ?_ (by assumption)))), by (repeat (first | assumption | exact Bel.refl _ | apply Bel.drewN | apply Bel.drew | apply Bel.alloc | refine Bel.trans ?_ (by assumption)))⟩
      case round =>
        obtain ⟨k, ys, q1, c1, hkk, rfl, rfl, hys, hO, hB⟩ := hrel
        have hwsz := hB.size
        have HYS := Lib.hid hys
        have hyl : ys.length ≤ 400 := by rw [hys]; exact rules_len2 HPO.out hkk
        clear hys
        by_cases hlk : k < p.2.1.length
        · have hki : (k : Int) < ((p.2.1.length : Nat) : Int) := by omega
          have HSN := Lib.hid (show ys ++ [(2, ((k : Nat) : Int), 0, 0)] = accF (rul1 p) rEnd (k + 1) from by rw [HYS.out, accF_succ]; rfl)
          go_wp2_with ((at_builtin; refine wpList_app (n := 4) ruleR_good _ rfl _ _ 52 rfl (.agg #[.int .i64 0, .int .i64 0, .int .i64 0, .int .i64 0]) 32 Try.underlying52 (by kernel_rfl) rfl (by decide) (by decide) q1 c1 ys ((2, ((k : Nat) : Int), 0, 0)) rfl (hO.bel ruleR_good (by (repeat (first | assumption | exact Bel.refl _ | apply Bel.drewN | apply Bel.drew | apply Bel.alloc | refine Bel.trans ?_ (by assumption))))) _ 1 [.int .i64 (2), .int .i64 (((k : Nat) : Int)), .int .i64 (0), .int .i64 (0)] rfl rfl (World.news_of_block (alloc_at (by simp))) (by intro u hu; simp at hu; rcases hu with rfl | rfl | rfl | rfl <;> rfl) (rule_rep (by unfold I64; omega) (by unfold I64; omega) (by unfold I64; omega) (by unfold I64; omega)) (by omega) (by first | omega | (simp; omega)) ?_; intro q' cap' w' hO' hBW hsz'))
          have HB := Lib.hid (hBW W0 (by (repeat (first | assumption | exact Bel.refl _ | apply Bel.drewN | apply Bel.drew | apply Bel.alloc | refine Bel.trans ?_ (by assumption)))) (Nat.le_refl _))
          clear hBW hsz'
          go_roundw
          case rel => exact ⟨k + 1, ys ++ [(2, ((k : Nat) : Int), 0, 0)], q', cap', by omega, by go_num, by simp, HSN.out, hO', HB.out⟩
          case measure => simp [intOf]; omega
        · obtain rfl : k = p.2.1.length := by omega
          have HYS := Lib.hid (show ys = rul3 p 0 from HYS.out)
          obtain ⟨b0, b1, b2, b3, b4⟩ := HBX.out wr hB
          go_wp2_with fail
          go_loopw [3, 40] (fun o x wr => ∃ (k : Nat) (ys : List RuleT) (q1 : Option Addr) (c1 : Nat), k ≤ p.2.2.2.1.length ∧ x = .int .i64 k ∧ o = .slice q1 ys.length c1 ∧ ys = rul3 p k ∧ Own (fun _ => False) 4 ruleR 55 W0.heap.size wr q1 c1 ys ∧ Bel W0 wr) (fun _ i _ => p.2.2.2.1.length - (intOf i).toNat)
          case atStart => exact ⟨0, ys, q1, c1, Nat.zero_le _, rfl, rfl, HYS.out, hO.bel ruleR_good (by (repeat (first | assumption | exact Bel.refl _ | apply Bel.drewN | apply Bel.drew | apply Bel.alloc | refine Bel.trans ?_ (by assumption)))), by (repeat (first | assumption | exact Bel.refl _ | apply Bel.drewN | apply Bel.drew | apply Bel.alloc | refine Bel.trans ?_ (by assumption)))⟩
          case round =>
            obtain ⟨k, ys, q1, c1, hk, rfl, rfl, hys, hO, hB⟩ := hrel
            have hwsz := hB.size
            have HYS := Lib.hid hys
            clear hys
            by_cases hlk : k < p.2.2.2.1.length
            · have hki : (k : Int) < ((p.2.2.2.1.length : Nat) : Int) := by omega
              go_wp2_with fail
              go_loopw [3, 43] (fun o x wr => ∃ (j : Nat) (ys : List RuleT) (q1 : Option Addr) (c1 : Nat), j ≤ 61 ∧ x = .int .i64 j ∧ o = .slice q1 ys.length c1 ∧ ys = accF (rul3 p k) (rTime k) j ∧ Own (fun _ => False) 4 ruleR 55 W0.heap.size wr q1 c1 ys ∧ Bel W0 wr) (fun _ i _ => 61 - (intOf i).toNat)
              case atStart => exact ⟨0, ys, q1, c1, Nat.zero_le _, rfl, rfl, by rw [HYS.out, accF_zero], hO.bel ruleR_good (by (repeat (first | assumption | exact Bel.refl _ | apply Bel.drewN | apply Bel.drew | apply Bel.alloc | refine Bel.trans ?_ (by assumption)))), by (repeat (first | assumption | exact Bel.refl _ | apply Bel.drewN | apply Bel.drew | apply Bel.alloc | refine Bel.trans ?_ (by assumption)))⟩
              case round =>
                obtain ⟨j, ys, q1, c1, hj, rfl, rfl, hys, hO, hB⟩ := hrel
                have hwsz := hB.size
                have HYS := Lib.hid hys
                have hyl : ys.length ≤ 400 := by rw [hys]; exact rules_len3 HPO.out hlk hj
                clear hys
                by_cases hlj : j < 61
                · have hji : (j : Int) < (61 : Int) := by omega
                  have HSN := Lib.hid (show ys ++ [(3, ((k : Nat) : Int), ((j : Nat) : Int), 0)] = accF (rul3 p k) (rTime k) (j + 1) from by rw [HYS.out, accF_succ]; rfl)
                  go_wp2_with ((at_builtin; refine wpList_app (n := 4) ruleR_good _ rfl _ _ 52 rfl (.agg #[.int .i64 0, .int .i64 0, .int .i64 0, .int .i64 0]) 32 Try.underlying52 (by kernel_rfl) rfl (by decide) (by decide) q1 c1 ys ((3, ((k : Nat) : Int), ((j : Nat) : Int), 0)) rfl (hO.bel ruleR_good (by (repeat (first | assumption | exact Bel.refl _ | apply Bel.drewN | apply Bel.drew | apply Bel.alloc | refine Bel.trans ?_ (by assumption))))) _ 1 [.int .i64 (3), .int .i64 (((k : Nat) : Int)), .int .i64 (((j : Nat) : Int)), .int .i64 (0)] rfl rfl (World.news_of_block (alloc_at (by simp))) (by intro u hu; simp at hu; rcases hu with rfl | rfl | rfl | rfl <;> rfl) (rule_rep (by unfold I64; omega) (by unfold I64; omega) (by unfold I64; omega) (by unfold I64; omega)) (by omega) (by first | omega | (simp; omega)) ?_; intro q' cap' w' hO' hBW hsz'))
                  have HB := Lib.hid (hBW W0 (by (repeat (first | assumption | exact Bel.refl _ | apply Bel.drewN | apply Bel.drew | apply Bel.alloc | refine Bel.trans ?_ (by assumption)))) (Nat.le_refl _))
                  clear hBW hsz'
                  go_roundw
                  case rel => exact ⟨j + 1, ys ++ [(3, ((k : Nat) : Int), ((j : Nat) : Int), 0)], q', cap', by omega, by go_num, by simp, HSN.out, hO', HB.out⟩
                  case measure => simp [intOf]; omega
                · obtain rfl : j = 61 := by omega
                  have HYS := Lib.hid (show ys = rul3 p (k + 1) from HYS.out)
                  go_wp2_with fail
                  go_roundw
                  case rel => exact ⟨k + 1, ys, q1, c1, by omega, by go_num, rfl, HYS.out, hO, hB⟩
                  case measure => simp [intOf]; omega
            · obtain rfl : k = p.2.2.2.1.length := by omega
              have HYS := Lib.hid (show ys = rul4 p 0 from HYS.out)
              obtain ⟨b0, b1, b2, b3, b4⟩ := HBX.out wr hB
              go_wp2_with fail
              go_loopw [3, 57] (fun o x wr => ∃ (i : Nat) (ys : List RuleT) (q1 : Option Addr) (c1 : Nat), i ≤ p.2.2.2.1.length ∧ x = .int .i64 i ∧ o = .slice q1 ys.length c1 ∧ ys = rul4 p i ∧ Own (fun _ => False) 4 ruleR 55 W0.heap.size wr q1 c1 ys ∧ Bel W0 wr) (fun _ x _ => p.2.2.2.1.length - (intOf x).toNat)
              case atStart => exact ⟨0, ys, q1, c1, Nat.zero_le _, rfl, rfl, HYS.out, hO.bel ruleR_good (by (repeat (first | assumption | exact Bel.refl _ | apply Bel.drewN | apply Bel.drew | apply Bel.alloc | refine Bel.trans ?_ (by assumption)))), by (repeat (first | assumption | exact Bel.refl _ | apply Bel.drewN | apply Bel.drew | apply Bel.alloc | refine Bel.trans ?_ (by assumption)))⟩
              case round =>
                obtain ⟨i, ys, q1, c1, hi, rfl, rfl, hys, hO, hB⟩ := hrel
                have hwsz := hB.size
                have HYS := Lib.hid hys
                clear hys
                by_cases hli : i < p.2.2.2.1.length
                · have hki : (i : Int) < ((p.2.2.2.1.length : Nat) : Int) := by omega
                  obtain ⟨b0, b1, b2, b3, b4⟩ := HBX.out wr hB
                  go_wp2_with fail
                  go_loopw [3, 63] (fun o x wr => ∃ (b : Nat) (ys : List RuleT) (q1 : Option Addr) (c1 : Nat), b ≤ p.2.1.length ∧ x = .int .i64 b ∧ o = .slice q1 ys.length c1 ∧ ys = accM (rul4 p i) (rPair i) (pairN p i) b ∧ Own (fun _ => False) 4 ruleR 55 W0.heap.size wr q1 c1 ys ∧ Bel W0 wr) (fun _ i _ => p.2.1.length - (intOf i).toNat)
                  case atStart => exact ⟨0, ys, q1, c1, Nat.zero_le _, rfl, rfl, HYS.out, hO.bel ruleR_good (by (repeat (first | assumption | exact Bel.refl _ | apply Bel.drewN | apply Bel.drew | apply Bel.alloc | refine Bel.trans ?_ (by assumption)))), by (repeat (first | assumption | exact Bel.refl _ | apply Bel.drewN | apply Bel.drew | apply Bel.alloc | refine Bel.trans ?_ (by assumption)))⟩
                  case round =>
                    obtain ⟨b, ys, q1, c1, hb, rfl, rfl, hys, hO, hB⟩ := hrel
                    have hwsz := hB.size
                    have HYS := Lib.hid hys
                    clear hys
                    by_cases hlb : b < p.2.1.length
                    · have hki : (b : Int) < ((p.2.1.length : Nat) : Int) := by omega
                      go_wp2_with fail
                      go_loopw [3, 10] (fun o x wr => ∃ (j : Nat) (ys : List RuleT) (q1 : Option Addr) (c1 : Nat), j ≤ pairN p i b ∧ x = .int .i64 ((b + 1 + j : Nat) : Int) ∧ o = .slice q1 ys.length c1 ∧ ys = accF (accM (rul4 p i) (rPair i) (pairN p i) b) (rPair i b) j ∧ Own (fun _ => False) 4 ruleR 55 W0.heap.size wr q1 c1 ys ∧ Bel W0 wr) (fun _ x _ => p.2.1.length + 1 - (intOf x).toNat)
                      case atStart => exact ⟨0, ys, q1, c1, Nat.zero_le _, by go_num, rfl, by rw [HYS.out, accF_zero], hO.bel ruleR_good (by (repeat (first | assumption | exact Bel.refl _ | apply Bel.drewN | apply Bel.drew | apply Bel.alloc | refine Bel.trans ?_ (by assumption)))), by (repeat (first | assumption | exact Bel.refl _ | apply Bel.drewN | apply Bel.drew | apply Bel.alloc | refine Bel.trans ?_ (by assumption)))⟩
                      case round =>
                        obtain ⟨j, ys, q1, c1, hj, rfl, rfl, hys, hO, hB⟩ := hrel
                        have hwsz := hB.size
                        have HYS := Lib.hid hys
                        have hpn := pairN_le p i b
                        have hyl : ys.length ≤ 400 := by rw [hys]; exact rules_len7 HPO.out hli hlb (by omega)
                        clear hys
                        obtain ⟨b0, b1, b2, b3, b4⟩ := HBX.out wr hB
                        by_cases hlj : b + 1 + j < p.2.1.length
                        · have hki : ((b + 1 + j : Nat) : Int) < ((p.2.1.length : Nat) : Int) := by omega
                          go_wp2_with fail
                          refine (iIsMachine_any _ p S _ _ (HP1.out _ (by (repeat (first | assumption | exact Bel.refl _ | apply Bel.drewN | apply Bel.drew | apply Bel.alloc | refine Bel.trans ?_ (by assumption))))) (fun b hb => Nat.lt_of_lt_of_le (HS.out b hb) (Bel.size (by (repeat (first | assumption | exact Bel.refl _ | apply Bel.drewN | apply Bel.drew | apply Bel.alloc | refine Bel.trans ?_ (by assumption)))))) HNB.out).mono ?_
                          rintro e w2 ⟨rfl, g2⟩
                          have hO := hO.bel ruleR_good (show Bel wr w2 from by (repeat (first | assumption | exact Bel.refl _ | apply Bel.drewN | apply Bel.drew | apply Bel.alloc | refine Bel.trans ?_ (by assumption))))
                          have hB := hB.trans (show Bel wr w2 from by (repeat (first | assumption | exact Bel.refl _ | apply Bel.drewN | apply Bel.drew | apply Bel.alloc | refine Bel.trans ?_ (by assumption))))
                          have hwsz := hB.size
                          cases hm : machB p (i : Int)
                          · have hj0 := pairN_no hm b
                            obtain rfl : j = 0 := by omega
                            have HYS := Lib.hid (show ys = accM (rul4 p i) (rPair i) (pairN p i) (b + 1) from by rw [HYS.out]; show _ = accF _ _ _; rw [hj0])
                            clear hm
                            go_wp2_with fail
                            go_roundw
                            case rel => exact ⟨b + 1, ys, q1, c1, by omega, by go_num, rfl, HYS.out, hO, hB⟩
                            case measure => simp [intOf]; omega
                          · have hj1 := pairN_yes hm b
                            clear hm
                            have HSN := Lib.hid (show ys ++ [(5, ((i : Nat) : Int), ((b : Nat) : Int), ((b + 1 + j : Nat) : Int))] = accF (accM (rul4 p i) (rPair i) (pairN p i) b) (rPair i b) (j + 1) from by rw [HYS.out, accF_succ]; rfl)
                            go_wp2_with ((at_builtin; refine wpList_app (n := 4) ruleR_good _ rfl _ _ 52 rfl (.agg #[.int .i64 0, .int .i64 0, .int .i64 0, .int .i64 0]) 32 Try.underlying52 (by kernel_rfl) rfl (by decide) (by decide) q1 c1 ys ((5, ((i : Nat) : Int), ((b : Nat) : Int), ((b + 1 + j : Nat) : Int))) rfl (hO.bel ruleR_good (by (repeat (first | assumption | exact Bel.refl _ | apply Bel.drewN | apply Bel.drew | apply Bel.alloc | refine Bel.trans ?_ (by assumption))))) _ 1 [.int .i64 (5), .int .i64 (((i : Nat) : Int)), .int .i64 (((b : Nat) : Int)), .int .i64 (((b + 1 + j : Nat) : Int))] rfl rfl (World.news_of_block (alloc_at (by simp))) (by intro u hu; simp at hu; rcases hu with rfl | rfl | rfl | rfl <;> rfl) (rule_rep (by unfold I64; omega) (by unfold I64; omega) (by unfold I64; omega) (by unfold I64; omega)) (by omega) (by first | omega | (simp; omega)) ?_; intro q' cap' w' hO' hBW hsz'))
                            have HB := Lib.hid (hBW W0 (by (repeat (first | assumption | exact Bel.refl _ | apply Bel.drewN | apply Bel.drew | apply Bel.alloc | refine Bel.trans ?_ (by assumption)))) (Nat.le_refl _))
                            clear hBW hsz'
                            go_roundw
                            case rel => exact ⟨j + 1, ys ++ [(5, ((i : Nat) : Int), ((b : Nat) : Int), ((b + 1 + j : Nat) : Int))], q', cap', by omega, by go_num, by simp, HSN.out, hO', HB.out⟩
                            case measure => simp [intOf]; omega
                        · have hji : ¬ ((b + 1 + j : Nat) : Int) < ((p.2.1.length : Nat) : Int) := by omega
                          have HYS := Lib.hid (show ys = accM (rul4 p i) (rPair i) (pairN p i) (b + 1) from by
                            rw [HYS.out]; show _ = accF _ _ _
                            have e : j = pairN p i b := by
                              cases hm : machB p (i : Int)
                              · have := pairN_no hm b; omega
                              · have := pairN_yes hm b; omega
                            rw [← e])
                          go_wp2_with fail
                          go_roundw
                          case rel => exact ⟨b + 1, ys, q1, c1, by omega, by go_num, rfl, HYS.out, hO, hB⟩
                          case measure => simp [intOf]; omega
                    · obtain rfl : b = p.2.1.length := by omega
                      have HYS := Lib.hid (show ys = rul4 p (i + 1) from HYS.out)
                      go_wp2_with fail
                      go_roundw
                      case rel => exact ⟨i + 1, ys, q1, c1, by omega, by go_num, rfl, HYS.out, hO, hB⟩
                      case measure => simp [intOf]; omega
                · obtain rfl : i = p.2.2.2.1.length := by omega
                  obtain ⟨b0, b1, b2, b3, b4⟩ := HBX.out wr hB
                  go_wp2_with fail
                  go_loopw [3, 92] (fun o x wr => ∃ (k : Nat) (ys : List RuleT) (q1 : Option Addr) (c1 : Nat), k ≤ p.2.2.2.2.length ∧ x = .int .i64 k ∧ o = .slice q1 ys.length c1 ∧ ys = accF (rul4 p p.2.2.2.1.length) rStock k ∧ Own (fun _ => False) 4 ruleR 55 W0.heap.size wr q1 c1 ys ∧ Bel W0 wr) (fun _ i _ => p.2.2.2.2.length - (intOf i).toNat)
                  case atStart => exact ⟨0, ys, q1, c1, Nat.zero_le _, rfl, rfl, by rw [HYS.out, accF_zero], hO.bel ruleR_good (by (repeat (first | assumption | exact Bel.refl _ | apply Bel.drewN | apply Bel.drew | apply Bel.alloc | refine Bel.trans ?_ (by assumption)))), by (repeat (first | assumption | exact Bel.refl _ | apply Bel.drewN | apply Bel.drew | apply Bel.alloc | refine Bel.trans ?_ (by assumption)))⟩
                  case round =>
                    obtain ⟨k, ys, q1, c1, hkk, rfl, rfl, hys, hO, hB⟩ := hrel
                    have hwsz := hB.size
                    have HYS := Lib.hid hys
                    have hyl : ys.length ≤ 400 := by rw [hys]; exact rules_len8 HPO.out hkk
                    clear hys
                    by_cases hlk : k < p.2.2.2.2.length
                    · have hki : (k : Int) < ((p.2.2.2.2.length : Nat) : Int) := by omega
                      have HSN := Lib.hid (show ys ++ [(6, ((k : Nat) : Int), 0, 0)] = accF (rul4 p p.2.2.2.1.length) rStock (k + 1) from by rw [HYS.out, accF_succ]; rfl)
                      go_wp2_with ((at_builtin; refine wpList_app (n := 4) ruleR_good _ rfl _ _ 52 rfl (.agg #[.int .i64 0, .int .i64 0, .int .i64 0, .int .i64 0]) 32 Try.underlying52 (by kernel_rfl) rfl (by decide) (by decide) q1 c1 ys ((6, ((k : Nat) : Int), 0, 0)) rfl (hO.bel ruleR_good (by (repeat (first | assumption | exact Bel.refl _ | apply Bel.drewN | apply Bel.drew | apply Bel.alloc | refine Bel.trans ?_ (by assumption))))) _ 1 [.int .i64 (6), .int .i64 (((k : Nat) : Int)), .int .i64 (0), .int .i64 (0)] rfl rfl (World.news_of_block (alloc_at (by simp))) (by intro u hu; simp at hu; rcases hu with rfl | rfl | rfl | rfl <;> rfl) (rule_rep (by unfold I64; omega) (by unfold I64; omega) (by unfold I64; omega) (by unfold I64; omega)) (by omega) (by first | omega | (simp; omega)) ?_; intro q' cap' w' hO' hBW hsz'))
                      have HB := Lib.hid (hBW W0 (by (repeat (first | assumption | exact Bel.refl _ | apply Bel.drewN | apply Bel.drew | apply Bel.alloc | refine Bel.trans ?_ (by assumption)))) (Nat.le_refl _))
                      clear hBW hsz'
                      go_roundw
                      case rel => exact ⟨k + 1, ys ++ [(6, ((k : Nat) : Int), 0, 0)], q', cap', by omega, by go_num, by simp, HSN.out, hO', HB.out⟩
                      case measure => simp [intOf]; omega
                    · obtain rfl : k = p.2.2.2.2.length := by omega
                      have HRES := Lib.hid (show rulesR (New w wr) wr [.slice q1 ys.length c1] (rulesV p) from by
                        rw [show rulesV p = ys from HYS.out.symm]
                        exact hO.done ruleR_good (fun _ hf => hf.elim) (fun b h1 h2 => ⟨by have := hwW.size; omega, h2⟩))
                      clear hO
                      go_wp2
                      go_ret
                      exact ⟨_, rfl, HRES.out, hwW.trans hB⟩

end Go.Proofs.Ytiaamddhocdhaaa
end

/- VRules -/
section
namespace Go.Proofs.Ytiaamddhocdhaaa
open Go.ChangeShapes Go.WideShapes Go.ChangeAt Go.RowKit
set_option linter.unusedVariables false


set_option maxRecDepth 100000 in
set_option maxHeartbeats 4000000 in
theorem iViolatedRules_any (v : Value) (p : ProjT) (S : Nat → Prop) (v1 : Value) (s : SchT) (T : Nat → Prop) (w : World) (hx : aggR projR S w v p) (hS : ∀ b, S b → b < w.heap.size) (_hn : bulkProject p ≤ 1048576) (hs : aggR schR T w v1 s) (hT : ∀ b, T b → b < w.heap.size) (_hn1 : bulkSchedule s ≤ 1048576) :
    Calls Try.prog 23 #[v, v1] w (FreshV rulesR w (violV p s)) := by
  obtain ⟨cs, rfl, hx⟩ := hx
  obtain ⟨c1, c2, c3, c4, rfl, q0, q1, q2, q3, q4⟩ := projR_open hx
  have Q1 := Lib.hid q1
  have Q2 := Lib.hid q2
  have Q3 := Lib.hid q3
  have Q4 := Lib.hid q4
  have HP := Lib.hid hx
  obtain ⟨p1, k1, rfl, l1, l1', -⟩ := sliceR_open q1
  obtain ⟨p2, k2, rfl, l2, l2', -⟩ := sliceR_open q2
  obtain ⟨p3, k3, rfl, l3, l3', -⟩ := sliceR_open q3
  obtain ⟨p4, k4, rfl, l4, l4', -⟩ := sliceR_open q4
  unfold maxLen at l1' l2' l3' l4'
  clear hx q0 q1 q2 q3 q4
  obtain ⟨zs, rfl, hs⟩ := hs
  have HZ := hs
  obtain ⟨z0, z1, rfl, zq0, zq1⟩ := schR_open hs
  have A0 := Lib.hid (fun i hi => intsR_at' zq0 (i := i) hi)
  have A1 := Lib.hid (fun i hi => intsR_at' zq1 (i := i) hi)
  obtain ⟨sp0, sk0, rfl, sl0, sl0', -⟩ := sliceR_open zq0
  obtain ⟨sp1, sk1, rfl, sl1, sl1', -⟩ := sliceR_open zq1
  unfold maxLen at sl0' sl1'
  have HT := Lib.hid hT
  have HQ1 := Lib.hid (show ∀ W, Bel w W → aggR schR T W (.agg #[.slice sp0 s.1.length sk0, .slice sp1 s.2.length sk1]) s from fun W hW => aggR_mk (schR_good.bel HZ hW HT.out))
  clear hs zq0 zq1 hT HZ
  have HS := Lib.hid hS
  have HN := Lib.hid _hn
  have HN1 := Lib.hid _hn1
  clear hS _hn _hn1
  have HP1 := Lib.hid (show ∀ W, Bel w W → aggR projR S W (.agg #[.int .i64 p.1, .slice p1 p.2.1.length k1, .slice p2 p.2.2.1.length k2, .slice p3 p.2.2.2.1.length k3, .slice p4 p.2.2.2.2.length k4]) p from fun W hW => aggR_mk (projR_good.bel HP.out hW HS.out))
  show Calls Try.prog 23 #[.agg #[.int .i64 p.1, .slice p1 p.2.1.length k1, .slice p2 p.2.2.1.length k2, .slice p3 p.2.2.2.1.length k3, .slice p4 p.2.2.2.2.length k4], .agg #[.slice sp0 s.1.length sk0, .slice sp1 s.2.length sk1]] w _
  go_enter Try.func23, Try.ntmps23
  go_wp2_with fail
  refine (iScheduleForm_any _ p S _ s T _ (HP1.out _ (by (repeat (first | assumption | exact Bel.refl _ | apply Bel.drewN | apply Bel.drew | apply Bel.alloc | refine Bel.trans ?_ (by assumption))))) (fun b hb => Nat.lt_of_lt_of_le (HS.out b hb) (Bel.size (by (repeat (first | assumption | exact Bel.refl _ | apply Bel.drewN | apply Bel.drew | apply Bel.alloc | refine Bel.trans ?_ (by assumption)))))) HN.out (HQ1.out _ (by (repeat (first | assumption | exact Bel.refl _ | apply Bel.drewN | apply Bel.drew | apply Bel.alloc | refine Bel.trans ?_ (by assumption))))) (fun b hb => Nat.lt_of_lt_of_le (HT.out b hb) (Bel.size (by (repeat (first | assumption | exact Bel.refl _ | apply Bel.drewN | apply Bel.drew | apply Bel.alloc | refine Bel.trans ?_ (by assumption)))))) HN1.out).mono ?_
  rintro e w1 ⟨rfl, g1⟩
  have b0 := g1.cell (p := ⟨w.heap.size, 0, none⟩) (v := .int .i64 p.1) (by simp [go_sem])
  have b1 := g1.cell (p := ⟨w.heap.size, 1, none⟩) (v := .slice p1 p.2.1.length k1) (by simp [go_sem])
  have b2 := g1.cell (p := ⟨w.heap.size, 2, none⟩) (v := .slice p2 p.2.2.1.length k2) (by simp [go_sem])
  have b3 := g1.cell (p := ⟨w.heap.size, 3, none⟩) (v := .slice p3 p.2.2.2.1.length k3) (by simp [go_sem])
  have b4 := g1.cell (p := ⟨w.heap.size, 4, none⟩) (v := .slice p4 p.2.2.2.2.length k4) (by simp [go_sem])
  have f0 := g1.cell (p := ⟨w.heap.size + 1, 0, none⟩) (v := .slice sp0 s.1.length sk0) (by simp [go_sem])
  have f1 := g1.cell (p := ⟨w.heap.size + 1, 1, none⟩) (v := .slice sp1 s.2.length sk1) (by simp [go_sem])
  have hall1 : w.heap.size + 2 ≤ w1.heap.size := by have := g1.size; simp at this; omega
  have G : Bel w w1 := by (repeat (first | assumption | exact Bel.refl _ | apply Bel.drewN | apply Bel.drew | apply Bel.alloc | refine Bel.trans ?_ (by assumption)))
  have HBX := Lib.hid (show ∀ W, Bel w1 W → W.cell? ⟨w.heap.size, 0, none⟩ = some (.int .i64 p.1) ∧ W.cell? ⟨w.heap.size, 1, none⟩ = some (.slice p1 p.2.1.length k1) ∧ W.cell? ⟨w.heap.size, 2, none⟩ = some (.slice p2 p.2.2.1.length k2) ∧ W.cell? ⟨w.heap.size, 3, none⟩ = some (.slice p3 p.2.2.2.1.length k3) ∧ W.cell? ⟨w.heap.size, 4, none⟩ = some (.slice p4 p.2.2.2.2.length k4) ∧ W.cell? ⟨w.heap.size + 1, 0, none⟩ = some (.slice sp0 s.1.length sk0) ∧ W.cell? ⟨w.heap.size + 1, 1, none⟩ = some (.slice sp1 s.2.length sk1) from fun W hW => keep7 ⟨b0, b1, b2, b3, b4, f0, f1⟩ hW)
  cases hf : schFormB p s
  · have HD := Lib.hid (show rulesR (New w w1) w1 [.slice none 0 0] (violV p s) from by unfold violV; rw [hf, if_neg (by simp)]; exact ⟨none, 0, rfl, Nat.le_refl _, Nat.zero_le _, fun i h => by simp at h⟩)
    clear hf
    go_wp2
    go_ret
    exact ⟨_, rfl, HD.out, G⟩
  have HVV := Lib.hid (show violV p s = violTo p s (rulesV p).length from by unfold violV; rw [hf, if_pos rfl])
  have HFO := Lib.hid hf
  have HRO := Lib.hid (fun r (hr : r ∈ rulesV p) => rulesV_ok (projOk_form hf) hr)
  have HRI := Lib.hid (fun r (hr : r ∈ rulesV p) => ruleOk_small (projOk_form hf) (rulesV_ok (projOk_form hf) hr))
  have hrl := (rules_small (projOk_form hf)).2.2
  clear hf
  have ab0 := fun o => ((Bel.refl w1).alloc o).cell b0
  have ab1 := fun o => ((Bel.refl w1).alloc o).cell b1
  have ab2 := fun o => ((Bel.refl w1).alloc o).cell b2
  have ab3 := fun o => ((Bel.refl w1).alloc o).cell b3
  have ab4 := fun o => ((Bel.refl w1).alloc o).cell b4
  have af0 := fun o => ((Bel.refl w1).alloc o).cell f0
  have af1 := fun o => ((Bel.refl w1).alloc o).cell f1
  go_wp2_with fail
  clear ab0 ab1 ab2 ab3 ab4 af0 af1
  refine (rules_any _ p S _ (HP1.out _ (by (repeat (first | assumption | exact Bel.refl _ | apply Bel.drewN | apply Bel.drew | apply Bel.alloc | refine Bel.trans ?_ (by assumption))))) (fun b hb => Nat.lt_of_lt_of_le (HS.out b hb) (Bel.size (by (repeat (first | assumption | exact Bel.refl _ | apply Bel.drewN | apply Bel.drew | apply Bel.alloc | refine Bel.trans ?_ (by assumption)))))) HN.out (projOk_form HFO.out)).mono ?_
  rintro e w2 ⟨vr, rfl, hr, g2⟩
  clear b0 b1 b2 b3 b4 f0 f1
  have G2 : Bel w1 w2 := by (repeat (first | assumption | exact Bel.refl _ | apply Bel.drewN | apply Bel.drew | apply Bel.alloc | refine Bel.trans ?_ (by assumption)))
  have hGs := G2.size
  obtain ⟨rq, rc, rfl, rl, rl', -⟩ := sliceR_open hr
  unfold maxLen at rl'
  have HM := Lib.hid hr
  clear hr
  go_wp2_with fail
  go_loopw [5, 16] (fun o i wr => ∃ (k : Nat) (ys : List RuleT) (q1 : Option Addr) (c1 : Nat), k ≤ (rulesV p).length ∧ i = .int .i64 k ∧ o = .slice q1 ys.length c1 ∧ ys = violTo p s k ∧ OwnE (fun _ => False) 4 ruleR 55 w2.heap.size wr q1 c1 ys ∧ Bel w2 wr) (fun _ i _ => (rulesV p).length - (intOf i).toNat)
  case atStart => exact ⟨0, [], _, _, Nat.zero_le _, rfl, rfl, (violTo_zero p s).symm, OwnE.empty _ _, by (repeat (first | assumption | exact Bel.refl _ | apply Bel.drewN | apply Bel.drew | apply Bel.alloc | refine Bel.trans ?_ (by assumption)))⟩
  case round =>
    obtain ⟨k, ys, q1, c1, hk, rfl, rfl, hys, hO, hB⟩ := hrel
    have hwsz := hB.size
    have HYS := Lib.hid hys
    have hyl : ys.length ≤ k := by rw [hys]; exact violTo_le p s k
    clear hys
    by_cases hlt : k < (rulesV p).length
    · obtain ⟨b, off, ecs, ea, hrow, hel⟩ := sliceR_at ((0 : Int), (0 : Int), (0 : Int), (0 : Int)) HM.out hlt
      obtain rfl : rq = some ⟨b, off, none⟩ := ea
      have hmem : (rulesV p).getD k ((0 : Int), (0 : Int), (0 : Int), (0 : Int)) ∈ rulesV p := by
        rw [List.getD_eq_getElem?_getD, List.getElem?_eq_getElem hlt]; exact List.getElem_mem hlt
      have HX1 := Lib.hid (fun (h : satB p s ((rulesV p).getD k ((0 : Int), (0 : Int), (0 : Int), (0 : Int))) = true) => violTo_yes hlt h)
      have HX2 := Lib.hid (fun (h : satB p s ((rulesV p).getD k ((0 : Int), (0 : Int), (0 : Int), (0 : Int))) = false) => violTo_no hlt h)
      have HXO := Lib.hid (HRO.out _ hmem)
      have HXI := Lib.hid (HRI.out _ hmem)
      clear hmem
      generalize (rulesV p).getD k ((0 : Int), (0 : Int), (0 : Int), (0 : Int)) = X at *
      obtain ⟨rfl, -⟩ := ruleR_open hel
      have ed0 := hB.cell (hrow 0 (by simp)).1
      have ed1 := hB.cell (hrow 1 (by simp)).1
      have ed2 := hB.cell (hrow 2 (by simp)).1
      have ed3 := hB.cell (hrow 3 (by simp)).1
      simp only [List.getElem_cons_zero, List.getElem_cons_succ, Nat.add_zero] at ed0 ed1 ed2 ed3
      clear hrow hel
      have hki : (k : Int) < ((rulesV p).length : Int) := by omega
      obtain ⟨b0, b1, b2, b3, b4, f0, f1⟩ := HBX.out wr (G2.trans hB)
      obtain ⟨Wb, hWb⟩ : ∃ W, W = wr := ⟨wr, rfl⟩
      subst hWb
      have hwb := hB.size
      have ab0 := fun o => ((Bel.refl Wb).alloc o).cell b0
      have ab1 := fun o => ((Bel.refl Wb).alloc o).cell b1
      have ab2 := fun o => ((Bel.refl Wb).alloc o).cell b2
      have ab3 := fun o => ((Bel.refl Wb).alloc o).cell b3
      have ab4 := fun o => ((Bel.refl Wb).alloc o).cell b4
      have af0 := fun o => ((Bel.refl Wb).alloc o).cell f0
      have af1 := fun o => ((Bel.refl Wb).alloc o).cell f1
      go_wp2_with fail
      clear ab0 ab1 ab2 ab3 ab4 af0 af1
      refine (satisfies_any _ p S _ s T X _ (HP1.out _ (by (repeat (first | assumption | exact Bel.refl _ | apply Bel.drewN | apply Bel.drew | apply Bel.alloc | refine Bel.trans ?_ (by assumption))))) (fun b hb => Nat.lt_of_lt_of_le (HS.out b hb) (Bel.size (by (repeat (first | assumption | exact Bel.refl _ | apply Bel.drewN | apply Bel.drew | apply Bel.alloc | refine Bel.trans ?_ (by assumption)))))) (HQ1.out _ (by (repeat (first | assumption | exact Bel.refl _ | apply Bel.drewN | apply Bel.drew | apply Bel.alloc | refine Bel.trans ?_ (by assumption))))) (fun b hb => Nat.lt_of_lt_of_le (HT.out b hb) (Bel.size (by (repeat (first | assumption | exact Bel.refl _ | apply Bel.drewN | apply Bel.drew | apply Bel.alloc | refine Bel.trans ?_ (by assumption)))))) HN.out HN1.out HFO.out HXO.out).mono ?_
      rintro e w3 ⟨rfl, g3⟩
      have G3 : Bel Wb w3 := by (repeat (first | assumption | exact Bel.refl _ | apply Bel.drewN | apply Bel.drew | apply Bel.alloc | refine Bel.trans ?_ (by assumption)))
      have d0 := g3.cell (p := ⟨Wb.heap.size, 0, none⟩) (v := .int .i64 X.1) (by simp [go_sem])
      have d1 := g3.cell (p := ⟨Wb.heap.size, 1, none⟩) (v := .int .i64 X.2.1) (by simp [go_sem])
      have d2 := g3.cell (p := ⟨Wb.heap.size, 2, none⟩) (v := .int .i64 X.2.2.1) (by simp [go_sem])
      have d3 := g3.cell (p := ⟨Wb.heap.size, 3, none⟩) (v := .int .i64 X.2.2.2) (by simp [go_sem])
      have hB3 := hB.trans G3
      have hO := hO.bel ruleR_good G3
      have h3s := hB3.size
      cases hs : satB p s X
      · have HSN := Lib.hid (show ys ++ [X] = violTo p s (k + 1) from by rw [HX2.out hs, ← HYS.out])
        clear hs
        go_wp2_with ((at_builtin; refine wpList_appE (n := 4) ruleR_good _ rfl _ _ 52 rfl (.agg #[.int .i64 0, .int .i64 0, .int .i64 0, .int .i64 0]) 32 Try.underlying52 (by kernel_rfl) rfl (by decide) (by decide) q1 c1 ys (X) rfl (hO.bel ruleR_good (by (repeat (first | assumption | exact Bel.refl _ | apply Bel.drewN | apply Bel.drew | apply Bel.alloc | refine Bel.trans ?_ (by assumption))))) _ 1 [.int .i64 X.1, .int .i64 X.2.1, .int .i64 X.2.2.1, .int .i64 X.2.2.2] rfl rfl (World.news_of_block (alloc_at (by simp))) (by intro u hu; simp at hu; rcases hu with rfl | rfl | rfl | rfl <;> rfl) (rule_rep HXI.out.1 HXI.out.2.1 HXI.out.2.2.1 HXI.out.2.2.2) (by omega) (by first | omega | (simp; omega)) ?_; intro q' cap' w' hO' hBW hsz'))
        have HB := Lib.hid (hBW w2 (by (repeat (first | assumption | exact Bel.refl _ | apply Bel.drewN | apply Bel.drew | apply Bel.alloc | refine Bel.trans ?_ (by assumption)))) (Nat.le_refl _))
        clear hBW hsz'
        go_roundw
        case rel => exact ⟨k + 1, ys ++ [X], q', cap', by omega, by go_num, by simp, HSN.out, hO', HB.out⟩
        case measure => simp [intOf]; omega
      · have HSN := Lib.hid (show ys = violTo p s (k + 1) from by rw [HX1.out hs, ← HYS.out])
        clear hs
        go_wp2_with fail
        go_roundw
        case rel => exact ⟨k + 1, ys, q1, c1, by omega, by go_num, rfl, HSN.out, hO, hB3⟩
        case measure => simp [intOf]; omega
    · obtain rfl : k = (rulesV p).length := by omega
      have HRES := Lib.hid (show rulesR (New w wr) wr [.slice q1 ys.length c1] (violV p s) from by
        rw [HVV.out, ← HYS.out]
        exact hO.done ruleR_good (fun _ hf => hf.elim) (fun b h1 h2 => ⟨by omega, h2⟩))
      clear hO
      go_wp2
      go_ret
      exact ⟨_, rfl, HRES.out, (G.trans G2).trans hB⟩


set_option maxRecDepth 100000 in
set_option maxHeartbeats 4000000 in
theorem iScheduleOk_any (v : Value) (p : ProjT) (S : Nat → Prop) (v1 : Value) (s : SchT) (T : Nat → Prop) (w : World) (hx : aggR projR S w v p) (hS : ∀ b, S b → b < w.heap.size) (_hn : bulkProject p ≤ 1048576) (hs : aggR schR T w v1 s) (hT : ∀ b, T b → b < w.heap.size) (_hn1 : bulkSchedule s ≤ 1048576) :
    Calls Try.prog 25 #[v, v1] w fun e w' => e = .returned (.bool (schOkB p s)) ∧ Bel w w' := by
  obtain ⟨cs, rfl, hx⟩ := hx
  obtain ⟨c1, c2, c3, c4, rfl, q0, q1, q2, q3, q4⟩ := projR_open hx
  have Q1 := Lib.hid q1
  have Q2 := Lib.hid q2
  have Q3 := Lib.hid q3
  have Q4 := Lib.hid q4
  have HP := Lib.hid hx
  obtain ⟨p1, k1, rfl, l1, l1', -⟩ := sliceR_open q1
  obtain ⟨p2, k2, rfl, l2, l2', -⟩ := sliceR_open q2
  obtain ⟨p3, k3, rfl, l3, l3', -⟩ := sliceR_open q3
  obtain ⟨p4, k4, rfl, l4, l4', -⟩ := sliceR_open q4
  unfold maxLen at l1' l2' l3' l4'
  clear hx q0 q1 q2 q3 q4
  obtain ⟨zs, rfl, hs⟩ := hs
  have HZ := hs
  obtain ⟨z0, z1, rfl, zq0, zq1⟩ := schR_open hs
  have A0 := Lib.hid (fun i hi => intsR_at' zq0 (i := i) hi)
  have A1 := Lib.hid (fun i hi => intsR_at' zq1 (i := i) hi)
  obtain ⟨sp0, sk0, rfl, sl0, sl0', -⟩ := sliceR_open zq0
  obtain ⟨sp1, sk1, rfl, sl1, sl1', -⟩ := sliceR_open zq1
  unfold maxLen at sl0' sl1'
  have HT := Lib.hid hT
  have HQ1 := Lib.hid (show ∀ W, Bel w W → aggR schR T W (.agg #[.slice sp0 s.1.length sk0, .slice sp1 s.2.length sk1]) s from fun W hW => aggR_mk (schR_good.bel HZ hW HT.out))
  clear hs zq0 zq1 hT HZ
  have HS := Lib.hid hS
  have HN := Lib.hid _hn
  have HN1 := Lib.hid _hn1
  clear hS _hn _hn1
  have HP1 := Lib.hid (show ∀ W, Bel w W → aggR projR S W (.agg #[.int .i64 p.1, .slice p1 p.2.1.length k1, .slice p2 p.2.2.1.length k2, .slice p3 p.2.2.2.1.length k3, .slice p4 p.2.2.2.2.length k4]) p from fun W hW => aggR_mk (projR_good.bel HP.out hW HS.out))
  show Calls Try.prog 25 #[.agg #[.int .i64 p.1, .slice p1 p.2.1.length k1, .slice p2 p.2.2.1.length k2, .slice p3 p.2.2.2.1.length k3, .slice p4 p.2.2.2.2.length k4], .agg #[.slice sp0 s.1.length sk0, .slice sp1 s.2.length sk1]] w _
  go_enter Try.func25, Try.ntmps25
  go_wp2_with fail
  refine (iScheduleForm_any _ p S _ s T _ (HP1.out _ (by (repeat (first | assumption | exact Bel.refl _ | apply Bel.drewN | apply Bel.drew | apply Bel.alloc | refine Bel.trans ?_ (by assumption))))) (fun b hb => Nat.lt_of_lt_of_le (HS.out b hb) (Bel.size (by (repeat (first | assumption | exact Bel.refl _ | apply Bel.drewN | apply Bel.drew | apply Bel.alloc | refine Bel.trans ?_ (by assumption)))))) HN.out (HQ1.out _ (by (repeat (first | assumption | exact Bel.refl _ | apply Bel.drewN | apply Bel.drew | apply Bel.alloc | refine Bel.trans ?_ (by assumption))))) (fun b hb => Nat.lt_of_lt_of_le (HT.out b hb) (Bel.size (by (repeat (first | assumption | exact Bel.refl _ | apply Bel.drewN | apply Bel.drew | apply Bel.alloc | refine Bel.trans ?_ (by assumption)))))) HN1.out).mono ?_
  rintro e w1 ⟨rfl, g1⟩
  have b0 := g1.cell (p := ⟨w.heap.size, 0, none⟩) (v := .int .i64 p.1) (by simp [go_sem])
  have b1 := g1.cell (p := ⟨w.heap.size, 1, none⟩) (v := .slice p1 p.2.1.length k1) (by simp [go_sem])
  have b2 := g1.cell (p := ⟨w.heap.size, 2, none⟩) (v := .slice p2 p.2.2.1.length k2) (by simp [go_sem])
  have b3 := g1.cell (p := ⟨w.heap.size, 3, none⟩) (v := .slice p3 p.2.2.2.1.length k3) (by simp [go_sem])
  have b4 := g1.cell (p := ⟨w.heap.size, 4, none⟩) (v := .slice p4 p.2.2.2.2.length k4) (by simp [go_sem])
  have f0 := g1.cell (p := ⟨w.heap.size + 1, 0, none⟩) (v := .slice sp0 s.1.length sk0) (by simp [go_sem])
  have f1 := g1.cell (p := ⟨w.heap.size + 1, 1, none⟩) (v := .slice sp1 s.2.length sk1) (by simp [go_sem])
  have G : Bel w w1 := by (repeat (first | assumption | exact Bel.refl _ | apply Bel.drewN | apply Bel.drew | apply Bel.alloc | refine Bel.trans ?_ (by assumption)))
  cases hf : schFormB p s
  · have HF := Lib.hid (show schOkB p s = false from by unfold schOkB; rw [hf]; rfl)
    clear hf
    go_wp2
    go_ret
    exact ⟨ret_bool HF.out.symm, G⟩
  have HF := Lib.hid (show schOkB p s = decide ((violV p s).length = 0) from by unfold schOkB; rw [hf]; rfl)
  clear hf
  go_wp2_with fail
  refine (iViolatedRules_any _ p S _ s T _ (HP1.out _ (by (repeat (first | assumption | exact Bel.refl _ | apply Bel.drewN | apply Bel.drew | apply Bel.alloc | refine Bel.trans ?_ (by assumption))))) (fun b hb => Nat.lt_of_lt_of_le (HS.out b hb) (Bel.size (by (repeat (first | assumption | exact Bel.refl _ | apply Bel.drewN | apply Bel.drew | apply Bel.alloc | refine Bel.trans ?_ (by assumption)))))) HN.out (HQ1.out _ (by (repeat (first | assumption | exact Bel.refl _ | apply Bel.drewN | apply Bel.drew | apply Bel.alloc | refine Bel.trans ?_ (by assumption))))) (fun b hb => Nat.lt_of_lt_of_le (HT.out b hb) (Bel.size (by (repeat (first | assumption | exact Bel.refl _ | apply Bel.drewN | apply Bel.drew | apply Bel.alloc | refine Bel.trans ?_ (by assumption)))))) HN1.out).mono ?_
  rintro e w2 ⟨vr, rfl, hr, g2⟩
  obtain ⟨rq, rc, rfl, rl, rl', -⟩ := sliceR_open hr
  clear hr
  have G2 : Bel w w2 := by (repeat (first | assumption | exact Bel.refl _ | apply Bel.drewN | apply Bel.drew | apply Bel.alloc | refine Bel.trans ?_ (by assumption)))
  generalize (violV p s).length = n at *
  by_cases h0 : n = 0
  · subst h0
    go_wp2
    go_ret
    exact ⟨ret_bool (by rw [HF.out]; simp), G2⟩
  · have h1 : ((n : Nat) : Int) ≠ 0 := by omega
    go_wp2
    go_ret
    exact ⟨ret_bool (by rw [HF.out]; simp [h0]), G2⟩

end Go.Proofs.Ytiaamddhocdhaaa
end

/- BulkOk -/
section
namespace Go.Proofs.Ytiaamddhocdhaaa
open Go.RowKit
set_option linter.unusedVariables false

theorem sumL_bdX {α : Type} (f : α → Nat) (c : Nat) : ∀ (xs : List α), (∀ x, x ∈ xs → f x ≤ c) → sumL (xs.map f) ≤ xs.length * c := by
  intro xs
  induction xs with
  | nil => intro _; simp [sumL]
  | cons x xs ih =>
    intro h
    rw [List.map_cons, sumL_cons, List.length_cons, Nat.succ_mul]
    have := h x List.mem_cons_self
    have := ih fun y hy => h y (List.mem_cons_of_mem _ hy)
    omega
theorem mem_getDX {α : Type} {xs : List α} {x : α} (d : α) (h : x ∈ xs) : ∃ i, i < xs.length ∧ xs.getD i d = x := by
  obtain ⟨i, hi, rfl⟩ := List.getElem_of_mem h
  exact ⟨i, hi, by simp [List.getD, hi]⟩
theorem amounts_lenX {l : List Int} {n : Nat} (h : amountsB l n = true) : l.length = n := by
  unfold amountsB at h
  simp only [Bool.and_eq_true, decide_eq_true_eq] at h
  omega
theorem projOk_act_name {p : ProjT} (h : projOk p = true) {k : Nat} (hk : k < p.2.1.length) : (p.2.1.getD k zAct).1.size ≤ 8 := by
  have h1 := projOk_act h hk
  unfold actAtOk actOkB isNameB inBv at h1
  simp only [Bool.and_eq_true, decide_eq_true_eq] at h1
  omega
theorem resOk_bdX {r : ResT} (h : resOkB r = true) : r.1.length ≤ 8 ∧ r.2.length ≤ 4 ∧ ∀ x, x ∈ r.2 → x.length = 4 := by
  unfold resOkB stepsOkB inBv at h
  simp only [Bool.and_eq_true, decide_eq_true_eq, Bool.or_eq_true] at h
  refine ⟨by omega, by omega, fun x hx => ?_⟩
  obtain ⟨i, hi, rfl⟩ := mem_getDX [] hx
  have h1 := List.all_eq_true.1 h.1 i (List.mem_range.2 hi)
  unfold rowOkB at h1
  simp only [Bool.and_eq_true, decide_eq_true_eq] at h1
  exact h1.1
theorem projOk_resX {p : ProjT} (h : projOk p = true) {k : Nat} (hk : k < p.2.2.2.1.length) : resOkB (p.2.2.2.1.getD k zRes) = true := by
  unfold projOk at h
  simp only [Bool.and_eq_true] at h
  exact List.all_eq_true.1 h.2.2.1 k (List.mem_range.2 hk)
theorem bulkAct_leX {p : ProjT} (h : projOk p = true) : ∀ x, x ∈ p.2.1 → bulkActivity x ≤ 100 := by
  intro x hx
  obtain ⟨i, hi, rfl⟩ := mem_getDX zAct hx
  have hb := projOk_bd h
  have h1 := projOk_act_name h hi
  have h2 := projOk_modes h hi
  have h3 : sumL ((p.2.1.getD i zAct).2.2.map bulkMode) ≤ (p.2.1.getD i zAct).2.2.length * 10 := sumL_bdX _ _ _ fun m hm => by
    obtain ⟨j, hj, rfl⟩ := mem_getDX zMode hm
    have h4 := projOk_mode h hi hj
    unfold modeOkB at h4
    simp only [Bool.and_eq_true] at h4
    have h5 := amounts_lenX h4.2.1
    have h6 := amounts_lenX h4.2.2
    unfold bulkMode bulkIntS
    omega
  unfold bulkActivity bulkModeS
  generalize (p.2.1.getD i zAct).2.2.length = M at *
  have : M * 10 ≤ 3 * 10 := Nat.mul_le_mul_right _ h2.2
  omega
theorem bulkRes_leX {p : ProjT} (h : projOk p = true) : ∀ x, x ∈ p.2.2.2.1 → bulkResource x ≤ 100 := by
  intro x hx
  obtain ⟨i, hi, rfl⟩ := mem_getDX zRes hx
  obtain ⟨h1, h2, h3⟩ := resOk_bdX (projOk_resX h hi)
  have h4 : sumL ((p.2.2.2.1.getD i zRes).2.map bulkIntS) ≤ (p.2.2.2.1.getD i zRes).2.length * 4 := sumL_bdX _ _ _ fun m hm => by
    unfold bulkIntS
    rw [h3 m hm]; exact Nat.le_refl _
  unfold bulkResource bulkStepS bulkIntSS
  generalize (p.2.2.2.1.getD i zRes).2.length = M at *
  have : M * 4 ≤ 4 * 4 := Nat.mul_le_mul_right _ h2
  omega
theorem bulkProj_ok {p : ProjT} (h : projOk p = true) : bulkProject p ≤ 1048576 := by
  have hb := projOk_bd h
  have h1 := sumL_bdX bulkActivity 100 p.2.1 (bulkAct_leX h)
  have h2 := sumL_bdX bulkResource 100 p.2.2.2.1 (bulkRes_leX h)
  unfold bulkProject bulkActivityS bulkResourceS bulkLinkS bulkIntS
  have : p.2.1.length * 100 ≤ 6 * 100 := Nat.mul_le_mul_right _ hb.2.1
  have : p.2.2.2.1.length * 100 ≤ 3 * 100 := Nat.mul_le_mul_right _ hb.2.2.1
  omega
theorem bulkSch_ok {p : ProjT} {s : SchT} (h : schFormB p s = true) : bulkSchedule s ≤ 1048576 := by
  unfold schFormB at h
  simp only [Bool.and_eq_true, decide_eq_true_eq] at h
  have hb := projOk_bd h.1
  unfold bulkSchedule bulkIntS
  omega
end Go.Proofs.Ytiaamddhocdhaaa
end

/- Types -/
section
namespace Go.Proofs.Ytiaamddhocdhaaa
open Go.RowKit
set_option linter.unusedVariables false
set_option maxRecDepth 10000

theorem laidOutAll : laidOutB Try.prog = true := by kernel_rfl
theorem ownKnobNone : ownKnob Try.prog.godebug = none := by kernel_rfl
theorem opInt {H : Type} {enc : TypeId × Value → H} (w : World) : Opens enc Try.prog w 3 intR := opens_int Try.underlying3
theorem opBool {H : Type} {enc : TypeId × Value → H} (w : World) : Opens enc Try.prog w 4 boolR := opens_bool Try.underlying4
theorem opStr {H : Type} {enc : TypeId × Value → H} (w : World) : Opens enc Try.prog w 9 strR := opens_string Try.underlying9
theorem opInts {H : Type} {enc : TypeId × Value → H} (w : World) : Opens enc Try.prog w 25 intsR := opens_slice Try.underlying25 (by kernel_rfl) (by decide) (opInt w)
theorem opSch {H : Type} {enc : TypeId × Value → H} (w : World) : Opens enc Try.prog w 90 schR := opens_struct2 Try.underlying90 (by kernel_rfl) ⟨by kernel_rfl, by kernel_rfl⟩ ⟨by kernel_rfl, by kernel_rfl⟩ (opInts w) (opInts w)
theorem opRows {H : Type} {enc : TypeId × Value → H} (w : World) : Opens enc Try.prog w 63 rowsR := opens_slice Try.underlying63 (by kernel_rfl) (by decide) (opInts w)
theorem opStep {H : Type} {enc : TypeId × Value → H} (w : World) : Opens enc Try.prog w 216 stepR := opens_struct2 Try.underlying216 (by kernel_rfl) ⟨by kernel_rfl, by kernel_rfl⟩ ⟨by kernel_rfl, by kernel_rfl⟩ (opInt w) (opInt w)
theorem opSteps {H : Type} {enc : TypeId × Value → H} (w : World) : Opens enc Try.prog w 153 stepsR := opens_slice Try.underlying153 (by kernel_rfl) (by decide) (opStep w)
theorem opMode {H : Type} {enc : TypeId × Value → H} (w : World) : Opens enc Try.prog w 213 modeR := opens_struct3 Try.underlying213 (by kernel_rfl) ⟨by kernel_rfl, by kernel_rfl⟩ ⟨by kernel_rfl, by kernel_rfl⟩ ⟨by kernel_rfl, by kernel_rfl⟩ (opInt w) (opInts w) (opInts w)
theorem opModes {H : Type} {enc : TypeId × Value → H} (w : World) : Opens enc Try.prog w 149 modesR := opens_slice Try.underlying149 (by kernel_rfl) (by decide) (opMode w)
theorem opAct {H : Type} {enc : TypeId × Value → H} (w : World) : Opens enc Try.prog w 151 actR := opens_struct3 Try.underlying151 (by kernel_rfl) ⟨by kernel_rfl, by kernel_rfl⟩ ⟨by kernel_rfl, by kernel_rfl⟩ ⟨by kernel_rfl, by kernel_rfl⟩ (opStr w) (opInt w) (opModes w)
theorem opActs {H : Type} {enc : TypeId × Value → H} (w : World) : Opens enc Try.prog w 22 actsR := opens_slice Try.underlying22 (by kernel_rfl) (by decide) (opAct w)
theorem opRes {H : Type} {enc : TypeId × Value → H} (w : World) : Opens enc Try.prog w 155 resR := opens_struct2 Try.underlying155 (by kernel_rfl) ⟨by kernel_rfl, by kernel_rfl⟩ ⟨by kernel_rfl, by kernel_rfl⟩ (opSteps w) (opRows w)
theorem opRess {H : Type} {enc : TypeId × Value → H} (w : World) : Opens enc Try.prog w 24 ressR := opens_slice Try.underlying24 (by kernel_rfl) (by decide) (opRes w)
theorem opLink {H : Type} {enc : TypeId × Value → H} (w : World) : Opens enc Try.prog w 159 linkR := opens_struct4 Try.underlying159 (by kernel_rfl) ⟨by kernel_rfl, by kernel_rfl⟩ ⟨by kernel_rfl, by kernel_rfl⟩ ⟨by kernel_rfl, by kernel_rfl⟩ ⟨by kernel_rfl, by kernel_rfl⟩ (opInt w) (opInt w) (opBool w) (opInt w)
theorem opLinks {H : Type} {enc : TypeId × Value → H} (w : World) : Opens enc Try.prog w 23 linksR := opens_slice Try.underlying23 (by kernel_rfl) (by decide) (opLink w)
theorem opProj {H : Type} {enc : TypeId × Value → H} (w : World) : Opens enc Try.prog w 27 projR := opens_struct5 Try.underlying27 (by kernel_rfl) ⟨by kernel_rfl, by kernel_rfl⟩ ⟨by kernel_rfl, by kernel_rfl⟩ ⟨by kernel_rfl, by kernel_rfl⟩ ⟨by kernel_rfl, by kernel_rfl⟩ ⟨by kernel_rfl, by kernel_rfl⟩ (opInt w) (opActs w) (opLinks w) (opRess w) (opInts w)
end Go.Proofs.Ytiaamddhocdhaaa
end

/- Code -/
section
namespace Go.Proofs.Ytiaamddhocdhaaa
open Go.RowKit
set_option linter.unusedVariables false
theorem opens_u8 {P : Program} {H : Type} {enc : TypeId × Value → H} {w : World} {t : TypeId} (ht : P.underlying t = some (.int .u8)) : Opens enc P w t u8R := by
  intro fuel cs y h hn
  obtain ⟨n, h1, _, h3⟩ := DataW.trod_int ht h
  exact ⟨n, h1, by simpa [Lit.wf, IntKind.min, IntKind.max, IntKind.signed, IntKind.bits] using h3⟩
theorem opU8 {H : Type} {enc : TypeId × Value → H} (w : World) : Opens enc Try.prog w 5 u8R := opens_u8 Try.underlying5
theorem opBytes {H : Type} {enc : TypeId × Value → H} (w : World) : Opens enc Try.prog w 38 bytesR := opens_slice Try.underlying38 (by kernel_rfl) (by decide) (opU8 w)
end Go.Proofs.Ytiaamddhocdhaaa
end

/- LitsF -/
section
namespace Go.Proofs.Ytiaamddhocdhaaa
open Go.RowKit
set_option linter.unusedVariables false

theorem litOk_cases {p : ProjT} {l : LitT} (h : litOkB p l = true) : (∃ a : Nat, l.2.1 = a ∧ a < p.2.1.length) ∧ (l.1 = 1 ∨ l.1 = 2 ∨ l.1 = 3 ∨ l.1 = 4) := by
  unfold litOkB at h
  simp only [Bool.and_eq_true] at h
  obtain ⟨h1, h2, h3⟩ := h
  simp only [inBv, Bool.and_eq_true, decide_eq_true_eq] at h2
  obtain ⟨a, ha⟩ := Int.eq_ofNat_of_zero_le h2.1
  refine ⟨⟨a, ha, by omega⟩, ?_⟩
  unfold litAt at h3
  by_cases e1 : l.1 = 1
  · exact .inl e1
  rw [if_neg e1] at h3
  by_cases e2 : l.1 = 2
  · exact .inr (.inl e2)
  rw [if_neg e2] at h3
  by_cases e3 : l.1 = 3
  · exact .inr (.inr (.inl e3))
  rw [if_neg e3] at h3
  by_cases e4 : l.1 = 4
  · exact .inr (.inr (.inr e4))
  rw [if_neg e4] at h3
  cases h3
theorem schForm_lens {p : ProjT} {s : SchT} (h : schFormB p s = true) : s.1.length = p.2.1.length ∧ s.2.length = p.2.1.length := by
  unfold schFormB at h
  simp only [Bool.and_eq_true, decide_eq_true_eq] at h
  exact ⟨h.2.1, h.2.2.1⟩
/-- The values of a literal lie close by. -/
theorem litOk_val {p : ProjT} {l : LitT} (h : litOkB p l = true) : -1 ≤ l.2.2 ∧ l.2.2 ≤ 61 := by
  have hp : projOk p = true := by unfold litOkB at h; simp only [Bool.and_eq_true] at h; exact h.1
  obtain ⟨⟨a, ha, hlt⟩, hk⟩ := litOk_cases h
  have hm := projOk_modes hp hlt
  unfold litOkB at h
  simp only [Bool.and_eq_true] at h
  obtain ⟨-, -, h3⟩ := h
  rw [ha] at h3
  simp only [Int.toNat_natCast] at h3
  unfold litAt at h3
  generalize (p.2.1.getD a zAct).2.2.length = M at *
  rcases hk with e | e | e | e <;> rw [e] at h3 <;> simp [inBv] at h3 <;> omega
theorem neg_holds {p : ProjT} {l : LitT} {s : SchT} (h : litOkB p l = true) (hs : schFormB p s = true) : litHolds (negL l.1 l.2.1 l.2.2) s = !litHolds l s := by
  obtain ⟨⟨a, ha, hlt⟩, hk⟩ := litOk_cases h
  have hv := litOk_val h
  obtain ⟨k, l2, v⟩ := l
  simp only at ha hk hv
  subst ha
  obtain ⟨h1, h2⟩ := schForm_lens hs
  have i1 : inB (a : Int) 0 ((s.1.length : Int) - 1) = true := by simp [inB]; omega
  have i2 : inB (a : Int) 0 ((s.2.length : Int) - 1) = true := by simp [inB]; omega
  have i3 : inB v (-100000) 100000 = true := by simp [inB]; omega
  have key : ∀ k' v', litHolds (k', (a : Int), v') s = holdsB k' v' (s.1.getD a 0) (s.2.getD a 0) := fun k' v' => by
    unfold litHolds
    simp only
    rw [i1, i2]
    rfl
  rw [key]
  generalize s.1.getD a 0 = X at *
  generalize s.2.getD a 0 = Y at *
  unfold negL
  rw [i3, if_pos rfl]
  rcases hk with rfl | rfl | rfl | rfl
  · rw [if_pos rfl, key, holdsB, holdsB]
    by_cases e : v ≤ X
    · simp [e]; omega
    · simp [e]; omega
  · rw [if_neg (by simp), if_pos rfl, key, holdsB, holdsB]
    by_cases e : X ≤ v
    · simp [e]; omega
    · simp [e]; omega
  · rw [if_neg (by simp), if_neg (by simp), if_pos rfl, key, holdsB, holdsB]
    simp
  · rw [if_neg (by simp), if_neg (by simp), if_neg (by simp), if_pos rfl, key, holdsB, holdsB]
    simp
theorem neg_neg {p : ProjT} {l : LitT} (h : litOkB p l = true) : negL (negL l.1 l.2.1 l.2.2).1 (negL l.1 l.2.1 l.2.2).2.1 (negL l.1 l.2.1 l.2.2).2.2 = l := by
  obtain ⟨-, hk⟩ := litOk_cases h
  have hv := litOk_val h
  obtain ⟨k, a, v⟩ := l
  simp only at hk hv
  have i0 : inB v (-100000) 100000 = true := by simp [inB]; omega
  have i1 : inB (v - 1) (-100000) 100000 = true := by simp [inB]; omega
  have i2 : inB (v + 1) (-100000) 100000 = true := by simp [inB]; omega
  rcases hk with rfl | rfl | rfl | rfl <;> simp [negL, i0, i1, i2] <;> omega
theorem cmpI_swap (a b : Int) : cmpI a b = -cmpI b a := by unfold cmpI; split <;> split <;> (try split) <;> omega
theorem cmpI_zero (a b : Int) : cmpI a b = 0 ↔ a = b := by unfold cmpI; split <;> (try split) <;> omega
theorem cmpL_swap (k a v k' a' v' : Int) : cmpL k a v k' a' v' = -cmpL k' a' v' k a v := by
  unfold cmpL or3
  rw [cmpI_swap a' a, cmpI_swap k' k, cmpI_swap v' v]
  split <;> split <;> (try split) <;> (try split) <;> omega
theorem cmpL_zero (k a v k' a' v' : Int) : cmpL k a v k' a' v' = 0 ↔ k = k' ∧ a = a' ∧ v = v' := by
  unfold cmpL or3
  rw [← cmpI_zero k k', ← cmpI_zero a a', ← cmpI_zero v v']
  split <;> (try split) <;> omega
theorem cmpL_bd (k a v k' a' v' : Int) : -1 ≤ cmpL k a v k' a' v' ∧ cmpL k a v k' a' v' ≤ 1 := by
  unfold cmpL or3 cmpI
  repeat' split
  all_goals omega
theorem sign_some {p : ProjT} {l : LitT} (h : litOkB p l = true) : signF l.1 ≠ ⟨#[]⟩ := by
  obtain ⟨-, hk⟩ := litOk_cases h
  rcases hk with e | e | e | e <;> rw [e] <;> decide
end Go.Proofs.Ytiaamddhocdhaaa
end

/- WFaults -/
section
namespace Go.Proofs.Ytiaamddhocdhaaa
open Go.ChangeShapes Go.WideShapes Go.ChangeAt Go.RowKit
set_option linter.unusedVariables false

theorem iCapacityAt_any (v : Value) (l : List StepT) (t : Int) (S : Nat → Prop) (w : World) (hx : stepsR S w [v] l) (hS : ∀ b, S b → b < w.heap.size) (hok : stepsOkB l = true) (ht : inB t 0 60 = true) :
    Calls Try.prog 31 #[v, .int .i64 t] w fun e w' => e = .returned (.int .i64 (capV l t)) ∧ Bel w w' := by
  have HX := Lib.hid hx
  have HS := Lib.hid hS
  have HO := Lib.hid hok
  have HT := Lib.hid ht
  obtain ⟨p, cap, rfl, l1, l2, -⟩ := sliceR_open hx
  unfold maxLen at l2
  clear hx hS hok ht
  go_enter Try.func31, Try.ntmps31
  go_wp2_with fail
  refine (iStepsOk_any _ l S _ HX.out).mono ?_
  rintro e w1 ⟨rfl, g1⟩
  rw [HO.out]
  go_wp2_with fail
  refine (isTime_any _ _).mono ?_
  rintro e w2 ⟨rfl, rfl⟩
  rw [HT.out]
  go_wp2_with fail
  refine (capacityAt_any _ l t S _ (stepsR_good.bel HX.out g1 HS.out)).mono ?_
  rintro e w2 ⟨rfl, g2⟩
  go_wp2
  go_ret
  exact ⟨rfl, by (repeat (first | assumption | exact Bel.refl _ | apply Bel.drewN | apply Bel.drew | apply Bel.alloc | refine Bel.trans ?_ (by assumption)))⟩

set_option maxRecDepth 100000 in
set_option maxHeartbeats 4000000 in
theorem fnFaults_walk (v0 : Value) (C : List Int) (w : World) (h0 : bytesR (Old w) w [v0] C) :
    Calls Try.prog 5 #[v0] w fun e w' => e = .returned (.bool true) ∧ Bel w w' := by
  obtain ⟨q, c, rfl, hq1, hq2, -⟩ := sliceR_open h0
  unfold maxLen at hq2
  have HC := Lib.hid (show ∀ W, Bel w W → bytesR (Old w) W [.slice q C.length c] C ∧ (∀ b, Old w b → b < W.heap.size) from fun W hW => ⟨bytesR_good.bel h0 hW (fun b hb => hb), fun b hb => Nat.lt_of_lt_of_le hb hW.size⟩)
  clear h0
  by_cases hl : C.length ≤ 1048576
  rotate_left
  · have hli : (1048576 : Int) < (C.length : Int) := by omega
    go_enter Try.func5, Try.ntmps5
    go_wp2_with fail
    go_ret
    exact ⟨rfl, Bel.refl _⟩
  have hli : ¬ (1048576 : Int) < (C.length : Int) := by omega
  go_enter Try.func5, Try.ntmps5
  go_wp2_with fail
  refine (MakeProject_any _ C _ _ (HC.out _ (Bel.refl _)).1 (HC.out _ (Bel.refl _)).2 hl).mono ?_
  rintro e w1 ⟨cs, rfl, hr, g1⟩
  obtain ⟨P, hP⟩ : ∃ P, (drawP C 3 (newV C)).1 = P := ⟨_, rfl⟩
  have hPD := drawP_ok C 3 (newV C) (by decide) (by decide)
  have hPD : Drawn P 3 := by have h3 : (drawP C ((3 : Nat) : Int) (newV C)).1 = P := hP; rw [h3] at hPD; exact hPD
  rw [hP] at hr
  have hok := hPD.ok
  have HR1 := Lib.hid hPD.res
  have HPO := Lib.hid hok
  have HBP := Lib.hid (bulkProj_ok hok)
  obtain ⟨x1, x2, x3, x4, rfl, u0, u1, u2, u3, u4⟩ := projR_open hr
  obtain ⟨p1, k1, rfl, -⟩ := sliceR_open u1
  obtain ⟨p2, k2, rfl, -⟩ := sliceR_open u2
  obtain ⟨p3, k3, rfl, -⟩ := sliceR_open u3
  obtain ⟨p4, k4, rfl, -⟩ := sliceR_open u4
  have HRK := Lib.hid (show ∀ W, Bel w1 W → ressR (New w w1) W [.slice p3 P.2.2.2.1.length k3] P.2.2.2.1 from fun W hW => ressR_good.bel u3 hW (fun b hb => hb.2))
  have HPR := Lib.hid (stays_agg projR_good hr)
  have G1 : Bel w w1 := g1
  clear hr u0 u1 u2 u3 u4 hP hPD hok g1
  go_wp2_with fail
  refine (MakeSched_any _ C _ _ P (New w w1) _ (HC.out _ (by (repeat (first | assumption | exact Bel.refl _ | apply Bel.drewN | apply Bel.drew | apply Bel.alloc | refine Bel.trans ?_ (by assumption))))).1 (HC.out _ (by (repeat (first | assumption | exact Bel.refl _ | apply Bel.drewN | apply Bel.drew | apply Bel.alloc | refine Bel.trans ?_ (by assumption))))).2 hl (HPR.out _ (by (repeat (first | assumption | exact Bel.refl _ | apply Bel.drewN | apply Bel.drew | apply Bel.alloc | refine Bel.trans ?_ (by assumption))))).1 (HPR.out _ (by (repeat (first | assumption | exact Bel.refl _ | apply Bel.drewN | apply Bel.drew | apply Bel.alloc | refine Bel.trans ?_ (by assumption))))).2 HPO.out).mono ?_
  rintro e w2 ⟨cs, rfl, hr, g2⟩
  obtain ⟨Q, hQ⟩ : ∃ Q, (schV C P (newAt C 11)).1 = Q := ⟨_, rfl⟩
  have hsf := schV_ok C P (newAt C 11) HPO.out
  rw [hQ] at hr hsf
  have HSF := Lib.hid hsf
  have HBS := Lib.hid (bulkSch_ok hsf)
  obtain ⟨x0, x1, rfl, u0, u1⟩ := schR_open hr
  obtain ⟨z0, e0, rfl, -⟩ := sliceR_open u0
  obtain ⟨z1, e1, rfl, -⟩ := sliceR_open u1
  have HSR := Lib.hid (show ∀ W, Bel w2 W → aggR schR (New w1 w2) W (.agg #[.slice z0 Q.1.length e0, .slice z1 Q.2.length e1]) Q ∧ (∀ k, New w1 w2 k → k < W.heap.size) from stays_agg schR_good (schR_good.mono hr (fun b hb => ⟨by have := hb.1; simp at this; omega, hb.2⟩)))
  have G2 : Bel w1 w2 := by (repeat (first | assumption | exact Bel.refl _ | apply Bel.drewN | apply Bel.drew | apply Bel.alloc | refine Bel.trans ?_ (by assumption)))
  have HB3 := Lib.hid (show ∀ W, Bel w2 W → W.cell? ⟨w1.heap.size, 0, none⟩ = some (.int .i64 P.1) ∧ W.cell? ⟨w1.heap.size, 1, none⟩ = some (.slice p1 P.2.1.length k1) ∧ W.cell? ⟨w1.heap.size, 2, none⟩ = some (.slice p2 P.2.2.1.length k2) ∧ W.cell? ⟨w1.heap.size, 3, none⟩ = some (.slice p3 P.2.2.2.1.length k3) ∧ W.cell? ⟨w1.heap.size, 4, none⟩ = some (.slice p4 P.2.2.2.2.length k4) from fun W hW => ⟨hW.cell (g2.cell (by simp [go_sem])), hW.cell (g2.cell (by simp [go_sem])), hW.cell (g2.cell (by simp [go_sem])), hW.cell (g2.cell (by simp [go_sem])), hW.cell (g2.cell (by simp [go_sem]))⟩)
  obtain ⟨b0, b1, b2, b3, b4⟩ := HB3.out w2 (Bel.refl _)
  have ab0 := fun o => ((Bel.refl w2).alloc o).cell b0
  have ab1 := fun o => ((Bel.refl w2).alloc o).cell b1
  have ab2 := fun o => ((Bel.refl w2).alloc o).cell b2
  have ab3 := fun o => ((Bel.refl w2).alloc o).cell b3
  have ab4 := fun o => ((Bel.refl w2).alloc o).cell b4
  clear hr u0 u1 hQ hsf g2
  go_wp2_with fail
  refine (iViolatedRules_any _ P (New w w1) _ Q (New w1 w2) _ (HPR.out _ (by (repeat (first | assumption | exact Bel.refl _ | apply Bel.drewN | apply Bel.drew | apply Bel.alloc | refine Bel.trans ?_ (by assumption))))).1 (HPR.out _ (by (repeat (first | assumption | exact Bel.refl _ | apply Bel.drewN | apply Bel.drew | apply Bel.alloc | refine Bel.trans ?_ (by assumption))))).2 HBP.out (HSR.out _ (by (repeat (first | assumption | exact Bel.refl _ | apply Bel.drewN | apply Bel.drew | apply Bel.alloc | refine Bel.trans ?_ (by assumption))))).1 (HSR.out _ (by (repeat (first | assumption | exact Bel.refl _ | apply Bel.drewN | apply Bel.drew | apply Bel.alloc | refine Bel.trans ?_ (by assumption))))).2 HBS.out).mono ?_
  rintro e w3 ⟨v3, rfl, hr, g3⟩
  obtain ⟨vq, vc, rfl, lv, lv', -⟩ := sliceR_open hr
  unfold maxLen at lv'
  have HVR := Lib.hid (stays_one rulesR_good hr)
  have HB4 := Lib.hid (show ∀ W, Bel w3 W → W.cell? ⟨w2.heap.size, 0, none⟩ = some (.slice z0 Q.1.length e0) ∧ W.cell? ⟨w2.heap.size, 1, none⟩ = some (.slice z1 Q.2.length e1) from fun W hW => ⟨hW.cell (g3.cell (by simp [go_sem])), hW.cell (g3.cell (by simp [go_sem]))⟩)
  have G3 : Bel w2 w3 := by (repeat (first | assumption | exact Bel.refl _ | apply Bel.drewN | apply Bel.drew | apply Bel.alloc | refine Bel.trans ?_ (by assumption)))
  clear b0 b1 b2 b3 b4 ab0 ab1 ab2 ab3 ab4 hr g3
  obtain ⟨b0, b1, b2, b3, b4⟩ := HB3.out w3 G3
  have ab0 := fun o => ((Bel.refl w3).alloc o).cell b0
  have ab1 := fun o => ((Bel.refl w3).alloc o).cell b1
  have ab2 := fun o => ((Bel.refl w3).alloc o).cell b2
  have ab3 := fun o => ((Bel.refl w3).alloc o).cell b3
  have ab4 := fun o => ((Bel.refl w3).alloc o).cell b4
  go_wp2_with fail
  refine (MakeRule_any _ C _ _ P (New w w1) _ (HC.out _ (by (repeat (first | assumption | exact Bel.refl _ | apply Bel.drewN | apply Bel.drew | apply Bel.alloc | refine Bel.trans ?_ (by assumption))))).1 (HC.out _ (by (repeat (first | assumption | exact Bel.refl _ | apply Bel.drewN | apply Bel.drew | apply Bel.alloc | refine Bel.trans ?_ (by assumption))))).2 hl (HPR.out _ (by (repeat (first | assumption | exact Bel.refl _ | apply Bel.drewN | apply Bel.drew | apply Bel.alloc | refine Bel.trans ?_ (by assumption))))).1 (HPR.out _ (by (repeat (first | assumption | exact Bel.refl _ | apply Bel.drewN | apply Bel.drew | apply Bel.alloc | refine Bel.trans ?_ (by assumption))))).2 HPO.out).mono ?_
  rintro e w4 ⟨R, rfl, g4⟩
  have hfn := faults_none HSF.out
  have G34 : Bel w3 w4 := by (repeat (first | assumption | exact Bel.refl _ | apply Bel.drewN | apply Bel.drew | apply Bel.alloc | refine Bel.trans ?_ (by assumption)))
  have HG14 := Lib.hid (show Bel w1 w4 ∧ True from ⟨G2.trans (G3.trans G34), trivial⟩)
  have HBB := Lib.hid (show ∀ W, Bel w4 W → W.cell? ⟨w1.heap.size, 0, none⟩ = some (.int .i64 P.1) ∧ W.cell? ⟨w1.heap.size, 1, none⟩ = some (.slice p1 P.2.1.length k1) ∧ W.cell? ⟨w1.heap.size, 2, none⟩ = some (.slice p2 P.2.2.1.length k2) ∧ W.cell? ⟨w1.heap.size, 3, none⟩ = some (.slice p3 P.2.2.2.1.length k3) ∧ W.cell? ⟨w1.heap.size, 4, none⟩ = some (.slice p4 P.2.2.2.2.length k4) ∧ W.cell? ⟨w2.heap.size, 0, none⟩ = some (.slice z0 Q.1.length e0) ∧ W.cell? ⟨w2.heap.size, 1, none⟩ = some (.slice z1 Q.2.length e1) from fun W hW => by
    obtain ⟨a0, a1, a2, a3, a4⟩ := HB3.out W (G3.trans (G34.trans hW))
    obtain ⟨a5, a6⟩ := HB4.out W (G34.trans hW)
    exact ⟨a0, a1, a2, a3, a4, a5, a6⟩)
  have hsc : schOkB P Q = decide ((violV P Q).length = 0) := by unfold schOkB; rw [HSF.out, Bool.true_and]
  clear b0 b1 b2 b3 b4 ab0 ab1 ab2 ab3 ab4 g4
  obtain ⟨b0, b1, b2, b3, b4, b5, b6⟩ := HBB.out w4 (Bel.refl _)
  have ab0 := fun o => ((Bel.refl w4).alloc o).cell b0
  have ab1 := fun o => ((Bel.refl w4).alloc o).cell b1
  have ab2 := fun o => ((Bel.refl w4).alloc o).cell b2
  have ab3 := fun o => ((Bel.refl w4).alloc o).cell b3
  have ab4 := fun o => ((Bel.refl w4).alloc o).cell b4
  have ab5 := fun o => ((Bel.refl w4).alloc o).cell b5
  have ab6 := fun o => ((Bel.refl w4).alloc o).cell b6
  obtain ⟨R1, R2, R3, R4⟩ := R
  simp only at *
  have HV0 := Lib.hid (fun (h : (violV P Q).length = 0) => hfn h (R1, R2, R3, R4))
  obtain ⟨NV, hNV⟩ : ∃ n, (violV P Q).length = n := ⟨_, rfl⟩
  rw [hNV] at hsc HV0 lv
  rw [hNV]
  have HNV := Lib.hid hNV
  clear hNV hfn
  go_upto_region 7 with (fail)
  go_cut [48] (fun s wx => s = .bool false ∧ Bel w4 wx)
  case rest =>
    obtain ⟨rfl, hcB⟩ := hcut
    clear b0 b1 b2 b3 b4 b5 b6 ab0 ab1 ab2 ab3 ab4 ab5 ab6
    obtain ⟨b0, b1, b2, b3, b4, b5, b6⟩ := HBB.out wc hcB
    go_wp2_with fail
    go_loopw [51] (fun kk wr => ∃ j : Nat, j ≤ NV ∧ kk = .int .i64 j ∧ Bel w4 wr) (fun kk _ => NV - (intOf kk).toNat)
    case atStart => exact ⟨0, Nat.zero_le _, rfl, by (repeat (first | assumption | exact Bel.refl _ | apply Bel.drewN | apply Bel.drew | apply Bel.alloc | refine Bel.trans ?_ (by assumption)))⟩
    case round =>
      clear b0 b1 b2 b3 b4 b5 b6
      obtain ⟨j, hj, rfl, hB⟩ := hrel
      obtain ⟨b0, b1, b2, b3, b4, b5, b6⟩ := HBB.out wr hB
      by_cases hlt : j < NV
      · have hji : (j : Int) < (NV : Int) := by omega
        have hjl : j < (violV P Q).length := by rw [HNV.out]; exact hlt
        obtain ⟨h1, h2, h3⟩ := faults_some HSF.out hjl
        obtain ⟨lb, loff, lcs, lea, lrow, lel⟩ := sliceR_at (0, 0, 0, 0) (HVR.out wr (G34.trans hB)).1 hjl
        obtain rfl : vq = some ⟨lb, loff, none⟩ := lea
        obtain ⟨Y, hY⟩ : ∃ Y, (violV P Q).getD j (0, 0, 0, 0) = Y := ⟨_, rfl⟩
        rw [hY] at h1 h2 h3 lel
        obtain ⟨Y1, Y2, Y3, Y4⟩ := Y
        obtain ⟨rfl, -⟩ := ruleR_open lel
        have d0 := (lrow 0 (by simp)).1
        have d1 := (lrow 1 (by simp)).1
        have d2 := (lrow 2 (by simp)).1
        have d3 := (lrow 3 (by simp)).1
        simp only [List.getElem_cons_zero, List.getElem_cons_succ, Nat.add_zero] at d0 d1 d2 d3
        have HO1 := Lib.hid h1
        have HV1 := Lib.hid h2
        obtain ⟨sg, hsg⟩ : ∃ sg, ruleNameF Y1 = sg := ⟨_, rfl⟩
        simp only at h3
        rw [hsg] at h3
        have hs4 : (sg.toList == ([] : List UInt8)) = false := by
          have h : (sg.toList == (⟨#[]⟩ : ByteArray).toList) = false := beq_eq_false_iff_ne.2 fun h => h3 (toList_inj h)
          rwa [show (⟨#[]⟩ : ByteArray).toList = [] from by rw [ByteArray.toList_eq]] at h
        have HSG := Lib.hid hsg
        clear h1 h2 h3 hsg hY lrow lel hjl
        have ab0 := fun o => ((Bel.refl wr).alloc o).cell b0
        have ab1 := fun o => ((Bel.refl wr).alloc o).cell b1
        have ab2 := fun o => ((Bel.refl wr).alloc o).cell b2
        have ab3 := fun o => ((Bel.refl wr).alloc o).cell b3
        have ab4 := fun o => ((Bel.refl wr).alloc o).cell b4
        have ab5 := fun o => ((Bel.refl wr).alloc o).cell b5
        have ab6 := fun o => ((Bel.refl wr).alloc o).cell b6
        go_wp2_with fail
        refine (iRuleOk_any _ P (New w w1) (Y1, Y2, Y3, Y4) _ (HPR.out _ (by (repeat (first | assumption | exact Bel.refl _ | apply Bel.drewN | apply Bel.drew | apply Bel.alloc | refine Bel.trans ?_ (by assumption))))).1 (HPR.out _ (by (repeat (first | assumption | exact Bel.refl _ | apply Bel.drewN | apply Bel.drew | apply Bel.alloc | refine Bel.trans ?_ (by assumption))))).2 HBP.out).mono ?_
        rintro e w6 ⟨rfl, g6⟩
        rw [HO1.out]
        have G6 : Bel wr w6 := by (repeat (first | assumption | exact Bel.refl _ | apply Bel.drewN | apply Bel.drew | apply Bel.alloc | refine Bel.trans ?_ (by assumption)))
        have HXB := Lib.hid (show ∀ W, Bel w6 W → W.cell? ⟨wr.heap.size, 0, none⟩ = some (.int .i64 Y1) ∧ W.cell? ⟨wr.heap.size, 1, none⟩ = some (.int .i64 Y2) ∧ W.cell? ⟨wr.heap.size, 2, none⟩ = some (.int .i64 Y3) ∧ W.cell? ⟨wr.heap.size, 3, none⟩ = some (.int .i64 Y4) from fun W hW => ⟨hW.cell (g6.cell (by simp [go_sem])), hW.cell (g6.cell (by simp [go_sem])), hW.cell (g6.cell (by simp [go_sem])), hW.cell (g6.cell (by simp [go_sem]))⟩)
        clear b0 b1 b2 b3 b4 b5 b6 ab0 ab1 ab2 ab3 ab4 ab5 ab6 g6 d0 d1 d2 d3
        obtain ⟨b0, b1, b2, b3, b4, b5, b6⟩ := HBB.out w6 (hB.trans G6)
        obtain ⟨c0, c1, c2, c3⟩ := HXB.out w6 (Bel.refl _)
        go_wp2_with fail
        refine (iViolates_any _ P (New w w1) _ Q (New w1 w2) (Y1, Y2, Y3, Y4) _ (HPR.out _ (by (repeat (first | assumption | exact Bel.refl _ | apply Bel.drewN | apply Bel.drew | apply Bel.alloc | refine Bel.trans ?_ (by assumption))))).1 (HPR.out _ (by (repeat (first | assumption | exact Bel.refl _ | apply Bel.drewN | apply Bel.drew | apply Bel.alloc | refine Bel.trans ?_ (by assumption))))).2 HBP.out (HSR.out _ (by (repeat (first | assumption | exact Bel.refl _ | apply Bel.drewN | apply Bel.drew | apply Bel.alloc | refine Bel.trans ?_ (by assumption))))).1 (HSR.out _ (by (repeat (first | assumption | exact Bel.refl _ | apply Bel.drewN | apply Bel.drew | apply Bel.alloc | refine Bel.trans ?_ (by assumption))))).2 HBS.out).mono ?_
        rintro e w7 ⟨rfl, g7⟩
        rw [HV1.out]
        have G7 : Bel w6 w7 := by (repeat (first | assumption | exact Bel.refl _ | apply Bel.drewN | apply Bel.drew | apply Bel.alloc | refine Bel.trans ?_ (by assumption)))
        clear g7 c0 c1 c2 c3
        obtain ⟨c0, c1, c2, c3⟩ := HXB.out w7 G7
        go_wp2_with fail
        refine (iRuleName Y1 _).mono ?_
        rintro e w8 ⟨rfl, g8⟩
        rw [HSG.out]
        have G8 : Bel w7 w8 := by (repeat (first | assumption | exact Bel.refl _ | apply Bel.drewN | apply Bel.drew | apply Bel.alloc | refine Bel.trans ?_ (by assumption)))
        have G68 : Bel wr w8 := G6.trans (G7.trans G8)
        go_wp2_with fail
        go_roundw
        case rel => exact ⟨j + 1, by omega, by go_num, by (repeat (first | assumption | exact Bel.refl _ | apply Bel.drewN | apply Bel.drew | apply Bel.alloc | refine Bel.trans ?_ (by assumption)))⟩
        case measure => (simp [intOf] <;> omega)
      · obtain rfl : j = NV := by omega
        go_wp2_with fail
        go_loopw [9] (fun kk wr => ∃ j : Nat, j ≤ 20 ∧ kk = .int .i64 j ∧ Bel w4 wr) (fun kk _ => 20 - (intOf kk).toNat)
        case atStart => exact ⟨0, Nat.zero_le _, rfl, by (repeat (first | assumption | exact Bel.refl _ | apply Bel.drewN | apply Bel.drew | apply Bel.alloc | refine Bel.trans ?_ (by assumption)))⟩
        case round =>
          clear b0 b1 b2 b3 b4 b5 b6
          obtain ⟨j, hj, rfl, hB⟩ := hrel
          obtain ⟨b0, b1, b2, b3, b4, b5, b6⟩ := HBB.out wr hB
          by_cases hlt : j < 20
          · have hji : (j : Int) < 20 := by omega
            have h1 := faults_time HSF.out HR1.out (t := j) (by omega)
            have h2 := usageAt_form HSF.out HR1.out (j : Int)
            obtain ⟨rb, ro, rcs, rea, rrow, rel⟩ := sliceR_at zRes (HRK.out wr (HG14.out.1.trans hB)) (show 0 < P.2.2.2.1.length from HR1.out)
            obtain rfl : p3 = some ⟨rb, ro, none⟩ := rea
            have hso := projOk_steps HPO.out (show 0 < P.2.2.2.1.length from HR1.out)
            obtain ⟨RS, hRS⟩ : ∃ X, P.2.2.2.1.getD 0 zRes = X := ⟨_, rfl⟩
            rw [hRS] at h1 rel hso
            obtain ⟨ST, SU⟩ := RS
            simp only at h1 hso
            obtain ⟨rc0, rc1, rfl, hst, -⟩ := resR_open rel
            simp only at hst
            have HST := Lib.hid hst
            obtain ⟨st, sk, rfl, ls, ls', -⟩ := sliceR_open hst
            have ea0 := (rrow 0 (by simp)).1
            simp only [List.getElem_cons_zero, Nat.add_zero, Nat.zero_mul] at ea0
            obtain ⟨U, hU⟩ : ∃ U, usageV P Q 0 (j : Int) = U := ⟨_, rfl⟩
            obtain ⟨K, hK⟩ : ∃ U, capV ST (j : Int) = U := ⟨_, rfl⟩
            rw [hU] at h1 h2
            rw [hK] at h1
            have HUS := Lib.hid h2
            have HCP := Lib.hid hK
            have HVI := Lib.hid h1
            have HSO := Lib.hid hso
            have htb : inB (j : Int) 0 60 = true := by simp only [inB, Bool.and_eq_true, decide_eq_true_eq]; omega
            have HBW := Lib.hid (show Bel w1 wr ∧ True from And.intro (HG14.out.1.trans hB) trivial)
            have HSW := Lib.hid (fun b (hb : New w w1 b) => Nat.lt_of_lt_of_le hb.2 HBW.out.1.size)
            have hri : (0 : Int) < (P.2.2.2.1.length : Int) := by have := HR1.out; omega
            have hrn : 0 < P.2.2.2.1.length := HR1.out
            have HALL := Lib.hid (show ∀ W, Bel wr W → W.cell? ⟨w1.heap.size, 0, none⟩ = some (.int .i64 P.1) ∧ W.cell? ⟨w1.heap.size, 1, none⟩ = some (.slice p1 P.2.1.length k1) ∧ W.cell? ⟨w1.heap.size, 2, none⟩ = some (.slice p2 P.2.2.1.length k2) ∧ W.cell? ⟨w1.heap.size, 3, none⟩ = some (.slice (some ⟨rb, ro, none⟩) P.2.2.2.1.length k3) ∧ W.cell? ⟨w1.heap.size, 4, none⟩ = some (.slice p4 P.2.2.2.2.length k4) ∧ W.cell? ⟨w2.heap.size, 0, none⟩ = some (.slice z0 Q.1.length e0) ∧ W.cell? ⟨w2.heap.size, 1, none⟩ = some (.slice z1 Q.2.length e1) ∧ W.cell? ⟨rb, ro, none⟩ = some (.slice st ST.length sk) from fun W hWr => ⟨hWr.cell b0, hWr.cell b1, hWr.cell b2, hWr.cell b3, hWr.cell b4, hWr.cell b5, hWr.cell b6, hWr.cell ea0⟩)
            clear h1 h2 hst rel hRS hso hU hK rrow ea0
            go_wp2_with fail
            go_region_held3 (fun W => W.cell? ⟨w1.heap.size, 0, none⟩ = some (.int .i64 P.1) ∧ W.cell? ⟨w1.heap.size, 1, none⟩ = some (.slice p1 P.2.1.length k1) ∧ W.cell? ⟨w1.heap.size, 2, none⟩ = some (.slice p2 P.2.2.1.length k2) ∧ W.cell? ⟨w1.heap.size, 3, none⟩ = some (.slice (some ⟨rb, ro, none⟩) P.2.2.2.1.length k3) ∧ W.cell? ⟨w1.heap.size, 4, none⟩ = some (.slice p4 P.2.2.2.2.length k4) ∧ W.cell? ⟨w2.heap.size, 0, none⟩ = some (.slice z0 Q.1.length e0) ∧ W.cell? ⟨w2.heap.size, 1, none⟩ = some (.slice z1 Q.2.length e1) ∧ W.cell? ⟨rb, ro, none⟩ = some (.slice st ST.length sk)) (first | (with_reducible exact HALL.out _ (by (repeat (first | assumption | exact Bel.refl _ | apply Bel.drewN | apply Bel.drew | apply Bel.alloc | refine Bel.trans ?_ (by assumption))))) | exact HALL.out _ (by (repeat (first | assumption | exact Bel.refl _ | apply Bel.drewN | apply Bel.drew | apply Bel.alloc | refine Bel.trans ?_ (by assumption))))) (first | (go_at_call 30; (with_reducible refine (iUsageAt_any _ P (New w w1) _ Q (New w1 w2) 0 _ _ (HPR.out _ (by (repeat (first | assumption | exact Bel.refl _ | apply Bel.drewN | apply Bel.drew | apply Bel.alloc | refine Bel.trans ?_ (by assumption))))).1 (HPR.out _ (by (repeat (first | assumption | exact Bel.refl _ | apply Bel.drewN | apply Bel.drew | apply Bel.alloc | refine Bel.trans ?_ (by assumption))))).2 HBP.out (HSR.out _ (by (repeat (first | assumption | exact Bel.refl _ | apply Bel.drewN | apply Bel.drew | apply Bel.alloc | refine Bel.trans ?_ (by assumption))))).1 (HSR.out _ (by (repeat (first | assumption | exact Bel.refl _ | apply Bel.drewN | apply Bel.drew | apply Bel.alloc | refine Bel.trans ?_ (by assumption))))).2 HBS.out).mono ?_); rintro e wt ⟨rfl, gt⟩; rw [HUS.out]) | (go_at_call 31; (with_reducible refine (iCapacityAt_any _ ST _ (New w w1) _ (stepsR_good.bel HST.out (by (repeat (first | assumption | exact Bel.refl _ | apply Bel.drewN | apply Bel.drew | apply Bel.alloc | refine Bel.trans ?_ (by assumption)))) HSW.out) (fun b hb => Nat.lt_of_lt_of_le (HSW.out b hb) (Bel.size (by (repeat (first | assumption | exact Bel.refl _ | apply Bel.drewN | apply Bel.drew | apply Bel.alloc | refine Bel.trans ?_ (by assumption)))))) HSO.out htb).mono ?_); rintro e wt ⟨rfl, gt⟩; rw [HCP.out]) | fail)
            obtain ⟨b0, b1, b2, b3, b4, b5, b6⟩ := HBB.out wt (by (repeat (first | assumption | exact Bel.refl _ | apply Bel.drewN | apply Bel.drew | apply Bel.alloc | refine Bel.trans ?_ (by assumption))))
            go_wp2_with fail
            refine (iViolates_any _ P (New w w1) _ Q (New w1 w2) (3, 0, (j : Int), 0) _ (HPR.out _ (by (repeat (first | assumption | exact Bel.refl _ | apply Bel.drewN | apply Bel.drew | apply Bel.alloc | refine Bel.trans ?_ (by assumption))))).1 (HPR.out _ (by (repeat (first | assumption | exact Bel.refl _ | apply Bel.drewN | apply Bel.drew | apply Bel.alloc | refine Bel.trans ?_ (by assumption))))).2 HBP.out (HSR.out _ (by (repeat (first | assumption | exact Bel.refl _ | apply Bel.drewN | apply Bel.drew | apply Bel.alloc | refine Bel.trans ?_ (by assumption))))).1 (HSR.out _ (by (repeat (first | assumption | exact Bel.refl _ | apply Bel.drewN | apply Bel.drew | apply Bel.alloc | refine Bel.trans ?_ (by assumption))))).2 HBS.out).mono ?_
            rintro e w9 ⟨rfl, g9⟩
            rw [HVI.out]
            generalize decide (K < U) = D at *
            have hD1 : (D == D) = true := by cases D <;> rfl
            have hD2 : (D != D) = false := by cases D <;> rfl
            go_wp2_with fail
            go_roundw
            case rel => exact ⟨j + 1, by omega, by go_num, by (repeat (first | assumption | exact Bel.refl _ | apply Bel.drewN | apply Bel.drew | apply Bel.alloc | refine Bel.trans ?_ (by assumption)))⟩
            case measure => (simp [intOf] <;> omega)
          · obtain rfl : j = 20 := by omega
            go_wp2_with fail
            go_ret
            exact ⟨rfl, by (repeat (first | assumption | exact Bel.refl _ | apply Bel.drewN | apply Bel.drew | apply Bel.alloc | refine Bel.trans ?_ (by assumption)))⟩
  case first =>
    by_cases hz : NV = 0
    · have HV0 := Lib.hid (HV0.out hz)
      rw [decide_eq_true hz] at hsc
      have HSC := Lib.hid hsc
      clear hsc
      have hz0 : ((NV : Int) == 0) = true := by rw [hz]; rfl
      clear hz
      go_wp2_with fail
      refine (iScheduleOk_any _ P (New w w1) _ Q (New w1 w2) _ (HPR.out _ (by (repeat (first | assumption | exact Bel.refl _ | apply Bel.drewN | apply Bel.drew | apply Bel.alloc | refine Bel.trans ?_ (by assumption))))).1 (HPR.out _ (by (repeat (first | assumption | exact Bel.refl _ | apply Bel.drewN | apply Bel.drew | apply Bel.alloc | refine Bel.trans ?_ (by assumption))))).2 HBP.out (HSR.out _ (by (repeat (first | assumption | exact Bel.refl _ | apply Bel.drewN | apply Bel.drew | apply Bel.alloc | refine Bel.trans ?_ (by assumption))))).1 (HSR.out _ (by (repeat (first | assumption | exact Bel.refl _ | apply Bel.drewN | apply Bel.drew | apply Bel.alloc | refine Bel.trans ?_ (by assumption))))).2 HBS.out).mono ?_
      rintro e w5 ⟨rfl, g5⟩
      rw [HSC.out]
      have G5 : Bel w4 w5 := by (repeat (first | assumption | exact Bel.refl _ | apply Bel.drewN | apply Bel.drew | apply Bel.alloc | refine Bel.trans ?_ (by assumption)))
      have HRX := Lib.hid (show ∀ W, Bel w5 W → W.cell? ⟨w4.heap.size, 0, none⟩ = some (.int .i64 R1) ∧ W.cell? ⟨w4.heap.size, 1, none⟩ = some (.int .i64 R2) ∧ W.cell? ⟨w4.heap.size, 2, none⟩ = some (.int .i64 R3) ∧ W.cell? ⟨w4.heap.size, 3, none⟩ = some (.int .i64 R4) from fun W hW => ⟨hW.cell (g5.cell (by simp [go_sem])), hW.cell (g5.cell (by simp [go_sem])), hW.cell (g5.cell (by simp [go_sem])), hW.cell (g5.cell (by simp [go_sem]))⟩)
      clear g5 b0 b1 b2 b3 b4 b5 b6 ab0 ab1 ab2 ab3 ab4 ab5 ab6
      obtain ⟨b0, b1, b2, b3, b4, b5, b6⟩ := HBB.out w5 G5
      go_wp2_with fail
      refine (iScheduleForm_any _ P (New w w1) _ Q (New w1 w2) _ (HPR.out _ (by (repeat (first | assumption | exact Bel.refl _ | apply Bel.drewN | apply Bel.drew | apply Bel.alloc | refine Bel.trans ?_ (by assumption))))).1 (HPR.out _ (by (repeat (first | assumption | exact Bel.refl _ | apply Bel.drewN | apply Bel.drew | apply Bel.alloc | refine Bel.trans ?_ (by assumption))))).2 HBP.out (HSR.out _ (by (repeat (first | assumption | exact Bel.refl _ | apply Bel.drewN | apply Bel.drew | apply Bel.alloc | refine Bel.trans ?_ (by assumption))))).1 (HSR.out _ (by (repeat (first | assumption | exact Bel.refl _ | apply Bel.drewN | apply Bel.drew | apply Bel.alloc | refine Bel.trans ?_ (by assumption))))).2 HBS.out).mono ?_
      rintro e w6 ⟨rfl, g6⟩
      rw [HSF.out]
      have G6 : Bel w5 w6 := by (repeat (first | assumption | exact Bel.refl _ | apply Bel.drewN | apply Bel.drew | apply Bel.alloc | refine Bel.trans ?_ (by assumption)))
      clear g6 b0 b1 b2 b3 b4 b5 b6
      obtain ⟨b0, b1, b2, b3, b4, b5, b6⟩ := HBB.out w6 (G5.trans G6)
      go_wp2_with fail
      refine (iScheduleOk_any _ P (New w w1) _ Q (New w1 w2) _ (HPR.out _ (by (repeat (first | assumption | exact Bel.refl _ | apply Bel.drewN | apply Bel.drew | apply Bel.alloc | refine Bel.trans ?_ (by assumption))))).1 (HPR.out _ (by (repeat (first | assumption | exact Bel.refl _ | apply Bel.drewN | apply Bel.drew | apply Bel.alloc | refine Bel.trans ?_ (by assumption))))).2 HBP.out (HSR.out _ (by (repeat (first | assumption | exact Bel.refl _ | apply Bel.drewN | apply Bel.drew | apply Bel.alloc | refine Bel.trans ?_ (by assumption))))).1 (HSR.out _ (by (repeat (first | assumption | exact Bel.refl _ | apply Bel.drewN | apply Bel.drew | apply Bel.alloc | refine Bel.trans ?_ (by assumption))))).2 HBS.out).mono ?_
      rintro e w7 ⟨rfl, g7⟩
      rw [HSC.out]
      have G7 : Bel w6 w7 := by (repeat (first | assumption | exact Bel.refl _ | apply Bel.drewN | apply Bel.drew | apply Bel.alloc | refine Bel.trans ?_ (by assumption)))
      clear g7 b0 b1 b2 b3 b4 b5 b6
      obtain ⟨b0, b1, b2, b3, b4, b5, b6⟩ := HBB.out w7 (G5.trans (G6.trans G7))
      obtain ⟨r0, r1, r2, r3⟩ := HRX.out w7 (G6.trans G7)
      go_wp2_with fail
      refine (iViolates_any _ P (New w w1) _ Q (New w1 w2) (R1, R2, R3, R4) _ (HPR.out _ (by (repeat (first | assumption | exact Bel.refl _ | apply Bel.drewN | apply Bel.drew | apply Bel.alloc | refine Bel.trans ?_ (by assumption))))).1 (HPR.out _ (by (repeat (first | assumption | exact Bel.refl _ | apply Bel.drewN | apply Bel.drew | apply Bel.alloc | refine Bel.trans ?_ (by assumption))))).2 HBP.out (HSR.out _ (by (repeat (first | assumption | exact Bel.refl _ | apply Bel.drewN | apply Bel.drew | apply Bel.alloc | refine Bel.trans ?_ (by assumption))))).1 (HSR.out _ (by (repeat (first | assumption | exact Bel.refl _ | apply Bel.drewN | apply Bel.drew | apply Bel.alloc | refine Bel.trans ?_ (by assumption))))).2 HBS.out).mono ?_
      rintro e w8 ⟨rfl, g8⟩
      rw [HV0.out]
      have G8 : Bel w7 w8 := by (repeat (first | assumption | exact Bel.refl _ | apply Bel.drewN | apply Bel.drew | apply Bel.alloc | refine Bel.trans ?_ (by assumption)))
      clear g8 r0 r1 r2 r3 b0 b1 b2 b3 b4 b5 b6
      obtain ⟨b0, b1, b2, b3, b4, b5, b6⟩ := HBB.out w8 (G5.trans (G6.trans (G7.trans G8)))
      go_wp2_with fail
      go_meet
      exact ⟨rfl, by (repeat (first | assumption | exact Bel.refl _ | apply Bel.drewN | apply Bel.drew | apply Bel.alloc | refine Bel.trans ?_ (by assumption)))⟩
    · rw [decide_eq_false hz] at hsc
      have HSC := Lib.hid hsc
      have hzi : ((NV : Int) == 0) = false := by rw [beq_eq_false_iff_ne]; omega
      clear hz
      clear hsc HV0
      go_wp2_with fail
      refine (iScheduleOk_any _ P (New w w1) _ Q (New w1 w2) _ (HPR.out _ (by (repeat (first | assumption | exact Bel.refl _ | apply Bel.drewN | apply Bel.drew | apply Bel.alloc | refine Bel.trans ?_ (by assumption))))).1 (HPR.out _ (by (repeat (first | assumption | exact Bel.refl _ | apply Bel.drewN | apply Bel.drew | apply Bel.alloc | refine Bel.trans ?_ (by assumption))))).2 HBP.out (HSR.out _ (by (repeat (first | assumption | exact Bel.refl _ | apply Bel.drewN | apply Bel.drew | apply Bel.alloc | refine Bel.trans ?_ (by assumption))))).1 (HSR.out _ (by (repeat (first | assumption | exact Bel.refl _ | apply Bel.drewN | apply Bel.drew | apply Bel.alloc | refine Bel.trans ?_ (by assumption))))).2 HBS.out).mono ?_
      rintro e w5 ⟨rfl, g5⟩
      rw [HSC.out]
      have G5 : Bel w4 w5 := by (repeat (first | assumption | exact Bel.refl _ | apply Bel.drewN | apply Bel.drew | apply Bel.alloc | refine Bel.trans ?_ (by assumption)))
      have HRX := Lib.hid (show ∀ W, Bel w5 W → W.cell? ⟨w4.heap.size, 0, none⟩ = some (.int .i64 R1) ∧ W.cell? ⟨w4.heap.size, 1, none⟩ = some (.int .i64 R2) ∧ W.cell? ⟨w4.heap.size, 2, none⟩ = some (.int .i64 R3) ∧ W.cell? ⟨w4.heap.size, 3, none⟩ = some (.int .i64 R4) from fun W hW => ⟨hW.cell (g5.cell (by simp [go_sem])), hW.cell (g5.cell (by simp [go_sem])), hW.cell (g5.cell (by simp [go_sem])), hW.cell (g5.cell (by simp [go_sem]))⟩)
      clear g5 b0 b1 b2 b3 b4 b5 b6 ab0 ab1 ab2 ab3 ab4 ab5 ab6
      obtain ⟨b0, b1, b2, b3, b4, b5, b6⟩ := HBB.out w5 G5
      go_wp2_with fail
      refine (iScheduleForm_any _ P (New w w1) _ Q (New w1 w2) _ (HPR.out _ (by (repeat (first | assumption | exact Bel.refl _ | apply Bel.drewN | apply Bel.drew | apply Bel.alloc | refine Bel.trans ?_ (by assumption))))).1 (HPR.out _ (by (repeat (first | assumption | exact Bel.refl _ | apply Bel.drewN | apply Bel.drew | apply Bel.alloc | refine Bel.trans ?_ (by assumption))))).2 HBP.out (HSR.out _ (by (repeat (first | assumption | exact Bel.refl _ | apply Bel.drewN | apply Bel.drew | apply Bel.alloc | refine Bel.trans ?_ (by assumption))))).1 (HSR.out _ (by (repeat (first | assumption | exact Bel.refl _ | apply Bel.drewN | apply Bel.drew | apply Bel.alloc | refine Bel.trans ?_ (by assumption))))).2 HBS.out).mono ?_
      rintro e w6 ⟨rfl, g6⟩
      rw [HSF.out]
      have G6 : Bel w5 w6 := by (repeat (first | assumption | exact Bel.refl _ | apply Bel.drewN | apply Bel.drew | apply Bel.alloc | refine Bel.trans ?_ (by assumption)))
      clear g6 b0 b1 b2 b3 b4 b5 b6
      obtain ⟨b0, b1, b2, b3, b4, b5, b6⟩ := HBB.out w6 (G5.trans G6)
      go_wp2_with fail
      refine (iScheduleOk_any _ P (New w w1) _ Q (New w1 w2) _ (HPR.out _ (by (repeat (first | assumption | exact Bel.refl _ | apply Bel.drewN | apply Bel.drew | apply Bel.alloc | refine Bel.trans ?_ (by assumption))))).1 (HPR.out _ (by (repeat (first | assumption | exact Bel.refl _ | apply Bel.drewN | apply Bel.drew | apply Bel.alloc | refine Bel.trans ?_ (by assumption))))).2 HBP.out (HSR.out _ (by (repeat (first | assumption | exact Bel.refl _ | apply Bel.drewN | apply Bel.drew | apply Bel.alloc | refine Bel.trans ?_ (by assumption))))).1 (HSR.out _ (by (repeat (first | assumption | exact Bel.refl _ | apply Bel.drewN | apply Bel.drew | apply Bel.alloc | refine Bel.trans ?_ (by assumption))))).2 HBS.out).mono ?_
      rintro e w7 ⟨rfl, g7⟩
      rw [HSC.out]
      have G7 : Bel w6 w7 := by (repeat (first | assumption | exact Bel.refl _ | apply Bel.drewN | apply Bel.drew | apply Bel.alloc | refine Bel.trans ?_ (by assumption)))
      clear g7 b0 b1 b2 b3 b4 b5 b6
      obtain ⟨b0, b1, b2, b3, b4, b5, b6⟩ := HBB.out w7 (G5.trans (G6.trans G7))
      go_wp2_with fail
      go_meet
      exact ⟨rfl, by (repeat (first | assumption | exact Bel.refl _ | apply Bel.drewN | apply Bel.drew | apply Bel.alloc | refine Bel.trans ?_ (by assumption)))⟩

end Go.Proofs.Ytiaamddhocdhaaa
end

/- FnFaults -/
section
namespace Go.Proofs.Ytiaamddhocdhaaa.fnFaults
open Go.ChangeShapes Go.WideShapes Go.ChangeAt Go.RowKit
open Go.ChangeMaps (open_string shut_string)
set_option linter.unusedVariables false

theorem agg_of {P : Program} {w : World} {r : Reach} {b : Nat} {t : TypeId} {fs : Array Field} {v : Value} (ht : P.underlying t = some (.struct fs)) (h : Value.okWide P w r b t v) : ∃ cs, v = .agg cs := by
  unfold Value.okWide at h
  rw [ht] at h
  obtain ⟨cs, h1, _⟩ := h
  exact ⟨cs, h1⟩

set_option maxRecDepth 100000 in
theorem lifted (os : Os) (started : os.Started) (H : Type) (enc : TypeId × Value → H) :
    ReturnsInHanded {} Try.checked os 5 .any (Rows.fnFaultsSpec.pre6 enc Try.prog Try.f5 Rows.fnFaultsRow.domain false) (Rows.fnFaultsSpec.post enc Try.prog Try.f5 false true false false) := by
  refine returnsInHanded_of_change (C := Try.checked) ownKnobNone started (by kernel_rfl) Try.func5
    (ChangeSpec.witness6 (enc := enc) (C := Try.checked) false ⟨#[], #[.slice none 0 0], []⟩ 8 (by kernel_rfl) (by kernel_rfl) (by kernel_rfl) (by kernel_rfl)) ?_
  intro W base args ds gs before hval0 hW hcnd _
  have hval : ∀ (j : Nat) t v, Try.f5.params[j]? = some t → args[j]? = some v → Value.okWide Try.prog W .any base t v := hval0
  have hW' := hW
  obtain ⟨p, q, hA0, hV, rfl, hfz, hnd⟩ := hW
  have hA : DataW.TrodAll enc Try.prog W 0 (fun _ => true) true Try.f5.params.toList args.toList ds p := hA0
  rw [Try.params5] at hA hval
  obtain ⟨v0, vs0, d0, ds0, p0, q0, hargs, rfl, rfl, h0, r0⟩ := trodAll_cons hA
  obtain ⟨rfl, rfl, rfl⟩ := trodAll_nil r0
  obtain rfl : args = #[v0] := by cases args; simp_all
  obtain ⟨rfl, rfl⟩ := trodVars_none hV
  have lt0 : ∀ x ∈ p0, x.block < W.heap.size := by obtain ⟨m, hm⟩ := h0; exact DataW.trod_lt m _ _ _ hm
  have fz0 : W.noneFrozen p0 := noneFrozen_sub hfz (by intro x hx; simp [hx])
  obtain ⟨x0, g0⟩ := (opBytes (enc := enc) W).one h0 fz0 (by obtain ⟨_, _, _, e⟩ := okWide_slice Try.underlying38 (hval 0 38 v0 rfl rfl); rw [e]; rfl)
  clear hA0 hval0
  refine (fnFaults_walk v0 x0 W g0).mono fun e W' ⟨he, bel⟩ => ?_
  subst he
  exact ⟨_, rfl, _, _, _, [], _, [], hW', trodAll_mk1 (shut_bool Try.underlying4 _), (trodAll_cons_mk (Below.trod laidOutAll (by kernel_rfl) (of_decide_eq_true (by kernel_rfl)) h0 bel lt0) trodAll_mk0), rfl, bel.frame _, fun h => by cases h⟩

theorem proved : Rows.FnFaultsSaid :=
  OpenClaim.holds_of_wide 5 Try.f5 rfl rfl rfl rfl rfl rfl rfl ⟨rfl, rfl, rfl, rfl, rfl⟩ rfl rfl rfl rfl rfl (by kernel_rfl) Try.func5 (by kernel_rfl)
    (of_decide_eq_true (by kernel_rfl)) (by unfold Func.isWrapper; first | (rw [if_pos (by decide +kernel)]; kernel_rfl) | (rw [if_neg (by decide +kernel)]; exact ⟨rfl, rfl⟩))
    (fun os started H enc _ => lifted os started H enc)
#print axioms proved
end Go.Proofs.Ytiaamddhocdhaaa.fnFaults
end
