/- FormatRule, both sides. -/
import Derived.Test.YtkfpciggolkjeaaGreatDoorGrow
import Derived.Test.YtkfpciggolkjeaaGreatDoorFmtLit
import Derived.Test.YtkfpciggolkjeaaGreatDoorRuleOk
import Derived.Test.YtkfpciggolkjeaaGreatDoorRuleLit
import Derived.Deep.RegionHeld3
import Derived.StillTailTactics
import Derived.Deep.Cut
import Derived.Conc.WalkWords
import Derived.Deep.DrawnRows
import Derived.Deep.DeepCutAuto
namespace Go.Proofs.YtkfpciggolkjeaaGreatDoor
open Go.ChangeShapes Go.WideShapes Go.ChangeAt Go.RowKit
set_option linter.unusedVariables false

def ruleWords (p : ProjT) (k a b c : Int) : List ByteArray :=
  if k = 2 then [ruleNameF k, (p.2.1.getD a.toNat zAct).1]
  else if k = 3 then [ruleNameF k, fmtV a, fmtV b]
  else if k = 4 then [ruleNameF k, fmtV a, fmtV b, fmtV c]
  else if k = 5 then [ruleNameF k, fmtV a, (p.2.1.getD b.toNat zAct).1, (p.2.1.getD c.toNat zAct).1]
  else [ruleNameF k, fmtV a]
def fmtRuleV (p : ProjT) (r : RuleT) : ByteArray := if ruleOkB p r = true then joinB (ruleWords p r.1 r.2.1 r.2.2.1 r.2.2.2) ⟨#[32]⟩ else ⟨#[]⟩
theorem strsR_goodG : Good strsR := strsR_good
theorem ruleOk_kinds {p : ProjT} {k a b c : Int} (h : ruleOkB p (k, a, b, c) = true) : projOk p = true ∧ (k = 1 ∨ (k = 2 ∧ ∃ x : Nat, a = x ∧ x < p.2.1.length) ∨ k = 3 ∨ k = 4 ∨ (k = 5 ∧ ∃ y z : Nat, b = y ∧ y < p.2.1.length ∧ c = z ∧ z < p.2.1.length) ∨ k = 6) := by
  unfold ruleOkB at h
  simp only [Bool.and_eq_true] at h
  refine ⟨h.1, ?_⟩
  have h2 := h.2
  unfold ruleAt at h2
  by_cases e1 : k = 1
  · exact .inl e1
  rw [if_neg e1] at h2
  by_cases e2 : k = 2
  · rw [if_pos e2] at h2
    simp only [inBv, Bool.and_eq_true, decide_eq_true_eq] at h2
    exact .inr (.inl ⟨e2, a.toNat, by omega, by omega⟩)
  rw [if_neg e2] at h2
  by_cases e3 : k = 3
  · exact .inr (.inr (.inl e3))
  rw [if_neg e3] at h2
  by_cases e4 : k = 4
  · exact .inr (.inr (.inr (.inl e4)))
  rw [if_neg e4] at h2
  by_cases e5 : k = 5
  · rw [if_pos e5] at h2
    simp only [inBv, Bool.and_eq_true, decide_eq_true_eq] at h2
    exact .inr (.inr (.inr (.inr (.inl ⟨e5, b.toNat, c.toNat, by omega, by omega, by omega, by omega⟩))))
  rw [if_neg e5] at h2
  by_cases e6 : k = 6
  · exact .inr (.inr (.inr (.inr (.inr e6))))
  rw [if_neg e6] at h2
  cases h2
set_option maxRecDepth 100000 in
set_option maxHeartbeats 8000000 in
theorem sFormatRule_any (v : Value) (p : ProjT) (S : Nat → Prop) (r : RuleT) (w : World) (hx : aggR projR S w v p) (hS : ∀ b, S b → b < w.heap.size) (_hn : bulkProject p ≤ 1048576) :
    Calls Tryz.prog 8 #[v, .agg #[.int .i64 r.1, .int .i64 r.2.1, .int .i64 r.2.2.1, .int .i64 r.2.2.2]] w fun e w' => e = .returned (.string (fmtRuleV p r)) ∧ Bel w w' := by
  obtain ⟨k, a, b, c⟩ := r
  obtain ⟨cs, rfl, hx⟩ := hx
  obtain ⟨c1, c2, c3, c4, rfl, q0, q1, q2, q3, q4⟩ := projR_open hx
  have Q1 := Lib.hid q1
  have Q2 := Lib.hid q2
  have Q3 := Lib.hid q3
  have Q4 := Lib.hid q4
  have HP := Lib.hid hx
  obtain ⟨p1, k1, rfl, l1, l1', -⟩ := sliceR_open q1
  obtain ⟨p2, k2, rfl, l2, l2', -⟩ := sliceR_open q2
  obtain ⟨p3, k3, rfl, l3, l3', -⟩ := sliceR_open q3
  obtain ⟨p4, k4, rfl, l4, l4', -⟩ := sliceR_open q4
  unfold maxLen at l1' l2' l3' l4'
  clear hx q0 q1 q2 q3 q4
  have HS := Lib.hid hS
  have HNB := Lib.hid _hn
  clear hS _hn
  have HPR := Lib.hid (show ∀ W, Bel w W → aggR projR S W (.agg #[.int .i64 p.1, .slice p1 p.2.1.length k1, .slice p2 p.2.2.1.length k2, .slice p3 p.2.2.2.1.length k3, .slice p4 p.2.2.2.2.length k4]) p ∧ (∀ b, S b → b < W.heap.size) from fun W hW => ⟨aggR_mk (projR_good.bel HP.out hW HS.out), fun b hb => Nat.lt_of_lt_of_le (HS.out b hb) hW.size⟩)
  show Calls Tryz.prog 8 #[.agg #[.int .i64 p.1, .slice p1 p.2.1.length k1, .slice p2 p.2.2.1.length k2, .slice p3 p.2.2.2.1.length k3, .slice p4 p.2.2.2.2.length k4], .agg #[.int .i64 k, .int .i64 a, .int .i64 b, .int .i64 c]] w _
  go_enter Tryz.func8, Tryz.ntmps8
  go_wp2_with fail
  refine (sRuleOk_any _ p S (k, a, b, c) _ (HPR.out _ (by (repeat (first | assumption | exact Bel.refl _ | apply Bel.drewN | apply Bel.drew | apply Bel.alloc | refine Bel.trans ?_ (by assumption))))).1 (HPR.out _ (by (repeat (first | assumption | exact Bel.refl _ | apply Bel.drewN | apply Bel.drew | apply Bel.alloc | refine Bel.trans ?_ (by assumption))))).2 HNB.out).mono ?_
  rintro e w1 ⟨rfl, g1⟩
  have G : Bel w w1 := by (repeat (first | assumption | exact Bel.refl _ | apply Bel.drewN | apply Bel.drew | apply Bel.alloc | refine Bel.trans ?_ (by assumption)))
  have hsw1 := G.size
  cases hb : ruleOkB p (k, a, b, c)
  · have HF := Lib.hid (show fmtRuleV p (k, a, b, c) = ⟨#[]⟩ from by unfold fmtRuleV; rw [hb]; rfl)
    clear hb
    go_wp2_with fail
    go_ret
    exact ⟨ret_str HF.out.symm, by (repeat (first | assumption | exact Bel.refl _ | apply Bel.drewN | apply Bel.drew | apply Bel.alloc | refine Bel.trans ?_ (by assumption)))⟩
  have HRO := Lib.hid hb
  obtain ⟨hp, hk⟩ := ruleOk_kinds hb
  clear hb
  rcases hk with rfl | ⟨rfl, x, rfl, hx⟩ | rfl | rfl | ⟨rfl, y, z, rfl, hy, rfl, hz⟩ | rfl
  · have HF := Lib.hid (show fmtRuleV p (1, a, b, c) = joinB [ruleNameF 1, fmtV a] ⟨#[32]⟩ from by unfold fmtRuleV; rw [if_pos HRO.out]; rfl)
    have hznm : (ruleNameF 1).size ≤ 100 := by decide
    obtain ⟨nm, henm⟩ : ∃ X, ruleNameF 1 = X := ⟨_, rfl⟩
    rw [henm] at hznm HF
    have HNM := Lib.hid henm
    clear henm
    have hzfa := fmtV_size a
    obtain ⟨fa, hefa⟩ : ∃ X, fmtV a = X := ⟨_, rfl⟩
    rw [hefa] at hzfa HF
    have HFA := Lib.hid hefa
    clear hefa
    have HSZ := Lib.hid (show ∀ q ∈ [nm, fa], q.size ≤ 1000 from by intro q hq; simp at hq; rcases hq with rfl | rfl <;> omega)
    have HALL := Lib.hid (show ∀ W, Bel w1 W → W.cell? ⟨w.heap.size + 1, 0, none⟩ = some (.int .i64 1) ∧ W.cell? ⟨w.heap.size + 1, 1, none⟩ = some (.int .i64 a) from fun W hW => ⟨hW.cell (g1.cell (by simp [go_sem])), hW.cell (g1.cell (by simp [go_sem]))⟩)
    have G11 := Bel.refl w1
    clear g1
    obtain ⟨d0, d1⟩ := HALL.out w1 G11
    go_upto_region 3 with (fail)
    refine wp_region_held_drew (S := (fun W => W.cell? ⟨w.heap.size + 1, 0, none⟩ = some (.int .i64 1) ∧ W.cell? ⟨w.heap.size + 1, 1, none⟩ = some (.int .i64 a))) (by kernel_rfl) ?_ (fun hHeld => ?_)
    · ((try dsimp only); (first | (with_reducible exact HALL.out _ (by (repeat (first | assumption | exact Bel.refl _ | apply Bel.drewN | apply Bel.drew | apply Bel.alloc | refine Bel.trans ?_ (by assumption))))) | exact HALL.out _ (by (repeat (first | assumption | exact Bel.refl _ | apply Bel.drewN | apply Bel.drew | apply Bel.alloc | refine Bel.trans ?_ (by assumption))))))
    refine wpAnyH_take (i := 0) (v := ?_) rfl (by kernel_rfl) (by kernel_rfl) (by kernel_rfl) (fun _ _ _ h => h) (Or.inl ⟨by rfl, ?_⟩) (by assumption) ?_
    rotate_left
    · (intro w hSw; (try dsimp only at hSw); go_simp <;> with_reducible rfl)
    try walk_nrm
    refine wpAnyH_take (i := 1) (v := ?_) rfl (by kernel_rfl) (by kernel_rfl) (by kernel_rfl) (fun _ _ _ h => h) (Or.inl ⟨by rfl, ?_⟩) (by assumption) ?_
    rotate_left
    · (intro w hSw; (try dsimp only at hSw); go_simp <;> with_reducible rfl)
    try walk_nrm
    refine wpAnyH_take (i := 3) (v := ?_) rfl (by kernel_rfl) (by kernel_rfl) (by kernel_rfl) (fun _ _ _ h => h) (Or.inl ⟨by rfl, ?_⟩) (by assumption) ?_
    rotate_left
    · (intro w hSw; (try dsimp only at hSw); go_simp <;> with_reducible rfl)
    try walk_nrm
    refine wpAnyH_take (i := 4) (v := ?_) rfl (by kernel_rfl) (by kernel_rfl) (by kernel_rfl) (fun _ _ _ h => h) (Or.inl ⟨by rfl, ?_⟩) (by assumption) ?_
    rotate_left
    · (intro w hSw; (try dsimp only at hSw); go_simp <;> with_reducible rfl)
    try walk_nrm
    refine wpAnyH_ready (rs := [2]) (by kernel_rfl) (by simp) ?_
    refine AllReadyH.cons rfl (fun K hK => ?_) AllReadyH.nil
    · go_simp
      (go_at_call 30; (with_reducible refine (sRuleName 1 _).mono ?_); rintro e wt ⟨rfl, gt⟩; rw [HNM.out])
      try go_wp2_with fail
      refine hK.out _ _ ?_ (fun hHeld => ?_)
      · ((try dsimp only); (first | (with_reducible exact HALL.out _ (by (repeat (first | assumption | exact Bel.refl _ | apply Bel.drewN | apply Bel.drew | apply Bel.alloc | refine Bel.trans ?_ (by assumption))))) | exact HALL.out _ (by (repeat (first | assumption | exact Bel.refl _ | apply Bel.drewN | apply Bel.drew | apply Bel.alloc | refine Bel.trans ?_ (by assumption))))))
      clear hK K
      try walk_nrm
      refine wpAnyH_ready (rs := [5]) (by kernel_rfl) (by simp) ?_
      refine AllReadyH.cons rfl (fun K hK => ?_) AllReadyH.nil
      · go_simp
        (go_at_call 31; (with_reducible refine (sFormatInt_any a _).mono ?_); rintro e wt ⟨rfl, gt⟩; rw [HFA.out])
        try go_wp2_with fail
        refine hK.out _ _ ?_ (fun hHeld => ?_)
        · ((try dsimp only); (first | (with_reducible exact HALL.out _ (by (repeat (first | assumption | exact Bel.refl _ | apply Bel.drewN | apply Bel.drew | apply Bel.alloc | refine Bel.trans ?_ (by assumption))))) | exact HALL.out _ (by (repeat (first | assumption | exact Bel.refl _ | apply Bel.drewN | apply Bel.drew | apply Bel.alloc | refine Bel.trans ?_ (by assumption))))))
        clear hK K
        try walk_nrm
        refine wpAnyH_ready (rs := [6]) (by kernel_rfl) (by simp) ?_
        refine AllReadyH.cons rfl (fun K hK => ?_) AllReadyH.nil
        · go_simp
          refine hK.out _ _ ?_ (fun hHeld => ?_)
          · ((try dsimp only); (first | (with_reducible exact HALL.out _ (by (repeat (first | assumption | exact Bel.refl _ | apply Bel.drewN | apply Bel.drew | apply Bel.alloc | refine Bel.trans ?_ (by assumption))))) | exact HALL.out _ (by (repeat (first | assumption | exact Bel.refl _ | apply Bel.drewN | apply Bel.drew | apply Bel.alloc | refine Bel.trans ?_ (by assumption))))))
          clear hK K
          try walk_nrm
          refine wpAnyH_take (i := 7) (v := ?_) rfl (by kernel_rfl) (by kernel_rfl) (by kernel_rfl) (fun _ _ _ h => h) (Or.inl ⟨by rfl, ?_⟩) (by assumption) ?_
          rotate_left
          · (intro w hSw; (try dsimp only at hSw); go_simp <;> with_reducible rfl)
          try walk_nrm
          refine wpAnyH_done (by kernel_rfl) ?_ _
          obtain ⟨W2, hW2⟩ : ∃ X, X = wt.alloc (.cells #[.string nm, .string fa] 9) := ⟨_, rfl⟩
          rw [← hW2]
          have HB2 := Lib.hid (show Blk W2 wt.heap.size 9 ([nm, fa].map Value.string) from by rw [hW2]; exact Blk.new' _ rfl)
          have G2 : Bel w1 W2 := by rw [hW2]; (repeat (first | assumption | exact Bel.refl _ | apply Bel.drewN | apply Bel.drew | apply Bel.alloc | refine Bel.trans ?_ (by assumption)))
          have hg1 : w1.heap.size ≤ wt.heap.size := Bel.size (by (repeat (first | assumption | exact Bel.refl _ | apply Bel.drewN | apply Bel.drew | apply Bel.alloc | refine Bel.trans ?_ (by assumption))))
          have hg2 := HB2.out.lt
          clear hW2 gt
          obtain ⟨d0, d1⟩ := HALL.out W2 G2
          generalize wt.heap.size = g at *
          go_wp2_with fail
          refine (sJoin_any _ [nm, fa] _ (New w W2) _ (strs_blk HB2.out ⟨by omega, by omega⟩ (fun q hq => Nat.le_trans (HSZ.out q hq) (by decide)) (by simp [maxLen])) HSZ.out (by decide) (by simp)).mono ?_
          rintro e wj ⟨rfl, rfl⟩
          go_wp2_with fail
          go_ret
          exact ⟨ret_str HF.out.symm, by (repeat (first | assumption | exact Bel.refl _ | apply Bel.drewN | apply Bel.drew | apply Bel.alloc | refine Bel.trans ?_ (by assumption)))⟩
  · obtain ⟨ab, ao, acsan, hans, arowan, aelan⟩ := sliceR_at zAct Q1.out hx
    obtain ⟨ac2an, rfl, aq0an, -, -⟩ := actR_open aelan
    have ane := (arowan 0 (by simp)).1
    simp only [List.getElem_cons_zero, Nat.add_zero] at ane
    have hzan := name_size hp hx
    have hxi : (x : Int) < (p.2.1.length : Int) := by omega
    obtain rfl : p1 = some ⟨ab, ao, none⟩ := hans
    clear arowan aelan aq0an
    have HF := Lib.hid (show fmtRuleV p (2, (x : Int), b, c) = joinB [ruleNameF 2, (p.2.1.getD x zAct).1] ⟨#[32]⟩ from by unfold fmtRuleV; rw [if_pos HRO.out]; rfl)
    have hznm : (ruleNameF 2).size ≤ 100 := by decide
    obtain ⟨nm, henm⟩ : ∃ X, ruleNameF 2 = X := ⟨_, rfl⟩
    rw [henm] at hznm HF
    have HNM := Lib.hid henm
    clear henm
    obtain ⟨an, hean⟩ : ∃ X, (p.2.1.getD x zAct).1 = X := ⟨_, rfl⟩
    rw [hean] at hzan ane HF
    clear hean
    have hzfa := fmtV_size (x : Int)
    obtain ⟨fa, hefa⟩ : ∃ X, fmtV (x : Int) = X := ⟨_, rfl⟩
    rw [hefa] at hzfa
    have HFA := Lib.hid hefa
    clear hefa
    have HSZ := Lib.hid (show ∀ q ∈ [nm, an], q.size ≤ 1000 from by intro q hq; simp at hq; rcases hq with rfl | rfl <;> omega)
    have HALL := Lib.hid (show ∀ W, Bel w1 W → W.cell? ⟨w.heap.size + 1, 0, none⟩ = some (.int .i64 2) ∧ W.cell? ⟨w.heap.size + 1, 1, none⟩ = some (.int .i64 (x : Int)) ∧ W.cell? ⟨w.heap.size, 1, none⟩ = some (.slice (some ⟨ab, ao, none⟩) p.2.1.length k1) ∧ W.cell? ⟨ab, ao + x * 3, none⟩ = some (.string an) from fun W hW => ⟨hW.cell (g1.cell (by simp [go_sem])), hW.cell (g1.cell (by simp [go_sem])), hW.cell (g1.cell (by simp [go_sem])), (Bel.trans G hW).cell ane⟩)
    have G11 := Bel.refl w1
    clear g1
    clear ane
    obtain ⟨d0, d1, d2, d3⟩ := HALL.out w1 G11
    go_upto_region 3 with (fail)
    refine wp_region_held_drew (S := (fun W => W.cell? ⟨w.heap.size + 1, 0, none⟩ = some (.int .i64 2) ∧ W.cell? ⟨w.heap.size + 1, 1, none⟩ = some (.int .i64 (x : Int)) ∧ W.cell? ⟨w.heap.size, 1, none⟩ = some (.slice (some ⟨ab, ao, none⟩) p.2.1.length k1) ∧ W.cell? ⟨ab, ao + x * 3, none⟩ = some (.string an))) (by kernel_rfl) ?_ (fun hHeld => ?_)
    · ((try dsimp only); (first | (with_reducible exact HALL.out _ (by (repeat (first | assumption | exact Bel.refl _ | apply Bel.drewN | apply Bel.drew | apply Bel.alloc | refine Bel.trans ?_ (by assumption))))) | exact HALL.out _ (by (repeat (first | assumption | exact Bel.refl _ | apply Bel.drewN | apply Bel.drew | apply Bel.alloc | refine Bel.trans ?_ (by assumption))))))
    refine wpAnyH_take (i := 0) (v := ?_) rfl (by kernel_rfl) (by kernel_rfl) (by kernel_rfl) (fun _ _ _ h => h) (Or.inl ⟨by rfl, ?_⟩) (by assumption) ?_
    rotate_left
    · (intro w hSw; (try dsimp only at hSw); go_simp <;> with_reducible rfl)
    try walk_nrm
    refine wpAnyH_take (i := 1) (v := ?_) rfl (by kernel_rfl) (by kernel_rfl) (by kernel_rfl) (fun _ _ _ h => h) (Or.inl ⟨by rfl, ?_⟩) (by assumption) ?_
    rotate_left
    · (intro w hSw; (try dsimp only at hSw); go_simp <;> with_reducible rfl)
    try walk_nrm
    refine wpAnyH_take (i := 3) (v := ?_) rfl (by kernel_rfl) (by kernel_rfl) (by kernel_rfl) (fun _ _ _ h => h) (Or.inl ⟨by rfl, ?_⟩) (by assumption) ?_
    rotate_left
    · (intro w hSw; (try dsimp only at hSw); go_simp <;> with_reducible rfl)
    try walk_nrm
    refine wpAnyH_take (i := 4) (v := ?_) rfl (by kernel_rfl) (by kernel_rfl) (by kernel_rfl) (fun _ _ _ h => h) (Or.inl ⟨by rfl, ?_⟩) (by assumption) ?_
    rotate_left
    · (intro w hSw; (try dsimp only at hSw); go_simp <;> with_reducible rfl)
    try walk_nrm
    refine wpAnyH_ready (rs := [2]) (by kernel_rfl) (by simp) ?_
    refine AllReadyH.cons rfl (fun K hK => ?_) AllReadyH.nil
    · go_simp
      (go_at_call 30; (with_reducible refine (sRuleName 2 _).mono ?_); rintro e wt ⟨rfl, gt⟩; rw [HNM.out])
      try go_wp2_with fail
      refine hK.out _ _ ?_ (fun hHeld => ?_)
      · ((try dsimp only); (first | (with_reducible exact HALL.out _ (by (repeat (first | assumption | exact Bel.refl _ | apply Bel.drewN | apply Bel.drew | apply Bel.alloc | refine Bel.trans ?_ (by assumption))))) | exact HALL.out _ (by (repeat (first | assumption | exact Bel.refl _ | apply Bel.drewN | apply Bel.drew | apply Bel.alloc | refine Bel.trans ?_ (by assumption))))))
      clear hK K
      try walk_nrm
      refine wpAnyH_ready (rs := [5]) (by kernel_rfl) (by simp) ?_
      refine AllReadyH.cons rfl (fun K hK => ?_) AllReadyH.nil
      · go_simp
        (go_at_call 31; (with_reducible refine (sFormatInt_any (x : Int) _).mono ?_); rintro e wt ⟨rfl, gt⟩; rw [HFA.out])
        try go_wp2_with fail
        refine hK.out _ _ ?_ (fun hHeld => ?_)
        · ((try dsimp only); (first | (with_reducible exact HALL.out _ (by (repeat (first | assumption | exact Bel.refl _ | apply Bel.drewN | apply Bel.drew | apply Bel.alloc | refine Bel.trans ?_ (by assumption))))) | exact HALL.out _ (by (repeat (first | assumption | exact Bel.refl _ | apply Bel.drewN | apply Bel.drew | apply Bel.alloc | refine Bel.trans ?_ (by assumption))))))
        clear hK K
        try walk_nrm
        refine wpAnyH_ready (rs := [6]) (by kernel_rfl) (by simp) ?_
        refine AllReadyH.cons rfl (fun K hK => ?_) AllReadyH.nil
        · go_simp
          refine hK.out _ _ ?_ (fun hHeld => ?_)
          · ((try dsimp only); (first | (with_reducible exact HALL.out _ (by (repeat (first | assumption | exact Bel.refl _ | apply Bel.drewN | apply Bel.drew | apply Bel.alloc | refine Bel.trans ?_ (by assumption))))) | exact HALL.out _ (by (repeat (first | assumption | exact Bel.refl _ | apply Bel.drewN | apply Bel.drew | apply Bel.alloc | refine Bel.trans ?_ (by assumption))))))
          clear hK K
          try walk_nrm
          refine wpAnyH_take (i := 7) (v := ?_) rfl (by kernel_rfl) (by kernel_rfl) (by kernel_rfl) (fun _ _ _ h => h) (Or.inl ⟨by rfl, ?_⟩) (by assumption) ?_
          rotate_left
          · (intro w hSw; (try dsimp only at hSw); go_simp <;> with_reducible rfl)
          try walk_nrm
          refine wpAnyH_done (by kernel_rfl) ?_ _
          obtain ⟨W2, hW2⟩ : ∃ X, X = wt.alloc (.cells #[.string nm, .string fa] 9) := ⟨_, rfl⟩
          rw [← hW2]
          have HB2 := Lib.hid (show Blk W2 wt.heap.size 9 ([nm, fa].map Value.string) from by rw [hW2]; exact Blk.new' _ rfl)
          have G2 : Bel w1 W2 := by rw [hW2]; (repeat (first | assumption | exact Bel.refl _ | apply Bel.drewN | apply Bel.drew | apply Bel.alloc | refine Bel.trans ?_ (by assumption)))
          have hg1 : w1.heap.size ≤ wt.heap.size := Bel.size (by (repeat (first | assumption | exact Bel.refl _ | apply Bel.drewN | apply Bel.drew | apply Bel.alloc | refine Bel.trans ?_ (by assumption))))
          have hg2 := HB2.out.lt
          clear hW2 gt
          obtain ⟨d0, d1, d2, d3⟩ := HALL.out W2 G2
          generalize wt.heap.size = g at *
          have f1 := HB2.out.frozen 1
          have s1 := HB2.out.cellv (j := 1) (by simp)
          simp only [List.map_cons, List.map_nil, List.getElem_cons_zero, List.getElem_cons_succ] at s1
          go_wp2_with fail
          have HB3 := Lib.hid (HB2.out.set 1 (.string an))
          have G3 := Below.trans G2 ((Below.refl w1.heap.size W2).setCell (p := ⟨g, 1, none⟩) (by simpa using hg1) (.string an))
          have hg3 := HB3.out.lt
          refine (sJoin_any _ [nm, an] _ (New w _) _ (strs_blk (xs := [nm, an]) HB3.out ⟨by omega, hg3⟩ (fun q hq => Nat.le_trans (HSZ.out q hq) (by decide)) (by simp [maxLen])) HSZ.out (by decide) (by simp)).mono ?_
          rintro e wj ⟨rfl, rfl⟩
          go_wp2_with fail
          go_ret
          exact ⟨ret_str HF.out.symm, by (repeat (first | assumption | exact Bel.refl _ | apply Bel.drewN | apply Bel.drew | apply Bel.alloc | refine Bel.trans ?_ (by assumption)))⟩
  · have HF := Lib.hid (show fmtRuleV p (3, a, b, c) = joinB [ruleNameF 3, fmtV a, fmtV b] ⟨#[32]⟩ from by unfold fmtRuleV; rw [if_pos HRO.out]; rfl)
    have hznm : (ruleNameF 3).size ≤ 100 := by decide
    obtain ⟨nm, henm⟩ : ∃ X, ruleNameF 3 = X := ⟨_, rfl⟩
    rw [henm] at hznm HF
    have HNM := Lib.hid henm
    clear henm
    have hzfa := fmtV_size a
    obtain ⟨fa, hefa⟩ : ∃ X, fmtV a = X := ⟨_, rfl⟩
    rw [hefa] at hzfa HF
    have HFA := Lib.hid hefa
    clear hefa
    have hzfb := fmtV_size b
    obtain ⟨fb, hefb⟩ : ∃ X, fmtV b = X := ⟨_, rfl⟩
    rw [hefb] at hzfb HF
    have HFB := Lib.hid hefb
    clear hefb
    have HSZ := Lib.hid (show ∀ q ∈ [nm, fa, fb], q.size ≤ 1000 from by intro q hq; simp at hq; rcases hq with rfl | rfl | rfl <;> omega)
    have HALL := Lib.hid (show ∀ W, Bel w1 W → W.cell? ⟨w.heap.size + 1, 0, none⟩ = some (.int .i64 3) ∧ W.cell? ⟨w.heap.size + 1, 1, none⟩ = some (.int .i64 a) ∧ W.cell? ⟨w.heap.size + 1, 2, none⟩ = some (.int .i64 b) from fun W hW => ⟨hW.cell (g1.cell (by simp [go_sem])), hW.cell (g1.cell (by simp [go_sem])), hW.cell (g1.cell (by simp [go_sem]))⟩)
    have G11 := Bel.refl w1
    clear g1
    obtain ⟨d0, d1, d2⟩ := HALL.out w1 G11
    go_upto_region 3 with (fail)
    refine wp_region_held_drew (S := (fun W => W.cell? ⟨w.heap.size + 1, 0, none⟩ = some (.int .i64 3) ∧ W.cell? ⟨w.heap.size + 1, 1, none⟩ = some (.int .i64 a) ∧ W.cell? ⟨w.heap.size + 1, 2, none⟩ = some (.int .i64 b))) (by kernel_rfl) ?_ (fun hHeld => ?_)
    · ((try dsimp only); (first | (with_reducible exact HALL.out _ (by (repeat (first | assumption | exact Bel.refl _ | apply Bel.drewN | apply Bel.drew | apply Bel.alloc | refine Bel.trans ?_ (by assumption))))) | exact HALL.out _ (by (repeat (first | assumption | exact Bel.refl _ | apply Bel.drewN | apply Bel.drew | apply Bel.alloc | refine Bel.trans ?_ (by assumption))))))
    refine wpAnyH_take (i := 0) (v := ?_) rfl (by kernel_rfl) (by kernel_rfl) (by kernel_rfl) (fun _ _ _ h => h) (Or.inl ⟨by rfl, ?_⟩) (by assumption) ?_
    rotate_left
    · (intro w hSw; (try dsimp only at hSw); go_simp <;> with_reducible rfl)
    try walk_nrm
    refine wpAnyH_take (i := 1) (v := ?_) rfl (by kernel_rfl) (by kernel_rfl) (by kernel_rfl) (fun _ _ _ h => h) (Or.inl ⟨by rfl, ?_⟩) (by assumption) ?_
    rotate_left
    · (intro w hSw; (try dsimp only at hSw); go_simp <;> with_reducible rfl)
    try walk_nrm
    refine wpAnyH_take (i := 3) (v := ?_) rfl (by kernel_rfl) (by kernel_rfl) (by kernel_rfl) (fun _ _ _ h => h) (Or.inl ⟨by rfl, ?_⟩) (by assumption) ?_
    rotate_left
    · (intro w hSw; (try dsimp only at hSw); go_simp <;> with_reducible rfl)
    try walk_nrm
    refine wpAnyH_take (i := 4) (v := ?_) rfl (by kernel_rfl) (by kernel_rfl) (by kernel_rfl) (fun _ _ _ h => h) (Or.inl ⟨by rfl, ?_⟩) (by assumption) ?_
    rotate_left
    · (intro w hSw; (try dsimp only at hSw); go_simp <;> with_reducible rfl)
    try walk_nrm
    refine wpAnyH_ready (rs := [2]) (by kernel_rfl) (by simp) ?_
    refine AllReadyH.cons rfl (fun K hK => ?_) AllReadyH.nil
    · go_simp
      (go_at_call 30; (with_reducible refine (sRuleName 3 _).mono ?_); rintro e wt ⟨rfl, gt⟩; rw [HNM.out])
      try go_wp2_with fail
      refine hK.out _ _ ?_ (fun hHeld => ?_)
      · ((try dsimp only); (first | (with_reducible exact HALL.out _ (by (repeat (first | assumption | exact Bel.refl _ | apply Bel.drewN | apply Bel.drew | apply Bel.alloc | refine Bel.trans ?_ (by assumption))))) | exact HALL.out _ (by (repeat (first | assumption | exact Bel.refl _ | apply Bel.drewN | apply Bel.drew | apply Bel.alloc | refine Bel.trans ?_ (by assumption))))))
      clear hK K
      try walk_nrm
      refine wpAnyH_ready (rs := [5]) (by kernel_rfl) (by simp) ?_
      refine AllReadyH.cons rfl (fun K hK => ?_) AllReadyH.nil
      · go_simp
        (go_at_call 31; (with_reducible refine (sFormatInt_any a _).mono ?_); rintro e wt ⟨rfl, gt⟩; rw [HFA.out])
        try go_wp2_with fail
        refine hK.out _ _ ?_ (fun hHeld => ?_)
        · ((try dsimp only); (first | (with_reducible exact HALL.out _ (by (repeat (first | assumption | exact Bel.refl _ | apply Bel.drewN | apply Bel.drew | apply Bel.alloc | refine Bel.trans ?_ (by assumption))))) | exact HALL.out _ (by (repeat (first | assumption | exact Bel.refl _ | apply Bel.drewN | apply Bel.drew | apply Bel.alloc | refine Bel.trans ?_ (by assumption))))))
        clear hK K
        try walk_nrm
        refine wpAnyH_ready (rs := [6]) (by kernel_rfl) (by simp) ?_
        refine AllReadyH.cons rfl (fun K hK => ?_) AllReadyH.nil
        · go_simp
          refine hK.out _ _ ?_ (fun hHeld => ?_)
          · ((try dsimp only); (first | (with_reducible exact HALL.out _ (by (repeat (first | assumption | exact Bel.refl _ | apply Bel.drewN | apply Bel.drew | apply Bel.alloc | refine Bel.trans ?_ (by assumption))))) | exact HALL.out _ (by (repeat (first | assumption | exact Bel.refl _ | apply Bel.drewN | apply Bel.drew | apply Bel.alloc | refine Bel.trans ?_ (by assumption))))))
          clear hK K
          try walk_nrm
          refine wpAnyH_take (i := 7) (v := ?_) rfl (by kernel_rfl) (by kernel_rfl) (by kernel_rfl) (fun _ _ _ h => h) (Or.inl ⟨by rfl, ?_⟩) (by assumption) ?_
          rotate_left
          · (intro w hSw; (try dsimp only at hSw); go_simp <;> with_reducible rfl)
          try walk_nrm
          refine wpAnyH_done (by kernel_rfl) ?_ _
          obtain ⟨W2, hW2⟩ : ∃ X, X = wt.alloc (.cells #[.string nm, .string fa] 9) := ⟨_, rfl⟩
          rw [← hW2]
          have HB2 := Lib.hid (show Blk W2 wt.heap.size 9 ([nm, fa].map Value.string) from by rw [hW2]; exact Blk.new' _ rfl)
          have G2 : Bel w1 W2 := by rw [hW2]; (repeat (first | assumption | exact Bel.refl _ | apply Bel.drewN | apply Bel.drew | apply Bel.alloc | refine Bel.trans ?_ (by assumption)))
          have hg1 : w1.heap.size ≤ wt.heap.size := Bel.size (by (repeat (first | assumption | exact Bel.refl _ | apply Bel.drewN | apply Bel.drew | apply Bel.alloc | refine Bel.trans ?_ (by assumption))))
          have hg2 := HB2.out.lt
          clear hW2 gt
          obtain ⟨d0, d1, d2⟩ := HALL.out W2 G2
          generalize wt.heap.size = g at *
          go_wp2_with (first | (go_at_call 31; (with_reducible refine (sFormatInt_any b _).mono ?_); rintro e wt ⟨rfl, gt⟩; rw [HFB.out]) | (at_builtin; refine wpList_strs rfl _ _ 64 rfl Tryz.underlying64 (by kernel_rfl) g 9 [nm, fa] [fb] [nm, fa, fb] 3 rfl rfl rfl (HB2.out.bel (by (repeat (first | assumption | exact Bel.refl _ | apply Bel.drewN | apply Bel.drew | apply Bel.alloc | refine Bel.trans ?_ (by assumption))))) _ 9 rfl (show Blk _ _ _ _ from alloc_at (by first | rfl | (simp; done))) (by simp) (by simp) (fun q hq => Nat.le_trans (HSZ.out q hq) (by decide)) ?_; intro pz cz wA hST gA))
          have HST := Lib.hid hST
          clear hST
          have hzw := Bel.size (show Bel w1 wA from by (repeat (first | assumption | exact Bel.refl _ | apply Bel.drewN | apply Bel.drew | apply Bel.alloc | refine Bel.trans ?_ (by assumption))))
          go_wp2_with fail
          refine (sJoin_any _ [nm, fa, fb] _ (New w wA) _ (strsR_good.mono HST.out (fun b hb => ⟨Nat.le_trans hsw1 (Nat.le_trans (Bel.size (w := w1) (by (repeat (first | assumption | exact Bel.refl _ | apply Bel.drewN | apply Bel.drew | apply Bel.alloc | refine Bel.trans ?_ (by assumption))))) hb.1), hb.2⟩)) HSZ.out (by decide) (by simp)).mono ?_
          rintro e wj ⟨rfl, rfl⟩
          go_wp2_with fail
          go_ret
          exact ⟨ret_str HF.out.symm, by (repeat (first | assumption | exact Bel.refl _ | apply Bel.drewN | apply Bel.drew | apply Bel.alloc | refine Bel.trans ?_ (by assumption)))⟩
  · have HF := Lib.hid (show fmtRuleV p (4, a, b, c) = joinB [ruleNameF 4, fmtV a, fmtV b, fmtV c] ⟨#[32]⟩ from by unfold fmtRuleV; rw [if_pos HRO.out]; rfl)
    have hznm : (ruleNameF 4).size ≤ 100 := by decide
    obtain ⟨nm, henm⟩ : ∃ X, ruleNameF 4 = X := ⟨_, rfl⟩
    rw [henm] at hznm HF
    have HNM := Lib.hid henm
    clear henm
    have hzfa := fmtV_size a
    obtain ⟨fa, hefa⟩ : ∃ X, fmtV a = X := ⟨_, rfl⟩
    rw [hefa] at hzfa HF
    have HFA := Lib.hid hefa
    clear hefa
    have hzfb := fmtV_size b
    obtain ⟨fb, hefb⟩ : ∃ X, fmtV b = X := ⟨_, rfl⟩
    rw [hefb] at hzfb HF
    have HFB := Lib.hid hefb
    clear hefb
    have hzfc := fmtV_size c
    obtain ⟨fc, hefc⟩ : ∃ X, fmtV c = X := ⟨_, rfl⟩
    rw [hefc] at hzfc HF
    have HFC := Lib.hid hefc
    clear hefc
    have HSZ := Lib.hid (show ∀ q ∈ [nm, fa, fb, fc], q.size ≤ 1000 from by intro q hq; simp at hq; rcases hq with rfl | rfl | rfl | rfl <;> omega)
    have HALL := Lib.hid (show ∀ W, Bel w1 W → W.cell? ⟨w.heap.size + 1, 0, none⟩ = some (.int .i64 4) ∧ W.cell? ⟨w.heap.size + 1, 1, none⟩ = some (.int .i64 a) ∧ W.cell? ⟨w.heap.size + 1, 2, none⟩ = some (.int .i64 b) ∧ W.cell? ⟨w.heap.size + 1, 3, none⟩ = some (.int .i64 c) from fun W hW => ⟨hW.cell (g1.cell (by simp [go_sem])), hW.cell (g1.cell (by simp [go_sem])), hW.cell (g1.cell (by simp [go_sem])), hW.cell (g1.cell (by simp [go_sem]))⟩)
    have G11 := Bel.refl w1
    clear g1
    obtain ⟨d0, d1, d2, d3⟩ := HALL.out w1 G11
    go_upto_region 3 with (fail)
    refine wp_region_held_drew (S := (fun W => W.cell? ⟨w.heap.size + 1, 0, none⟩ = some (.int .i64 4) ∧ W.cell? ⟨w.heap.size + 1, 1, none⟩ = some (.int .i64 a) ∧ W.cell? ⟨w.heap.size + 1, 2, none⟩ = some (.int .i64 b) ∧ W.cell? ⟨w.heap.size + 1, 3, none⟩ = some (.int .i64 c))) (by kernel_rfl) ?_ (fun hHeld => ?_)
    · ((try dsimp only); (first | (with_reducible exact HALL.out _ (by (repeat (first | assumption | exact Bel.refl _ | apply Bel.drewN | apply Bel.drew | apply Bel.alloc | refine Bel.trans ?_ (by assumption))))) | exact HALL.out _ (by (repeat (first | assumption | exact Bel.refl _ | apply Bel.drewN | apply Bel.drew | apply Bel.alloc | refine Bel.trans ?_ (by assumption))))))
    refine wpAnyH_take (i := 0) (v := ?_) rfl (by kernel_rfl) (by kernel_rfl) (by kernel_rfl) (fun _ _ _ h => h) (Or.inl ⟨by rfl, ?_⟩) (by assumption) ?_
    rotate_left
    · (intro w hSw; (try dsimp only at hSw); go_simp <;> with_reducible rfl)
    try walk_nrm
    refine wpAnyH_take (i := 1) (v := ?_) rfl (by kernel_rfl) (by kernel_rfl) (by kernel_rfl) (fun _ _ _ h => h) (Or.inl ⟨by rfl, ?_⟩) (by assumption) ?_
    rotate_left
    · (intro w hSw; (try dsimp only at hSw); go_simp <;> with_reducible rfl)
    try walk_nrm
    refine wpAnyH_take (i := 3) (v := ?_) rfl (by kernel_rfl) (by kernel_rfl) (by kernel_rfl) (fun _ _ _ h => h) (Or.inl ⟨by rfl, ?_⟩) (by assumption) ?_
    rotate_left
    · (intro w hSw; (try dsimp only at hSw); go_simp <;> with_reducible rfl)
    try walk_nrm
    refine wpAnyH_take (i := 4) (v := ?_) rfl (by kernel_rfl) (by kernel_rfl) (by kernel_rfl) (fun _ _ _ h => h) (Or.inl ⟨by rfl, ?_⟩) (by assumption) ?_
    rotate_left
    · (intro w hSw; (try dsimp only at hSw); go_simp <;> with_reducible rfl)
    try walk_nrm
    refine wpAnyH_ready (rs := [2]) (by kernel_rfl) (by simp) ?_
    refine AllReadyH.cons rfl (fun K hK => ?_) AllReadyH.nil
    · go_simp
      (go_at_call 30; (with_reducible refine (sRuleName 4 _).mono ?_); rintro e wt ⟨rfl, gt⟩; rw [HNM.out])
      try go_wp2_with fail
      refine hK.out _ _ ?_ (fun hHeld => ?_)
      · ((try dsimp only); (first | (with_reducible exact HALL.out _ (by (repeat (first | assumption | exact Bel.refl _ | apply Bel.drewN | apply Bel.drew | apply Bel.alloc | refine Bel.trans ?_ (by assumption))))) | exact HALL.out _ (by (repeat (first | assumption | exact Bel.refl _ | apply Bel.drewN | apply Bel.drew | apply Bel.alloc | refine Bel.trans ?_ (by assumption))))))
      clear hK K
      try walk_nrm
      refine wpAnyH_ready (rs := [5]) (by kernel_rfl) (by simp) ?_
      refine AllReadyH.cons rfl (fun K hK => ?_) AllReadyH.nil
      · go_simp
        (go_at_call 31; (with_reducible refine (sFormatInt_any a _).mono ?_); rintro e wt ⟨rfl, gt⟩; rw [HFA.out])
        try go_wp2_with fail
        refine hK.out _ _ ?_ (fun hHeld => ?_)
        · ((try dsimp only); (first | (with_reducible exact HALL.out _ (by (repeat (first | assumption | exact Bel.refl _ | apply Bel.drewN | apply Bel.drew | apply Bel.alloc | refine Bel.trans ?_ (by assumption))))) | exact HALL.out _ (by (repeat (first | assumption | exact Bel.refl _ | apply Bel.drewN | apply Bel.drew | apply Bel.alloc | refine Bel.trans ?_ (by assumption))))))
        clear hK K
        try walk_nrm
        refine wpAnyH_ready (rs := [6]) (by kernel_rfl) (by simp) ?_
        refine AllReadyH.cons rfl (fun K hK => ?_) AllReadyH.nil
        · go_simp
          refine hK.out _ _ ?_ (fun hHeld => ?_)
          · ((try dsimp only); (first | (with_reducible exact HALL.out _ (by (repeat (first | assumption | exact Bel.refl _ | apply Bel.drewN | apply Bel.drew | apply Bel.alloc | refine Bel.trans ?_ (by assumption))))) | exact HALL.out _ (by (repeat (first | assumption | exact Bel.refl _ | apply Bel.drewN | apply Bel.drew | apply Bel.alloc | refine Bel.trans ?_ (by assumption))))))
          clear hK K
          try walk_nrm
          refine wpAnyH_take (i := 7) (v := ?_) rfl (by kernel_rfl) (by kernel_rfl) (by kernel_rfl) (fun _ _ _ h => h) (Or.inl ⟨by rfl, ?_⟩) (by assumption) ?_
          rotate_left
          · (intro w hSw; (try dsimp only at hSw); go_simp <;> with_reducible rfl)
          try walk_nrm
          refine wpAnyH_done (by kernel_rfl) ?_ _
          obtain ⟨W2, hW2⟩ : ∃ X, X = wt.alloc (.cells #[.string nm, .string fa] 9) := ⟨_, rfl⟩
          rw [← hW2]
          have HB2 := Lib.hid (show Blk W2 wt.heap.size 9 ([nm, fa].map Value.string) from by rw [hW2]; exact Blk.new' _ rfl)
          have G2 : Bel w1 W2 := by rw [hW2]; (repeat (first | assumption | exact Bel.refl _ | apply Bel.drewN | apply Bel.drew | apply Bel.alloc | refine Bel.trans ?_ (by assumption)))
          have hg1 : w1.heap.size ≤ wt.heap.size := Bel.size (by (repeat (first | assumption | exact Bel.refl _ | apply Bel.drewN | apply Bel.drew | apply Bel.alloc | refine Bel.trans ?_ (by assumption))))
          have hg2 := HB2.out.lt
          clear hW2 gt
          obtain ⟨d0, d1, d2, d3⟩ := HALL.out W2 G2
          generalize wt.heap.size = g at *
          go_upto_region 10 with (fail)
          refine wp_region_held_drew (S := (fun W => W.cell? ⟨w.heap.size + 1, 0, none⟩ = some (.int .i64 4) ∧ W.cell? ⟨w.heap.size + 1, 1, none⟩ = some (.int .i64 a) ∧ W.cell? ⟨w.heap.size + 1, 2, none⟩ = some (.int .i64 b) ∧ W.cell? ⟨w.heap.size + 1, 3, none⟩ = some (.int .i64 c))) (by kernel_rfl) ?_ (fun hHeld => ?_)
          · ((try dsimp only); (first | (with_reducible exact HALL.out _ (by (repeat (first | assumption | exact Bel.refl _ | apply Bel.drewN | apply Bel.drew | apply Bel.alloc | refine Bel.trans ?_ (by assumption))))) | exact HALL.out _ (by (repeat (first | assumption | exact Bel.refl _ | apply Bel.drewN | apply Bel.drew | apply Bel.alloc | refine Bel.trans ?_ (by assumption))))))
          refine wpAnyH_take (i := 0) (v := ?_) rfl (by kernel_rfl) (by kernel_rfl) (by kernel_rfl) (fun _ _ _ h => h) (Or.inl ⟨by rfl, ?_⟩) (by assumption) ?_
          rotate_left
          · (intro w hSw; (try dsimp only at hSw); go_simp <;> with_reducible rfl)
          try walk_nrm
          refine wpAnyH_take (i := 1) (v := ?_) rfl (by kernel_rfl) (by kernel_rfl) (by kernel_rfl) (fun _ _ _ h => h) (Or.inl ⟨by rfl, ?_⟩) (by assumption) ?_
          rotate_left
          · (intro w hSw; (try dsimp only at hSw); go_simp <;> with_reducible rfl)
          try walk_nrm
          refine wpAnyH_take (i := 2) (v := ?_) rfl (by kernel_rfl) (by kernel_rfl) (by kernel_rfl) (fun _ _ _ h => h) (Or.inl ⟨by rfl, ?_⟩) (by assumption) ?_
          rotate_left
          · (intro w hSw; (try dsimp only at hSw); go_simp <;> with_reducible rfl)
          try walk_nrm
          refine wpAnyH_take (i := 4) (v := ?_) rfl (by kernel_rfl) (by kernel_rfl) (by kernel_rfl) (fun _ _ _ h => h) (Or.inl ⟨by rfl, ?_⟩) (by assumption) ?_
          rotate_left
          · (intro w hSw; (try dsimp only at hSw); go_simp <;> with_reducible rfl)
          try walk_nrm
          refine wpAnyH_take (i := 5) (v := ?_) rfl (by kernel_rfl) (by kernel_rfl) (by kernel_rfl) (fun _ _ _ h => h) (Or.inl ⟨by rfl, ?_⟩) (by assumption) ?_
          rotate_left
          · (intro w hSw; (try dsimp only at hSw); go_simp <;> with_reducible rfl)
          try walk_nrm
          refine wpAnyH_ready (rs := [3]) (by kernel_rfl) (by simp) ?_
          refine AllReadyH.cons rfl (fun K hK => ?_) AllReadyH.nil
          · go_simp
            (go_at_call 31; (with_reducible refine (sFormatInt_any b _).mono ?_); rintro e wu ⟨rfl, gu⟩; rw [HFB.out])
            try go_wp2_with fail
            refine hK.out _ _ ?_ (fun hHeld => ?_)
            · ((try dsimp only); (first | (with_reducible exact HALL.out _ (by (repeat (first | assumption | exact Bel.refl _ | apply Bel.drewN | apply Bel.drew | apply Bel.alloc | refine Bel.trans ?_ (by assumption))))) | exact HALL.out _ (by (repeat (first | assumption | exact Bel.refl _ | apply Bel.drewN | apply Bel.drew | apply Bel.alloc | refine Bel.trans ?_ (by assumption))))))
            clear hK K
            try walk_nrm
            refine wpAnyH_ready (rs := [6]) (by kernel_rfl) (by simp) ?_
            refine AllReadyH.cons rfl (fun K hK => ?_) AllReadyH.nil
            · go_simp
              (go_at_call 31; (with_reducible refine (sFormatInt_any c _).mono ?_); rintro e wv ⟨rfl, gv⟩; rw [HFC.out])
              try go_wp2_with fail
              refine hK.out _ _ ?_ (fun hHeld => ?_)
              · ((try dsimp only); (first | (with_reducible exact HALL.out _ (by (repeat (first | assumption | exact Bel.refl _ | apply Bel.drewN | apply Bel.drew | apply Bel.alloc | refine Bel.trans ?_ (by assumption))))) | exact HALL.out _ (by (repeat (first | assumption | exact Bel.refl _ | apply Bel.drewN | apply Bel.drew | apply Bel.alloc | refine Bel.trans ?_ (by assumption))))))
              clear hK K
              try walk_nrm
              refine wpAnyH_ready (rs := [7]) (by kernel_rfl) (by simp) ?_
              refine AllReadyH.cons rfl (fun K hK => ?_) AllReadyH.nil
              · go_simp
                refine hK.out _ _ ?_ (fun hHeld => ?_)
                · ((try dsimp only); (first | (with_reducible exact HALL.out _ (by (repeat (first | assumption | exact Bel.refl _ | apply Bel.drewN | apply Bel.drew | apply Bel.alloc | refine Bel.trans ?_ (by assumption))))) | exact HALL.out _ (by (repeat (first | assumption | exact Bel.refl _ | apply Bel.drewN | apply Bel.drew | apply Bel.alloc | refine Bel.trans ?_ (by assumption))))))
                clear hK K
                try walk_nrm
                refine wpAnyH_ready (rs := [8]) (by kernel_rfl) (by simp) ?_
                refine AllReadyH.cons rfl (fun K hK => ?_) AllReadyH.nil
                · (refine step_strs (o := ⟨some 48, _, _, _, _, _⟩) rfl _ _ 64 rfl Tryz.underlying64 (by kernel_rfl) g 9 [nm, fa] [fb, fc] [nm, fa, fb, fc] 4 rfl rfl rfl (HB2.out.bel (by (repeat (first | assumption | exact Bel.refl _ | apply Bel.drewN | apply Bel.drew | apply Bel.alloc | refine Bel.trans ?_ (by assumption))))) _ 9 rfl (show Blk _ _ _ _ from alloc_at (by first | rfl | (simp; done))) (by simp) (by simp) (fun q hq => Nat.le_trans (HSZ.out q hq) (by decide)) ?_; intro pz cz wA hST gA)
                  refine hK.out _ _ ?_ (fun hHeld => ?_)
                  · ((try dsimp only); (first | (with_reducible exact HALL.out _ (by (repeat (first | assumption | exact Bel.refl _ | apply Bel.drewN | apply Bel.drew | apply Bel.alloc | refine Bel.trans ?_ (by assumption))))) | exact HALL.out _ (by (repeat (first | assumption | exact Bel.refl _ | apply Bel.drewN | apply Bel.drew | apply Bel.alloc | refine Bel.trans ?_ (by assumption))))))
                  clear hK K
                  try walk_nrm
                  refine wpAnyH_take (i := 9) (v := ?_) rfl (by kernel_rfl) (by kernel_rfl) (by kernel_rfl) (fun _ _ _ h => h) (Or.inl ⟨by rfl, ?_⟩) (by assumption) ?_
                  rotate_left
                  · (intro w hSw; (try dsimp only at hSw); go_simp <;> with_reducible rfl)
                  try walk_nrm
                  refine wpAnyH_done (by kernel_rfl) ?_ _
                  have HST := Lib.hid hST
                  clear hST
                  have hzw := Bel.size (show Bel w1 wA from by (repeat (first | assumption | exact Bel.refl _ | apply Bel.drewN | apply Bel.drew | apply Bel.alloc | refine Bel.trans ?_ (by assumption))))
                  go_wp2_with fail
                  refine (sJoin_any _ [nm, fa, fb, fc] _ (New w wA) _ (strsR_good.mono HST.out (fun b hb => ⟨Nat.le_trans hsw1 (Nat.le_trans (Bel.size (w := w1) (by (repeat (first | assumption | exact Bel.refl _ | apply Bel.drewN | apply Bel.drew | apply Bel.alloc | refine Bel.trans ?_ (by assumption))))) hb.1), hb.2⟩)) HSZ.out (by decide) (by simp)).mono ?_
                  rintro e wj ⟨rfl, rfl⟩
                  go_wp2_with fail
                  go_ret
                  exact ⟨ret_str HF.out.symm, by (repeat (first | assumption | exact Bel.refl _ | apply Bel.drewN | apply Bel.drew | apply Bel.alloc | refine Bel.trans ?_ (by assumption)))⟩
  · obtain ⟨ab, ao, acsbn, hbns, arowbn, aelbn⟩ := sliceR_at zAct Q1.out hy
    obtain ⟨ac2bn, rfl, aq0bn, -, -⟩ := actR_open aelbn
    have bne := (arowbn 0 (by simp)).1
    simp only [List.getElem_cons_zero, Nat.add_zero] at bne
    have hzbn := name_size hp hy
    have hyi : (y : Int) < (p.2.1.length : Int) := by omega
    obtain rfl : p1 = some ⟨ab, ao, none⟩ := hbns
    clear arowbn aelbn aq0bn
    obtain ⟨abcn, aocn, acscn, hcns, arowcn, aelcn⟩ := sliceR_at zAct Q1.out hz
    obtain ⟨ac2cn, rfl, aq0cn, -, -⟩ := actR_open aelcn
    have cne := (arowcn 0 (by simp)).1
    simp only [List.getElem_cons_zero, Nat.add_zero] at cne
    have hzcn := name_size hp hz
    have hzi : (z : Int) < (p.2.1.length : Int) := by omega
    obtain ⟨rfl, rfl⟩ : ab = abcn ∧ ao = aocn := by simpa [sliceAt] using hcns
    clear arowcn aelcn aq0cn
    have HF := Lib.hid (show fmtRuleV p (5, a, (y : Int), (z : Int)) = joinB [ruleNameF 5, fmtV a, (p.2.1.getD y zAct).1, (p.2.1.getD z zAct).1] ⟨#[32]⟩ from by unfold fmtRuleV; rw [if_pos HRO.out]; rfl)
    have hznm : (ruleNameF 5).size ≤ 100 := by decide
    obtain ⟨nm, henm⟩ : ∃ X, ruleNameF 5 = X := ⟨_, rfl⟩
    rw [henm] at hznm HF
    have HNM := Lib.hid henm
    clear henm
    have hzfa := fmtV_size a
    obtain ⟨fa, hefa⟩ : ∃ X, fmtV a = X := ⟨_, rfl⟩
    rw [hefa] at hzfa HF
    have HFA := Lib.hid hefa
    clear hefa
    obtain ⟨bn, hebn⟩ : ∃ X, (p.2.1.getD y zAct).1 = X := ⟨_, rfl⟩
    rw [hebn] at hzbn bne HF
    clear hebn
    obtain ⟨cn, hecn⟩ : ∃ X, (p.2.1.getD z zAct).1 = X := ⟨_, rfl⟩
    rw [hecn] at hzcn cne HF
    clear hecn
    have HSZ := Lib.hid (show ∀ q ∈ [nm, fa, bn, cn], q.size ≤ 1000 from by intro q hq; simp at hq; rcases hq with rfl | rfl | rfl | rfl <;> omega)
    have HALL := Lib.hid (show ∀ W, Bel w1 W → W.cell? ⟨w.heap.size + 1, 0, none⟩ = some (.int .i64 5) ∧ W.cell? ⟨w.heap.size + 1, 1, none⟩ = some (.int .i64 a) ∧ W.cell? ⟨w.heap.size + 1, 2, none⟩ = some (.int .i64 (y : Int)) ∧ W.cell? ⟨w.heap.size + 1, 3, none⟩ = some (.int .i64 (z : Int)) ∧ W.cell? ⟨w.heap.size, 1, none⟩ = some (.slice (some ⟨ab, ao, none⟩) p.2.1.length k1) ∧ W.cell? ⟨ab, ao + y * 3, none⟩ = some (.string bn) ∧ W.cell? ⟨ab, ao + z * 3, none⟩ = some (.string cn) from fun W hW => ⟨hW.cell (g1.cell (by simp [go_sem])), hW.cell (g1.cell (by simp [go_sem])), hW.cell (g1.cell (by simp [go_sem])), hW.cell (g1.cell (by simp [go_sem])), hW.cell (g1.cell (by simp [go_sem])), (Bel.trans G hW).cell bne, (Bel.trans G hW).cell cne⟩)
    have G11 := Bel.refl w1
    clear g1
    clear bne cne
    obtain ⟨d0, d1, d2, d3, d4, d5, d6⟩ := HALL.out w1 G11
    go_upto_region 3 with (fail)
    refine wp_region_held_drew (S := (fun W => W.cell? ⟨w.heap.size + 1, 0, none⟩ = some (.int .i64 5) ∧ W.cell? ⟨w.heap.size + 1, 1, none⟩ = some (.int .i64 a) ∧ W.cell? ⟨w.heap.size + 1, 2, none⟩ = some (.int .i64 (y : Int)) ∧ W.cell? ⟨w.heap.size + 1, 3, none⟩ = some (.int .i64 (z : Int)) ∧ W.cell? ⟨w.heap.size, 1, none⟩ = some (.slice (some ⟨ab, ao, none⟩) p.2.1.length k1) ∧ W.cell? ⟨ab, ao + y * 3, none⟩ = some (.string bn) ∧ W.cell? ⟨ab, ao + z * 3, none⟩ = some (.string cn))) (by kernel_rfl) ?_ (fun hHeld => ?_)
    · ((try dsimp only); (first | (with_reducible exact HALL.out _ (by (repeat (first | assumption | exact Bel.refl _ | apply Bel.drewN | apply Bel.drew | apply Bel.alloc | refine Bel.trans ?_ (by assumption))))) | exact HALL.out _ (by (repeat (first | assumption | exact Bel.refl _ | apply Bel.drewN | apply Bel.drew | apply Bel.alloc | refine Bel.trans ?_ (by assumption))))))
    refine wpAnyH_take (i := 0) (v := ?_) rfl (by kernel_rfl) (by kernel_rfl) (by kernel_rfl) (fun _ _ _ h => h) (Or.inl ⟨by rfl, ?_⟩) (by assumption) ?_
    rotate_left
    · (intro w hSw; (try dsimp only at hSw); go_simp <;> with_reducible rfl)
    try walk_nrm
    refine wpAnyH_take (i := 1) (v := ?_) rfl (by kernel_rfl) (by kernel_rfl) (by kernel_rfl) (fun _ _ _ h => h) (Or.inl ⟨by rfl, ?_⟩) (by assumption) ?_
    rotate_left
    · (intro w hSw; (try dsimp only at hSw); go_simp <;> with_reducible rfl)
    try walk_nrm
    refine wpAnyH_take (i := 3) (v := ?_) rfl (by kernel_rfl) (by kernel_rfl) (by kernel_rfl) (fun _ _ _ h => h) (Or.inl ⟨by rfl, ?_⟩) (by assumption) ?_
    rotate_left
    · (intro w hSw; (try dsimp only at hSw); go_simp <;> with_reducible rfl)
    try walk_nrm
    refine wpAnyH_take (i := 4) (v := ?_) rfl (by kernel_rfl) (by kernel_rfl) (by kernel_rfl) (fun _ _ _ h => h) (Or.inl ⟨by rfl, ?_⟩) (by assumption) ?_
    rotate_left
    · (intro w hSw; (try dsimp only at hSw); go_simp <;> with_reducible rfl)
    try walk_nrm
    refine wpAnyH_ready (rs := [2]) (by kernel_rfl) (by simp) ?_
    refine AllReadyH.cons rfl (fun K hK => ?_) AllReadyH.nil
    · go_simp
      (go_at_call 30; (with_reducible refine (sRuleName 5 _).mono ?_); rintro e wt ⟨rfl, gt⟩; rw [HNM.out])
      try go_wp2_with fail
      refine hK.out _ _ ?_ (fun hHeld => ?_)
      · ((try dsimp only); (first | (with_reducible exact HALL.out _ (by (repeat (first | assumption | exact Bel.refl _ | apply Bel.drewN | apply Bel.drew | apply Bel.alloc | refine Bel.trans ?_ (by assumption))))) | exact HALL.out _ (by (repeat (first | assumption | exact Bel.refl _ | apply Bel.drewN | apply Bel.drew | apply Bel.alloc | refine Bel.trans ?_ (by assumption))))))
      clear hK K
      try walk_nrm
      refine wpAnyH_ready (rs := [5]) (by kernel_rfl) (by simp) ?_
      refine AllReadyH.cons rfl (fun K hK => ?_) AllReadyH.nil
      · go_simp
        (go_at_call 31; (with_reducible refine (sFormatInt_any a _).mono ?_); rintro e wt ⟨rfl, gt⟩; rw [HFA.out])
        try go_wp2_with fail
        refine hK.out _ _ ?_ (fun hHeld => ?_)
        · ((try dsimp only); (first | (with_reducible exact HALL.out _ (by (repeat (first | assumption | exact Bel.refl _ | apply Bel.drewN | apply Bel.drew | apply Bel.alloc | refine Bel.trans ?_ (by assumption))))) | exact HALL.out _ (by (repeat (first | assumption | exact Bel.refl _ | apply Bel.drewN | apply Bel.drew | apply Bel.alloc | refine Bel.trans ?_ (by assumption))))))
        clear hK K
        try walk_nrm
        refine wpAnyH_ready (rs := [6]) (by kernel_rfl) (by simp) ?_
        refine AllReadyH.cons rfl (fun K hK => ?_) AllReadyH.nil
        · go_simp
          refine hK.out _ _ ?_ (fun hHeld => ?_)
          · ((try dsimp only); (first | (with_reducible exact HALL.out _ (by (repeat (first | assumption | exact Bel.refl _ | apply Bel.drewN | apply Bel.drew | apply Bel.alloc | refine Bel.trans ?_ (by assumption))))) | exact HALL.out _ (by (repeat (first | assumption | exact Bel.refl _ | apply Bel.drewN | apply Bel.drew | apply Bel.alloc | refine Bel.trans ?_ (by assumption))))))
          clear hK K
          try walk_nrm
          refine wpAnyH_take (i := 7) (v := ?_) rfl (by kernel_rfl) (by kernel_rfl) (by kernel_rfl) (fun _ _ _ h => h) (Or.inl ⟨by rfl, ?_⟩) (by assumption) ?_
          rotate_left
          · (intro w hSw; (try dsimp only at hSw); go_simp <;> with_reducible rfl)
          try walk_nrm
          refine wpAnyH_done (by kernel_rfl) ?_ _
          obtain ⟨W2, hW2⟩ : ∃ X, X = wt.alloc (.cells #[.string nm, .string fa] 9) := ⟨_, rfl⟩
          rw [← hW2]
          have HB2 := Lib.hid (show Blk W2 wt.heap.size 9 ([nm, fa].map Value.string) from by rw [hW2]; exact Blk.new' _ rfl)
          have G2 : Bel w1 W2 := by rw [hW2]; (repeat (first | assumption | exact Bel.refl _ | apply Bel.drewN | apply Bel.drew | apply Bel.alloc | refine Bel.trans ?_ (by assumption)))
          have hg1 : w1.heap.size ≤ wt.heap.size := Bel.size (by (repeat (first | assumption | exact Bel.refl _ | apply Bel.drewN | apply Bel.drew | apply Bel.alloc | refine Bel.trans ?_ (by assumption))))
          have hg2 := HB2.out.lt
          clear hW2 gt
          obtain ⟨d0, d1, d2, d3, d4, d5, d6⟩ := HALL.out W2 G2
          generalize wt.heap.size = g at *
          go_upto_region 12 with (fail)
          refine wp_region_held_drew (S := (fun W => W.cell? ⟨w.heap.size + 1, 0, none⟩ = some (.int .i64 5) ∧ W.cell? ⟨w.heap.size + 1, 1, none⟩ = some (.int .i64 a) ∧ W.cell? ⟨w.heap.size + 1, 2, none⟩ = some (.int .i64 (y : Int)) ∧ W.cell? ⟨w.heap.size + 1, 3, none⟩ = some (.int .i64 (z : Int)) ∧ W.cell? ⟨w.heap.size, 1, none⟩ = some (.slice (some ⟨ab, ao, none⟩) p.2.1.length k1) ∧ W.cell? ⟨ab, ao + y * 3, none⟩ = some (.string bn) ∧ W.cell? ⟨ab, ao + z * 3, none⟩ = some (.string cn))) (by kernel_rfl) ?_ (fun hHeld => ?_)
          · ((try dsimp only); (first | (with_reducible exact HALL.out _ (by (repeat (first | assumption | exact Bel.refl _ | apply Bel.drewN | apply Bel.drew | apply Bel.alloc | refine Bel.trans ?_ (by assumption))))) | exact HALL.out _ (by (repeat (first | assumption | exact Bel.refl _ | apply Bel.drewN | apply Bel.drew | apply Bel.alloc | refine Bel.trans ?_ (by assumption))))))
          refine wpAnyH_take (i := 0) (v := ?_) rfl (by kernel_rfl) (by kernel_rfl) (by kernel_rfl) (fun _ _ _ h => h) (Or.inl ⟨by rfl, ?_⟩) (by assumption) ?_
          rotate_left
          · (intro w hSw; (try dsimp only at hSw); go_simp <;> with_reducible rfl)
          try walk_nrm
          refine wpAnyH_take (i := 1) (v := ?_) rfl (by kernel_rfl) (by kernel_rfl) (by kernel_rfl) (fun _ _ _ h => h) (Or.inl ⟨by rfl, ?_⟩) (by assumption) ?_
          rotate_left
          · (intro w hSw; (try dsimp only at hSw); go_simp <;> with_reducible rfl)
          try walk_nrm
          refine wpAnyH_take (i := 2) (v := ?_) rfl (by kernel_rfl) (by kernel_rfl) (by kernel_rfl) (fun _ _ _ h => h) (Or.inl ⟨by rfl, ?_⟩) (by assumption) ?_
          rotate_left
          · (intro w hSw; (try dsimp only at hSw); go_simp <;> with_reducible rfl)
          try walk_nrm
          refine wpAnyH_take (i := 3) (v := ?_) rfl (by kernel_rfl) (by kernel_rfl) (by kernel_rfl) (fun _ _ _ h => h) (Or.inl ⟨by rfl, ?_⟩) (by assumption) ?_
          rotate_left
          · (intro w hSw; (try dsimp only at hSw); go_simp <;> with_reducible rfl)
          try walk_nrm
          refine wpAnyH_take (i := 4) (v := ?_) rfl (by kernel_rfl) (by kernel_rfl) (by kernel_rfl) (fun _ _ _ h => h) (Or.inl ⟨by rfl, ?_⟩) (by assumption) ?_
          rotate_left
          · (intro w hSw; (try dsimp only at hSw); go_simp <;> with_reducible rfl)
          try walk_nrm
          refine wpAnyH_take (i := 5) (v := ?_) rfl (by kernel_rfl) (by kernel_rfl) (by kernel_rfl) (fun _ _ _ h => h) (Or.inl ⟨by rfl, ?_⟩) (by assumption) ?_
          rotate_left
          · (intro w hSw; (try dsimp only at hSw); go_simp <;> with_reducible rfl)
          try walk_nrm
          refine wpAnyH_take (i := 6) (v := ?_) rfl (by kernel_rfl) (by kernel_rfl) (by kernel_rfl) (fun _ _ _ h => h) (Or.inl ⟨by rfl, ?_⟩) (by assumption) ?_
          rotate_left
          · (intro w hSw; (try dsimp only at hSw); go_simp <;> with_reducible rfl)
          try walk_nrm
          refine wpAnyH_take (i := 7) (v := ?_) rfl (by kernel_rfl) (by kernel_rfl) (by kernel_rfl) (fun _ _ _ h => h) (Or.inl ⟨by rfl, ?_⟩) (by assumption) ?_
          rotate_left
          · (intro w hSw; (try dsimp only at hSw); go_simp <;> with_reducible rfl)
          try walk_nrm
          refine wpAnyH_take (i := 8) (v := ?_) rfl (by kernel_rfl) (by kernel_rfl) (by kernel_rfl) (fun _ _ _ h => h) (Or.inl ⟨by rfl, ?_⟩) (by assumption) ?_
          rotate_left
          · (intro w hSw; (try dsimp only at hSw); go_simp <;> with_reducible rfl)
          try walk_nrm
          refine wpAnyH_take (i := 9) (v := ?_) rfl (by kernel_rfl) (by kernel_rfl) (by kernel_rfl) (fun _ _ _ h => h) (Or.inl ⟨by rfl, ?_⟩) (by assumption) ?_
          rotate_left
          · (intro w hSw; (try dsimp only at hSw); go_simp <;> with_reducible rfl)
          try walk_nrm
          refine wpAnyH_take (i := 10) (v := ?_) rfl (by kernel_rfl) (by kernel_rfl) (by kernel_rfl) (fun _ _ _ h => h) (Or.inl ⟨by rfl, ?_⟩) (by assumption) ?_
          rotate_left
          · (intro w hSw; (try dsimp only at hSw); go_simp <;> with_reducible rfl)
          try walk_nrm
          refine wpAnyH_take (i := 11) (v := ?_) rfl (by kernel_rfl) (by kernel_rfl) (by kernel_rfl) (fun _ _ _ h => h) (Or.inl ⟨by rfl, ?_⟩) (by assumption) ?_
          rotate_left
          · (intro w hSw; (try dsimp only at hSw); go_simp <;> with_reducible rfl)
          try walk_nrm
          refine wpAnyH_take (i := 12) (v := ?_) rfl (by kernel_rfl) (by kernel_rfl) (by kernel_rfl) (fun _ _ _ h => h) (Or.inl ⟨by rfl, ?_⟩) (by assumption) ?_
          rotate_left
          · (intro w hSw; (try dsimp only at hSw); go_simp <;> with_reducible rfl)
          try walk_nrm
          refine wpAnyH_take (i := 13) (v := ?_) rfl (by kernel_rfl) (by kernel_rfl) (by kernel_rfl) (fun _ _ _ h => h) (Or.inl ⟨by rfl, ?_⟩) (by assumption) ?_
          rotate_left
          · (intro w hSw; (try dsimp only at hSw); go_simp <;> with_reducible rfl)
          try walk_nrm
          refine wpAnyH_take (i := 14) (v := ?_) rfl (by kernel_rfl) (by kernel_rfl) (by kernel_rfl) (fun _ _ _ h => h) (Or.inl ⟨by rfl, ?_⟩) (by assumption) ?_
          rotate_left
          · (intro w hSw; (try dsimp only at hSw); go_simp <;> with_reducible rfl)
          try walk_nrm
          refine wpAnyH_ready (rs := [15]) (by kernel_rfl) (by simp) ?_
          refine AllReadyH.cons rfl (fun K hK => ?_) AllReadyH.nil
          · go_simp
            refine hK.out _ _ ?_ (fun hHeld => ?_)
            · ((try dsimp only); (first | (with_reducible exact HALL.out _ (by (repeat (first | assumption | exact Bel.refl _ | apply Bel.drewN | apply Bel.drew | apply Bel.alloc | refine Bel.trans ?_ (by assumption))))) | exact HALL.out _ (by (repeat (first | assumption | exact Bel.refl _ | apply Bel.drewN | apply Bel.drew | apply Bel.alloc | refine Bel.trans ?_ (by assumption))))))
            clear hK K
            try walk_nrm
            refine wpAnyH_ready (rs := [16]) (by kernel_rfl) (by simp) ?_
            refine AllReadyH.cons rfl (fun K hK => ?_) AllReadyH.nil
            · (refine step_strs (o := ⟨some 67, _, _, _, _, _⟩) rfl _ _ 64 rfl Tryz.underlying64 (by kernel_rfl) g 9 [nm, fa] [bn, cn] [nm, fa, bn, cn] 4 rfl rfl rfl (HB2.out.bel (by (repeat (first | assumption | exact Bel.refl _ | apply Bel.drewN | apply Bel.drew | apply Bel.alloc | refine Bel.trans ?_ (by assumption))))) _ 9 rfl (show Blk _ _ _ _ from alloc_at (by first | rfl | (simp; done))) (by simp) (by simp) (fun q hq => Nat.le_trans (HSZ.out q hq) (by decide)) ?_; intro pz cz wA hST gA)
              refine hK.out _ _ ?_ (fun hHeld => ?_)
              · ((try dsimp only); (first | (with_reducible exact HALL.out _ (by (repeat (first | assumption | exact Bel.refl _ | apply Bel.drewN | apply Bel.drew | apply Bel.alloc | refine Bel.trans ?_ (by assumption))))) | exact HALL.out _ (by (repeat (first | assumption | exact Bel.refl _ | apply Bel.drewN | apply Bel.drew | apply Bel.alloc | refine Bel.trans ?_ (by assumption))))))
              clear hK K
              try walk_nrm
              refine wpAnyH_take (i := 17) (v := ?_) rfl (by kernel_rfl) (by kernel_rfl) (by kernel_rfl) (fun _ _ _ h => h) (Or.inl ⟨by rfl, ?_⟩) (by assumption) ?_
              rotate_left
              · (intro w hSw; (try dsimp only at hSw); go_simp <;> with_reducible rfl)
              try walk_nrm
              refine wpAnyH_done (by kernel_rfl) ?_ _
              have HST := Lib.hid hST
              clear hST
              have hzw := Bel.size (show Bel w1 wA from by (repeat (first | assumption | exact Bel.refl _ | apply Bel.drewN | apply Bel.drew | apply Bel.alloc | refine Bel.trans ?_ (by assumption))))
              go_wp2_with fail
              refine (sJoin_any _ [nm, fa, bn, cn] _ (New w wA) _ (strsR_good.mono HST.out (fun b hb => ⟨Nat.le_trans hsw1 (Nat.le_trans (Bel.size (w := w1) (by (repeat (first | assumption | exact Bel.refl _ | apply Bel.drewN | apply Bel.drew | apply Bel.alloc | refine Bel.trans ?_ (by assumption))))) hb.1), hb.2⟩)) HSZ.out (by decide) (by simp)).mono ?_
              rintro e wj ⟨rfl, rfl⟩
              go_wp2_with fail
              go_ret
              exact ⟨ret_str HF.out.symm, by (repeat (first | assumption | exact Bel.refl _ | apply Bel.drewN | apply Bel.drew | apply Bel.alloc | refine Bel.trans ?_ (by assumption)))⟩
  · have HF := Lib.hid (show fmtRuleV p (6, a, b, c) = joinB [ruleNameF 6, fmtV a] ⟨#[32]⟩ from by unfold fmtRuleV; rw [if_pos HRO.out]; rfl)
    have hznm : (ruleNameF 6).size ≤ 100 := by decide
    obtain ⟨nm, henm⟩ : ∃ X, ruleNameF 6 = X := ⟨_, rfl⟩
    rw [henm] at hznm HF
    have HNM := Lib.hid henm
    clear henm
    have hzfa := fmtV_size a
    obtain ⟨fa, hefa⟩ : ∃ X, fmtV a = X := ⟨_, rfl⟩
    rw [hefa] at hzfa HF
    have HFA := Lib.hid hefa
    clear hefa
    have HSZ := Lib.hid (show ∀ q ∈ [nm, fa], q.size ≤ 1000 from by intro q hq; simp at hq; rcases hq with rfl | rfl <;> omega)
    have HALL := Lib.hid (show ∀ W, Bel w1 W → W.cell? ⟨w.heap.size + 1, 0, none⟩ = some (.int .i64 6) ∧ W.cell? ⟨w.heap.size + 1, 1, none⟩ = some (.int .i64 a) from fun W hW => ⟨hW.cell (g1.cell (by simp [go_sem])), hW.cell (g1.cell (by simp [go_sem]))⟩)
    have G11 := Bel.refl w1
    clear g1
    obtain ⟨d0, d1⟩ := HALL.out w1 G11
    go_upto_region 3 with (fail)
    refine wp_region_held_drew (S := (fun W => W.cell? ⟨w.heap.size + 1, 0, none⟩ = some (.int .i64 6) ∧ W.cell? ⟨w.heap.size + 1, 1, none⟩ = some (.int .i64 a))) (by kernel_rfl) ?_ (fun hHeld => ?_)
    · ((try dsimp only); (first | (with_reducible exact HALL.out _ (by (repeat (first | assumption | exact Bel.refl _ | apply Bel.drewN | apply Bel.drew | apply Bel.alloc | refine Bel.trans ?_ (by assumption))))) | exact HALL.out _ (by (repeat (first | assumption | exact Bel.refl _ | apply Bel.drewN | apply Bel.drew | apply Bel.alloc | refine Bel.trans ?_ (by assumption))))))
    refine wpAnyH_take (i := 0) (v := ?_) rfl (by kernel_rfl) (by kernel_rfl) (by kernel_rfl) (fun _ _ _ h => h) (Or.inl ⟨by rfl, ?_⟩) (by assumption) ?_
    rotate_left
    · (intro w hSw; (try dsimp only at hSw); go_simp <;> with_reducible rfl)
    try walk_nrm
    refine wpAnyH_take (i := 1) (v := ?_) rfl (by kernel_rfl) (by kernel_rfl) (by kernel_rfl) (fun _ _ _ h => h) (Or.inl ⟨by rfl, ?_⟩) (by assumption) ?_
    rotate_left
    · (intro w hSw; (try dsimp only at hSw); go_simp <;> with_reducible rfl)
    try walk_nrm
    refine wpAnyH_take (i := 3) (v := ?_) rfl (by kernel_rfl) (by kernel_rfl) (by kernel_rfl) (fun _ _ _ h => h) (Or.inl ⟨by rfl, ?_⟩) (by assumption) ?_
    rotate_left
    · (intro w hSw; (try dsimp only at hSw); go_simp <;> with_reducible rfl)
    try walk_nrm
    refine wpAnyH_take (i := 4) (v := ?_) rfl (by kernel_rfl) (by kernel_rfl) (by kernel_rfl) (fun _ _ _ h => h) (Or.inl ⟨by rfl, ?_⟩) (by assumption) ?_
    rotate_left
    · (intro w hSw; (try dsimp only at hSw); go_simp <;> with_reducible rfl)
    try walk_nrm
    refine wpAnyH_ready (rs := [2]) (by kernel_rfl) (by simp) ?_
    refine AllReadyH.cons rfl (fun K hK => ?_) AllReadyH.nil
    · go_simp
      (go_at_call 30; (with_reducible refine (sRuleName 6 _).mono ?_); rintro e wt ⟨rfl, gt⟩; rw [HNM.out])
      try go_wp2_with fail
      refine hK.out _ _ ?_ (fun hHeld => ?_)
      · ((try dsimp only); (first | (with_reducible exact HALL.out _ (by (repeat (first | assumption | exact Bel.refl _ | apply Bel.drewN | apply Bel.drew | apply Bel.alloc | refine Bel.trans ?_ (by assumption))))) | exact HALL.out _ (by (repeat (first | assumption | exact Bel.refl _ | apply Bel.drewN | apply Bel.drew | apply Bel.alloc | refine Bel.trans ?_ (by assumption))))))
      clear hK K
      try walk_nrm
      refine wpAnyH_ready (rs := [5]) (by kernel_rfl) (by simp) ?_
      refine AllReadyH.cons rfl (fun K hK => ?_) AllReadyH.nil
      · go_simp
        (go_at_call 31; (with_reducible refine (sFormatInt_any a _).mono ?_); rintro e wt ⟨rfl, gt⟩; rw [HFA.out])
        try go_wp2_with fail
        refine hK.out _ _ ?_ (fun hHeld => ?_)
        · ((try dsimp only); (first | (with_reducible exact HALL.out _ (by (repeat (first | assumption | exact Bel.refl _ | apply Bel.drewN | apply Bel.drew | apply Bel.alloc | refine Bel.trans ?_ (by assumption))))) | exact HALL.out _ (by (repeat (first | assumption | exact Bel.refl _ | apply Bel.drewN | apply Bel.drew | apply Bel.alloc | refine Bel.trans ?_ (by assumption))))))
        clear hK K
        try walk_nrm
        refine wpAnyH_ready (rs := [6]) (by kernel_rfl) (by simp) ?_
        refine AllReadyH.cons rfl (fun K hK => ?_) AllReadyH.nil
        · go_simp
          refine hK.out _ _ ?_ (fun hHeld => ?_)
          · ((try dsimp only); (first | (with_reducible exact HALL.out _ (by (repeat (first | assumption | exact Bel.refl _ | apply Bel.drewN | apply Bel.drew | apply Bel.alloc | refine Bel.trans ?_ (by assumption))))) | exact HALL.out _ (by (repeat (first | assumption | exact Bel.refl _ | apply Bel.drewN | apply Bel.drew | apply Bel.alloc | refine Bel.trans ?_ (by assumption))))))
          clear hK K
          try walk_nrm
          refine wpAnyH_take (i := 7) (v := ?_) rfl (by kernel_rfl) (by kernel_rfl) (by kernel_rfl) (fun _ _ _ h => h) (Or.inl ⟨by rfl, ?_⟩) (by assumption) ?_
          rotate_left
          · (intro w hSw; (try dsimp only at hSw); go_simp <;> with_reducible rfl)
          try walk_nrm
          refine wpAnyH_done (by kernel_rfl) ?_ _
          obtain ⟨W2, hW2⟩ : ∃ X, X = wt.alloc (.cells #[.string nm, .string fa] 9) := ⟨_, rfl⟩
          rw [← hW2]
          have HB2 := Lib.hid (show Blk W2 wt.heap.size 9 ([nm, fa].map Value.string) from by rw [hW2]; exact Blk.new' _ rfl)
          have G2 : Bel w1 W2 := by rw [hW2]; (repeat (first | assumption | exact Bel.refl _ | apply Bel.drewN | apply Bel.drew | apply Bel.alloc | refine Bel.trans ?_ (by assumption)))
          have hg1 : w1.heap.size ≤ wt.heap.size := Bel.size (by (repeat (first | assumption | exact Bel.refl _ | apply Bel.drewN | apply Bel.drew | apply Bel.alloc | refine Bel.trans ?_ (by assumption))))
          have hg2 := HB2.out.lt
          clear hW2 gt
          obtain ⟨d0, d1⟩ := HALL.out W2 G2
          generalize wt.heap.size = g at *
          go_wp2_with fail
          refine (sJoin_any _ [nm, fa] _ (New w W2) _ (strs_blk HB2.out ⟨by omega, by omega⟩ (fun q hq => Nat.le_trans (HSZ.out q hq) (by decide)) (by simp [maxLen])) HSZ.out (by decide) (by simp)).mono ?_
          rintro e wj ⟨rfl, rfl⟩
          go_wp2_with fail
          go_ret
          exact ⟨ret_str HF.out.symm, by (repeat (first | assumption | exact Bel.refl _ | apply Bel.drewN | apply Bel.drew | apply Bel.alloc | refine Bel.trans ?_ (by assumption)))⟩

set_option maxRecDepth 100000 in
set_option maxHeartbeats 8000000 in
theorem iFormatRule_any (v : Value) (p : ProjT) (S : Nat → Prop) (r : RuleT) (w : World) (hx : aggR projR S w v p) (hS : ∀ b, S b → b < w.heap.size) (_hn : bulkProject p ≤ 1048576) (htab : Lib.TabIs Tryz.prog w "internal/strconv.uint64pow10" .u64 Lib.pow10Tab) :
    Calls Tryz.prog 11 #[v, .agg #[.int .i64 r.1, .int .i64 r.2.1, .int .i64 r.2.2.1, .int .i64 r.2.2.2]] w fun e w' => e = .returned (.string (fmtRuleV p r)) ∧ Bel w w' := by
  obtain ⟨k, a, b, c⟩ := r
  obtain ⟨cs, rfl, hx⟩ := hx
  obtain ⟨c1, c2, c3, c4, rfl, q0, q1, q2, q3, q4⟩ := projR_open hx
  have Q1 := Lib.hid q1
  have Q2 := Lib.hid q2
  have Q3 := Lib.hid q3
  have Q4 := Lib.hid q4
  have HP := Lib.hid hx
  obtain ⟨p1, k1, rfl, l1, l1', -⟩ := sliceR_open q1
  obtain ⟨p2, k2, rfl, l2, l2', -⟩ := sliceR_open q2
  obtain ⟨p3, k3, rfl, l3, l3', -⟩ := sliceR_open q3
  obtain ⟨p4, k4, rfl, l4, l4', -⟩ := sliceR_open q4
  unfold maxLen at l1' l2' l3' l4'
  clear hx q0 q1 q2 q3 q4
  have HS := Lib.hid hS
  have HNB := Lib.hid _hn
  have HTB := Lib.hid htab
  clear htab
  clear hS _hn
  have HPR := Lib.hid (show ∀ W, Bel w W → aggR projR S W (.agg #[.int .i64 p.1, .slice p1 p.2.1.length k1, .slice p2 p.2.2.1.length k2, .slice p3 p.2.2.2.1.length k3, .slice p4 p.2.2.2.2.length k4]) p ∧ (∀ b, S b → b < W.heap.size) from fun W hW => ⟨aggR_mk (projR_good.bel HP.out hW HS.out), fun b hb => Nat.lt_of_lt_of_le (HS.out b hb) hW.size⟩)
  show Calls Tryz.prog 11 #[.agg #[.int .i64 p.1, .slice p1 p.2.1.length k1, .slice p2 p.2.2.1.length k2, .slice p3 p.2.2.2.1.length k3, .slice p4 p.2.2.2.2.length k4], .agg #[.int .i64 k, .int .i64 a, .int .i64 b, .int .i64 c]] w _
  go_enter Tryz.func11, Tryz.ntmps11
  go_wp2_with fail
  refine (iRuleOk_any _ p S (k, a, b, c) _ (HPR.out _ (by (repeat (first | assumption | exact Bel.refl _ | apply Bel.drewN | apply Bel.drew | apply Bel.alloc | refine Bel.trans ?_ (by assumption))))).1 (HPR.out _ (by (repeat (first | assumption | exact Bel.refl _ | apply Bel.drewN | apply Bel.drew | apply Bel.alloc | refine Bel.trans ?_ (by assumption))))).2 HNB.out).mono ?_
  rintro e w1 ⟨rfl, g1⟩
  have G : Bel w w1 := by (repeat (first | assumption | exact Bel.refl _ | apply Bel.drewN | apply Bel.drew | apply Bel.alloc | refine Bel.trans ?_ (by assumption)))
  have hsw1 := G.size
  cases hb : ruleOkB p (k, a, b, c)
  · have HF := Lib.hid (show fmtRuleV p (k, a, b, c) = ⟨#[]⟩ from by unfold fmtRuleV; rw [hb]; rfl)
    clear hb
    go_wp2_with fail
    go_ret
    exact ⟨ret_str HF.out.symm, by (repeat (first | assumption | exact Bel.refl _ | apply Bel.drewN | apply Bel.drew | apply Bel.alloc | refine Bel.trans ?_ (by assumption)))⟩
  have HRO := Lib.hid hb
  obtain ⟨hp, hk⟩ := ruleOk_kinds hb
  clear hb
  rcases hk with rfl | ⟨rfl, x, rfl, hx⟩ | rfl | rfl | ⟨rfl, y, z, rfl, hy, rfl, hz⟩ | rfl
  · have HF := Lib.hid (show fmtRuleV p (1, a, b, c) = joinB [ruleNameF 1, fmtV a] ⟨#[32]⟩ from by unfold fmtRuleV; rw [if_pos HRO.out]; rfl)
    have hznm : (ruleNameF 1).size ≤ 100 := by decide
    obtain ⟨nm, henm⟩ : ∃ X, ruleNameF 1 = X := ⟨_, rfl⟩
    rw [henm] at hznm HF
    have HNM := Lib.hid henm
    clear henm
    have hzfa := fmtV_size a
    obtain ⟨fa, hefa⟩ : ∃ X, fmtV a = X := ⟨_, rfl⟩
    rw [hefa] at hzfa HF
    have HFA := Lib.hid hefa
    clear hefa
    have HSZ := Lib.hid (show ∀ q ∈ [nm, fa], q.size ≤ 1000 from by intro q hq; simp at hq; rcases hq with rfl | rfl <;> omega)
    have HALL := Lib.hid (show ∀ W, Bel w1 W → W.cell? ⟨w.heap.size + 1, 0, none⟩ = some (.int .i64 1) ∧ W.cell? ⟨w.heap.size + 1, 1, none⟩ = some (.int .i64 a) from fun W hW => ⟨hW.cell (g1.cell (by simp [go_sem])), hW.cell (g1.cell (by simp [go_sem]))⟩)
    have G11 := Bel.refl w1
    clear g1
    obtain ⟨d0, d1⟩ := HALL.out w1 G11
    go_upto_region 3 with (fail)
    refine wp_region_held_drew (S := (fun W => W.cell? ⟨w.heap.size + 1, 0, none⟩ = some (.int .i64 1) ∧ W.cell? ⟨w.heap.size + 1, 1, none⟩ = some (.int .i64 a))) (by kernel_rfl) ?_ (fun hHeld => ?_)
    · ((try dsimp only); (first | (with_reducible exact HALL.out _ (by (repeat (first | assumption | exact Bel.refl _ | apply Bel.drewN | apply Bel.drew | apply Bel.alloc | refine Bel.trans ?_ (by assumption))))) | exact HALL.out _ (by (repeat (first | assumption | exact Bel.refl _ | apply Bel.drewN | apply Bel.drew | apply Bel.alloc | refine Bel.trans ?_ (by assumption))))))
    refine wpAnyH_take (i := 0) (v := ?_) rfl (by kernel_rfl) (by kernel_rfl) (by kernel_rfl) (fun _ _ _ h => h) (Or.inl ⟨by rfl, ?_⟩) (by assumption) ?_
    rotate_left
    · (intro w hSw; (try dsimp only at hSw); go_simp <;> with_reducible rfl)
    try walk_nrm
    refine wpAnyH_take (i := 1) (v := ?_) rfl (by kernel_rfl) (by kernel_rfl) (by kernel_rfl) (fun _ _ _ h => h) (Or.inl ⟨by rfl, ?_⟩) (by assumption) ?_
    rotate_left
    · (intro w hSw; (try dsimp only at hSw); go_simp <;> with_reducible rfl)
    try walk_nrm
    refine wpAnyH_take (i := 3) (v := ?_) rfl (by kernel_rfl) (by kernel_rfl) (by kernel_rfl) (fun _ _ _ h => h) (Or.inl ⟨by rfl, ?_⟩) (by assumption) ?_
    rotate_left
    · (intro w hSw; (try dsimp only at hSw); go_simp <;> with_reducible rfl)
    try walk_nrm
    refine wpAnyH_take (i := 4) (v := ?_) rfl (by kernel_rfl) (by kernel_rfl) (by kernel_rfl) (fun _ _ _ h => h) (Or.inl ⟨by rfl, ?_⟩) (by assumption) ?_
    rotate_left
    · (intro w hSw; (try dsimp only at hSw); go_simp <;> with_reducible rfl)
    try walk_nrm
    refine wpAnyH_ready (rs := [2]) (by kernel_rfl) (by simp) ?_
    refine AllReadyH.cons rfl (fun K hK => ?_) AllReadyH.nil
    · go_simp
      (go_at_call 38; (with_reducible refine (iRuleName 1 _).mono ?_); rintro e wt ⟨rfl, gt⟩; rw [HNM.out])
      try go_wp2_with fail
      refine hK.out _ _ ?_ (fun hHeld => ?_)
      · ((try dsimp only); (first | (with_reducible exact HALL.out _ (by (repeat (first | assumption | exact Bel.refl _ | apply Bel.drewN | apply Bel.drew | apply Bel.alloc | refine Bel.trans ?_ (by assumption))))) | exact HALL.out _ (by (repeat (first | assumption | exact Bel.refl _ | apply Bel.drewN | apply Bel.drew | apply Bel.alloc | refine Bel.trans ?_ (by assumption))))))
      clear hK K
      try walk_nrm
      refine wpAnyH_ready (rs := [5]) (by kernel_rfl) (by simp) ?_
      refine AllReadyH.cons rfl (fun K hK => ?_) AllReadyH.nil
      · go_simp
        (go_at_call 39; (with_reducible refine (iFormatInt_any a _ (tabIs_bel HTB.out (by (repeat (first | assumption | exact Bel.refl _ | apply Bel.drewN | apply Bel.drew | apply Bel.alloc | refine Bel.trans ?_ (by assumption)))))).mono ?_); rintro e wt ⟨rfl, gt⟩; rw [HFA.out])
        try go_wp2_with fail
        refine hK.out _ _ ?_ (fun hHeld => ?_)
        · ((try dsimp only); (first | (with_reducible exact HALL.out _ (by (repeat (first | assumption | exact Bel.refl _ | apply Bel.drewN | apply Bel.drew | apply Bel.alloc | refine Bel.trans ?_ (by assumption))))) | exact HALL.out _ (by (repeat (first | assumption | exact Bel.refl _ | apply Bel.drewN | apply Bel.drew | apply Bel.alloc | refine Bel.trans ?_ (by assumption))))))
        clear hK K
        try walk_nrm
        refine wpAnyH_ready (rs := [6]) (by kernel_rfl) (by simp) ?_
        refine AllReadyH.cons rfl (fun K hK => ?_) AllReadyH.nil
        · go_simp
          refine hK.out _ _ ?_ (fun hHeld => ?_)
          · ((try dsimp only); (first | (with_reducible exact HALL.out _ (by (repeat (first | assumption | exact Bel.refl _ | apply Bel.drewN | apply Bel.drew | apply Bel.alloc | refine Bel.trans ?_ (by assumption))))) | exact HALL.out _ (by (repeat (first | assumption | exact Bel.refl _ | apply Bel.drewN | apply Bel.drew | apply Bel.alloc | refine Bel.trans ?_ (by assumption))))))
          clear hK K
          try walk_nrm
          refine wpAnyH_take (i := 7) (v := ?_) rfl (by kernel_rfl) (by kernel_rfl) (by kernel_rfl) (fun _ _ _ h => h) (Or.inl ⟨by rfl, ?_⟩) (by assumption) ?_
          rotate_left
          · (intro w hSw; (try dsimp only at hSw); go_simp <;> with_reducible rfl)
          try walk_nrm
          refine wpAnyH_done (by kernel_rfl) ?_ _
          obtain ⟨W2, hW2⟩ : ∃ X, X = wt.alloc (.cells #[.string nm, .string fa] 9) := ⟨_, rfl⟩
          rw [← hW2]
          have HB2 := Lib.hid (show Blk W2 wt.heap.size 9 ([nm, fa].map Value.string) from by rw [hW2]; exact Blk.new' _ rfl)
          have G2 : Bel w1 W2 := by rw [hW2]; (repeat (first | assumption | exact Bel.refl _ | apply Bel.drewN | apply Bel.drew | apply Bel.alloc | refine Bel.trans ?_ (by assumption)))
          have hg1 : w1.heap.size ≤ wt.heap.size := Bel.size (by (repeat (first | assumption | exact Bel.refl _ | apply Bel.drewN | apply Bel.drew | apply Bel.alloc | refine Bel.trans ?_ (by assumption))))
          have hg2 := HB2.out.lt
          clear hW2 gt
          obtain ⟨d0, d1⟩ := HALL.out W2 G2
          generalize wt.heap.size = g at *
          go_wp2_with fail
          refine (iJoin_any _ [nm, fa] _ (New w W2) _ (strs_blk HB2.out ⟨by omega, by omega⟩ (fun q hq => Nat.le_trans (HSZ.out q hq) (by decide)) (by simp [maxLen])) (fun b hb => hb.2) HSZ.out (by decide) (by simp)).mono ?_
          rintro e wj ⟨rfl, gj⟩
          go_wp2_with fail
          go_ret
          exact ⟨ret_str HF.out.symm, by (repeat (first | assumption | exact Bel.refl _ | apply Bel.drewN | apply Bel.drew | apply Bel.alloc | refine Bel.trans ?_ (by assumption)))⟩
  · obtain ⟨ab, ao, acsan, hans, arowan, aelan⟩ := sliceR_at zAct Q1.out hx
    obtain ⟨ac2an, rfl, aq0an, -, -⟩ := actR_open aelan
    have ane := (arowan 0 (by simp)).1
    simp only [List.getElem_cons_zero, Nat.add_zero] at ane
    have hzan := name_size hp hx
    have hxi : (x : Int) < (p.2.1.length : Int) := by omega
    obtain rfl : p1 = some ⟨ab, ao, none⟩ := hans
    clear arowan aelan aq0an
    have HF := Lib.hid (show fmtRuleV p (2, (x : Int), b, c) = joinB [ruleNameF 2, (p.2.1.getD x zAct).1] ⟨#[32]⟩ from by unfold fmtRuleV; rw [if_pos HRO.out]; rfl)
    have hznm : (ruleNameF 2).size ≤ 100 := by decide
    obtain ⟨nm, henm⟩ : ∃ X, ruleNameF 2 = X := ⟨_, rfl⟩
    rw [henm] at hznm HF
    have HNM := Lib.hid henm
    clear henm
    obtain ⟨an, hean⟩ : ∃ X, (p.2.1.getD x zAct).1 = X := ⟨_, rfl⟩
    rw [hean] at hzan ane HF
    clear hean
    have hzfa := fmtV_size (x : Int)
    obtain ⟨fa, hefa⟩ : ∃ X, fmtV (x : Int) = X := ⟨_, rfl⟩
    rw [hefa] at hzfa
    have HFA := Lib.hid hefa
    clear hefa
    have HSZ := Lib.hid (show ∀ q ∈ [nm, an], q.size ≤ 1000 from by intro q hq; simp at hq; rcases hq with rfl | rfl <;> omega)
    have HALL := Lib.hid (show ∀ W, Bel w1 W → W.cell? ⟨w.heap.size + 1, 0, none⟩ = some (.int .i64 2) ∧ W.cell? ⟨w.heap.size + 1, 1, none⟩ = some (.int .i64 (x : Int)) ∧ W.cell? ⟨w.heap.size, 1, none⟩ = some (.slice (some ⟨ab, ao, none⟩) p.2.1.length k1) ∧ W.cell? ⟨ab, ao + x * 3, none⟩ = some (.string an) from fun W hW => ⟨hW.cell (g1.cell (by simp [go_sem])), hW.cell (g1.cell (by simp [go_sem])), hW.cell (g1.cell (by simp [go_sem])), (Bel.trans G hW).cell ane⟩)
    have G11 := Bel.refl w1
    clear g1
    clear ane
    obtain ⟨d0, d1, d2, d3⟩ := HALL.out w1 G11
    go_upto_region 3 with (fail)
    refine wp_region_held_drew (S := (fun W => W.cell? ⟨w.heap.size + 1, 0, none⟩ = some (.int .i64 2) ∧ W.cell? ⟨w.heap.size + 1, 1, none⟩ = some (.int .i64 (x : Int)) ∧ W.cell? ⟨w.heap.size, 1, none⟩ = some (.slice (some ⟨ab, ao, none⟩) p.2.1.length k1) ∧ W.cell? ⟨ab, ao + x * 3, none⟩ = some (.string an))) (by kernel_rfl) ?_ (fun hHeld => ?_)
    · ((try dsimp only); (first | (with_reducible exact HALL.out _ (by (repeat (first | assumption | exact Bel.refl _ | apply Bel.drewN | apply Bel.drew | apply Bel.alloc | refine Bel.trans ?_ (by assumption))))) | exact HALL.out _ (by (repeat (first | assumption | exact Bel.refl _ | apply Bel.drewN | apply Bel.drew | apply Bel.alloc | refine Bel.trans ?_ (by assumption))))))
    refine wpAnyH_take (i := 0) (v := ?_) rfl (by kernel_rfl) (by kernel_rfl) (by kernel_rfl) (fun _ _ _ h => h) (Or.inl ⟨by rfl, ?_⟩) (by assumption) ?_
    rotate_left
    · (intro w hSw; (try dsimp only at hSw); go_simp <;> with_reducible rfl)
    try walk_nrm
    refine wpAnyH_take (i := 1) (v := ?_) rfl (by kernel_rfl) (by kernel_rfl) (by kernel_rfl) (fun _ _ _ h => h) (Or.inl ⟨by rfl, ?_⟩) (by assumption) ?_
    rotate_left
    · (intro w hSw; (try dsimp only at hSw); go_simp <;> with_reducible rfl)
    try walk_nrm
    refine wpAnyH_take (i := 3) (v := ?_) rfl (by kernel_rfl) (by kernel_rfl) (by kernel_rfl) (fun _ _ _ h => h) (Or.inl ⟨by rfl, ?_⟩) (by assumption) ?_
    rotate_left
    · (intro w hSw; (try dsimp only at hSw); go_simp <;> with_reducible rfl)
    try walk_nrm
    refine wpAnyH_take (i := 4) (v := ?_) rfl (by kernel_rfl) (by kernel_rfl) (by kernel_rfl) (fun _ _ _ h => h) (Or.inl ⟨by rfl, ?_⟩) (by assumption) ?_
    rotate_left
    · (intro w hSw; (try dsimp only at hSw); go_simp <;> with_reducible rfl)
    try walk_nrm
    refine wpAnyH_ready (rs := [2]) (by kernel_rfl) (by simp) ?_
    refine AllReadyH.cons rfl (fun K hK => ?_) AllReadyH.nil
    · go_simp
      (go_at_call 38; (with_reducible refine (iRuleName 2 _).mono ?_); rintro e wt ⟨rfl, gt⟩; rw [HNM.out])
      try go_wp2_with fail
      refine hK.out _ _ ?_ (fun hHeld => ?_)
      · ((try dsimp only); (first | (with_reducible exact HALL.out _ (by (repeat (first | assumption | exact Bel.refl _ | apply Bel.drewN | apply Bel.drew | apply Bel.alloc | refine Bel.trans ?_ (by assumption))))) | exact HALL.out _ (by (repeat (first | assumption | exact Bel.refl _ | apply Bel.drewN | apply Bel.drew | apply Bel.alloc | refine Bel.trans ?_ (by assumption))))))
      clear hK K
      try walk_nrm
      refine wpAnyH_ready (rs := [5]) (by kernel_rfl) (by simp) ?_
      refine AllReadyH.cons rfl (fun K hK => ?_) AllReadyH.nil
      · go_simp
        (go_at_call 39; (with_reducible refine (iFormatInt_any (x : Int) _ (tabIs_bel HTB.out (by (repeat (first | assumption | exact Bel.refl _ | apply Bel.drewN | apply Bel.drew | apply Bel.alloc | refine Bel.trans ?_ (by assumption)))))).mono ?_); rintro e wt ⟨rfl, gt⟩; rw [HFA.out])
        try go_wp2_with fail
        refine hK.out _ _ ?_ (fun hHeld => ?_)
        · ((try dsimp only); (first | (with_reducible exact HALL.out _ (by (repeat (first | assumption | exact Bel.refl _ | apply Bel.drewN | apply Bel.drew | apply Bel.alloc | refine Bel.trans ?_ (by assumption))))) | exact HALL.out _ (by (repeat (first | assumption | exact Bel.refl _ | apply Bel.drewN | apply Bel.drew | apply Bel.alloc | refine Bel.trans ?_ (by assumption))))))
        clear hK K
        try walk_nrm
        refine wpAnyH_ready (rs := [6]) (by kernel_rfl) (by simp) ?_
        refine AllReadyH.cons rfl (fun K hK => ?_) AllReadyH.nil
        · go_simp
          refine hK.out _ _ ?_ (fun hHeld => ?_)
          · ((try dsimp only); (first | (with_reducible exact HALL.out _ (by (repeat (first | assumption | exact Bel.refl _ | apply Bel.drewN | apply Bel.drew | apply Bel.alloc | refine Bel.trans ?_ (by assumption))))) | exact HALL.out _ (by (repeat (first | assumption | exact Bel.refl _ | apply Bel.drewN | apply Bel.drew | apply Bel.alloc | refine Bel.trans ?_ (by assumption))))))
          clear hK K
          try walk_nrm
          refine wpAnyH_take (i := 7) (v := ?_) rfl (by kernel_rfl) (by kernel_rfl) (by kernel_rfl) (fun _ _ _ h => h) (Or.inl ⟨by rfl, ?_⟩) (by assumption) ?_
          rotate_left
          · (intro w hSw; (try dsimp only at hSw); go_simp <;> with_reducible rfl)
          try walk_nrm
          refine wpAnyH_done (by kernel_rfl) ?_ _
          obtain ⟨W2, hW2⟩ : ∃ X, X = wt.alloc (.cells #[.string nm, .string fa] 9) := ⟨_, rfl⟩
          rw [← hW2]
          have HB2 := Lib.hid (show Blk W2 wt.heap.size 9 ([nm, fa].map Value.string) from by rw [hW2]; exact Blk.new' _ rfl)
          have G2 : Bel w1 W2 := by rw [hW2]; (repeat (first | assumption | exact Bel.refl _ | apply Bel.drewN | apply Bel.drew | apply Bel.alloc | refine Bel.trans ?_ (by assumption)))
          have hg1 : w1.heap.size ≤ wt.heap.size := Bel.size (by (repeat (first | assumption | exact Bel.refl _ | apply Bel.drewN | apply Bel.drew | apply Bel.alloc | refine Bel.trans ?_ (by assumption))))
          have hg2 := HB2.out.lt
          clear hW2 gt
          obtain ⟨d0, d1, d2, d3⟩ := HALL.out W2 G2
          generalize wt.heap.size = g at *
          have f1 := HB2.out.frozen 1
          have s1 := HB2.out.cellv (j := 1) (by simp)
          simp only [List.map_cons, List.map_nil, List.getElem_cons_zero, List.getElem_cons_succ] at s1
          go_wp2_with fail
          have HB3 := Lib.hid (HB2.out.set 1 (.string an))
          have G3 := Below.trans G2 ((Below.refl w1.heap.size W2).setCell (p := ⟨g, 1, none⟩) (by simpa using hg1) (.string an))
          have hg3 := HB3.out.lt
          refine (iJoin_any _ [nm, an] _ (New w _) _ (strs_blk (xs := [nm, an]) HB3.out ⟨by omega, hg3⟩ (fun q hq => Nat.le_trans (HSZ.out q hq) (by decide)) (by simp [maxLen])) (fun b hb => hb.2) HSZ.out (by decide) (by simp)).mono ?_
          rintro e wj ⟨rfl, gj⟩
          go_wp2_with fail
          go_ret
          exact ⟨ret_str HF.out.symm, by (repeat (first | assumption | exact Bel.refl _ | apply Bel.drewN | apply Bel.drew | apply Bel.alloc | refine Bel.trans ?_ (by assumption)))⟩
  · have HF := Lib.hid (show fmtRuleV p (3, a, b, c) = joinB [ruleNameF 3, fmtV a, fmtV b] ⟨#[32]⟩ from by unfold fmtRuleV; rw [if_pos HRO.out]; rfl)
    have hznm : (ruleNameF 3).size ≤ 100 := by decide
    obtain ⟨nm, henm⟩ : ∃ X, ruleNameF 3 = X := ⟨_, rfl⟩
    rw [henm] at hznm HF
    have HNM := Lib.hid henm
    clear henm
    have hzfa := fmtV_size a
    obtain ⟨fa, hefa⟩ : ∃ X, fmtV a = X := ⟨_, rfl⟩
    rw [hefa] at hzfa HF
    have HFA := Lib.hid hefa
    clear hefa
    have hzfb := fmtV_size b
    obtain ⟨fb, hefb⟩ : ∃ X, fmtV b = X := ⟨_, rfl⟩
    rw [hefb] at hzfb HF
    have HFB := Lib.hid hefb
    clear hefb
    have HSZ := Lib.hid (show ∀ q ∈ [nm, fa, fb], q.size ≤ 1000 from by intro q hq; simp at hq; rcases hq with rfl | rfl | rfl <;> omega)
    have HALL := Lib.hid (show ∀ W, Bel w1 W → W.cell? ⟨w.heap.size + 1, 0, none⟩ = some (.int .i64 3) ∧ W.cell? ⟨w.heap.size + 1, 1, none⟩ = some (.int .i64 a) ∧ W.cell? ⟨w.heap.size + 1, 2, none⟩ = some (.int .i64 b) from fun W hW => ⟨hW.cell (g1.cell (by simp [go_sem])), hW.cell (g1.cell (by simp [go_sem])), hW.cell (g1.cell (by simp [go_sem]))⟩)
    have G11 := Bel.refl w1
    clear g1
    obtain ⟨d0, d1, d2⟩ := HALL.out w1 G11
    go_upto_region 3 with (fail)
    refine wp_region_held_drew (S := (fun W => W.cell? ⟨w.heap.size + 1, 0, none⟩ = some (.int .i64 3) ∧ W.cell? ⟨w.heap.size + 1, 1, none⟩ = some (.int .i64 a) ∧ W.cell? ⟨w.heap.size + 1, 2, none⟩ = some (.int .i64 b))) (by kernel_rfl) ?_ (fun hHeld => ?_)
    · ((try dsimp only); (first | (with_reducible exact HALL.out _ (by (repeat (first | assumption | exact Bel.refl _ | apply Bel.drewN | apply Bel.drew | apply Bel.alloc | refine Bel.trans ?_ (by assumption))))) | exact HALL.out _ (by (repeat (first | assumption | exact Bel.refl _ | apply Bel.drewN | apply Bel.drew | apply Bel.alloc | refine Bel.trans ?_ (by assumption))))))
    refine wpAnyH_take (i := 0) (v := ?_) rfl (by kernel_rfl) (by kernel_rfl) (by kernel_rfl) (fun _ _ _ h => h) (Or.inl ⟨by rfl, ?_⟩) (by assumption) ?_
    rotate_left
    · (intro w hSw; (try dsimp only at hSw); go_simp <;> with_reducible rfl)
    try walk_nrm
    refine wpAnyH_take (i := 1) (v := ?_) rfl (by kernel_rfl) (by kernel_rfl) (by kernel_rfl) (fun _ _ _ h => h) (Or.inl ⟨by rfl, ?_⟩) (by assumption) ?_
    rotate_left
    · (intro w hSw; (try dsimp only at hSw); go_simp <;> with_reducible rfl)
    try walk_nrm
    refine wpAnyH_take (i := 3) (v := ?_) rfl (by kernel_rfl) (by kernel_rfl) (by kernel_rfl) (fun _ _ _ h => h) (Or.inl ⟨by rfl, ?_⟩) (by assumption) ?_
    rotate_left
    · (intro w hSw; (try dsimp only at hSw); go_simp <;> with_reducible rfl)
    try walk_nrm
    refine wpAnyH_take (i := 4) (v := ?_) rfl (by kernel_rfl) (by kernel_rfl) (by kernel_rfl) (fun _ _ _ h => h) (Or.inl ⟨by rfl, ?_⟩) (by assumption) ?_
    rotate_left
    · (intro w hSw; (try dsimp only at hSw); go_simp <;> with_reducible rfl)
    try walk_nrm
    refine wpAnyH_ready (rs := [2]) (by kernel_rfl) (by simp) ?_
    refine AllReadyH.cons rfl (fun K hK => ?_) AllReadyH.nil
    · go_simp
      (go_at_call 38; (with_reducible refine (iRuleName 3 _).mono ?_); rintro e wt ⟨rfl, gt⟩; rw [HNM.out])
      try go_wp2_with fail
      refine hK.out _ _ ?_ (fun hHeld => ?_)
      · ((try dsimp only); (first | (with_reducible exact HALL.out _ (by (repeat (first | assumption | exact Bel.refl _ | apply Bel.drewN | apply Bel.drew | apply Bel.alloc | refine Bel.trans ?_ (by assumption))))) | exact HALL.out _ (by (repeat (first | assumption | exact Bel.refl _ | apply Bel.drewN | apply Bel.drew | apply Bel.alloc | refine Bel.trans ?_ (by assumption))))))
      clear hK K
      try walk_nrm
      refine wpAnyH_ready (rs := [5]) (by kernel_rfl) (by simp) ?_
      refine AllReadyH.cons rfl (fun K hK => ?_) AllReadyH.nil
      · go_simp
        (go_at_call 39; (with_reducible refine (iFormatInt_any a _ (tabIs_bel HTB.out (by (repeat (first | assumption | exact Bel.refl _ | apply Bel.drewN | apply Bel.drew | apply Bel.alloc | refine Bel.trans ?_ (by assumption)))))).mono ?_); rintro e wt ⟨rfl, gt⟩; rw [HFA.out])
        try go_wp2_with fail
        refine hK.out _ _ ?_ (fun hHeld => ?_)
        · ((try dsimp only); (first | (with_reducible exact HALL.out _ (by (repeat (first | assumption | exact Bel.refl _ | apply Bel.drewN | apply Bel.drew | apply Bel.alloc | refine Bel.trans ?_ (by assumption))))) | exact HALL.out _ (by (repeat (first | assumption | exact Bel.refl _ | apply Bel.drewN | apply Bel.drew | apply Bel.alloc | refine Bel.trans ?_ (by assumption))))))
        clear hK K
        try walk_nrm
        refine wpAnyH_ready (rs := [6]) (by kernel_rfl) (by simp) ?_
        refine AllReadyH.cons rfl (fun K hK => ?_) AllReadyH.nil
        · go_simp
          refine hK.out _ _ ?_ (fun hHeld => ?_)
          · ((try dsimp only); (first | (with_reducible exact HALL.out _ (by (repeat (first | assumption | exact Bel.refl _ | apply Bel.drewN | apply Bel.drew | apply Bel.alloc | refine Bel.trans ?_ (by assumption))))) | exact HALL.out _ (by (repeat (first | assumption | exact Bel.refl _ | apply Bel.drewN | apply Bel.drew | apply Bel.alloc | refine Bel.trans ?_ (by assumption))))))
          clear hK K
          try walk_nrm
          refine wpAnyH_take (i := 7) (v := ?_) rfl (by kernel_rfl) (by kernel_rfl) (by kernel_rfl) (fun _ _ _ h => h) (Or.inl ⟨by rfl, ?_⟩) (by assumption) ?_
          rotate_left
          · (intro w hSw; (try dsimp only at hSw); go_simp <;> with_reducible rfl)
          try walk_nrm
          refine wpAnyH_done (by kernel_rfl) ?_ _
          obtain ⟨W2, hW2⟩ : ∃ X, X = wt.alloc (.cells #[.string nm, .string fa] 9) := ⟨_, rfl⟩
          rw [← hW2]
          have HB2 := Lib.hid (show Blk W2 wt.heap.size 9 ([nm, fa].map Value.string) from by rw [hW2]; exact Blk.new' _ rfl)
          have G2 : Bel w1 W2 := by rw [hW2]; (repeat (first | assumption | exact Bel.refl _ | apply Bel.drewN | apply Bel.drew | apply Bel.alloc | refine Bel.trans ?_ (by assumption)))
          have hg1 : w1.heap.size ≤ wt.heap.size := Bel.size (by (repeat (first | assumption | exact Bel.refl _ | apply Bel.drewN | apply Bel.drew | apply Bel.alloc | refine Bel.trans ?_ (by assumption))))
          have hg2 := HB2.out.lt
          clear hW2 gt
          obtain ⟨d0, d1, d2⟩ := HALL.out W2 G2
          generalize wt.heap.size = g at *
          go_wp2_with (first | (go_at_call 39; (with_reducible refine (iFormatInt_any b _ (tabIs_bel HTB.out (by (repeat (first | assumption | exact Bel.refl _ | apply Bel.drewN | apply Bel.drew | apply Bel.alloc | refine Bel.trans ?_ (by assumption)))))).mono ?_); rintro e wt ⟨rfl, gt⟩; rw [HFB.out]) | (at_builtin; refine wpList_strs rfl _ _ 64 rfl Tryz.underlying64 (by kernel_rfl) g 9 [nm, fa] [fb] [nm, fa, fb] 3 rfl rfl rfl (HB2.out.bel (by (repeat (first | assumption | exact Bel.refl _ | apply Bel.drewN | apply Bel.drew | apply Bel.alloc | refine Bel.trans ?_ (by assumption))))) _ 9 rfl (show Blk _ _ _ _ from alloc_at (by first | rfl | (simp; done))) (by simp) (by simp) (fun q hq => Nat.le_trans (HSZ.out q hq) (by decide)) ?_; intro pz cz wA hST gA))
          have HST := Lib.hid hST
          clear hST
          have hzw := Bel.size (show Bel w1 wA from by (repeat (first | assumption | exact Bel.refl _ | apply Bel.drewN | apply Bel.drew | apply Bel.alloc | refine Bel.trans ?_ (by assumption))))
          go_wp2_with fail
          refine (iJoin_any _ [nm, fa, fb] _ (New w wA) _ (strsR_good.mono HST.out (fun b hb => ⟨Nat.le_trans hsw1 (Nat.le_trans (Bel.size (w := w1) (by (repeat (first | assumption | exact Bel.refl _ | apply Bel.drewN | apply Bel.drew | apply Bel.alloc | refine Bel.trans ?_ (by assumption))))) hb.1), hb.2⟩)) (fun b hb => hb.2) HSZ.out (by decide) (by simp)).mono ?_
          rintro e wj ⟨rfl, gj⟩
          go_wp2_with fail
          go_ret
          exact ⟨ret_str HF.out.symm, by (repeat (first | assumption | exact Bel.refl _ | apply Bel.drewN | apply Bel.drew | apply Bel.alloc | refine Bel.trans ?_ (by assumption)))⟩
  · have HF := Lib.hid (show fmtRuleV p (4, a, b, c) = joinB [ruleNameF 4, fmtV a, fmtV b, fmtV c] ⟨#[32]⟩ from by unfold fmtRuleV; rw [if_pos HRO.out]; rfl)
    have hznm : (ruleNameF 4).size ≤ 100 := by decide
    obtain ⟨nm, henm⟩ : ∃ X, ruleNameF 4 = X := ⟨_, rfl⟩
    rw [henm] at hznm HF
    have HNM := Lib.hid henm
    clear henm
    have hzfa := fmtV_size a
    obtain ⟨fa, hefa⟩ : ∃ X, fmtV a = X := ⟨_, rfl⟩
    rw [hefa] at hzfa HF
    have HFA := Lib.hid hefa
    clear hefa
    have hzfb := fmtV_size b
    obtain ⟨fb, hefb⟩ : ∃ X, fmtV b = X := ⟨_, rfl⟩
    rw [hefb] at hzfb HF
    have HFB := Lib.hid hefb
    clear hefb
    have hzfc := fmtV_size c
    obtain ⟨fc, hefc⟩ : ∃ X, fmtV c = X := ⟨_, rfl⟩
    rw [hefc] at hzfc HF
    have HFC := Lib.hid hefc
    clear hefc
    have HSZ := Lib.hid (show ∀ q ∈ [nm, fa, fb, fc], q.size ≤ 1000 from by intro q hq; simp at hq; rcases hq with rfl | rfl | rfl | rfl <;> omega)
    have HALL := Lib.hid (show ∀ W, Bel w1 W → W.cell? ⟨w.heap.size + 1, 0, none⟩ = some (.int .i64 4) ∧ W.cell? ⟨w.heap.size + 1, 1, none⟩ = some (.int .i64 a) ∧ W.cell? ⟨w.heap.size + 1, 2, none⟩ = some (.int .i64 b) ∧ W.cell? ⟨w.heap.size + 1, 3, none⟩ = some (.int .i64 c) from fun W hW => ⟨hW.cell (g1.cell (by simp [go_sem])), hW.cell (g1.cell (by simp [go_sem])), hW.cell (g1.cell (by simp [go_sem])), hW.cell (g1.cell (by simp [go_sem]))⟩)
    have G11 := Bel.refl w1
    clear g1
    obtain ⟨d0, d1, d2, d3⟩ := HALL.out w1 G11
    go_upto_region 3 with (fail)
    refine wp_region_held_drew (S := (fun W => W.cell? ⟨w.heap.size + 1, 0, none⟩ = some (.int .i64 4) ∧ W.cell? ⟨w.heap.size + 1, 1, none⟩ = some (.int .i64 a) ∧ W.cell? ⟨w.heap.size + 1, 2, none⟩ = some (.int .i64 b) ∧ W.cell? ⟨w.heap.size + 1, 3, none⟩ = some (.int .i64 c))) (by kernel_rfl) ?_ (fun hHeld => ?_)
    · ((try dsimp only); (first | (with_reducible exact HALL.out _ (by (repeat (first | assumption | exact Bel.refl _ | apply Bel.drewN | apply Bel.drew | apply Bel.alloc | refine Bel.trans ?_ (by assumption))))) | exact HALL.out _ (by (repeat (first | assumption | exact Bel.refl _ | apply Bel.drewN | apply Bel.drew | apply Bel.alloc | refine Bel.trans ?_ (by assumption))))))
    refine wpAnyH_take (i := 0) (v := ?_) rfl (by kernel_rfl) (by kernel_rfl) (by kernel_rfl) (fun _ _ _ h => h) (Or.inl ⟨by rfl, ?_⟩) (by assumption) ?_
    rotate_left
    · (intro w hSw; (try dsimp only at hSw); go_simp <;> with_reducible rfl)
    try walk_nrm
    refine wpAnyH_take (i := 1) (v := ?_) rfl (by kernel_rfl) (by kernel_rfl) (by kernel_rfl) (fun _ _ _ h => h) (Or.inl ⟨by rfl, ?_⟩) (by assumption) ?_
    rotate_left
    · (intro w hSw; (try dsimp only at hSw); go_simp <;> with_reducible rfl)
    try walk_nrm
    refine wpAnyH_take (i := 3) (v := ?_) rfl (by kernel_rfl) (by kernel_rfl) (by kernel_rfl) (fun _ _ _ h => h) (Or.inl ⟨by rfl, ?_⟩) (by assumption) ?_
    rotate_left
    · (intro w hSw; (try dsimp only at hSw); go_simp <;> with_reducible rfl)
    try walk_nrm
    refine wpAnyH_take (i := 4) (v := ?_) rfl (by kernel_rfl) (by kernel_rfl) (by kernel_rfl) (fun _ _ _ h => h) (Or.inl ⟨by rfl, ?_⟩) (by assumption) ?_
    rotate_left
    · (intro w hSw; (try dsimp only at hSw); go_simp <;> with_reducible rfl)
    try walk_nrm
    refine wpAnyH_ready (rs := [2]) (by kernel_rfl) (by simp) ?_
    refine AllReadyH.cons rfl (fun K hK => ?_) AllReadyH.nil
    · go_simp
      (go_at_call 38; (with_reducible refine (iRuleName 4 _).mono ?_); rintro e wt ⟨rfl, gt⟩; rw [HNM.out])
      try go_wp2_with fail
      refine hK.out _ _ ?_ (fun hHeld => ?_)
      · ((try dsimp only); (first | (with_reducible exact HALL.out _ (by (repeat (first | assumption | exact Bel.refl _ | apply Bel.drewN | apply Bel.drew | apply Bel.alloc | refine Bel.trans ?_ (by assumption))))) | exact HALL.out _ (by (repeat (first | assumption | exact Bel.refl _ | apply Bel.drewN | apply Bel.drew | apply Bel.alloc | refine Bel.trans ?_ (by assumption))))))
      clear hK K
      try walk_nrm
      refine wpAnyH_ready (rs := [5]) (by kernel_rfl) (by simp) ?_
      refine AllReadyH.cons rfl (fun K hK => ?_) AllReadyH.nil
      · go_simp
        (go_at_call 39; (with_reducible refine (iFormatInt_any a _ (tabIs_bel HTB.out (by (repeat (first | assumption | exact Bel.refl _ | apply Bel.drewN | apply Bel.drew | apply Bel.alloc | refine Bel.trans ?_ (by assumption)))))).mono ?_); rintro e wt ⟨rfl, gt⟩; rw [HFA.out])
        try go_wp2_with fail
        refine hK.out _ _ ?_ (fun hHeld => ?_)
        · ((try dsimp only); (first | (with_reducible exact HALL.out _ (by (repeat (first | assumption | exact Bel.refl _ | apply Bel.drewN | apply Bel.drew | apply Bel.alloc | refine Bel.trans ?_ (by assumption))))) | exact HALL.out _ (by (repeat (first | assumption | exact Bel.refl _ | apply Bel.drewN | apply Bel.drew | apply Bel.alloc | refine Bel.trans ?_ (by assumption))))))
        clear hK K
        try walk_nrm
        refine wpAnyH_ready (rs := [6]) (by kernel_rfl) (by simp) ?_
        refine AllReadyH.cons rfl (fun K hK => ?_) AllReadyH.nil
        · go_simp
          refine hK.out _ _ ?_ (fun hHeld => ?_)
          · ((try dsimp only); (first | (with_reducible exact HALL.out _ (by (repeat (first | assumption | exact Bel.refl _ | apply Bel.drewN | apply Bel.drew | apply Bel.alloc | refine Bel.trans ?_ (by assumption))))) | exact HALL.out _ (by (repeat (first | assumption | exact Bel.refl _ | apply Bel.drewN | apply Bel.drew | apply Bel.alloc | refine Bel.trans ?_ (by assumption))))))
          clear hK K
          try walk_nrm
          refine wpAnyH_take (i := 7) (v := ?_) rfl (by kernel_rfl) (by kernel_rfl) (by kernel_rfl) (fun _ _ _ h => h) (Or.inl ⟨by rfl, ?_⟩) (by assumption) ?_
          rotate_left
          · (intro w hSw; (try dsimp only at hSw); go_simp <;> with_reducible rfl)
          try walk_nrm
          refine wpAnyH_done (by kernel_rfl) ?_ _
          obtain ⟨W2, hW2⟩ : ∃ X, X = wt.alloc (.cells #[.string nm, .string fa] 9) := ⟨_, rfl⟩
          rw [← hW2]
          have HB2 := Lib.hid (show Blk W2 wt.heap.size 9 ([nm, fa].map Value.string) from by rw [hW2]; exact Blk.new' _ rfl)
          have G2 : Bel w1 W2 := by rw [hW2]; (repeat (first | assumption | exact Bel.refl _ | apply Bel.drewN | apply Bel.drew | apply Bel.alloc | refine Bel.trans ?_ (by assumption)))
          have hg1 : w1.heap.size ≤ wt.heap.size := Bel.size (by (repeat (first | assumption | exact Bel.refl _ | apply Bel.drewN | apply Bel.drew | apply Bel.alloc | refine Bel.trans ?_ (by assumption))))
          have hg2 := HB2.out.lt
          clear hW2 gt
          obtain ⟨d0, d1, d2, d3⟩ := HALL.out W2 G2
          generalize wt.heap.size = g at *
          go_upto_region 10 with (fail)
          refine wp_region_held_drew (S := (fun W => W.cell? ⟨w.heap.size + 1, 0, none⟩ = some (.int .i64 4) ∧ W.cell? ⟨w.heap.size + 1, 1, none⟩ = some (.int .i64 a) ∧ W.cell? ⟨w.heap.size + 1, 2, none⟩ = some (.int .i64 b) ∧ W.cell? ⟨w.heap.size + 1, 3, none⟩ = some (.int .i64 c))) (by kernel_rfl) ?_ (fun hHeld => ?_)
          · ((try dsimp only); (first | (with_reducible exact HALL.out _ (by (repeat (first | assumption | exact Bel.refl _ | apply Bel.drewN | apply Bel.drew | apply Bel.alloc | refine Bel.trans ?_ (by assumption))))) | exact HALL.out _ (by (repeat (first | assumption | exact Bel.refl _ | apply Bel.drewN | apply Bel.drew | apply Bel.alloc | refine Bel.trans ?_ (by assumption))))))
          refine wpAnyH_take (i := 0) (v := ?_) rfl (by kernel_rfl) (by kernel_rfl) (by kernel_rfl) (fun _ _ _ h => h) (Or.inl ⟨by rfl, ?_⟩) (by assumption) ?_
          rotate_left
          · (intro w hSw; (try dsimp only at hSw); go_simp <;> with_reducible rfl)
          try walk_nrm
          refine wpAnyH_take (i := 1) (v := ?_) rfl (by kernel_rfl) (by kernel_rfl) (by kernel_rfl) (fun _ _ _ h => h) (Or.inl ⟨by rfl, ?_⟩) (by assumption) ?_
          rotate_left
          · (intro w hSw; (try dsimp only at hSw); go_simp <;> with_reducible rfl)
          try walk_nrm
          refine wpAnyH_take (i := 2) (v := ?_) rfl (by kernel_rfl) (by kernel_rfl) (by kernel_rfl) (fun _ _ _ h => h) (Or.inl ⟨by rfl, ?_⟩) (by assumption) ?_
          rotate_left
          · (intro w hSw; (try dsimp only at hSw); go_simp <;> with_reducible rfl)
          try walk_nrm
          refine wpAnyH_take (i := 4) (v := ?_) rfl (by kernel_rfl) (by kernel_rfl) (by kernel_rfl) (fun _ _ _ h => h) (Or.inl ⟨by rfl, ?_⟩) (by assumption) ?_
          rotate_left
          · (intro w hSw; (try dsimp only at hSw); go_simp <;> with_reducible rfl)
          try walk_nrm
          refine wpAnyH_take (i := 5) (v := ?_) rfl (by kernel_rfl) (by kernel_rfl) (by kernel_rfl) (fun _ _ _ h => h) (Or.inl ⟨by rfl, ?_⟩) (by assumption) ?_
          rotate_left
          · (intro w hSw; (try dsimp only at hSw); go_simp <;> with_reducible rfl)
          try walk_nrm
          refine wpAnyH_ready (rs := [3]) (by kernel_rfl) (by simp) ?_
          refine AllReadyH.cons rfl (fun K hK => ?_) AllReadyH.nil
          · go_simp
            (go_at_call 39; (with_reducible refine (iFormatInt_any b _ (tabIs_bel HTB.out (by (repeat (first | assumption | exact Bel.refl _ | apply Bel.drewN | apply Bel.drew | apply Bel.alloc | refine Bel.trans ?_ (by assumption)))))).mono ?_); rintro e wu ⟨rfl, gu⟩; rw [HFB.out])
            try go_wp2_with fail
            refine hK.out _ _ ?_ (fun hHeld => ?_)
            · ((try dsimp only); (first | (with_reducible exact HALL.out _ (by (repeat (first | assumption | exact Bel.refl _ | apply Bel.drewN | apply Bel.drew | apply Bel.alloc | refine Bel.trans ?_ (by assumption))))) | exact HALL.out _ (by (repeat (first | assumption | exact Bel.refl _ | apply Bel.drewN | apply Bel.drew | apply Bel.alloc | refine Bel.trans ?_ (by assumption))))))
            clear hK K
            try walk_nrm
            refine wpAnyH_ready (rs := [6]) (by kernel_rfl) (by simp) ?_
            refine AllReadyH.cons rfl (fun K hK => ?_) AllReadyH.nil
            · go_simp
              (go_at_call 39; (with_reducible refine (iFormatInt_any c _ (tabIs_bel HTB.out (by (repeat (first | assumption | exact Bel.refl _ | apply Bel.drewN | apply Bel.drew | apply Bel.alloc | refine Bel.trans ?_ (by assumption)))))).mono ?_); rintro e wv ⟨rfl, gv⟩; rw [HFC.out])
              try go_wp2_with fail
              refine hK.out _ _ ?_ (fun hHeld => ?_)
              · ((try dsimp only); (first | (with_reducible exact HALL.out _ (by (repeat (first | assumption | exact Bel.refl _ | apply Bel.drewN | apply Bel.drew | apply Bel.alloc | refine Bel.trans ?_ (by assumption))))) | exact HALL.out _ (by (repeat (first | assumption | exact Bel.refl _ | apply Bel.drewN | apply Bel.drew | apply Bel.alloc | refine Bel.trans ?_ (by assumption))))))
              clear hK K
              try walk_nrm
              refine wpAnyH_ready (rs := [7]) (by kernel_rfl) (by simp) ?_
              refine AllReadyH.cons rfl (fun K hK => ?_) AllReadyH.nil
              · go_simp
                refine hK.out _ _ ?_ (fun hHeld => ?_)
                · ((try dsimp only); (first | (with_reducible exact HALL.out _ (by (repeat (first | assumption | exact Bel.refl _ | apply Bel.drewN | apply Bel.drew | apply Bel.alloc | refine Bel.trans ?_ (by assumption))))) | exact HALL.out _ (by (repeat (first | assumption | exact Bel.refl _ | apply Bel.drewN | apply Bel.drew | apply Bel.alloc | refine Bel.trans ?_ (by assumption))))))
                clear hK K
                try walk_nrm
                refine wpAnyH_ready (rs := [8]) (by kernel_rfl) (by simp) ?_
                refine AllReadyH.cons rfl (fun K hK => ?_) AllReadyH.nil
                · (refine step_strs (o := ⟨some 48, _, _, _, _, _⟩) rfl _ _ 64 rfl Tryz.underlying64 (by kernel_rfl) g 9 [nm, fa] [fb, fc] [nm, fa, fb, fc] 4 rfl rfl rfl (HB2.out.bel (by (repeat (first | assumption | exact Bel.refl _ | apply Bel.drewN | apply Bel.drew | apply Bel.alloc | refine Bel.trans ?_ (by assumption))))) _ 9 rfl (show Blk _ _ _ _ from alloc_at (by first | rfl | (simp; done))) (by simp) (by simp) (fun q hq => Nat.le_trans (HSZ.out q hq) (by decide)) ?_; intro pz cz wA hST gA)
                  refine hK.out _ _ ?_ (fun hHeld => ?_)
                  · ((try dsimp only); (first | (with_reducible exact HALL.out _ (by (repeat (first | assumption | exact Bel.refl _ | apply Bel.drewN | apply Bel.drew | apply Bel.alloc | refine Bel.trans ?_ (by assumption))))) | exact HALL.out _ (by (repeat (first | assumption | exact Bel.refl _ | apply Bel.drewN | apply Bel.drew | apply Bel.alloc | refine Bel.trans ?_ (by assumption))))))
                  clear hK K
                  try walk_nrm
                  refine wpAnyH_take (i := 9) (v := ?_) rfl (by kernel_rfl) (by kernel_rfl) (by kernel_rfl) (fun _ _ _ h => h) (Or.inl ⟨by rfl, ?_⟩) (by assumption) ?_
                  rotate_left
                  · (intro w hSw; (try dsimp only at hSw); go_simp <;> with_reducible rfl)
                  try walk_nrm
                  refine wpAnyH_done (by kernel_rfl) ?_ _
                  have HST := Lib.hid hST
                  clear hST
                  have hzw := Bel.size (show Bel w1 wA from by (repeat (first | assumption | exact Bel.refl _ | apply Bel.drewN | apply Bel.drew | apply Bel.alloc | refine Bel.trans ?_ (by assumption))))
                  go_wp2_with fail
                  refine (iJoin_any _ [nm, fa, fb, fc] _ (New w wA) _ (strsR_good.mono HST.out (fun b hb => ⟨Nat.le_trans hsw1 (Nat.le_trans (Bel.size (w := w1) (by (repeat (first | assumption | exact Bel.refl _ | apply Bel.drewN | apply Bel.drew | apply Bel.alloc | refine Bel.trans ?_ (by assumption))))) hb.1), hb.2⟩)) (fun b hb => hb.2) HSZ.out (by decide) (by simp)).mono ?_
                  rintro e wj ⟨rfl, gj⟩
                  go_wp2_with fail
                  go_ret
                  exact ⟨ret_str HF.out.symm, by (repeat (first | assumption | exact Bel.refl _ | apply Bel.drewN | apply Bel.drew | apply Bel.alloc | refine Bel.trans ?_ (by assumption)))⟩
  · obtain ⟨ab, ao, acsbn, hbns, arowbn, aelbn⟩ := sliceR_at zAct Q1.out hy
    obtain ⟨ac2bn, rfl, aq0bn, -, -⟩ := actR_open aelbn
    have bne := (arowbn 0 (by simp)).1
    simp only [List.getElem_cons_zero, Nat.add_zero] at bne
    have hzbn := name_size hp hy
    have hyi : (y : Int) < (p.2.1.length : Int) := by omega
    obtain rfl : p1 = some ⟨ab, ao, none⟩ := hbns
    clear arowbn aelbn aq0bn
    obtain ⟨abcn, aocn, acscn, hcns, arowcn, aelcn⟩ := sliceR_at zAct Q1.out hz
    obtain ⟨ac2cn, rfl, aq0cn, -, -⟩ := actR_open aelcn
    have cne := (arowcn 0 (by simp)).1
    simp only [List.getElem_cons_zero, Nat.add_zero] at cne
    have hzcn := name_size hp hz
    have hzi : (z : Int) < (p.2.1.length : Int) := by omega
    obtain ⟨rfl, rfl⟩ : ab = abcn ∧ ao = aocn := by simpa [sliceAt] using hcns
    clear arowcn aelcn aq0cn
    have HF := Lib.hid (show fmtRuleV p (5, a, (y : Int), (z : Int)) = joinB [ruleNameF 5, fmtV a, (p.2.1.getD y zAct).1, (p.2.1.getD z zAct).1] ⟨#[32]⟩ from by unfold fmtRuleV; rw [if_pos HRO.out]; rfl)
    have hznm : (ruleNameF 5).size ≤ 100 := by decide
    obtain ⟨nm, henm⟩ : ∃ X, ruleNameF 5 = X := ⟨_, rfl⟩
    rw [henm] at hznm HF
    have HNM := Lib.hid henm
    clear henm
    have hzfa := fmtV_size a
    obtain ⟨fa, hefa⟩ : ∃ X, fmtV a = X := ⟨_, rfl⟩
    rw [hefa] at hzfa HF
    have HFA := Lib.hid hefa
    clear hefa
    obtain ⟨bn, hebn⟩ : ∃ X, (p.2.1.getD y zAct).1 = X := ⟨_, rfl⟩
    rw [hebn] at hzbn bne HF
    clear hebn
    obtain ⟨cn, hecn⟩ : ∃ X, (p.2.1.getD z zAct).1 = X := ⟨_, rfl⟩
    rw [hecn] at hzcn cne HF
    clear hecn
    have HSZ := Lib.hid (show ∀ q ∈ [nm, fa, bn, cn], q.size ≤ 1000 from by intro q hq; simp at hq; rcases hq with rfl | rfl | rfl | rfl <;> omega)
    have HALL := Lib.hid (show ∀ W, Bel w1 W → W.cell? ⟨w.heap.size + 1, 0, none⟩ = some (.int .i64 5) ∧ W.cell? ⟨w.heap.size + 1, 1, none⟩ = some (.int .i64 a) ∧ W.cell? ⟨w.heap.size + 1, 2, none⟩ = some (.int .i64 (y : Int)) ∧ W.cell? ⟨w.heap.size + 1, 3, none⟩ = some (.int .i64 (z : Int)) ∧ W.cell? ⟨w.heap.size, 1, none⟩ = some (.slice (some ⟨ab, ao, none⟩) p.2.1.length k1) ∧ W.cell? ⟨ab, ao + y * 3, none⟩ = some (.string bn) ∧ W.cell? ⟨ab, ao + z * 3, none⟩ = some (.string cn) from fun W hW => ⟨hW.cell (g1.cell (by simp [go_sem])), hW.cell (g1.cell (by simp [go_sem])), hW.cell (g1.cell (by simp [go_sem])), hW.cell (g1.cell (by simp [go_sem])), hW.cell (g1.cell (by simp [go_sem])), (Bel.trans G hW).cell bne, (Bel.trans G hW).cell cne⟩)
    have G11 := Bel.refl w1
    clear g1
    clear bne cne
    obtain ⟨d0, d1, d2, d3, d4, d5, d6⟩ := HALL.out w1 G11
    go_upto_region 3 with (fail)
    refine wp_region_held_drew (S := (fun W => W.cell? ⟨w.heap.size + 1, 0, none⟩ = some (.int .i64 5) ∧ W.cell? ⟨w.heap.size + 1, 1, none⟩ = some (.int .i64 a) ∧ W.cell? ⟨w.heap.size + 1, 2, none⟩ = some (.int .i64 (y : Int)) ∧ W.cell? ⟨w.heap.size + 1, 3, none⟩ = some (.int .i64 (z : Int)) ∧ W.cell? ⟨w.heap.size, 1, none⟩ = some (.slice (some ⟨ab, ao, none⟩) p.2.1.length k1) ∧ W.cell? ⟨ab, ao + y * 3, none⟩ = some (.string bn) ∧ W.cell? ⟨ab, ao + z * 3, none⟩ = some (.string cn))) (by kernel_rfl) ?_ (fun hHeld => ?_)
    · ((try dsimp only); (first | (with_reducible exact HALL.out _ (by (repeat (first | assumption | exact Bel.refl _ | apply Bel.drewN | apply Bel.drew | apply Bel.alloc | refine Bel.trans ?_ (by assumption))))) | exact HALL.out _ (by (repeat (first | assumption | exact Bel.refl _ | apply Bel.drewN | apply Bel.drew | apply Bel.alloc | refine Bel.trans ?_ (by assumption))))))
    refine wpAnyH_take (i := 0) (v := ?_) rfl (by kernel_rfl) (by kernel_rfl) (by kernel_rfl) (fun _ _ _ h => h) (Or.inl ⟨by rfl, ?_⟩) (by assumption) ?_
    rotate_left
    · (intro w hSw; (try dsimp only at hSw); go_simp <;> with_reducible rfl)
    try walk_nrm
    refine wpAnyH_take (i := 1) (v := ?_) rfl (by kernel_rfl) (by kernel_rfl) (by kernel_rfl) (fun _ _ _ h => h) (Or.inl ⟨by rfl, ?_⟩) (by assumption) ?_
    rotate_left
    · (intro w hSw; (try dsimp only at hSw); go_simp <;> with_reducible rfl)
    try walk_nrm
    refine wpAnyH_take (i := 3) (v := ?_) rfl (by kernel_rfl) (by kernel_rfl) (by kernel_rfl) (fun _ _ _ h => h) (Or.inl ⟨by rfl, ?_⟩) (by assumption) ?_
    rotate_left
    · (intro w hSw; (try dsimp only at hSw); go_simp <;> with_reducible rfl)
    try walk_nrm
    refine wpAnyH_take (i := 4) (v := ?_) rfl (by kernel_rfl) (by kernel_rfl) (by kernel_rfl) (fun _ _ _ h => h) (Or.inl ⟨by rfl, ?_⟩) (by assumption) ?_
    rotate_left
    · (intro w hSw; (try dsimp only at hSw); go_simp <;> with_reducible rfl)
    try walk_nrm
    refine wpAnyH_ready (rs := [2]) (by kernel_rfl) (by simp) ?_
    refine AllReadyH.cons rfl (fun K hK => ?_) AllReadyH.nil
    · go_simp
      (go_at_call 38; (with_reducible refine (iRuleName 5 _).mono ?_); rintro e wt ⟨rfl, gt⟩; rw [HNM.out])
      try go_wp2_with fail
      refine hK.out _ _ ?_ (fun hHeld => ?_)
      · ((try dsimp only); (first | (with_reducible exact HALL.out _ (by (repeat (first | assumption | exact Bel.refl _ | apply Bel.drewN | apply Bel.drew | apply Bel.alloc | refine Bel.trans ?_ (by assumption))))) | exact HALL.out _ (by (repeat (first | assumption | exact Bel.refl _ | apply Bel.drewN | apply Bel.drew | apply Bel.alloc | refine Bel.trans ?_ (by assumption))))))
      clear hK K
      try walk_nrm
      refine wpAnyH_ready (rs := [5]) (by kernel_rfl) (by simp) ?_
      refine AllReadyH.cons rfl (fun K hK => ?_) AllReadyH.nil
      · go_simp
        (go_at_call 39; (with_reducible refine (iFormatInt_any a _ (tabIs_bel HTB.out (by (repeat (first | assumption | exact Bel.refl _ | apply Bel.drewN | apply Bel.drew | apply Bel.alloc | refine Bel.trans ?_ (by assumption)))))).mono ?_); rintro e wt ⟨rfl, gt⟩; rw [HFA.out])
        try go_wp2_with fail
        refine hK.out _ _ ?_ (fun hHeld => ?_)
        · ((try dsimp only); (first | (with_reducible exact HALL.out _ (by (repeat (first | assumption | exact Bel.refl _ | apply Bel.drewN | apply Bel.drew | apply Bel.alloc | refine Bel.trans ?_ (by assumption))))) | exact HALL.out _ (by (repeat (first | assumption | exact Bel.refl _ | apply Bel.drewN | apply Bel.drew | apply Bel.alloc | refine Bel.trans ?_ (by assumption))))))
        clear hK K
        try walk_nrm
        refine wpAnyH_ready (rs := [6]) (by kernel_rfl) (by simp) ?_
        refine AllReadyH.cons rfl (fun K hK => ?_) AllReadyH.nil
        · go_simp
          refine hK.out _ _ ?_ (fun hHeld => ?_)
          · ((try dsimp only); (first | (with_reducible exact HALL.out _ (by (repeat (first | assumption | exact Bel.refl _ | apply Bel.drewN | apply Bel.drew | apply Bel.alloc | refine Bel.trans ?_ (by assumption))))) | exact HALL.out _ (by (repeat (first | assumption | exact Bel.refl _ | apply Bel.drewN | apply Bel.drew | apply Bel.alloc | refine Bel.trans ?_ (by assumption))))))
          clear hK K
          try walk_nrm
          refine wpAnyH_take (i := 7) (v := ?_) rfl (by kernel_rfl) (by kernel_rfl) (by kernel_rfl) (fun _ _ _ h => h) (Or.inl ⟨by rfl, ?_⟩) (by assumption) ?_
          rotate_left
          · (intro w hSw; (try dsimp only at hSw); go_simp <;> with_reducible rfl)
          try walk_nrm
          refine wpAnyH_done (by kernel_rfl) ?_ _
          obtain ⟨W2, hW2⟩ : ∃ X, X = wt.alloc (.cells #[.string nm, .string fa] 9) := ⟨_, rfl⟩
          rw [← hW2]
          have HB2 := Lib.hid (show Blk W2 wt.heap.size 9 ([nm, fa].map Value.string) from by rw [hW2]; exact Blk.new' _ rfl)
          have G2 : Bel w1 W2 := by rw [hW2]; (repeat (first | assumption | exact Bel.refl _ | apply Bel.drewN | apply Bel.drew | apply Bel.alloc | refine Bel.trans ?_ (by assumption)))
          have hg1 : w1.heap.size ≤ wt.heap.size := Bel.size (by (repeat (first | assumption | exact Bel.refl _ | apply Bel.drewN | apply Bel.drew | apply Bel.alloc | refine Bel.trans ?_ (by assumption))))
          have hg2 := HB2.out.lt
          clear hW2 gt
          obtain ⟨d0, d1, d2, d3, d4, d5, d6⟩ := HALL.out W2 G2
          generalize wt.heap.size = g at *
          go_upto_region 12 with (fail)
          refine wp_region_held_drew (S := (fun W => W.cell? ⟨w.heap.size + 1, 0, none⟩ = some (.int .i64 5) ∧ W.cell? ⟨w.heap.size + 1, 1, none⟩ = some (.int .i64 a) ∧ W.cell? ⟨w.heap.size + 1, 2, none⟩ = some (.int .i64 (y : Int)) ∧ W.cell? ⟨w.heap.size + 1, 3, none⟩ = some (.int .i64 (z : Int)) ∧ W.cell? ⟨w.heap.size, 1, none⟩ = some (.slice (some ⟨ab, ao, none⟩) p.2.1.length k1) ∧ W.cell? ⟨ab, ao + y * 3, none⟩ = some (.string bn) ∧ W.cell? ⟨ab, ao + z * 3, none⟩ = some (.string cn))) (by kernel_rfl) ?_ (fun hHeld => ?_)
          · ((try dsimp only); (first | (with_reducible exact HALL.out _ (by (repeat (first | assumption | exact Bel.refl _ | apply Bel.drewN | apply Bel.drew | apply Bel.alloc | refine Bel.trans ?_ (by assumption))))) | exact HALL.out _ (by (repeat (first | assumption | exact Bel.refl _ | apply Bel.drewN | apply Bel.drew | apply Bel.alloc | refine Bel.trans ?_ (by assumption))))))
          refine wpAnyH_take (i := 0) (v := ?_) rfl (by kernel_rfl) (by kernel_rfl) (by kernel_rfl) (fun _ _ _ h => h) (Or.inl ⟨by rfl, ?_⟩) (by assumption) ?_
          rotate_left
          · (intro w hSw; (try dsimp only at hSw); go_simp <;> with_reducible rfl)
          try walk_nrm
          refine wpAnyH_take (i := 1) (v := ?_) rfl (by kernel_rfl) (by kernel_rfl) (by kernel_rfl) (fun _ _ _ h => h) (Or.inl ⟨by rfl, ?_⟩) (by assumption) ?_
          rotate_left
          · (intro w hSw; (try dsimp only at hSw); go_simp <;> with_reducible rfl)
          try walk_nrm
          refine wpAnyH_take (i := 2) (v := ?_) rfl (by kernel_rfl) (by kernel_rfl) (by kernel_rfl) (fun _ _ _ h => h) (Or.inl ⟨by rfl, ?_⟩) (by assumption) ?_
          rotate_left
          · (intro w hSw; (try dsimp only at hSw); go_simp <;> with_reducible rfl)
          try walk_nrm
          refine wpAnyH_take (i := 3) (v := ?_) rfl (by kernel_rfl) (by kernel_rfl) (by kernel_rfl) (fun _ _ _ h => h) (Or.inl ⟨by rfl, ?_⟩) (by assumption) ?_
          rotate_left
          · (intro w hSw; (try dsimp only at hSw); go_simp <;> with_reducible rfl)
          try walk_nrm
          refine wpAnyH_take (i := 4) (v := ?_) rfl (by kernel_rfl) (by kernel_rfl) (by kernel_rfl) (fun _ _ _ h => h) (Or.inl ⟨by rfl, ?_⟩) (by assumption) ?_
          rotate_left
          · (intro w hSw; (try dsimp only at hSw); go_simp <;> with_reducible rfl)
          try walk_nrm
          refine wpAnyH_take (i := 5) (v := ?_) rfl (by kernel_rfl) (by kernel_rfl) (by kernel_rfl) (fun _ _ _ h => h) (Or.inl ⟨by rfl, ?_⟩) (by assumption) ?_
          rotate_left
          · (intro w hSw; (try dsimp only at hSw); go_simp <;> with_reducible rfl)
          try walk_nrm
          refine wpAnyH_take (i := 6) (v := ?_) rfl (by kernel_rfl) (by kernel_rfl) (by kernel_rfl) (fun _ _ _ h => h) (Or.inl ⟨by rfl, ?_⟩) (by assumption) ?_
          rotate_left
          · (intro w hSw; (try dsimp only at hSw); go_simp <;> with_reducible rfl)
          try walk_nrm
          refine wpAnyH_take (i := 7) (v := ?_) rfl (by kernel_rfl) (by kernel_rfl) (by kernel_rfl) (fun _ _ _ h => h) (Or.inl ⟨by rfl, ?_⟩) (by assumption) ?_
          rotate_left
          · (intro w hSw; (try dsimp only at hSw); go_simp <;> with_reducible rfl)
          try walk_nrm
          refine wpAnyH_take (i := 8) (v := ?_) rfl (by kernel_rfl) (by kernel_rfl) (by kernel_rfl) (fun _ _ _ h => h) (Or.inl ⟨by rfl, ?_⟩) (by assumption) ?_
          rotate_left
          · (intro w hSw; (try dsimp only at hSw); go_simp <;> with_reducible rfl)
          try walk_nrm
          refine wpAnyH_take (i := 9) (v := ?_) rfl (by kernel_rfl) (by kernel_rfl) (by kernel_rfl) (fun _ _ _ h => h) (Or.inl ⟨by rfl, ?_⟩) (by assumption) ?_
          rotate_left
          · (intro w hSw; (try dsimp only at hSw); go_simp <;> with_reducible rfl)
          try walk_nrm
          refine wpAnyH_take (i := 10) (v := ?_) rfl (by kernel_rfl) (by kernel_rfl) (by kernel_rfl) (fun _ _ _ h => h) (Or.inl ⟨by rfl, ?_⟩) (by assumption) ?_
          rotate_left
          · (intro w hSw; (try dsimp only at hSw); go_simp <;> with_reducible rfl)
          try walk_nrm
          refine wpAnyH_take (i := 11) (v := ?_) rfl (by kernel_rfl) (by kernel_rfl) (by kernel_rfl) (fun _ _ _ h => h) (Or.inl ⟨by rfl, ?_⟩) (by assumption) ?_
          rotate_left
          · (intro w hSw; (try dsimp only at hSw); go_simp <;> with_reducible rfl)
          try walk_nrm
          refine wpAnyH_take (i := 12) (v := ?_) rfl (by kernel_rfl) (by kernel_rfl) (by kernel_rfl) (fun _ _ _ h => h) (Or.inl ⟨by rfl, ?_⟩) (by assumption) ?_
          rotate_left
          · (intro w hSw; (try dsimp only at hSw); go_simp <;> with_reducible rfl)
          try walk_nrm
          refine wpAnyH_take (i := 13) (v := ?_) rfl (by kernel_rfl) (by kernel_rfl) (by kernel_rfl) (fun _ _ _ h => h) (Or.inl ⟨by rfl, ?_⟩) (by assumption) ?_
          rotate_left
          · (intro w hSw; (try dsimp only at hSw); go_simp <;> with_reducible rfl)
          try walk_nrm
          refine wpAnyH_take (i := 14) (v := ?_) rfl (by kernel_rfl) (by kernel_rfl) (by kernel_rfl) (fun _ _ _ h => h) (Or.inl ⟨by rfl, ?_⟩) (by assumption) ?_
          rotate_left
          · (intro w hSw; (try dsimp only at hSw); go_simp <;> with_reducible rfl)
          try walk_nrm
          refine wpAnyH_ready (rs := [15]) (by kernel_rfl) (by simp) ?_
          refine AllReadyH.cons rfl (fun K hK => ?_) AllReadyH.nil
          · go_simp
            refine hK.out _ _ ?_ (fun hHeld => ?_)
            · ((try dsimp only); (first | (with_reducible exact HALL.out _ (by (repeat (first | assumption | exact Bel.refl _ | apply Bel.drewN | apply Bel.drew | apply Bel.alloc | refine Bel.trans ?_ (by assumption))))) | exact HALL.out _ (by (repeat (first | assumption | exact Bel.refl _ | apply Bel.drewN | apply Bel.drew | apply Bel.alloc | refine Bel.trans ?_ (by assumption))))))
            clear hK K
            try walk_nrm
            refine wpAnyH_ready (rs := [16]) (by kernel_rfl) (by simp) ?_
            refine AllReadyH.cons rfl (fun K hK => ?_) AllReadyH.nil
            · (refine step_strs (o := ⟨some 67, _, _, _, _, _⟩) rfl _ _ 64 rfl Tryz.underlying64 (by kernel_rfl) g 9 [nm, fa] [bn, cn] [nm, fa, bn, cn] 4 rfl rfl rfl (HB2.out.bel (by (repeat (first | assumption | exact Bel.refl _ | apply Bel.drewN | apply Bel.drew | apply Bel.alloc | refine Bel.trans ?_ (by assumption))))) _ 9 rfl (show Blk _ _ _ _ from alloc_at (by first | rfl | (simp; done))) (by simp) (by simp) (fun q hq => Nat.le_trans (HSZ.out q hq) (by decide)) ?_; intro pz cz wA hST gA)
              refine hK.out _ _ ?_ (fun hHeld => ?_)
              · ((try dsimp only); (first | (with_reducible exact HALL.out _ (by (repeat (first | assumption | exact Bel.refl _ | apply Bel.drewN | apply Bel.drew | apply Bel.alloc | refine Bel.trans ?_ (by assumption))))) | exact HALL.out _ (by (repeat (first | assumption | exact Bel.refl _ | apply Bel.drewN | apply Bel.drew | apply Bel.alloc | refine Bel.trans ?_ (by assumption))))))
              clear hK K
              try walk_nrm
              refine wpAnyH_take (i := 17) (v := ?_) rfl (by kernel_rfl) (by kernel_rfl) (by kernel_rfl) (fun _ _ _ h => h) (Or.inl ⟨by rfl, ?_⟩) (by assumption) ?_
              rotate_left
              · (intro w hSw; (try dsimp only at hSw); go_simp <;> with_reducible rfl)
              try walk_nrm
              refine wpAnyH_done (by kernel_rfl) ?_ _
              have HST := Lib.hid hST
              clear hST
              have hzw := Bel.size (show Bel w1 wA from by (repeat (first | assumption | exact Bel.refl _ | apply Bel.drewN | apply Bel.drew | apply Bel.alloc | refine Bel.trans ?_ (by assumption))))
              go_wp2_with fail
              refine (iJoin_any _ [nm, fa, bn, cn] _ (New w wA) _ (strsR_good.mono HST.out (fun b hb => ⟨Nat.le_trans hsw1 (Nat.le_trans (Bel.size (w := w1) (by (repeat (first | assumption | exact Bel.refl _ | apply Bel.drewN | apply Bel.drew | apply Bel.alloc | refine Bel.trans ?_ (by assumption))))) hb.1), hb.2⟩)) (fun b hb => hb.2) HSZ.out (by decide) (by simp)).mono ?_
              rintro e wj ⟨rfl, gj⟩
              go_wp2_with fail
              go_ret
              exact ⟨ret_str HF.out.symm, by (repeat (first | assumption | exact Bel.refl _ | apply Bel.drewN | apply Bel.drew | apply Bel.alloc | refine Bel.trans ?_ (by assumption)))⟩
  · have HF := Lib.hid (show fmtRuleV p (6, a, b, c) = joinB [ruleNameF 6, fmtV a] ⟨#[32]⟩ from by unfold fmtRuleV; rw [if_pos HRO.out]; rfl)
    have hznm : (ruleNameF 6).size ≤ 100 := by decide
    obtain ⟨nm, henm⟩ : ∃ X, ruleNameF 6 = X := ⟨_, rfl⟩
    rw [henm] at hznm HF
    have HNM := Lib.hid henm
    clear henm
    have hzfa := fmtV_size a
    obtain ⟨fa, hefa⟩ : ∃ X, fmtV a = X := ⟨_, rfl⟩
    rw [hefa] at hzfa HF
    have HFA := Lib.hid hefa
    clear hefa
    have HSZ := Lib.hid (show ∀ q ∈ [nm, fa], q.size ≤ 1000 from by intro q hq; simp at hq; rcases hq with rfl | rfl <;> omega)
    have HALL := Lib.hid (show ∀ W, Bel w1 W → W.cell? ⟨w.heap.size + 1, 0, none⟩ = some (.int .i64 6) ∧ W.cell? ⟨w.heap.size + 1, 1, none⟩ = some (.int .i64 a) from fun W hW => ⟨hW.cell (g1.cell (by simp [go_sem])), hW.cell (g1.cell (by simp [go_sem]))⟩)
    have G11 := Bel.refl w1
    clear g1
    obtain ⟨d0, d1⟩ := HALL.out w1 G11
    go_upto_region 3 with (fail)
    refine wp_region_held_drew (S := (fun W => W.cell? ⟨w.heap.size + 1, 0, none⟩ = some (.int .i64 6) ∧ W.cell? ⟨w.heap.size + 1, 1, none⟩ = some (.int .i64 a))) (by kernel_rfl) ?_ (fun hHeld => ?_)
    · ((try dsimp only); (first | (with_reducible exact HALL.out _ (by (repeat (first | assumption | exact Bel.refl _ | apply Bel.drewN | apply Bel.drew | apply Bel.alloc | refine Bel.trans ?_ (by assumption))))) | exact HALL.out _ (by (repeat (first | assumption | exact Bel.refl _ | apply Bel.drewN | apply Bel.drew | apply Bel.alloc | refine Bel.trans ?_ (by assumption))))))
    refine wpAnyH_take (i := 0) (v := ?_) rfl (by kernel_rfl) (by kernel_rfl) (by kernel_rfl) (fun _ _ _ h => h) (Or.inl ⟨by rfl, ?_⟩) (by assumption) ?_
    rotate_left
    · (intro w hSw; (try dsimp only at hSw); go_simp <;> with_reducible rfl)
    try walk_nrm
    refine wpAnyH_take (i := 1) (v := ?_) rfl (by kernel_rfl) (by kernel_rfl) (by kernel_rfl) (fun _ _ _ h => h) (Or.inl ⟨by rfl, ?_⟩) (by assumption) ?_
    rotate_left
    · (intro w hSw; (try dsimp only at hSw); go_simp <;> with_reducible rfl)
    try walk_nrm
    refine wpAnyH_take (i := 3) (v := ?_) rfl (by kernel_rfl) (by kernel_rfl) (by kernel_rfl) (fun _ _ _ h => h) (Or.inl ⟨by rfl, ?_⟩) (by assumption) ?_
    rotate_left
    · (intro w hSw; (try dsimp only at hSw); go_simp <;> with_reducible rfl)
    try walk_nrm
    refine wpAnyH_take (i := 4) (v := ?_) rfl (by kernel_rfl) (by kernel_rfl) (by kernel_rfl) (fun _ _ _ h => h) (Or.inl ⟨by rfl, ?_⟩) (by assumption) ?_
    rotate_left
    · (intro w hSw; (try dsimp only at hSw); go_simp <;> with_reducible rfl)
    try walk_nrm
    refine wpAnyH_ready (rs := [2]) (by kernel_rfl) (by simp) ?_
    refine AllReadyH.cons rfl (fun K hK => ?_) AllReadyH.nil
    · go_simp
      (go_at_call 38; (with_reducible refine (iRuleName 6 _).mono ?_); rintro e wt ⟨rfl, gt⟩; rw [HNM.out])
      try go_wp2_with fail
      refine hK.out _ _ ?_ (fun hHeld => ?_)
      · ((try dsimp only); (first | (with_reducible exact HALL.out _ (by (repeat (first | assumption | exact Bel.refl _ | apply Bel.drewN | apply Bel.drew | apply Bel.alloc | refine Bel.trans ?_ (by assumption))))) | exact HALL.out _ (by (repeat (first | assumption | exact Bel.refl _ | apply Bel.drewN | apply Bel.drew | apply Bel.alloc | refine Bel.trans ?_ (by assumption))))))
      clear hK K
      try walk_nrm
      refine wpAnyH_ready (rs := [5]) (by kernel_rfl) (by simp) ?_
      refine AllReadyH.cons rfl (fun K hK => ?_) AllReadyH.nil
      · go_simp
        (go_at_call 39; (with_reducible refine (iFormatInt_any a _ (tabIs_bel HTB.out (by (repeat (first | assumption | exact Bel.refl _ | apply Bel.drewN | apply Bel.drew | apply Bel.alloc | refine Bel.trans ?_ (by assumption)))))).mono ?_); rintro e wt ⟨rfl, gt⟩; rw [HFA.out])
        try go_wp2_with fail
        refine hK.out _ _ ?_ (fun hHeld => ?_)
        · ((try dsimp only); (first | (with_reducible exact HALL.out _ (by (repeat (first | assumption | exact Bel.refl _ | apply Bel.drewN | apply Bel.drew | apply Bel.alloc | refine Bel.trans ?_ (by assumption))))) | exact HALL.out _ (by (repeat (first | assumption | exact Bel.refl _ | apply Bel.drewN | apply Bel.drew | apply Bel.alloc | refine Bel.trans ?_ (by assumption))))))
        clear hK K
        try walk_nrm
        refine wpAnyH_ready (rs := [6]) (by kernel_rfl) (by simp) ?_
        refine AllReadyH.cons rfl (fun K hK => ?_) AllReadyH.nil
        · go_simp
          refine hK.out _ _ ?_ (fun hHeld => ?_)
          · ((try dsimp only); (first | (with_reducible exact HALL.out _ (by (repeat (first | assumption | exact Bel.refl _ | apply Bel.drewN | apply Bel.drew | apply Bel.alloc | refine Bel.trans ?_ (by assumption))))) | exact HALL.out _ (by (repeat (first | assumption | exact Bel.refl _ | apply Bel.drewN | apply Bel.drew | apply Bel.alloc | refine Bel.trans ?_ (by assumption))))))
          clear hK K
          try walk_nrm
          refine wpAnyH_take (i := 7) (v := ?_) rfl (by kernel_rfl) (by kernel_rfl) (by kernel_rfl) (fun _ _ _ h => h) (Or.inl ⟨by rfl, ?_⟩) (by assumption) ?_
          rotate_left
          · (intro w hSw; (try dsimp only at hSw); go_simp <;> with_reducible rfl)
          try walk_nrm
          refine wpAnyH_done (by kernel_rfl) ?_ _
          obtain ⟨W2, hW2⟩ : ∃ X, X = wt.alloc (.cells #[.string nm, .string fa] 9) := ⟨_, rfl⟩
          rw [← hW2]
          have HB2 := Lib.hid (show Blk W2 wt.heap.size 9 ([nm, fa].map Value.string) from by rw [hW2]; exact Blk.new' _ rfl)
          have G2 : Bel w1 W2 := by rw [hW2]; (repeat (first | assumption | exact Bel.refl _ | apply Bel.drewN | apply Bel.drew | apply Bel.alloc | refine Bel.trans ?_ (by assumption)))
          have hg1 : w1.heap.size ≤ wt.heap.size := Bel.size (by (repeat (first | assumption | exact Bel.refl _ | apply Bel.drewN | apply Bel.drew | apply Bel.alloc | refine Bel.trans ?_ (by assumption))))
          have hg2 := HB2.out.lt
          clear hW2 gt
          obtain ⟨d0, d1⟩ := HALL.out W2 G2
          generalize wt.heap.size = g at *
          go_wp2_with fail
          refine (iJoin_any _ [nm, fa] _ (New w W2) _ (strs_blk HB2.out ⟨by omega, by omega⟩ (fun q hq => Nat.le_trans (HSZ.out q hq) (by decide)) (by simp [maxLen])) (fun b hb => hb.2) HSZ.out (by decide) (by simp)).mono ?_
          rintro e wj ⟨rfl, gj⟩
          go_wp2_with fail
          go_ret
          exact ⟨ret_str HF.out.symm, by (repeat (first | assumption | exact Bel.refl _ | apply Bel.drewN | apply Bel.drew | apply Bel.alloc | refine Bel.trans ?_ (by assumption)))⟩

end Go.Proofs.YtkfpciggolkjeaaGreatDoor
