/- Contracts of toT: a copy in new memory. -/
import Derived.Test.YtkfpciggolkjeaaGreatDoorIn
import Derived.Test.YtkfpciggolkjeaaGreatDoorShape
import Derived.Test.YtkfpciggolkjeaaGreatDoorBlk
namespace Go.Proofs.YtkfpciggolkjeaaGreatDoor
open Go.ChangeShapes Go.WideShapes Go.ChangeAt Go.RowKit
set_option linter.unusedVariables false

theorem Bel.at {a b : World} (h : Bel a b) (q j : Nat) (u : Value) (hq : a.heap.size ≤ q) : Bel a (b.setCell ⟨q, j, none⟩ u) := h.set hq u



theorem toStep_rep (v : Value) (x : StepT) (S : Nat → Prop) (w : World) (hx : aggR stepR S w v x) (hS : ∀ b, S b → b < w.heap.size) :
    Calls Tryz.prog 126 #[v] w (FreshA stepR w x) := by
  obtain ⟨cs, rfl, hx⟩ := hx
  obtain ⟨rfl, q0, q1⟩ := stepR_open hx
  clear hx
  have HS := Lib.hid hS
  clear hS
  have Q0 := Lib.hid q0; clear q0
  have Q1 := Lib.hid q1; clear q1
  show Calls Tryz.prog 126 #[.agg #[.int .i64 x.1, .int .i64 x.2]] w _
  go_enter Tryz.func126, Tryz.ntmps126
  go_wp2
  exact bodyPost_ret (v := .agg #[.int .i64 x.1, .int .i64 x.2]) (by simp [results, Tryz.results126, go_sem]) rfl ⟨[.int .i64 x.1, .int .i64 x.2], rfl, stepR_shut Q0.out Q1.out, by (repeat (first | exact Bel.refl _ | apply Bel.drew | apply Bel.alloc | refine Bel.trans ?_ (by assumption) | refine Bel.set ?_ (by first | exact Nat.le_refl _ | exact Nat.le_add_right _ _ | (simp; omega)) _))⟩

set_option maxHeartbeats 400000 in
theorem toStepS_rep (v : Value) (xs : List (StepT)) (S : Nat → Prop) (w : World) (hx : stepsR S w [v] xs) (hS : ∀ b, S b → b < w.heap.size) (hn : bulkStepS xs ≤ 1048576) :
    Calls Tryz.prog 104 #[v] w (FreshV stepsR w xs) := by
  obtain ⟨p, cap, rfl, h1, h2, h3⟩ := sliceR_open hx
  unfold maxLen at h2
  have HS := Lib.hid hS
  have HN := Lib.hid hn
  have hlen : xs.length ≤ 1048576 := by unfold bulkStepS at hn; omega
  clear hx hS hn
  obtain ⟨i0, hi, hz0, hz1, hz2⟩ := info_parts (P := Tryz.prog) (e := 151) (z := .agg #[.int .i64 0, .int .i64 0]) (size := 2) (bytes := 16) (by kernel_rfl)
  go_enter Tryz.func104, Tryz.ntmps104
  go_wp2_with (at_make; refine wpList_make_full _ rfl _ _ 107 rfl w.heap.size 151 i0 (.agg #[.int .i64 0, .int .i64 0]) 2 Tryz.underlying107 hi hz0 hz1 _ _ _ _ xs.length rfl rfl rfl rfl (by rw [hz2]; omega) (by unfold maxLen; omega) (Nat.le_refl _) ?_; intro w1 hown hgr)
  clear hi hz0 hz1 hz2
  have hB1 := bel_of_grown hgr
  have hBk := blk_of_own hown
  have hl1 := hown.1
  clear hown hgr
  generalize (madeCells _ _).toList = arr0 at *
  have HBk := Lib.hid hBk; clear hBk
  have HL1 := Lib.hid hl1; clear hl1
  go_loopw [4] (fun i wr => ∃ (k : Nat) (arr : List Value), k ≤ xs.length ∧ i = .int .i64 k ∧ Bel w wr ∧ Blk wr w.heap.size 151 arr ∧ arr.length = xs.length * 2 ∧ Filled 2 stepR w.heap.size wr arr xs k) (fun i _ => xs.length - (intOf i).toNat)
  case atStart => exact ⟨0, arr0, Nat.zero_le _, rfl, hB1, HBk.out, HL1.out, Filled.zero⟩
  case round =>
    obtain ⟨k, arr, hk, rfl, hB, hBk, hl, hF⟩ := hrel
    have HBk' := Lib.hid hBk; clear hBk
    have HL := Lib.hid hl; clear hl
    have HF := Lib.hid hF; clear hF
    by_cases hlt : k < xs.length
    · obtain ⟨b, off, ecs, rfl, hSb, hlen', hrow, hel⟩ := h3 k hlt
      have hel := stepR_good.bel hel hB HS.out
      generalize hkx : xs[k] = X at *
      have HKX := Lib.hid hkx; clear hkx
      have HSw := Lib.hid (show ∀ b, S b → b < wr.heap.size from fun b hb => Nat.lt_of_lt_of_le (HS.out b hb) hB.size)
      obtain ⟨rfl, q0, q1⟩ := stepR_open hel
      have d0 := hB.cell (hrow 0 (by simp)).1
      have d1 := hB.cell (hrow 1 (by simp)).1
      simp only [List.getElem_cons_zero, List.getElem_cons_succ, Nat.add_zero] at d0 d1
      clear hlen' hrow h3
      go_wp2_with fail
      refine (toStep_rep _ X S _ (aggR_mk hel) HSw.out).mono ?_
      rintro e w1 ⟨es, rfl, hr, g1⟩
      have hr0 := hr
      obtain ⟨rfl, qq0, qq1⟩ := stepR_open hr
      have HR := Lib.hid hr0
      clear hr0
      have G1 : Bel w w1 := by (repeat (first | exact Bel.refl _ | apply Bel.drew | apply Bel.alloc | refine Bel.trans ?_ (by assumption)))
      have HBk1 := Lib.hid (HBk'.out.bel g1)
      obtain ⟨o0, ho0⟩ : ∃ o, w1.cell? ⟨w.heap.size, k * 2, none⟩ = some o := ⟨_, HBk1.out.cellv (by rw [HL.out]; omega)⟩
      have ff0 : w1.frozen? ⟨w.heap.size, k * 2, none⟩ = false := HBk1.out.frozen _
      obtain ⟨o1, ho1⟩ : ∃ o, w1.cell? ⟨w.heap.size, k * 2 + 1, none⟩ = some o := ⟨_, HBk1.out.cellv (by rw [HL.out]; omega)⟩
      have ff1 : w1.frozen? ⟨w.heap.size, k * 2 + 1, none⟩ = false := HBk1.out.frozen _
      go_wp2
      go_roundw
      case rel =>
        refine ⟨k + 1, putRow arr (k * 2) [.int .i64 X.1, .int .i64 X.2], by omega, by go_num, ((G1.put _ _).put _ _), ?_, ?_, ?_⟩
        · exact ((HBk1.out.set _ _).set _ _)
        · rw [putRow_length]; exact HL.out
        · exact Filled.put stepR_good HF.out hlt HBk'.out.lt g1 (((But.refl _ _).put _ _).put _ _) HL.out (ecs := [.int .i64 X.1, .int .i64 X.2]) rfl (by rw [HKX.out]; exact HR.out)
      case measure => simp [intOf]; omega
    · go_wp2
      go_ret
      obtain rfl : k = xs.length := by omega
      exact ⟨_, rfl, Filled.done stepR_good HF.out HBk'.out (Nat.le_refl _) HL.out (by unfold maxLen; omega), hB⟩

theorem toLink_rep (v : Value) (x : LinkT) (S : Nat → Prop) (w : World) (hx : aggR linkR S w v x) (hS : ∀ b, S b → b < w.heap.size) :
    Calls Tryz.prog 68 #[v] w (FreshA linkR w x) := by
  obtain ⟨cs, rfl, hx⟩ := hx
  obtain ⟨rfl, q0, q1, q3⟩ := linkR_open hx
  clear hx
  have HS := Lib.hid hS
  clear hS
  have Q0 := Lib.hid q0; clear q0
  have Q1 := Lib.hid q1; clear q1
  have Q3 := Lib.hid q3; clear q3
  show Calls Tryz.prog 68 #[.agg #[.int .i64 x.1, .int .i64 x.2.1, .bool x.2.2.1, .int .i64 x.2.2.2]] w _
  go_enter Tryz.func68, Tryz.ntmps68
  go_wp2
  exact bodyPost_ret (v := .agg #[.int .i64 x.1, .int .i64 x.2.1, .bool x.2.2.1, .int .i64 x.2.2.2]) (by simp [results, Tryz.results68, go_sem]) rfl ⟨[.int .i64 x.1, .int .i64 x.2.1, .bool x.2.2.1, .int .i64 x.2.2.2], rfl, linkR_shut Q0.out Q1.out Q3.out, by (repeat (first | exact Bel.refl _ | apply Bel.drew | apply Bel.alloc | refine Bel.trans ?_ (by assumption) | refine Bel.set ?_ (by first | exact Nat.le_refl _ | exact Nat.le_add_right _ _ | (simp; omega)) _))⟩

set_option maxHeartbeats 400000 in
theorem toLinkS_rep (v : Value) (xs : List (LinkT)) (S : Nat → Prop) (w : World) (hx : linksR S w [v] xs) (hS : ∀ b, S b → b < w.heap.size) (hn : bulkLinkS xs ≤ 1048576) :
    Calls Tryz.prog 34 #[v] w (FreshV linksR w xs) := by
  obtain ⟨p, cap, rfl, h1, h2, h3⟩ := sliceR_open hx
  unfold maxLen at h2
  have HS := Lib.hid hS
  have HN := Lib.hid hn
  have hlen : xs.length ≤ 1048576 := by unfold bulkLinkS at hn; omega
  clear hx hS hn
  obtain ⟨i0, hi, hz0, hz1, hz2⟩ := info_parts (P := Tryz.prog) (e := 104) (z := .agg #[.int .i64 0, .int .i64 0, .bool false, .int .i64 0]) (size := 4) (bytes := 32) (by kernel_rfl)
  go_enter Tryz.func34, Tryz.ntmps34
  go_wp2_with (at_make; refine wpList_make_full _ rfl _ _ 33 rfl w.heap.size 104 i0 (.agg #[.int .i64 0, .int .i64 0, .bool false, .int .i64 0]) 4 Tryz.underlying33 hi hz0 hz1 _ _ _ _ xs.length rfl rfl rfl rfl (by rw [hz2]; omega) (by unfold maxLen; omega) (Nat.le_refl _) ?_; intro w1 hown hgr)
  clear hi hz0 hz1 hz2
  have hB1 := bel_of_grown hgr
  have hBk := blk_of_own hown
  have hl1 := hown.1
  clear hown hgr
  generalize (madeCells _ _).toList = arr0 at *
  have HBk := Lib.hid hBk; clear hBk
  have HL1 := Lib.hid hl1; clear hl1
  go_loopw [4] (fun i wr => ∃ (k : Nat) (arr : List Value), k ≤ xs.length ∧ i = .int .i64 k ∧ Bel w wr ∧ Blk wr w.heap.size 104 arr ∧ arr.length = xs.length * 4 ∧ Filled 4 linkR w.heap.size wr arr xs k) (fun i _ => xs.length - (intOf i).toNat)
  case atStart => exact ⟨0, arr0, Nat.zero_le _, rfl, hB1, HBk.out, HL1.out, Filled.zero⟩
  case round =>
    obtain ⟨k, arr, hk, rfl, hB, hBk, hl, hF⟩ := hrel
    have HBk' := Lib.hid hBk; clear hBk
    have HL := Lib.hid hl; clear hl
    have HF := Lib.hid hF; clear hF
    by_cases hlt : k < xs.length
    · obtain ⟨b, off, ecs, rfl, hSb, hlen', hrow, hel⟩ := h3 k hlt
      have hel := linkR_good.bel hel hB HS.out
      generalize hkx : xs[k] = X at *
      have HKX := Lib.hid hkx; clear hkx
      have HSw := Lib.hid (show ∀ b, S b → b < wr.heap.size from fun b hb => Nat.lt_of_lt_of_le (HS.out b hb) hB.size)
      obtain ⟨rfl, q0, q1, q3⟩ := linkR_open hel
      have d0 := hB.cell (hrow 0 (by simp)).1
      have d1 := hB.cell (hrow 1 (by simp)).1
      have d2 := hB.cell (hrow 2 (by simp)).1
      have d3 := hB.cell (hrow 3 (by simp)).1
      simp only [List.getElem_cons_zero, List.getElem_cons_succ, Nat.add_zero] at d0 d1 d2 d3
      clear hlen' hrow h3
      go_wp2_with fail
      refine (toLink_rep _ X S _ (aggR_mk hel) HSw.out).mono ?_
      rintro e w1 ⟨es, rfl, hr, g1⟩
      have hr0 := hr
      obtain ⟨rfl, qq0, qq1, qq3⟩ := linkR_open hr
      have HR := Lib.hid hr0
      clear hr0
      have G1 : Bel w w1 := by (repeat (first | exact Bel.refl _ | apply Bel.drew | apply Bel.alloc | refine Bel.trans ?_ (by assumption)))
      have HBk1 := Lib.hid (HBk'.out.bel g1)
      obtain ⟨o0, ho0⟩ : ∃ o, w1.cell? ⟨w.heap.size, k * 4, none⟩ = some o := ⟨_, HBk1.out.cellv (by rw [HL.out]; omega)⟩
      have ff0 : w1.frozen? ⟨w.heap.size, k * 4, none⟩ = false := HBk1.out.frozen _
      obtain ⟨o1, ho1⟩ : ∃ o, w1.cell? ⟨w.heap.size, k * 4 + 1, none⟩ = some o := ⟨_, HBk1.out.cellv (by rw [HL.out]; omega)⟩
      have ff1 : w1.frozen? ⟨w.heap.size, k * 4 + 1, none⟩ = false := HBk1.out.frozen _
      obtain ⟨o2, ho2⟩ : ∃ o, w1.cell? ⟨w.heap.size, k * 4 + 2, none⟩ = some o := ⟨_, HBk1.out.cellv (by rw [HL.out]; omega)⟩
      have ff2 : w1.frozen? ⟨w.heap.size, k * 4 + 2, none⟩ = false := HBk1.out.frozen _
      obtain ⟨o3, ho3⟩ : ∃ o, w1.cell? ⟨w.heap.size, k * 4 + 3, none⟩ = some o := ⟨_, HBk1.out.cellv (by rw [HL.out]; omega)⟩
      have ff3 : w1.frozen? ⟨w.heap.size, k * 4 + 3, none⟩ = false := HBk1.out.frozen _
      go_wp2
      go_roundw
      case rel =>
        refine ⟨k + 1, putRow arr (k * 4) [.int .i64 X.1, .int .i64 X.2.1, .bool X.2.2.1, .int .i64 X.2.2.2], by omega, by go_num, ((((G1.put _ _).put _ _).put _ _).put _ _), ?_, ?_, ?_⟩
        · exact ((((HBk1.out.set _ _).set _ _).set _ _).set _ _)
        · rw [putRow_length]; exact HL.out
        · exact Filled.put linkR_good HF.out hlt HBk'.out.lt g1 (((((But.refl _ _).put _ _).put _ _).put _ _).put _ _) HL.out (ecs := [.int .i64 X.1, .int .i64 X.2.1, .bool X.2.2.1, .int .i64 X.2.2.2]) rfl (by rw [HKX.out]; exact HR.out)
      case measure => simp [intOf]; omega
    · go_wp2
      go_ret
      obtain rfl : k = xs.length := by omega
      exact ⟨_, rfl, Filled.done linkR_good HF.out HBk'.out (Nat.le_refl _) HL.out (by unfold maxLen; omega), hB⟩

theorem toRule_rep (v : Value) (x : RuleT) (S : Nat → Prop) (w : World) (hx : aggR ruleR S w v x) (hS : ∀ b, S b → b < w.heap.size) :
    Calls Tryz.prog 10 #[v] w (FreshA ruleR w x) := by
  obtain ⟨cs, rfl, hx⟩ := hx
  obtain ⟨rfl, q0, q1, q2, q3⟩ := ruleR_open hx
  clear hx
  have HS := Lib.hid hS
  clear hS
  have Q0 := Lib.hid q0; clear q0
  have Q1 := Lib.hid q1; clear q1
  have Q2 := Lib.hid q2; clear q2
  have Q3 := Lib.hid q3; clear q3
  show Calls Tryz.prog 10 #[.agg #[.int .i64 x.1, .int .i64 x.2.1, .int .i64 x.2.2.1, .int .i64 x.2.2.2]] w _
  go_enter Tryz.func10, Tryz.ntmps10
  go_wp2
  exact bodyPost_ret (v := .agg #[.int .i64 x.1, .int .i64 x.2.1, .int .i64 x.2.2.1, .int .i64 x.2.2.2]) (by simp [results, Tryz.results10, go_sem]) rfl ⟨[.int .i64 x.1, .int .i64 x.2.1, .int .i64 x.2.2.1, .int .i64 x.2.2.2], rfl, ruleR_shut Q0.out Q1.out Q2.out Q3.out, by (repeat (first | exact Bel.refl _ | apply Bel.drew | apply Bel.alloc | refine Bel.trans ?_ (by assumption) | refine Bel.set ?_ (by first | exact Nat.le_refl _ | exact Nat.le_add_right _ _ | (simp; omega)) _))⟩


set_option maxHeartbeats 400000 in
theorem toIntS_rep (v : Value) (xs : List (Int)) (S : Nat → Prop) (w : World) (hx : intsR S w [v] xs) (hS : ∀ b, S b → b < w.heap.size) (hn : bulkIntS xs ≤ 1048576) :
    Calls Tryz.prog 36 #[v] w (FreshV intsR w xs) := by
  obtain ⟨p, cap, rfl, h1, h2, h3⟩ := sliceR_open hx
  unfold maxLen at h2
  have HS := Lib.hid hS
  have HN := Lib.hid hn
  have hlen : xs.length ≤ 1048576 := by unfold bulkIntS at hn; omega
  clear hx hS hn
  obtain ⟨i0, hi, hz0, hz1, hz2⟩ := info_parts (P := Tryz.prog) (e := 3) (z := .int .i64 0) (size := 1) (bytes := 8) (by kernel_rfl)
  go_enter Tryz.func36, Tryz.ntmps36
  go_wp2_with (at_make; refine wpList_make_full _ rfl _ _ 25 rfl w.heap.size 3 i0 (.int .i64 0) 1 Tryz.underlying25 hi hz0 hz1 _ _ _ _ xs.length rfl rfl rfl rfl (by rw [hz2]; omega) (by unfold maxLen; omega) (Nat.le_refl _) ?_; intro w1 hown hgr)
  clear hi hz0 hz1 hz2
  have hB1 := bel_of_grown hgr
  have hBk := blk_of_own hown
  have hl1 := hown.1
  clear hown hgr
  generalize (madeCells _ _).toList = arr0 at *
  have HBk := Lib.hid hBk; clear hBk
  have HL1 := Lib.hid hl1; clear hl1
  go_loopw [4] (fun i wr => ∃ (k : Nat) (arr : List Value), k ≤ xs.length ∧ i = .int .i64 k ∧ Bel w wr ∧ Blk wr w.heap.size 3 arr ∧ arr.length = xs.length * 1 ∧ Filled 1 intR w.heap.size wr arr xs k) (fun i _ => xs.length - (intOf i).toNat)
  case atStart => exact ⟨0, arr0, Nat.zero_le _, rfl, hB1, HBk.out, HL1.out, Filled.zero⟩
  case round =>
    obtain ⟨k, arr, hk, rfl, hB, hBk, hl, hF⟩ := hrel
    have HBk' := Lib.hid hBk; clear hBk
    have HL := Lib.hid hl; clear hl
    have HF := Lib.hid hF; clear hF
    by_cases hlt : k < xs.length
    · obtain ⟨b, off, ecs, rfl, hSb, hlen', hrow, hel⟩ := h3 k hlt
      have hel := intR_good.bel hel hB HS.out
      generalize hkx : xs[k] = X at *
      have HKX := Lib.hid hkx; clear hkx
      have HSw := Lib.hid (show ∀ b, S b → b < wr.heap.size from fun b hb => Nat.lt_of_lt_of_le (HS.out b hb) hB.size)
      obtain ⟨rfl, q0⟩ := hel
      have Q0 := Lib.hid q0; clear q0
      have d0 := hB.cell (hrow 0 (by simp)).1
      simp only [List.getElem_cons_zero, Nat.mul_one, Nat.add_zero] at d0
      clear hlen' hrow h3
      have HBk1 := Lib.hid (HBk'.out)
      obtain ⟨o0, ho0⟩ : ∃ o, wr.cell? ⟨w.heap.size, k, none⟩ = some o := ⟨_, HBk1.out.cellv (by rw [HL.out]; omega)⟩
      have ff0 : wr.frozen? ⟨w.heap.size, k, none⟩ = false := HBk1.out.frozen _
      go_wp2
      go_roundw
      case rel =>
        refine ⟨k + 1, putRow arr (k) [.int .i64 X], by omega, by go_num, (hB.put _ _), ?_, ?_, ?_⟩
        · exact (HBk1.out.set _ _)
        · rw [putRow_length]; exact HL.out
        · exact Filled.put1 intR_good HF.out hlt HBk'.out.lt (Bel.refl _) ((But.refl _ _).put _ _) HL.out (ecs := [.int .i64 X]) rfl (by rw [HKX.out]; exact ⟨rfl, Q0.out⟩)
      case measure => simp [intOf]; omega
    · go_wp2
      go_ret
      obtain rfl : k = xs.length := by omega
      exact ⟨_, rfl, Filled.done intR_good HF.out HBk'.out (Nat.le_refl _) HL.out (by unfold maxLen; omega), hB⟩

set_option maxHeartbeats 400000 in
theorem toIntSS_rep (v : Value) (xs : List (List Int)) (S : Nat → Prop) (w : World) (hx : rowsR S w [v] xs) (hS : ∀ b, S b → b < w.heap.size) (hn : bulkIntSS xs ≤ 1048576) :
    Calls Tryz.prog 105 #[v] w (FreshV rowsR w xs) := by
  obtain ⟨p, cap, rfl, h1, h2, h3⟩ := sliceR_open hx
  unfold maxLen at h2
  have HS := Lib.hid hS
  have HN := Lib.hid hn
  have hlen : xs.length ≤ 1048576 := by unfold bulkIntSS at hn; omega
  clear hx hS hn
  obtain ⟨i0, hi, hz0, hz1, hz2⟩ := info_parts (P := Tryz.prog) (e := 25) (z := .slice none 0 0) (size := 1) (bytes := 24) (by kernel_rfl)
  go_enter Tryz.func105, Tryz.ntmps105
  go_wp2_with (at_make; refine wpList_make_full _ rfl _ _ 95 rfl w.heap.size 25 i0 (.slice none 0 0) 1 Tryz.underlying95 hi hz0 hz1 _ _ _ _ xs.length rfl rfl rfl rfl (by rw [hz2]; omega) (by unfold maxLen; omega) (Nat.le_refl _) ?_; intro w1 hown hgr)
  clear hi hz0 hz1 hz2
  have hB1 := bel_of_grown hgr
  have hBk := blk_of_own hown
  have hl1 := hown.1
  clear hown hgr
  generalize (madeCells _ _).toList = arr0 at *
  have HBk := Lib.hid hBk; clear hBk
  have HL1 := Lib.hid hl1; clear hl1
  go_loopw [4] (fun i wr => ∃ (k : Nat) (arr : List Value), k ≤ xs.length ∧ i = .int .i64 k ∧ Bel w wr ∧ Blk wr w.heap.size 25 arr ∧ arr.length = xs.length * 1 ∧ Filled 1 intsR w.heap.size wr arr xs k) (fun i _ => xs.length - (intOf i).toNat)
  case atStart => exact ⟨0, arr0, Nat.zero_le _, rfl, hB1, HBk.out, HL1.out, Filled.zero⟩
  case round =>
    obtain ⟨k, arr, hk, rfl, hB, hBk, hl, hF⟩ := hrel
    have HBk' := Lib.hid hBk; clear hBk
    have HL := Lib.hid hl; clear hl
    have HF := Lib.hid hF; clear hF
    by_cases hlt : k < xs.length
    · obtain ⟨b, off, ecs, rfl, hSb, hlen', hrow, hel⟩ := h3 k hlt
      have hel := intsR_good.bel hel hB HS.out
      generalize hkx : xs[k] = X at *
      have HKX := Lib.hid hkx; clear hkx
      have HSw := Lib.hid (show ∀ b, S b → b < wr.heap.size from fun b hb => Nat.lt_of_lt_of_le (HS.out b hb) hB.size)
      have hXb : bulkIntS X ≤ 1048576 := by have h5 := le_sumL bulkIntS xs k hlt; rw [HKX.out] at h5; have h6 := HN.out; unfold bulkIntSS at h6; omega
      obtain ⟨c0, rfl⟩ : ∃ c0, ecs = [c0] := by obtain ⟨p0, cap0, e0, _⟩ := hel; exact ⟨_, e0⟩
      have d0 := hB.cell (hrow 0 (by simp)).1
      simp only [List.getElem_cons_zero, Nat.mul_one, Nat.add_zero] at d0
      clear hlen' hrow h3
      go_wp2_with fail
      refine (toIntS_rep _ X S _ hel HSw.out hXb).mono ?_
      rintro e w1 ⟨z0, rfl, hr0, g1⟩
      obtain ⟨z, zc, rfl, _⟩ := sliceR_open hr0
      have HR := Lib.hid hr0
      clear hr0
      have G1 : Bel w w1 := by (repeat (first | exact Bel.refl _ | apply Bel.drew | apply Bel.alloc | refine Bel.trans ?_ (by assumption)))
      have HBk1 := Lib.hid (HBk'.out.bel g1)
      obtain ⟨o0, ho0⟩ : ∃ o, w1.cell? ⟨w.heap.size, k, none⟩ = some o := ⟨_, HBk1.out.cellv (by rw [HL.out]; omega)⟩
      have ff0 : w1.frozen? ⟨w.heap.size, k, none⟩ = false := HBk1.out.frozen _
      go_wp2
      go_roundw
      case rel =>
        refine ⟨k + 1, putRow arr (k) [.slice z X.length zc], by omega, by go_num, (G1.put _ _), ?_, ?_, ?_⟩
        · exact (HBk1.out.set _ _)
        · rw [putRow_length]; exact HL.out
        · exact Filled.put1 intsR_good HF.out hlt HBk'.out.lt g1 ((But.refl _ _).put _ _) HL.out (ecs := [.slice z X.length zc]) rfl (by rw [HKX.out]; exact HR.out)
      case measure => simp [intOf]; omega
    · go_wp2
      go_ret
      obtain rfl : k = xs.length := by omega
      exact ⟨_, rfl, Filled.done intsR_good HF.out HBk'.out (Nat.le_refl _) HL.out (by unfold maxLen; omega), hB⟩



theorem toMode_rep (v : Value) (x : ModeT) (S : Nat → Prop) (w : World) (hx : aggR modeR S w v x) (hS : ∀ b, S b → b < w.heap.size) (hn : bulkMode x ≤ 1048576) :
    Calls Tryz.prog 125 #[v] w (FreshA modeR w x) := by
  obtain ⟨cs, rfl, hx⟩ := hx
  obtain ⟨c1, c2, rfl, q0, q1, q2⟩ := modeR_open hx
  clear hx
  have HS := Lib.hid hS
  clear hS
  unfold bulkMode at hn
  have Q0 := Lib.hid q0; clear q0
  show Calls Tryz.prog 125 #[.agg #[.int .i64 x.1, c1, c2]] w _
  go_enter Tryz.func125, Tryz.ntmps125
  go_wp2_with fail
  refine (toIntS_rep _ x.2.1 S _ (intsR_good.bel q1 (by (repeat (first | exact Bel.refl _ | apply Bel.drew | apply Bel.alloc | refine Bel.trans ?_ (by assumption) | refine Bel.set ?_ (by first | exact Nat.le_refl _ | exact Nat.le_add_right _ _ | (simp; omega)) _))) HS.out) (fun b hb => Nat.lt_of_lt_of_le (HS.out b hb) (Bel.size (by (repeat (first | exact Bel.refl _ | apply Bel.drew | apply Bel.alloc | refine Bel.trans ?_ (by assumption) | refine Bel.set ?_ (by first | exact Nat.le_refl _ | exact Nat.le_add_right _ _ | (simp; omega)) _))))) (by omega)).mono ?_
  rintro e w1 ⟨o1, rfl, hr1, g1⟩
  obtain ⟨p1, cap1, rfl, l1, _⟩ := sliceR_open hr1
  have G1 : Bel w w1 := by (repeat (first | exact Bel.refl _ | apply Bel.drew | apply Bel.alloc | refine Bel.trans ?_ (by assumption) | refine Bel.set ?_ (by first | exact Nat.le_refl _ | exact Nat.le_add_right _ _ | (simp; omega)) _))
  obtain ⟨hc1, hf1⟩ := g1.rules
  have z1 : w.heap.size + 1 + 1 < w1.heap.size := by have := g1.size; simp only [World.size_alloc] at this; omega
  have y1 : w.heap.size + 1 < w1.heap.size := by omega
  have x1z : w.heap.size < w1.heap.size := by omega
  have R1 := intsR_good.mono hr1 (show ∀ b, New _ w1 b → w.heap.size + 1 + 1 < b ∧ b < w1.heap.size from fun b hb => ⟨by have := hb.1; simp only [World.size_alloc] at this; omega, hb.2⟩)
  clear hr1
  go_wp2_with fail
  refine (toIntS_rep _ x.2.2 S _ (intsR_good.bel q2 (by (repeat (first | exact Bel.refl _ | apply Bel.drew | apply Bel.alloc | refine Bel.trans ?_ (by assumption) | refine Bel.set ?_ (by first | exact Nat.le_refl _ | exact Nat.le_add_right _ _ | (simp; omega)) _))) HS.out) (fun b hb => Nat.lt_of_lt_of_le (HS.out b hb) (Bel.size (by (repeat (first | exact Bel.refl _ | apply Bel.drew | apply Bel.alloc | refine Bel.trans ?_ (by assumption) | refine Bel.set ?_ (by first | exact Nat.le_refl _ | exact Nat.le_add_right _ _ | (simp; omega)) _))))) (by omega)).mono ?_
  rintro e w2 ⟨o2, rfl, hr2, g2⟩
  obtain ⟨p2, cap2, rfl, l2, _⟩ := sliceR_open hr2
  have G2 : Bel w w2 := by (repeat (first | exact Bel.refl _ | apply Bel.drew | apply Bel.alloc | refine Bel.trans ?_ (by assumption) | refine Bel.set ?_ (by first | exact Nat.le_refl _ | exact Nat.le_add_right _ _ | (simp; omega)) _))
  obtain ⟨hc2, hf2⟩ := g2.rules
  have z2 : w.heap.size + 1 + 1 < w2.heap.size := by have := g2.size; simp only [World.size_setCell] at this; omega
  have y2 : w.heap.size + 1 < w2.heap.size := by omega
  have x2z : w.heap.size < w2.heap.size := by omega
  have R2 := intsR_good.mono hr2 (show ∀ b, New _ w2 b → w.heap.size + 1 + 1 < b ∧ b < w2.heap.size from fun b hb => ⟨by have := hb.1; simp only [World.size_setCell] at this; omega, hb.2⟩)
  clear hr2
  go_wp2
  exact bodyPost_ret (v := .agg #[.int .i64 x.1, .slice p1 (x.2.1).length cap1, .slice p2 (x.2.2).length cap2]) (by simp [results, Tryz.results125, go_sem, hc1, y1, hc2]) rfl ⟨[.int .i64 x.1, .slice p1 (x.2.1).length cap1, .slice p2 (x.2.2).length cap2], rfl, modeR_shut Q0.out (intsR_good.but R1 (by omega) (((((((But.refl _ _).at (w.heap.size + 1 + 1) _ _ (Nat.le_refl _)).bel g2).at (w.heap.size + 1 + 1) _ _ (Nat.le_refl _)).at (w.heap.size + 1) _ _ (Nat.le_succ _)).at (w.heap.size + 1) _ _ (Nat.le_succ _)).at (w.heap.size + 1) _ _ (Nat.le_succ _))) (intsR_good.but R2 (by omega) (((((But.refl _ _).at (w.heap.size + 1 + 1) _ _ (Nat.le_refl _)).at (w.heap.size + 1) _ _ (Nat.le_succ _)).at (w.heap.size + 1) _ _ (Nat.le_succ _)).at (w.heap.size + 1) _ _ (Nat.le_succ _))), by (repeat (first | exact Bel.refl _ | apply Bel.drew | apply Bel.alloc | refine Bel.trans ?_ (by assumption) | refine Bel.set ?_ (by first | exact Nat.le_refl _ | exact Nat.le_add_right _ _ | (simp; omega)) _))⟩

set_option maxHeartbeats 400000 in
theorem toModeS_rep (v : Value) (xs : List (ModeT)) (S : Nat → Prop) (w : World) (hx : modesR S w [v] xs) (hS : ∀ b, S b → b < w.heap.size) (hn : bulkModeS xs ≤ 1048576) :
    Calls Tryz.prog 103 #[v] w (FreshV modesR w xs) := by
  obtain ⟨p, cap, rfl, h1, h2, h3⟩ := sliceR_open hx
  unfold maxLen at h2
  have HS := Lib.hid hS
  have HN := Lib.hid hn
  have hlen : xs.length ≤ 1048576 := by unfold bulkModeS at hn; omega
  clear hx hS hn
  obtain ⟨i0, hi, hz0, hz1, hz2⟩ := info_parts (P := Tryz.prog) (e := 149) (z := .agg #[.int .i64 0, .slice none 0 0, .slice none 0 0]) (size := 3) (bytes := 56) (by kernel_rfl)
  go_enter Tryz.func103, Tryz.ntmps103
  go_wp2_with (at_make; refine wpList_make_full _ rfl _ _ 65 rfl w.heap.size 149 i0 (.agg #[.int .i64 0, .slice none 0 0, .slice none 0 0]) 3 Tryz.underlying65 hi hz0 hz1 _ _ _ _ xs.length rfl rfl rfl rfl (by rw [hz2]; omega) (by unfold maxLen; omega) (Nat.le_refl _) ?_; intro w1 hown hgr)
  clear hi hz0 hz1 hz2
  have hB1 := bel_of_grown hgr
  have hBk := blk_of_own hown
  have hl1 := hown.1
  clear hown hgr
  generalize (madeCells _ _).toList = arr0 at *
  have HBk := Lib.hid hBk; clear hBk
  have HL1 := Lib.hid hl1; clear hl1
  go_loopw [4] (fun i wr => ∃ (k : Nat) (arr : List Value), k ≤ xs.length ∧ i = .int .i64 k ∧ Bel w wr ∧ Blk wr w.heap.size 149 arr ∧ arr.length = xs.length * 3 ∧ Filled 3 modeR w.heap.size wr arr xs k) (fun i _ => xs.length - (intOf i).toNat)
  case atStart => exact ⟨0, arr0, Nat.zero_le _, rfl, hB1, HBk.out, HL1.out, Filled.zero⟩
  case round =>
    obtain ⟨k, arr, hk, rfl, hB, hBk, hl, hF⟩ := hrel
    have HBk' := Lib.hid hBk; clear hBk
    have HL := Lib.hid hl; clear hl
    have HF := Lib.hid hF; clear hF
    by_cases hlt : k < xs.length
    · obtain ⟨b, off, ecs, rfl, hSb, hlen', hrow, hel⟩ := h3 k hlt
      have hel := modeR_good.bel hel hB HS.out
      generalize hkx : xs[k] = X at *
      have HKX := Lib.hid hkx; clear hkx
      have HSw := Lib.hid (show ∀ b, S b → b < wr.heap.size from fun b hb => Nat.lt_of_lt_of_le (HS.out b hb) hB.size)
      have hXb : bulkMode X ≤ 1048576 := by have h5 := le_sumL bulkMode xs k hlt; rw [HKX.out] at h5; have h6 := HN.out; unfold bulkModeS at h6; omega
      obtain ⟨c1, c2, rfl, q0, q1, q2⟩ := modeR_open hel
      have d0 := hB.cell (hrow 0 (by simp)).1
      have d1 := hB.cell (hrow 1 (by simp)).1
      have d2 := hB.cell (hrow 2 (by simp)).1
      simp only [List.getElem_cons_zero, List.getElem_cons_succ, Nat.add_zero] at d0 d1 d2
      clear hlen' hrow h3
      go_wp2_with fail
      refine (toMode_rep _ X S _ (aggR_mk hel) HSw.out hXb).mono ?_
      rintro e w1 ⟨es, rfl, hr, g1⟩
      have hr0 := hr
      obtain ⟨z1, z2, rfl, qq0, qq1, qq2⟩ := modeR_open hr
      obtain ⟨z1p, z1c, rfl, _⟩ := sliceR_open qq1
      obtain ⟨z2p, z2c, rfl, _⟩ := sliceR_open qq2
      have HR := Lib.hid hr0
      clear hr0
      have G1 : Bel w w1 := by (repeat (first | exact Bel.refl _ | apply Bel.drew | apply Bel.alloc | refine Bel.trans ?_ (by assumption)))
      have HBk1 := Lib.hid (HBk'.out.bel g1)
      obtain ⟨o0, ho0⟩ : ∃ o, w1.cell? ⟨w.heap.size, k * 3, none⟩ = some o := ⟨_, HBk1.out.cellv (by rw [HL.out]; omega)⟩
      have ff0 : w1.frozen? ⟨w.heap.size, k * 3, none⟩ = false := HBk1.out.frozen _
      obtain ⟨o1, ho1⟩ : ∃ o, w1.cell? ⟨w.heap.size, k * 3 + 1, none⟩ = some o := ⟨_, HBk1.out.cellv (by rw [HL.out]; omega)⟩
      have ff1 : w1.frozen? ⟨w.heap.size, k * 3 + 1, none⟩ = false := HBk1.out.frozen _
      obtain ⟨o2, ho2⟩ : ∃ o, w1.cell? ⟨w.heap.size, k * 3 + 2, none⟩ = some o := ⟨_, HBk1.out.cellv (by rw [HL.out]; omega)⟩
      have ff2 : w1.frozen? ⟨w.heap.size, k * 3 + 2, none⟩ = false := HBk1.out.frozen _
      go_wp2
      go_roundw
      case rel =>
        refine ⟨k + 1, putRow arr (k * 3) [.int .i64 X.1, .slice z1p (X.2.1).length z1c, .slice z2p (X.2.2).length z2c], by omega, by go_num, (((G1.put _ _).put _ _).put _ _), ?_, ?_, ?_⟩
        · exact (((HBk1.out.set _ _).set _ _).set _ _)
        · rw [putRow_length]; exact HL.out
        · exact Filled.put modeR_good HF.out hlt HBk'.out.lt g1 ((((But.refl _ _).put _ _).put _ _).put _ _) HL.out (ecs := [.int .i64 X.1, .slice z1p (X.2.1).length z1c, .slice z2p (X.2.2).length z2c]) rfl (by rw [HKX.out]; exact HR.out)
      case measure => simp [intOf]; omega
    · go_wp2
      go_ret
      obtain rfl : k = xs.length := by omega
      exact ⟨_, rfl, Filled.done modeR_good HF.out HBk'.out (Nat.le_refl _) HL.out (by unfold maxLen; omega), hB⟩

theorem toActivity_rep (v : Value) (x : ActT) (S : Nat → Prop) (w : World) (hx : aggR actR S w v x) (hS : ∀ b, S b → b < w.heap.size) (hn : bulkActivity x ≤ 1048576) :
    Calls Tryz.prog 67 #[v] w (FreshA actR w x) := by
  obtain ⟨cs, rfl, hx⟩ := hx
  obtain ⟨c2, rfl, q0, q1, q2⟩ := actR_open hx
  clear hx
  have HS := Lib.hid hS
  clear hS
  unfold bulkActivity at hn
  have Q0 := Lib.hid q0; clear q0
  have Q1 := Lib.hid q1; clear q1
  show Calls Tryz.prog 67 #[.agg #[.string x.1, .int .i64 x.2.1, c2]] w _
  go_enter Tryz.func67, Tryz.ntmps67
  go_wp2_with fail
  refine (toModeS_rep _ x.2.2 S _ (modesR_good.bel q2 (by (repeat (first | exact Bel.refl _ | apply Bel.drew | apply Bel.alloc | refine Bel.trans ?_ (by assumption) | refine Bel.set ?_ (by first | exact Nat.le_refl _ | exact Nat.le_add_right _ _ | (simp; omega)) _))) HS.out) (fun b hb => Nat.lt_of_lt_of_le (HS.out b hb) (Bel.size (by (repeat (first | exact Bel.refl _ | apply Bel.drew | apply Bel.alloc | refine Bel.trans ?_ (by assumption) | refine Bel.set ?_ (by first | exact Nat.le_refl _ | exact Nat.le_add_right _ _ | (simp; omega)) _))))) (by omega)).mono ?_
  rintro e w1 ⟨o1, rfl, hr1, g1⟩
  obtain ⟨p1, cap1, rfl, l1, _⟩ := sliceR_open hr1
  have G1 : Bel w w1 := by (repeat (first | exact Bel.refl _ | apply Bel.drew | apply Bel.alloc | refine Bel.trans ?_ (by assumption) | refine Bel.set ?_ (by first | exact Nat.le_refl _ | exact Nat.le_add_right _ _ | (simp; omega)) _))
  obtain ⟨hc1, hf1⟩ := g1.rules
  have z1 : w.heap.size + 1 + 1 < w1.heap.size := by have := g1.size; simp only [World.size_alloc] at this; omega
  have y1 : w.heap.size + 1 < w1.heap.size := by omega
  have x1z : w.heap.size < w1.heap.size := by omega
  have R1 := modesR_good.mono hr1 (show ∀ b, New _ w1 b → w.heap.size + 1 + 1 < b ∧ b < w1.heap.size from fun b hb => ⟨by have := hb.1; simp only [World.size_alloc] at this; omega, hb.2⟩)
  clear hr1
  go_wp2
  exact bodyPost_ret (v := .agg #[.string x.1, .int .i64 x.2.1, .slice p1 (x.2.2).length cap1]) (by simp [results, Tryz.results67, go_sem, hc1]) rfl ⟨[.string x.1, .int .i64 x.2.1, .slice p1 (x.2.2).length cap1], rfl, actR_shut Q0.out Q1.out (modesR_good.but R1 (by omega) (((((But.refl _ _).at (w.heap.size + 1 + 1) _ _ (Nat.le_refl _)).at (w.heap.size + 1) _ _ (Nat.le_succ _)).at (w.heap.size + 1) _ _ (Nat.le_succ _)).at (w.heap.size + 1) _ _ (Nat.le_succ _))), by (repeat (first | exact Bel.refl _ | apply Bel.drew | apply Bel.alloc | refine Bel.trans ?_ (by assumption) | refine Bel.set ?_ (by first | exact Nat.le_refl _ | exact Nat.le_add_right _ _ | (simp; omega)) _))⟩

set_option maxHeartbeats 400000 in
theorem toActivityS_rep (v : Value) (xs : List (ActT)) (S : Nat → Prop) (w : World) (hx : actsR S w [v] xs) (hS : ∀ b, S b → b < w.heap.size) (hn : bulkActivityS xs ≤ 1048576) :
    Calls Tryz.prog 33 #[v] w (FreshV actsR w xs) := by
  obtain ⟨p, cap, rfl, h1, h2, h3⟩ := sliceR_open hx
  unfold maxLen at h2
  have HS := Lib.hid hS
  have HN := Lib.hid hn
  have hlen : xs.length ≤ 1048576 := by unfold bulkActivityS at hn; omega
  clear hx hS hn
  obtain ⟨i0, hi, hz0, hz1, hz2⟩ := info_parts (P := Tryz.prog) (e := 67) (z := .agg #[.string ⟨#[]⟩, .int .i64 0, .slice none 0 0]) (size := 3) (bytes := 48) (by kernel_rfl)
  go_enter Tryz.func33, Tryz.ntmps33
  go_wp2_with (at_make; refine wpList_make_full _ rfl _ _ 32 rfl w.heap.size 67 i0 (.agg #[.string ⟨#[]⟩, .int .i64 0, .slice none 0 0]) 3 Tryz.underlying32 hi hz0 hz1 _ _ _ _ xs.length rfl rfl rfl rfl (by rw [hz2]; omega) (by unfold maxLen; omega) (Nat.le_refl _) ?_; intro w1 hown hgr)
  clear hi hz0 hz1 hz2
  have hB1 := bel_of_grown hgr
  have hBk := blk_of_own hown
  have hl1 := hown.1
  clear hown hgr
  generalize (madeCells _ _).toList = arr0 at *
  have HBk := Lib.hid hBk; clear hBk
  have HL1 := Lib.hid hl1; clear hl1
  go_loopw [4] (fun i wr => ∃ (k : Nat) (arr : List Value), k ≤ xs.length ∧ i = .int .i64 k ∧ Bel w wr ∧ Blk wr w.heap.size 67 arr ∧ arr.length = xs.length * 3 ∧ Filled 3 actR w.heap.size wr arr xs k) (fun i _ => xs.length - (intOf i).toNat)
  case atStart => exact ⟨0, arr0, Nat.zero_le _, rfl, hB1, HBk.out, HL1.out, Filled.zero⟩
  case round =>
    obtain ⟨k, arr, hk, rfl, hB, hBk, hl, hF⟩ := hrel
    have HBk' := Lib.hid hBk; clear hBk
    have HL := Lib.hid hl; clear hl
    have HF := Lib.hid hF; clear hF
    by_cases hlt : k < xs.length
    · obtain ⟨b, off, ecs, rfl, hSb, hlen', hrow, hel⟩ := h3 k hlt
      have hel := actR_good.bel hel hB HS.out
      generalize hkx : xs[k] = X at *
      have HKX := Lib.hid hkx; clear hkx
      have HSw := Lib.hid (show ∀ b, S b → b < wr.heap.size from fun b hb => Nat.lt_of_lt_of_le (HS.out b hb) hB.size)
      have hXb : bulkActivity X ≤ 1048576 := by have h5 := le_sumL bulkActivity xs k hlt; rw [HKX.out] at h5; have h6 := HN.out; unfold bulkActivityS at h6; omega
      obtain ⟨c2, rfl, q0, q1, q2⟩ := actR_open hel
      have d0 := hB.cell (hrow 0 (by simp)).1
      have d1 := hB.cell (hrow 1 (by simp)).1
      have d2 := hB.cell (hrow 2 (by simp)).1
      simp only [List.getElem_cons_zero, List.getElem_cons_succ, Nat.add_zero] at d0 d1 d2
      clear hlen' hrow h3
      go_wp2_with fail
      refine (toActivity_rep _ X S _ (aggR_mk hel) HSw.out hXb).mono ?_
      rintro e w1 ⟨es, rfl, hr, g1⟩
      have hr0 := hr
      obtain ⟨z2, rfl, qq0, qq1, qq2⟩ := actR_open hr
      obtain ⟨z2p, z2c, rfl, _⟩ := sliceR_open qq2
      have HR := Lib.hid hr0
      clear hr0
      have G1 : Bel w w1 := by (repeat (first | exact Bel.refl _ | apply Bel.drew | apply Bel.alloc | refine Bel.trans ?_ (by assumption)))
      have HBk1 := Lib.hid (HBk'.out.bel g1)
      obtain ⟨o0, ho0⟩ : ∃ o, w1.cell? ⟨w.heap.size, k * 3, none⟩ = some o := ⟨_, HBk1.out.cellv (by rw [HL.out]; omega)⟩
      have ff0 : w1.frozen? ⟨w.heap.size, k * 3, none⟩ = false := HBk1.out.frozen _
      obtain ⟨o1, ho1⟩ : ∃ o, w1.cell? ⟨w.heap.size, k * 3 + 1, none⟩ = some o := ⟨_, HBk1.out.cellv (by rw [HL.out]; omega)⟩
      have ff1 : w1.frozen? ⟨w.heap.size, k * 3 + 1, none⟩ = false := HBk1.out.frozen _
      obtain ⟨o2, ho2⟩ : ∃ o, w1.cell? ⟨w.heap.size, k * 3 + 2, none⟩ = some o := ⟨_, HBk1.out.cellv (by rw [HL.out]; omega)⟩
      have ff2 : w1.frozen? ⟨w.heap.size, k * 3 + 2, none⟩ = false := HBk1.out.frozen _
      go_wp2
      go_roundw
      case rel =>
        refine ⟨k + 1, putRow arr (k * 3) [.string X.1, .int .i64 X.2.1, .slice z2p (X.2.2).length z2c], by omega, by go_num, (((G1.put _ _).put _ _).put _ _), ?_, ?_, ?_⟩
        · exact (((HBk1.out.set _ _).set _ _).set _ _)
        · rw [putRow_length]; exact HL.out
        · exact Filled.put actR_good HF.out hlt HBk'.out.lt g1 ((((But.refl _ _).put _ _).put _ _).put _ _) HL.out (ecs := [.string X.1, .int .i64 X.2.1, .slice z2p (X.2.2).length z2c]) rfl (by rw [HKX.out]; exact HR.out)
      case measure => simp [intOf]; omega
    · go_wp2
      go_ret
      obtain rfl : k = xs.length := by omega
      exact ⟨_, rfl, Filled.done actR_good HF.out HBk'.out (Nat.le_refl _) HL.out (by unfold maxLen; omega), hB⟩

theorem toResource_rep (v : Value) (x : ResT) (S : Nat → Prop) (w : World) (hx : aggR resR S w v x) (hS : ∀ b, S b → b < w.heap.size) (hn : bulkResource x ≤ 1048576) :
    Calls Tryz.prog 69 #[v] w (FreshA resR w x) := by
  obtain ⟨cs, rfl, hx⟩ := hx
  obtain ⟨c0, c1, rfl, q0, q1⟩ := resR_open hx
  clear hx
  have HS := Lib.hid hS
  clear hS
  unfold bulkResource at hn
  show Calls Tryz.prog 69 #[.agg #[c0, c1]] w _
  go_enter Tryz.func69, Tryz.ntmps69
  go_wp2_with fail
  refine (toStepS_rep _ x.1 S _ (stepsR_good.bel q0 (by (repeat (first | exact Bel.refl _ | apply Bel.drew | apply Bel.alloc | refine Bel.trans ?_ (by assumption) | refine Bel.set ?_ (by first | exact Nat.le_refl _ | exact Nat.le_add_right _ _ | (simp; omega)) _))) HS.out) (fun b hb => Nat.lt_of_lt_of_le (HS.out b hb) (Bel.size (by (repeat (first | exact Bel.refl _ | apply Bel.drew | apply Bel.alloc | refine Bel.trans ?_ (by assumption) | refine Bel.set ?_ (by first | exact Nat.le_refl _ | exact Nat.le_add_right _ _ | (simp; omega)) _))))) (by omega)).mono ?_
  rintro e w1 ⟨o1, rfl, hr1, g1⟩
  obtain ⟨p1, cap1, rfl, l1, _⟩ := sliceR_open hr1
  have G1 : Bel w w1 := by (repeat (first | exact Bel.refl _ | apply Bel.drew | apply Bel.alloc | refine Bel.trans ?_ (by assumption) | refine Bel.set ?_ (by first | exact Nat.le_refl _ | exact Nat.le_add_right _ _ | (simp; omega)) _))
  obtain ⟨hc1, hf1⟩ := g1.rules
  have z1 : w.heap.size + 1 + 1 < w1.heap.size := by have := g1.size; simp only [World.size_alloc] at this; omega
  have y1 : w.heap.size + 1 < w1.heap.size := by omega
  have x1z : w.heap.size < w1.heap.size := by omega
  have R1 := stepsR_good.mono hr1 (show ∀ b, New _ w1 b → w.heap.size + 1 + 1 < b ∧ b < w1.heap.size from fun b hb => ⟨by have := hb.1; simp only [World.size_alloc] at this; omega, hb.2⟩)
  clear hr1
  go_wp2_with fail
  refine (toIntSS_rep _ x.2 S _ (rowsR_good.bel q1 (by (repeat (first | exact Bel.refl _ | apply Bel.drew | apply Bel.alloc | refine Bel.trans ?_ (by assumption) | refine Bel.set ?_ (by first | exact Nat.le_refl _ | exact Nat.le_add_right _ _ | (simp; omega)) _))) HS.out) (fun b hb => Nat.lt_of_lt_of_le (HS.out b hb) (Bel.size (by (repeat (first | exact Bel.refl _ | apply Bel.drew | apply Bel.alloc | refine Bel.trans ?_ (by assumption) | refine Bel.set ?_ (by first | exact Nat.le_refl _ | exact Nat.le_add_right _ _ | (simp; omega)) _))))) (by omega)).mono ?_
  rintro e w2 ⟨o2, rfl, hr2, g2⟩
  obtain ⟨p2, cap2, rfl, l2, _⟩ := sliceR_open hr2
  have G2 : Bel w w2 := by (repeat (first | exact Bel.refl _ | apply Bel.drew | apply Bel.alloc | refine Bel.trans ?_ (by assumption) | refine Bel.set ?_ (by first | exact Nat.le_refl _ | exact Nat.le_add_right _ _ | (simp; omega)) _))
  obtain ⟨hc2, hf2⟩ := g2.rules
  have z2 : w.heap.size + 1 + 1 < w2.heap.size := by have := g2.size; simp only [World.size_setCell] at this; omega
  have y2 : w.heap.size + 1 < w2.heap.size := by omega
  have x2z : w.heap.size < w2.heap.size := by omega
  have R2 := rowsR_good.mono hr2 (show ∀ b, New _ w2 b → w.heap.size + 1 + 1 < b ∧ b < w2.heap.size from fun b hb => ⟨by have := hb.1; simp only [World.size_setCell] at this; omega, hb.2⟩)
  clear hr2
  go_wp2
  exact bodyPost_ret (v := .agg #[.slice p1 (x.1).length cap1, .slice p2 (x.2).length cap2]) (by simp [results, Tryz.results69, go_sem, hc1, y1, hc2]) rfl ⟨[.slice p1 (x.1).length cap1, .slice p2 (x.2).length cap2], rfl, resR_shut (stepsR_good.but R1 (by omega) ((((((But.refl _ _).at (w.heap.size + 1 + 1) _ _ (Nat.le_refl _)).bel g2).at (w.heap.size + 1 + 1) _ _ (Nat.le_refl _)).at (w.heap.size + 1) _ _ (Nat.le_succ _)).at (w.heap.size + 1) _ _ (Nat.le_succ _))) (rowsR_good.but R2 (by omega) ((((But.refl _ _).at (w.heap.size + 1 + 1) _ _ (Nat.le_refl _)).at (w.heap.size + 1) _ _ (Nat.le_succ _)).at (w.heap.size + 1) _ _ (Nat.le_succ _))), by (repeat (first | exact Bel.refl _ | apply Bel.drew | apply Bel.alloc | refine Bel.trans ?_ (by assumption) | refine Bel.set ?_ (by first | exact Nat.le_refl _ | exact Nat.le_add_right _ _ | (simp; omega)) _))⟩

set_option maxHeartbeats 400000 in
theorem toResourceS_rep (v : Value) (xs : List (ResT)) (S : Nat → Prop) (w : World) (hx : ressR S w [v] xs) (hS : ∀ b, S b → b < w.heap.size) (hn : bulkResourceS xs ≤ 1048576) :
    Calls Tryz.prog 35 #[v] w (FreshV ressR w xs) := by
  obtain ⟨p, cap, rfl, h1, h2, h3⟩ := sliceR_open hx
  unfold maxLen at h2
  have HS := Lib.hid hS
  have HN := Lib.hid hn
  have hlen : xs.length ≤ 1048576 := by unfold bulkResourceS at hn; omega
  clear hx hS hn
  obtain ⟨i0, hi, hz0, hz1, hz2⟩ := info_parts (P := Tryz.prog) (e := 109) (z := .agg #[.slice none 0 0, .slice none 0 0]) (size := 2) (bytes := 48) (by kernel_rfl)
  go_enter Tryz.func35, Tryz.ntmps35
  go_wp2_with (at_make; refine wpList_make_full _ rfl _ _ 34 rfl w.heap.size 109 i0 (.agg #[.slice none 0 0, .slice none 0 0]) 2 Tryz.underlying34 hi hz0 hz1 _ _ _ _ xs.length rfl rfl rfl rfl (by rw [hz2]; omega) (by unfold maxLen; omega) (Nat.le_refl _) ?_; intro w1 hown hgr)
  clear hi hz0 hz1 hz2
  have hB1 := bel_of_grown hgr
  have hBk := blk_of_own hown
  have hl1 := hown.1
  clear hown hgr
  generalize (madeCells _ _).toList = arr0 at *
  have HBk := Lib.hid hBk; clear hBk
  have HL1 := Lib.hid hl1; clear hl1
  go_loopw [4] (fun i wr => ∃ (k : Nat) (arr : List Value), k ≤ xs.length ∧ i = .int .i64 k ∧ Bel w wr ∧ Blk wr w.heap.size 109 arr ∧ arr.length = xs.length * 2 ∧ Filled 2 resR w.heap.size wr arr xs k) (fun i _ => xs.length - (intOf i).toNat)
  case atStart => exact ⟨0, arr0, Nat.zero_le _, rfl, hB1, HBk.out, HL1.out, Filled.zero⟩
  case round =>
    obtain ⟨k, arr, hk, rfl, hB, hBk, hl, hF⟩ := hrel
    have HBk' := Lib.hid hBk; clear hBk
    have HL := Lib.hid hl; clear hl
    have HF := Lib.hid hF; clear hF
    by_cases hlt : k < xs.length
    · obtain ⟨b, off, ecs, rfl, hSb, hlen', hrow, hel⟩ := h3 k hlt
      have hel := resR_good.bel hel hB HS.out
      generalize hkx : xs[k] = X at *
      have HKX := Lib.hid hkx; clear hkx
      have HSw := Lib.hid (show ∀ b, S b → b < wr.heap.size from fun b hb => Nat.lt_of_lt_of_le (HS.out b hb) hB.size)
      have hXb : bulkResource X ≤ 1048576 := by have h5 := le_sumL bulkResource xs k hlt; rw [HKX.out] at h5; have h6 := HN.out; unfold bulkResourceS at h6; omega
      obtain ⟨c0, c1, rfl, q0, q1⟩ := resR_open hel
      have d0 := hB.cell (hrow 0 (by simp)).1
      have d1 := hB.cell (hrow 1 (by simp)).1
      simp only [List.getElem_cons_zero, List.getElem_cons_succ, Nat.add_zero] at d0 d1
      clear hlen' hrow h3
      go_wp2_with fail
      refine (toResource_rep _ X S _ (aggR_mk hel) HSw.out hXb).mono ?_
      rintro e w1 ⟨es, rfl, hr, g1⟩
      have hr0 := hr
      obtain ⟨z0, z1, rfl, qq0, qq1⟩ := resR_open hr
      obtain ⟨z0p, z0c, rfl, _⟩ := sliceR_open qq0
      obtain ⟨z1p, z1c, rfl, _⟩ := sliceR_open qq1
      have HR := Lib.hid hr0
      clear hr0
      have G1 : Bel w w1 := by (repeat (first | exact Bel.refl _ | apply Bel.drew | apply Bel.alloc | refine Bel.trans ?_ (by assumption)))
      have HBk1 := Lib.hid (HBk'.out.bel g1)
      obtain ⟨o0, ho0⟩ : ∃ o, w1.cell? ⟨w.heap.size, k * 2, none⟩ = some o := ⟨_, HBk1.out.cellv (by rw [HL.out]; omega)⟩
      have ff0 : w1.frozen? ⟨w.heap.size, k * 2, none⟩ = false := HBk1.out.frozen _
      obtain ⟨o1, ho1⟩ : ∃ o, w1.cell? ⟨w.heap.size, k * 2 + 1, none⟩ = some o := ⟨_, HBk1.out.cellv (by rw [HL.out]; omega)⟩
      have ff1 : w1.frozen? ⟨w.heap.size, k * 2 + 1, none⟩ = false := HBk1.out.frozen _
      go_wp2
      go_roundw
      case rel =>
        refine ⟨k + 1, putRow arr (k * 2) [.slice z0p (X.1).length z0c, .slice z1p (X.2).length z1c], by omega, by go_num, ((G1.put _ _).put _ _), ?_, ?_, ?_⟩
        · exact ((HBk1.out.set _ _).set _ _)
        · rw [putRow_length]; exact HL.out
        · exact Filled.put resR_good HF.out hlt HBk'.out.lt g1 (((But.refl _ _).put _ _).put _ _) HL.out (ecs := [.slice z0p (X.1).length z0c, .slice z1p (X.2).length z1c]) rfl (by rw [HKX.out]; exact HR.out)
      case measure => simp [intOf]; omega
    · go_wp2
      go_ret
      obtain rfl : k = xs.length := by omega
      exact ⟨_, rfl, Filled.done resR_good HF.out HBk'.out (Nat.le_refl _) HL.out (by unfold maxLen; omega), hB⟩

set_option maxHeartbeats 2000000 in
theorem toProject_rep (v : Value) (x : ProjT) (S : Nat → Prop) (w : World) (hx : aggR projR S w v x) (hS : ∀ b, S b → b < w.heap.size) (hn : bulkProject x ≤ 1048576) :
    Calls Tryz.prog 9 #[v] w (FreshA projR w x) := by
  obtain ⟨cs, rfl, hx⟩ := hx
  obtain ⟨c1, c2, c3, c4, rfl, q0, q1, q2, q3, q4⟩ := projR_open hx
  clear hx
  have HS := Lib.hid hS
  clear hS
  unfold bulkProject at hn
  have Q0 := Lib.hid q0; clear q0
  show Calls Tryz.prog 9 #[.agg #[.int .i64 x.1, c1, c2, c3, c4]] w _
  go_enter Tryz.func9, Tryz.ntmps9
  go_wp2_with fail
  refine (toActivityS_rep _ x.2.1 S _ (actsR_good.bel q1 (by (repeat (first | exact Bel.refl _ | apply Bel.drew | apply Bel.alloc | refine Bel.trans ?_ (by assumption) | refine Bel.set ?_ (by first | exact Nat.le_refl _ | exact Nat.le_add_right _ _ | (simp; omega)) _))) HS.out) (fun b hb => Nat.lt_of_lt_of_le (HS.out b hb) (Bel.size (by (repeat (first | exact Bel.refl _ | apply Bel.drew | apply Bel.alloc | refine Bel.trans ?_ (by assumption) | refine Bel.set ?_ (by first | exact Nat.le_refl _ | exact Nat.le_add_right _ _ | (simp; omega)) _))))) (by omega)).mono ?_
  rintro e w1 ⟨o1, rfl, hr1, g1⟩
  obtain ⟨p1, cap1, rfl, l1, _⟩ := sliceR_open hr1
  have G1 : Bel w w1 := by (repeat (first | exact Bel.refl _ | apply Bel.drew | apply Bel.alloc | refine Bel.trans ?_ (by assumption) | refine Bel.set ?_ (by first | exact Nat.le_refl _ | exact Nat.le_add_right _ _ | (simp; omega)) _))
  obtain ⟨hc1, hf1⟩ := g1.rules
  have z1 : w.heap.size + 1 + 1 < w1.heap.size := by have := g1.size; simp only [World.size_alloc] at this; omega
  have y1 : w.heap.size + 1 < w1.heap.size := by omega
  have x1z : w.heap.size < w1.heap.size := by omega
  have R1 := actsR_good.mono hr1 (show ∀ b, New _ w1 b → w.heap.size + 1 + 1 < b ∧ b < w1.heap.size from fun b hb => ⟨by have := hb.1; simp only [World.size_alloc] at this; omega, hb.2⟩)
  clear hr1
  go_wp2_with fail
  refine (toLinkS_rep _ x.2.2.1 S _ (linksR_good.bel q2 (by (repeat (first | exact Bel.refl _ | apply Bel.drew | apply Bel.alloc | refine Bel.trans ?_ (by assumption) | refine Bel.set ?_ (by first | exact Nat.le_refl _ | exact Nat.le_add_right _ _ | (simp; omega)) _))) HS.out) (fun b hb => Nat.lt_of_lt_of_le (HS.out b hb) (Bel.size (by (repeat (first | exact Bel.refl _ | apply Bel.drew | apply Bel.alloc | refine Bel.trans ?_ (by assumption) | refine Bel.set ?_ (by first | exact Nat.le_refl _ | exact Nat.le_add_right _ _ | (simp; omega)) _))))) (by omega)).mono ?_
  rintro e w2 ⟨o2, rfl, hr2, g2⟩
  obtain ⟨p2, cap2, rfl, l2, _⟩ := sliceR_open hr2
  have G2 : Bel w w2 := by (repeat (first | exact Bel.refl _ | apply Bel.drew | apply Bel.alloc | refine Bel.trans ?_ (by assumption) | refine Bel.set ?_ (by first | exact Nat.le_refl _ | exact Nat.le_add_right _ _ | (simp; omega)) _))
  obtain ⟨hc2, hf2⟩ := g2.rules
  have z2 : w.heap.size + 1 + 1 < w2.heap.size := by have := g2.size; simp only [World.size_setCell] at this; omega
  have y2 : w.heap.size + 1 < w2.heap.size := by omega
  have x2z : w.heap.size < w2.heap.size := by omega
  have R2 := linksR_good.mono hr2 (show ∀ b, New _ w2 b → w.heap.size + 1 + 1 < b ∧ b < w2.heap.size from fun b hb => ⟨by have := hb.1; simp only [World.size_setCell] at this; omega, hb.2⟩)
  clear hr2
  go_wp2_with fail
  refine (toResourceS_rep _ x.2.2.2.1 S _ (ressR_good.bel q3 (by (repeat (first | exact Bel.refl _ | apply Bel.drew | apply Bel.alloc | refine Bel.trans ?_ (by assumption) | refine Bel.set ?_ (by first | exact Nat.le_refl _ | exact Nat.le_add_right _ _ | (simp; omega)) _))) HS.out) (fun b hb => Nat.lt_of_lt_of_le (HS.out b hb) (Bel.size (by (repeat (first | exact Bel.refl _ | apply Bel.drew | apply Bel.alloc | refine Bel.trans ?_ (by assumption) | refine Bel.set ?_ (by first | exact Nat.le_refl _ | exact Nat.le_add_right _ _ | (simp; omega)) _))))) (by omega)).mono ?_
  rintro e w3 ⟨o3, rfl, hr3, g3⟩
  obtain ⟨p3, cap3, rfl, l3, _⟩ := sliceR_open hr3
  have G3 : Bel w w3 := by (repeat (first | exact Bel.refl _ | apply Bel.drew | apply Bel.alloc | refine Bel.trans ?_ (by assumption) | refine Bel.set ?_ (by first | exact Nat.le_refl _ | exact Nat.le_add_right _ _ | (simp; omega)) _))
  obtain ⟨hc3, hf3⟩ := g3.rules
  have z3 : w.heap.size + 1 + 1 < w3.heap.size := by have := g3.size; simp only [World.size_setCell] at this; omega
  have y3 : w.heap.size + 1 < w3.heap.size := by omega
  have x3z : w.heap.size < w3.heap.size := by omega
  have R3 := ressR_good.mono hr3 (show ∀ b, New _ w3 b → w.heap.size + 1 + 1 < b ∧ b < w3.heap.size from fun b hb => ⟨by have := hb.1; simp only [World.size_setCell] at this; omega, hb.2⟩)
  clear hr3
  go_wp2_with fail
  refine (toIntS_rep _ x.2.2.2.2 S _ (intsR_good.bel q4 (by (repeat (first | exact Bel.refl _ | apply Bel.drew | apply Bel.alloc | refine Bel.trans ?_ (by assumption) | refine Bel.set ?_ (by first | exact Nat.le_refl _ | exact Nat.le_add_right _ _ | (simp; omega)) _))) HS.out) (fun b hb => Nat.lt_of_lt_of_le (HS.out b hb) (Bel.size (by (repeat (first | exact Bel.refl _ | apply Bel.drew | apply Bel.alloc | refine Bel.trans ?_ (by assumption) | refine Bel.set ?_ (by first | exact Nat.le_refl _ | exact Nat.le_add_right _ _ | (simp; omega)) _))))) (by omega)).mono ?_
  rintro e w4 ⟨o4, rfl, hr4, g4⟩
  obtain ⟨p4, cap4, rfl, l4, _⟩ := sliceR_open hr4
  have G4 : Bel w w4 := by (repeat (first | exact Bel.refl _ | apply Bel.drew | apply Bel.alloc | refine Bel.trans ?_ (by assumption) | refine Bel.set ?_ (by first | exact Nat.le_refl _ | exact Nat.le_add_right _ _ | (simp; omega)) _))
  obtain ⟨hc4, hf4⟩ := g4.rules
  have z4 : w.heap.size + 1 + 1 < w4.heap.size := by have := g4.size; simp only [World.size_setCell] at this; omega
  have y4 : w.heap.size + 1 < w4.heap.size := by omega
  have x4z : w.heap.size < w4.heap.size := by omega
  have R4 := intsR_good.mono hr4 (show ∀ b, New _ w4 b → w.heap.size + 1 + 1 < b ∧ b < w4.heap.size from fun b hb => ⟨by have := hb.1; simp only [World.size_setCell] at this; omega, hb.2⟩)
  clear hr4
  go_wp2
  refine bodyPost_ret (v := .agg #[.int .i64 x.1, .slice p1 (x.2.1).length cap1, .slice p2 (x.2.2.1).length cap2, .slice p3 (x.2.2.2.1).length cap3, .slice p4 (x.2.2.2.2).length cap4]) ?_ rfl ⟨[.int .i64 x.1, .slice p1 (x.2.1).length cap1, .slice p2 (x.2.2.1).length cap2, .slice p3 (x.2.2.2.1).length cap3, .slice p4 (x.2.2.2.2).length cap4], rfl, projR_shut Q0.out ?_ ?_ ?_ ?_, ?_⟩
  · simp [results, Tryz.results9, go_sem, hc1, y1, hc2, y2, hc3, y3, hc4]
  · exact (actsR_good.but R1 (by omega) (((((((((((((But.refl _ _).at (w.heap.size + 1 + 1) _ _ (Nat.le_refl _)).bel g2).at (w.heap.size + 1 + 1) _ _ (Nat.le_refl _)).bel g3).at (w.heap.size + 1 + 1) _ _ (Nat.le_refl _)).bel g4).at (w.heap.size + 1 + 1) _ _ (Nat.le_refl _)).at (w.heap.size + 1) _ _ (Nat.le_succ _)).at (w.heap.size + 1) _ _ (Nat.le_succ _)).at (w.heap.size + 1) _ _ (Nat.le_succ _)).at (w.heap.size + 1) _ _ (Nat.le_succ _)).at (w.heap.size + 1) _ _ (Nat.le_succ _)))
  · exact (linksR_good.but R2 (by omega) (((((((((((But.refl _ _).at (w.heap.size + 1 + 1) _ _ (Nat.le_refl _)).bel g3).at (w.heap.size + 1 + 1) _ _ (Nat.le_refl _)).bel g4).at (w.heap.size + 1 + 1) _ _ (Nat.le_refl _)).at (w.heap.size + 1) _ _ (Nat.le_succ _)).at (w.heap.size + 1) _ _ (Nat.le_succ _)).at (w.heap.size + 1) _ _ (Nat.le_succ _)).at (w.heap.size + 1) _ _ (Nat.le_succ _)).at (w.heap.size + 1) _ _ (Nat.le_succ _)))
  · exact (ressR_good.but R3 (by omega) (((((((((But.refl _ _).at (w.heap.size + 1 + 1) _ _ (Nat.le_refl _)).bel g4).at (w.heap.size + 1 + 1) _ _ (Nat.le_refl _)).at (w.heap.size + 1) _ _ (Nat.le_succ _)).at (w.heap.size + 1) _ _ (Nat.le_succ _)).at (w.heap.size + 1) _ _ (Nat.le_succ _)).at (w.heap.size + 1) _ _ (Nat.le_succ _)).at (w.heap.size + 1) _ _ (Nat.le_succ _)))
  · exact (intsR_good.but R4 (by omega) (((((((But.refl _ _).at (w.heap.size + 1 + 1) _ _ (Nat.le_refl _)).at (w.heap.size + 1) _ _ (Nat.le_succ _)).at (w.heap.size + 1) _ _ (Nat.le_succ _)).at (w.heap.size + 1) _ _ (Nat.le_succ _)).at (w.heap.size + 1) _ _ (Nat.le_succ _)).at (w.heap.size + 1) _ _ (Nat.le_succ _)))
  · exact ((((((G4.at (w.heap.size + 1 + 1) _ _ (by omega)).at (w.heap.size + 1) _ _ (by omega)).at (w.heap.size + 1) _ _ (by omega)).at (w.heap.size + 1) _ _ (by omega)).at (w.heap.size + 1) _ _ (by omega)).at (w.heap.size + 1) _ _ (by omega))

end Go.Proofs.YtkfpciggolkjeaaGreatDoor
