/- FormatLiteral, both sides. -/
import Derived.Test.YtkfpciggolkjeaaGreatDoorLitOk
import Derived.Test.YtkfpciggolkjeaaGreatDoorMode
import Derived.Test.YtkfpciggolkjeaaGreatDoorSign
import Derived.Test.YtkfpciggolkjeaaGreatDoorDec
import Derived.Deep.RegionHeld3
namespace Go.Proofs.YtkfpciggolkjeaaGreatDoor
open Go.ChangeShapes Go.WideShapes Go.ChangeAt Go.RowKit
set_option linter.unusedVariables false

def fmtLitV (p : ProjT) (l : LitT) : ByteArray := if litOkB p l = true then (p.2.1.getD l.2.1.toNat zAct).1 ++ signF l.1 ++ fmtV l.2.2 else ⟨#[]⟩
theorem signF_size (n : Int) : (signF n).size ≤ 2 := by
  unfold signF
  split
  · generalize n.toNat = k
    rcases k with _ | _ | _ | _ | _ | k <;> first | decide | exact Nat.zero_le _
  · exact Nat.zero_le _
theorem name_size {p : ProjT} (h : projOk p = true) {k : Nat} (hk : k < p.2.1.length) : (p.2.1.getD k zAct).1.size ≤ 8 := by
  have h1 := projOk_act h hk
  unfold actAtOk actOkB isNameB at h1
  simp only [inBv, Bool.and_eq_true, decide_eq_true_eq] at h1
  omega
theorem litOk_parts {p : ProjT} {l : LitT} (h : litOkB p l = true) : projOk p = true ∧ ∃ k : Nat, l.2.1 = k ∧ k < p.2.1.length := by
  unfold litOkB at h
  simp only [inBv, Bool.and_eq_true, decide_eq_true_eq] at h
  exact ⟨h.1, l.2.1.toNat, by omega, by omega⟩
theorem fmtLitV_size (p : ProjT) (l : LitT) : (fmtLitV p l).size ≤ 31 := by
  unfold fmtLitV
  split
  · next h =>
    obtain ⟨hp, k, hk, hlt⟩ := litOk_parts h
    rw [ByteArray.size_append, ByteArray.size_append, hk, Int.toNat_natCast]
    have h1 := name_size hp hlt
    have h2 := signF_size l.1
    have h3 := fmtV_size l.2.2
    omega
  · exact Nat.zero_le _
set_option maxHeartbeats 2000000 in
theorem sFormatLiteral_any (v : Value) (p : ProjT) (S : Nat → Prop) (l : LitT) (w : World) (hx : aggR projR S w v p) (hS : ∀ b, S b → b < w.heap.size) (_hn : bulkProject p ≤ 1048576) :
    Calls Tryz.prog 48 #[v, .agg #[.int .i64 l.1, .int .i64 l.2.1, .int .i64 l.2.2]] w fun e w' => e = .returned (.string (fmtLitV p l)) ∧ Bel w w' := by
  obtain ⟨cs, rfl, hx⟩ := hx
  obtain ⟨c1, c2, c3, c4, rfl, q0, q1, q2, q3, q4⟩ := projR_open hx
  have Q1 := Lib.hid q1
  have Q2 := Lib.hid q2
  have Q3 := Lib.hid q3
  have Q4 := Lib.hid q4
  have HP := Lib.hid hx
  obtain ⟨p1, k1, rfl, l1, l1', -⟩ := sliceR_open q1
  obtain ⟨p2, k2, rfl, l2, l2', -⟩ := sliceR_open q2
  obtain ⟨p3, k3, rfl, l3, l3', -⟩ := sliceR_open q3
  obtain ⟨p4, k4, rfl, l4, l4', -⟩ := sliceR_open q4
  unfold maxLen at l1' l2' l3' l4'
  clear hx q0 q1 q2 q3 q4
  have HS := Lib.hid hS
  have HNB := Lib.hid _hn
  clear hS _hn
  have HPR := Lib.hid (show ∀ W, Bel w W → aggR projR S W (.agg #[.int .i64 p.1, .slice p1 p.2.1.length k1, .slice p2 p.2.2.1.length k2, .slice p3 p.2.2.2.1.length k3, .slice p4 p.2.2.2.2.length k4]) p ∧ (∀ b, S b → b < W.heap.size) from fun W hW => ⟨aggR_mk (projR_good.bel HP.out hW HS.out), fun b hb => Nat.lt_of_lt_of_le (HS.out b hb) hW.size⟩)
  show Calls Tryz.prog 48 #[.agg #[.int .i64 p.1, .slice p1 p.2.1.length k1, .slice p2 p.2.2.1.length k2, .slice p3 p.2.2.2.1.length k3, .slice p4 p.2.2.2.2.length k4], .agg #[.int .i64 l.1, .int .i64 l.2.1, .int .i64 l.2.2]] w _
  go_enter Tryz.func48, Tryz.ntmps48
  go_wp2_with fail
  refine (sLiteralOk_any _ p S l _ (HPR.out _ (by (repeat (first | assumption | exact Bel.refl _ | apply Bel.drewN | apply Bel.drew | apply Bel.alloc | refine Bel.trans ?_ (by assumption))))).1 (HPR.out _ (by (repeat (first | assumption | exact Bel.refl _ | apply Bel.drewN | apply Bel.drew | apply Bel.alloc | refine Bel.trans ?_ (by assumption))))).2 HNB.out).mono ?_
  rintro e w1 ⟨rfl, g1⟩
  cases hb : litOkB p l
  · have HF := Lib.hid (show fmtLitV p l = ⟨#[]⟩ from by unfold fmtLitV; rw [hb]; rfl)
    go_wp2_with fail
    go_ret
    exact ⟨ret_str HF.out.symm, by (repeat (first | assumption | exact Bel.refl _ | apply Bel.drewN | apply Bel.drew | apply Bel.alloc | refine Bel.trans ?_ (by assumption)))⟩
  · obtain ⟨hp, k, hk, hlt⟩ := litOk_parts hb
    have HF := Lib.hid (show fmtLitV p l = (p.2.1.getD k zAct).1 ++ signF l.1 ++ fmtV l.2.2 from by unfold fmtLitV; rw [hb, hk, Int.toNat_natCast]; rfl)
    have hz1 := name_size hp hlt
    have hz2 := signF_size l.1
    have hz3 := fmtV_size l.2.2
    obtain ⟨ab, ao, acs, rfl, arow, ael⟩ := sliceR_at zAct Q1.out hlt
    obtain ⟨ac2, rfl, aq0, aq1, aq2⟩ := actR_open ael
    have e0 := (arow 0 (by simp)).1
    simp only [List.getElem_cons_zero, Nat.add_zero] at e0
    obtain ⟨nm, hnm⟩ : ∃ x, (p.2.1.getD k zAct).1 = x := ⟨_, rfl⟩
    obtain ⟨sg, hsg⟩ : ∃ x, signF l.1 = x := ⟨_, rfl⟩
    obtain ⟨fi, hfi⟩ : ∃ x, fmtV l.2.2 = x := ⟨_, rfl⟩
    rw [hnm] at e0 hz1 HF
    rw [hsg] at hz2 HF
    rw [hfi] at hz3 HF
    have HSG := Lib.hid hsg
    have HFI := Lib.hid hfi
    have hki : (k : Int) < (p.2.1.length : Int) := by omega
    have hs1 : ¬ nm.size + sg.size > 9223372036854775807 := by omega
    have hs2 : ¬ (nm ++ sg).size + fi.size > 9223372036854775807 := by rw [ByteArray.size_append]; omega
    have hs3 : ¬ nm.size + sg.size + fi.size > 9223372036854775807 := by omega
    have hs4 : (9223372036854775807 < nm.size + sg.size) = False := eq_false (by omega)
    have hs5 : (9223372036854775807 < nm.size + sg.size + fi.size) = False := eq_false (by omega)
    have hs6 := fun W => run_string_add_sum (P := Tryz.prog) W nm sg (by omega)
    have hs7 := fun W => run_string_add_sum (P := Tryz.prog) W (nm ++ sg) fi (by rw [ByteArray.size_append]; omega)
    have HALL := Lib.hid (show ∀ W, Bel w1 W → W.cell? ⟨w.heap.size, 0, none⟩ = some (.int .i64 p.1) ∧ W.cell? ⟨w.heap.size, 1, none⟩ = some (.slice (some ⟨ab, ao, none⟩) p.2.1.length k1) ∧ W.cell? ⟨w.heap.size, 2, none⟩ = some (.slice p2 p.2.2.1.length k2) ∧ W.cell? ⟨w.heap.size, 3, none⟩ = some (.slice p3 p.2.2.2.1.length k3) ∧ W.cell? ⟨w.heap.size, 4, none⟩ = some (.slice p4 p.2.2.2.2.length k4) ∧ W.cell? ⟨w.heap.size + 1, 0, none⟩ = some (.int .i64 l.1) ∧ W.cell? ⟨w.heap.size + 1, 1, none⟩ = some (.int .i64 (k : Int)) ∧ W.cell? ⟨w.heap.size + 1, 2, none⟩ = some (.int .i64 l.2.2) ∧ W.cell? ⟨ab, ao + k * 3, none⟩ = some (.string nm) from fun W hW => by
      have hWw : Bel w W := Bel.trans (by (repeat (first | assumption | exact Bel.refl _ | apply Bel.drewN | apply Bel.drew | apply Bel.alloc | refine Bel.trans ?_ (by assumption)))) hW
      exact ⟨hW.cell (g1.cell (by simp [go_sem])), hW.cell (g1.cell (by simp [go_sem])), hW.cell (g1.cell (by simp [go_sem])), hW.cell (g1.cell (by simp [go_sem])), hW.cell (g1.cell (by simp [go_sem])), hW.cell (g1.cell (by simp [go_sem])), hW.cell (g1.cell (by rw [← hk]; simp [go_sem])), hW.cell (g1.cell (by simp [go_sem])), hWw.cell e0⟩)
    have G1 : Bel w w1 := by (repeat (first | assumption | exact Bel.refl _ | apply Bel.drewN | apply Bel.drew | apply Bel.alloc | refine Bel.trans ?_ (by assumption)))
    clear hnm hsg hfi arow ael aq0 aq1 aq2 hb hp g1 e0
    go_wp2_with fail
    go_region_held3 (fun W => W.cell? ⟨w.heap.size, 0, none⟩ = some (.int .i64 p.1) ∧ W.cell? ⟨w.heap.size, 1, none⟩ = some (.slice (some ⟨ab, ao, none⟩) p.2.1.length k1) ∧ W.cell? ⟨w.heap.size, 2, none⟩ = some (.slice p2 p.2.2.1.length k2) ∧ W.cell? ⟨w.heap.size, 3, none⟩ = some (.slice p3 p.2.2.2.1.length k3) ∧ W.cell? ⟨w.heap.size, 4, none⟩ = some (.slice p4 p.2.2.2.2.length k4) ∧ W.cell? ⟨w.heap.size + 1, 0, none⟩ = some (.int .i64 l.1) ∧ W.cell? ⟨w.heap.size + 1, 1, none⟩ = some (.int .i64 (k : Int)) ∧ W.cell? ⟨w.heap.size + 1, 2, none⟩ = some (.int .i64 l.2.2) ∧ W.cell? ⟨ab, ao + k * 3, none⟩ = some (.string nm)) (first | (with_reducible exact HALL.out _ (by (repeat (first | assumption | exact Bel.refl _ | apply Bel.drewN | apply Bel.drew | apply Bel.alloc | refine Bel.trans ?_ (by assumption))))) | exact HALL.out _ (by (repeat (first | assumption | exact Bel.refl _ | apply Bel.drewN | apply Bel.drew | apply Bel.alloc | refine Bel.trans ?_ (by assumption))))) (first | (go_at_call 85; (with_reducible refine (sLiteralSign l.1 _).mono ?_); rintro e wt ⟨rfl, gt⟩; rw [HSG.out]) | (go_at_call 31; (with_reducible refine (sFormatInt_any l.2.2 _).mono ?_); rintro e wt ⟨rfl, gt⟩; rw [HFI.out]) | fail)
    all_goals (try go_wp2_with fail)
    all_goals (go_ret; exact ⟨ret_str HF.out.symm, by (repeat (first | assumption | exact Bel.refl _ | apply Bel.drewN | apply Bel.drew | apply Bel.alloc | refine Bel.trans ?_ (by assumption)))⟩)

set_option maxHeartbeats 2000000 in
theorem iFormatLiteral_any (v : Value) (p : ProjT) (S : Nat → Prop) (l : LitT) (w : World) (hx : aggR projR S w v p) (hS : ∀ b, S b → b < w.heap.size) (_hn : bulkProject p ≤ 1048576) (htab : Lib.TabIs Tryz.prog w "internal/strconv.uint64pow10" .u64 Lib.pow10Tab) :
    Calls Tryz.prog 52 #[v, .agg #[.int .i64 l.1, .int .i64 l.2.1, .int .i64 l.2.2]] w fun e w' => e = .returned (.string (fmtLitV p l)) ∧ Bel w w' := by
  obtain ⟨cs, rfl, hx⟩ := hx
  obtain ⟨c1, c2, c3, c4, rfl, q0, q1, q2, q3, q4⟩ := projR_open hx
  have Q1 := Lib.hid q1
  have Q2 := Lib.hid q2
  have Q3 := Lib.hid q3
  have Q4 := Lib.hid q4
  have HP := Lib.hid hx
  obtain ⟨p1, k1, rfl, l1, l1', -⟩ := sliceR_open q1
  obtain ⟨p2, k2, rfl, l2, l2', -⟩ := sliceR_open q2
  obtain ⟨p3, k3, rfl, l3, l3', -⟩ := sliceR_open q3
  obtain ⟨p4, k4, rfl, l4, l4', -⟩ := sliceR_open q4
  unfold maxLen at l1' l2' l3' l4'
  clear hx q0 q1 q2 q3 q4
  have HS := Lib.hid hS
  have HNB := Lib.hid _hn
  have HTB := Lib.hid htab
  clear htab
  clear hS _hn
  have HPR := Lib.hid (show ∀ W, Bel w W → aggR projR S W (.agg #[.int .i64 p.1, .slice p1 p.2.1.length k1, .slice p2 p.2.2.1.length k2, .slice p3 p.2.2.2.1.length k3, .slice p4 p.2.2.2.2.length k4]) p ∧ (∀ b, S b → b < W.heap.size) from fun W hW => ⟨aggR_mk (projR_good.bel HP.out hW HS.out), fun b hb => Nat.lt_of_lt_of_le (HS.out b hb) hW.size⟩)
  show Calls Tryz.prog 52 #[.agg #[.int .i64 p.1, .slice p1 p.2.1.length k1, .slice p2 p.2.2.1.length k2, .slice p3 p.2.2.2.1.length k3, .slice p4 p.2.2.2.2.length k4], .agg #[.int .i64 l.1, .int .i64 l.2.1, .int .i64 l.2.2]] w _
  go_enter Tryz.func52, Tryz.ntmps52
  go_wp2_with fail
  refine (iLiteralOk_any _ p S l _ (HPR.out _ (by (repeat (first | assumption | exact Bel.refl _ | apply Bel.drewN | apply Bel.drew | apply Bel.alloc | refine Bel.trans ?_ (by assumption))))).1 (HPR.out _ (by (repeat (first | assumption | exact Bel.refl _ | apply Bel.drewN | apply Bel.drew | apply Bel.alloc | refine Bel.trans ?_ (by assumption))))).2 HNB.out).mono ?_
  rintro e w1 ⟨rfl, g1⟩
  cases hb : litOkB p l
  · have HF := Lib.hid (show fmtLitV p l = ⟨#[]⟩ from by unfold fmtLitV; rw [hb]; rfl)
    go_wp2_with fail
    go_ret
    exact ⟨ret_str HF.out.symm, by (repeat (first | assumption | exact Bel.refl _ | apply Bel.drewN | apply Bel.drew | apply Bel.alloc | refine Bel.trans ?_ (by assumption)))⟩
  · obtain ⟨hp, k, hk, hlt⟩ := litOk_parts hb
    have HF := Lib.hid (show fmtLitV p l = (p.2.1.getD k zAct).1 ++ signF l.1 ++ fmtV l.2.2 from by unfold fmtLitV; rw [hb, hk, Int.toNat_natCast]; rfl)
    have hz1 := name_size hp hlt
    have hz2 := signF_size l.1
    have hz3 := fmtV_size l.2.2
    obtain ⟨ab, ao, acs, rfl, arow, ael⟩ := sliceR_at zAct Q1.out hlt
    obtain ⟨ac2, rfl, aq0, aq1, aq2⟩ := actR_open ael
    have e0 := (arow 0 (by simp)).1
    simp only [List.getElem_cons_zero, Nat.add_zero] at e0
    obtain ⟨nm, hnm⟩ : ∃ x, (p.2.1.getD k zAct).1 = x := ⟨_, rfl⟩
    obtain ⟨sg, hsg⟩ : ∃ x, signF l.1 = x := ⟨_, rfl⟩
    obtain ⟨fi, hfi⟩ : ∃ x, fmtV l.2.2 = x := ⟨_, rfl⟩
    rw [hnm] at e0 hz1 HF
    rw [hsg] at hz2 HF
    rw [hfi] at hz3 HF
    have HSG := Lib.hid hsg
    have HFI := Lib.hid hfi
    have hki : (k : Int) < (p.2.1.length : Int) := by omega
    have hs1 : ¬ nm.size + sg.size > 9223372036854775807 := by omega
    have hs2 : ¬ (nm ++ sg).size + fi.size > 9223372036854775807 := by rw [ByteArray.size_append]; omega
    have hs3 : ¬ nm.size + sg.size + fi.size > 9223372036854775807 := by omega
    have hs4 : (9223372036854775807 < nm.size + sg.size) = False := eq_false (by omega)
    have hs5 : (9223372036854775807 < nm.size + sg.size + fi.size) = False := eq_false (by omega)
    have hs6 := fun W => run_string_add_sum (P := Tryz.prog) W nm sg (by omega)
    have hs7 := fun W => run_string_add_sum (P := Tryz.prog) W (nm ++ sg) fi (by rw [ByteArray.size_append]; omega)
    have HALL := Lib.hid (show ∀ W, Bel w1 W → W.cell? ⟨w.heap.size, 0, none⟩ = some (.int .i64 p.1) ∧ W.cell? ⟨w.heap.size, 1, none⟩ = some (.slice (some ⟨ab, ao, none⟩) p.2.1.length k1) ∧ W.cell? ⟨w.heap.size, 2, none⟩ = some (.slice p2 p.2.2.1.length k2) ∧ W.cell? ⟨w.heap.size, 3, none⟩ = some (.slice p3 p.2.2.2.1.length k3) ∧ W.cell? ⟨w.heap.size, 4, none⟩ = some (.slice p4 p.2.2.2.2.length k4) ∧ W.cell? ⟨w.heap.size + 1, 0, none⟩ = some (.int .i64 l.1) ∧ W.cell? ⟨w.heap.size + 1, 1, none⟩ = some (.int .i64 (k : Int)) ∧ W.cell? ⟨w.heap.size + 1, 2, none⟩ = some (.int .i64 l.2.2) ∧ W.cell? ⟨ab, ao + k * 3, none⟩ = some (.string nm) from fun W hW => by
      have hWw : Bel w W := Bel.trans (by (repeat (first | assumption | exact Bel.refl _ | apply Bel.drewN | apply Bel.drew | apply Bel.alloc | refine Bel.trans ?_ (by assumption)))) hW
      exact ⟨hW.cell (g1.cell (by simp [go_sem])), hW.cell (g1.cell (by simp [go_sem])), hW.cell (g1.cell (by simp [go_sem])), hW.cell (g1.cell (by simp [go_sem])), hW.cell (g1.cell (by simp [go_sem])), hW.cell (g1.cell (by simp [go_sem])), hW.cell (g1.cell (by rw [← hk]; simp [go_sem])), hW.cell (g1.cell (by simp [go_sem])), hWw.cell e0⟩)
    have G1 : Bel w w1 := by (repeat (first | assumption | exact Bel.refl _ | apply Bel.drewN | apply Bel.drew | apply Bel.alloc | refine Bel.trans ?_ (by assumption)))
    clear hnm hsg hfi arow ael aq0 aq1 aq2 hb hp g1 e0
    go_wp2_with fail
    go_region_held3 (fun W => W.cell? ⟨w.heap.size, 0, none⟩ = some (.int .i64 p.1) ∧ W.cell? ⟨w.heap.size, 1, none⟩ = some (.slice (some ⟨ab, ao, none⟩) p.2.1.length k1) ∧ W.cell? ⟨w.heap.size, 2, none⟩ = some (.slice p2 p.2.2.1.length k2) ∧ W.cell? ⟨w.heap.size, 3, none⟩ = some (.slice p3 p.2.2.2.1.length k3) ∧ W.cell? ⟨w.heap.size, 4, none⟩ = some (.slice p4 p.2.2.2.2.length k4) ∧ W.cell? ⟨w.heap.size + 1, 0, none⟩ = some (.int .i64 l.1) ∧ W.cell? ⟨w.heap.size + 1, 1, none⟩ = some (.int .i64 (k : Int)) ∧ W.cell? ⟨w.heap.size + 1, 2, none⟩ = some (.int .i64 l.2.2) ∧ W.cell? ⟨ab, ao + k * 3, none⟩ = some (.string nm)) (first | (with_reducible exact HALL.out _ (by (repeat (first | assumption | exact Bel.refl _ | apply Bel.drewN | apply Bel.drew | apply Bel.alloc | refine Bel.trans ?_ (by assumption))))) | exact HALL.out _ (by (repeat (first | assumption | exact Bel.refl _ | apply Bel.drewN | apply Bel.drew | apply Bel.alloc | refine Bel.trans ?_ (by assumption))))) (first | (go_at_call 49; (with_reducible refine (iLiteralSign l.1 _).mono ?_); rintro e wt ⟨rfl, rfl⟩; rw [HSG.out]) | (go_at_call 39; (with_reducible refine (iFormatInt_any l.2.2 _ (tabIs_bel HTB.out (by (repeat (first | assumption | exact Bel.refl _ | apply Bel.drewN | apply Bel.drew | apply Bel.alloc | refine Bel.trans ?_ (by assumption)))))).mono ?_); rintro e wt ⟨rfl, gt⟩; rw [HFI.out]) | fail)
    all_goals (try go_wp2_with fail)
    all_goals (go_ret; exact ⟨ret_str HF.out.symm, by (repeat (first | assumption | exact Bel.refl _ | apply Bel.drewN | apply Bel.drew | apply Bel.alloc | refine Bel.trans ?_ (by assumption)))⟩)

end Go.Proofs.YtkfpciggolkjeaaGreatDoor
