/- Contracts of Contains. -/
import Derived.Test.YtcbiknpbbldmbaaDomEmpty
namespace Go.Proofs.Ytcbiknpbbldmbaa
open Go.ChangeShapes Go.WideShapes Go.ChangeAt Go.RowKit
set_option linter.unusedVariables false

def okAt (d : DomT) (x : SchT) (i : Nat) : Bool := inB (x.1.getD i 0) (d.1.getD i 0) (d.2.1.getD i 0) && hasB (x.2.getD i 0) (d.2.2.getD i [])
def domContains (d : DomT) (x : SchT) : Bool := decide (x.2.length = x.1.length ∧ d.1.length = x.1.length ∧ d.2.1.length = x.1.length ∧ d.2.2.length = x.1.length) && (List.range x.1.length).all (okAt d x)
theorem domContains_len {d : DomT} {x : SchT} (h : ¬ (x.2.length = x.1.length ∧ d.1.length = x.1.length ∧ d.2.1.length = x.1.length ∧ d.2.2.length = x.1.length)) : domContains d x = false := by simp [domContains, h]
theorem domContains_no {d : DomT} {x : SchT} {k : Nat} (hk : k < x.1.length) (h : okAt d x k = false) : domContains d x = false := by
  unfold domContains
  rw [Bool.and_eq_false_iff]
  refine Or.inr (List.all_eq_false.2 ⟨k, List.mem_range.2 hk, by simp [h]⟩)
theorem domContains_yes {d : DomT} {x : SchT} (h : x.2.length = x.1.length ∧ d.1.length = x.1.length ∧ d.2.1.length = x.1.length ∧ d.2.2.length = x.1.length) (ha : ∀ j, j < x.1.length → okAt d x j = true) : domContains d x = true := by
  unfold domContains
  rw [Bool.and_eq_true, decide_eq_true_eq, List.all_eq_true]
  exact ⟨h, fun j hj => ha j (List.mem_range.1 hj)⟩

set_option maxHeartbeats 1600000 in
theorem sContains_any (v0 : Value) (x0 : DomT) (S0 : Nat → Prop) (v1 : Value) (x1 : SchT) (S1 : Nat → Prop) (w : World) (h0 : aggR domR S0 w v0 x0) (_hS0 : ∀ b, S0 b → b < w.heap.size) (_hn0 : bulkDomain x0 ≤ 1048576) (h1 : aggR schR S1 w v1 x1) (_hS1 : ∀ b, S1 b → b < w.heap.size) (_hn1 : bulkSchedule x1 ≤ 1048576) :
    Calls Try.prog 46 #[v0, v1] w fun e w' => e = .returned (.bool (domContains x0 x1)) ∧ Bel w w' := by
  obtain ⟨cs0, rfl, h0⟩ := h0
  obtain ⟨c0, c1, c2, rfl, q00, q01, q02⟩ := domR_open h0
  obtain ⟨ls, us, ms⟩ := x0
  simp only at q00 q01 q02
  have A00 := Lib.hid (fun i hi => intsR_at' q00 (i := i) hi)
  have A01 := Lib.hid (fun i hi => intsR_at' q01 (i := i) hi)
  obtain ⟨p00, cap00, rfl, l00, l00', _⟩ := sliceR_open q00
  obtain ⟨p01, cap01, rfl, l01, l01', _⟩ := sliceR_open q01
  have Q02 := Lib.hid q02
  obtain ⟨p02, cap02, rfl, l02, l02', _⟩ := sliceR_open q02
  unfold maxLen at l00' l01' l02'
  clear h0 q00 q01 q02
  obtain ⟨cs1, rfl, h1⟩ := h1
  obtain ⟨d0, d1, rfl, q10, q11⟩ := schR_open h1
  obtain ⟨ss, qs⟩ := x1
  simp only at q10 q11
  have A10 := Lib.hid (fun i hi => intsR_at' q10 (i := i) hi)
  have A11 := Lib.hid (fun i hi => intsR_at' q11 (i := i) hi)
  obtain ⟨p10, cap10, rfl, l10, l10', _⟩ := sliceR_open q10
  obtain ⟨p11, cap11, rfl, l11, l11', _⟩ := sliceR_open q11
  unfold maxLen at l10' l11'
  have AM := Lib.hid (fun i hi => rowsR_at Q02.out (i := i) hi)
  have HSS := Lib.hid _hS0
  clear h1 q10 q11 _hS0 _hn0 _hS1 _hn1 Q02
  show Calls Try.prog 46 #[.agg #[.slice p00 ls.length cap00, .slice p01 us.length cap01, .slice p02 ms.length cap02], .agg #[.slice p10 ss.length cap10, .slice p11 qs.length cap11]] w _
  by_cases e1 : qs.length = ss.length
  rotate_left
  · have HF := Lib.hid (show domContains (ls, us, ms) (ss, qs) = false from domContains_len fun h => e1 h.1)
    have be1 : (((qs.length : Nat) : Int) != ((ss.length : Nat) : Int)) = true := by simp; omega
    clear e1
    go_enter Try.func46, Try.ntmps46
    go_wp2
    go_ret
    exact ⟨ret_bool HF.out.symm, by (repeat (first | exact Bel.refl _ | apply Bel.drewN | apply Bel.drew | apply Bel.alloc | refine Bel.trans ?_ (by assumption)))⟩
  have Ee1 := Lib.hid e1
  have be1 : (((qs.length : Nat) : Int) != ((ss.length : Nat) : Int)) = false := by simp [e1]
  clear e1
  by_cases e2 : ls.length = ss.length
  rotate_left
  · have HF := Lib.hid (show domContains (ls, us, ms) (ss, qs) = false from domContains_len fun h => e2 h.2.1)
    have be2 : (((ls.length : Nat) : Int) != ((ss.length : Nat) : Int)) = true := by simp; omega
    clear e2
    go_enter Try.func46, Try.ntmps46
    go_wp2
    go_ret
    exact ⟨ret_bool HF.out.symm, by (repeat (first | exact Bel.refl _ | apply Bel.drewN | apply Bel.drew | apply Bel.alloc | refine Bel.trans ?_ (by assumption)))⟩
  have Ee2 := Lib.hid e2
  have be2 : (((ls.length : Nat) : Int) != ((ss.length : Nat) : Int)) = false := by simp [e2]
  clear e2
  by_cases e3 : us.length = ss.length
  rotate_left
  · have HF := Lib.hid (show domContains (ls, us, ms) (ss, qs) = false from domContains_len fun h => e3 h.2.2.1)
    have be3 : (((us.length : Nat) : Int) != ((ss.length : Nat) : Int)) = true := by simp; omega
    clear e3
    go_enter Try.func46, Try.ntmps46
    go_wp2
    go_ret
    exact ⟨ret_bool HF.out.symm, by (repeat (first | exact Bel.refl _ | apply Bel.drewN | apply Bel.drew | apply Bel.alloc | refine Bel.trans ?_ (by assumption)))⟩
  have Ee3 := Lib.hid e3
  have be3 : (((us.length : Nat) : Int) != ((ss.length : Nat) : Int)) = false := by simp [e3]
  clear e3
  by_cases e4 : ms.length = ss.length
  rotate_left
  · have HF := Lib.hid (show domContains (ls, us, ms) (ss, qs) = false from domContains_len fun h => e4 h.2.2.2)
    have be4 : (((ms.length : Nat) : Int) != ((ss.length : Nat) : Int)) = true := by simp; omega
    clear e4
    go_enter Try.func46, Try.ntmps46
    go_wp2
    go_ret
    exact ⟨ret_bool HF.out.symm, by (repeat (first | exact Bel.refl _ | apply Bel.drewN | apply Bel.drew | apply Bel.alloc | refine Bel.trans ?_ (by assumption)))⟩
  have Ee4 := Lib.hid e4
  have be4 : (((ms.length : Nat) : Int) != ((ss.length : Nat) : Int)) = false := by simp [e4]
  clear e4
  go_enter Try.func46, Try.ntmps46
  go_wp2_with fail
  go_loopw [39] (fun i wr => ∃ (k : Nat), k ≤ ss.length ∧ i = .int .i64 k ∧ (∀ j, j < k → okAt (ls, us, ms) (ss, qs) j = true) ∧ Bel w wr ∧ wr.cell? ⟨w.heap.size, 0, none⟩ = some (.slice p00 ls.length cap00) ∧ wr.cell? ⟨w.heap.size, 1, none⟩ = some (.slice p01 us.length cap01) ∧ wr.cell? ⟨w.heap.size, 2, none⟩ = some (.slice p02 ms.length cap02) ∧ wr.cell? ⟨w.heap.size + 1, 0, none⟩ = some (.slice p10 ss.length cap10) ∧ wr.cell? ⟨w.heap.size + 1, 1, none⟩ = some (.slice p11 qs.length cap11)) (fun i _ => ss.length - (intOf i).toNat)
  case atStart => exact ⟨0, Nat.zero_le _, rfl, fun j hj => by omega, by (repeat (first | exact Bel.refl _ | apply Bel.drewN | apply Bel.drew | apply Bel.alloc | refine Bel.trans ?_ (by assumption))), by simp [go_sem], by simp [go_sem], by simp [go_sem], by simp [go_sem], by simp [go_sem]⟩
  case round =>
    obtain ⟨k, hk, rfl, hall, hB, b0, b1, b2, b3, b4⟩ := hrel
    have HA := Lib.hid hall; clear hall
    by_cases hlt : k < ss.length
    · obtain ⟨bs, os, es, ds⟩ := A10.out k hlt
      obtain ⟨bq, oq, eq, dq⟩ := A11.out k (by have := Ee1.out; omega)
      obtain ⟨bl, ol, el, dl⟩ := A00.out k (by have := Ee2.out; omega)
      obtain ⟨bu, ou, eu, du⟩ := A01.out k (by have := Ee3.out; omega)
      obtain ⟨bm, om, rp, rcap, em, dm, _, _, hrow⟩ := AM.out k (by have := Ee4.out; omega)
      obtain rfl : p10 = some ⟨bs, os, none⟩ := es
      obtain rfl : p11 = some ⟨bq, oq, none⟩ := eq
      obtain rfl : p00 = some ⟨bl, ol, none⟩ := el
      obtain rfl : p01 = some ⟨bu, ou, none⟩ := eu
      obtain rfl : p02 = some ⟨bm, om, none⟩ := em
      have ds := hB.cell ds
      have dq := hB.cell dq
      have dl := hB.cell dl
      have du := hB.cell du
      have dm := hB.cell dm
      have hrow := Lib.hid (intsR_good.bel hrow hB HSS.out)
      have HSw := Lib.hid (show ∀ b, S0 b → b < wr.heap.size from fun b hb => Nat.lt_of_lt_of_le (HSS.out b hb) hB.size)
      have i1 : (k : Int) < (ss.length : Int) := by omega
      have i2 : (k : Int) < (qs.length : Int) := by have := Ee1.out; omega
      have i3 : (k : Int) < (ls.length : Int) := by have := Ee2.out; omega
      have i4 : (k : Int) < (us.length : Int) := by have := Ee3.out; omega
      have i5 : (k : Int) < (ms.length : Int) := by have := Ee4.out; omega
      have HO := Lib.hid (show okAt (ls, us, ms) (ss, qs) k = (inB (ss.getD k 0) (ls.getD k 0) (us.getD k 0) && hasB (qs.getD k 0) (ms.getD k [])) from rfl)
      generalize ss.getD k 0 = s at *
      generalize qs.getD k 0 = q at *
      generalize ls.getD k 0 = l at *
      generalize us.getD k 0 = u at *
      generalize ms.getD k [] = m at *
      cases hin : inB s l u
      · skip
        have HNO := Lib.hid (show (inB s l u && hasB q m) = false from by rw [hin]; rfl)
        · go_wp2_with fail
          go_quiet ((first | (go_at_call 61; exact Calls.quiet_of_same ((l01In_any _ _ _ _).mono fun e w' h => ⟨h.1, h.2.symm⟩)) | (go_at_call 87; exact Calls.quiet_of_same ((sSetHas_any _ m q S0 _ (intsR_good.bel hrow.out (by (repeat (first | exact Bel.refl _ | apply Bel.drewN | apply Bel.drew | apply Bel.alloc | refine Bel.trans ?_ (by assumption)))) HSw.out)).mono fun e w' h => ⟨h.1, h.2.symm⟩))))
          go_wp2
          go_ret
          exact ⟨ret_bool (domContains_no hlt (by rw [HO.out]; exact HNO.out)).symm, by (repeat (first | exact Bel.refl _ | apply Bel.drewN | apply Bel.drew | apply Bel.alloc | refine Bel.trans ?_ (by assumption)))⟩
      skip
      cases hh : hasB q m
      · skip
        have HNO := Lib.hid (show (inB s l u && hasB q m) = false from by rw [hh, Bool.and_false])
        · go_wp2_with fail
          go_quiet ((first | (go_at_call 61; exact Calls.quiet_of_same ((l01In_any _ _ _ _).mono fun e w' h => ⟨h.1, h.2.symm⟩)) | (go_at_call 87; exact Calls.quiet_of_same ((sSetHas_any _ m q S0 _ (intsR_good.bel hrow.out (by (repeat (first | exact Bel.refl _ | apply Bel.drewN | apply Bel.drew | apply Bel.alloc | refine Bel.trans ?_ (by assumption)))) HSw.out)).mono fun e w' h => ⟨h.1, h.2.symm⟩))))
          go_wp2
          go_ret
          exact ⟨ret_bool (domContains_no hlt (by rw [HO.out]; exact HNO.out)).symm, by (repeat (first | exact Bel.refl _ | apply Bel.drewN | apply Bel.drew | apply Bel.alloc | refine Bel.trans ?_ (by assumption)))⟩
      skip
      have HYES := Lib.hid (show (inB s l u && hasB q m) = true from by rw [hin, hh]; rfl)
      go_wp2_with fail
      go_quiet ((first | (go_at_call 61; exact Calls.quiet_of_same ((l01In_any _ _ _ _).mono fun e w' h => ⟨h.1, h.2.symm⟩)) | (go_at_call 87; exact Calls.quiet_of_same ((sSetHas_any _ m q S0 _ (intsR_good.bel hrow.out (by (repeat (first | exact Bel.refl _ | apply Bel.drewN | apply Bel.drew | apply Bel.alloc | refine Bel.trans ?_ (by assumption)))) HSw.out)).mono fun e w' h => ⟨h.1, h.2.symm⟩))))
      go_wp2
      go_roundw
      case rel =>
        refine ⟨k + 1, by omega, by go_num, fun j hj => ?_, hB.drewN _, by first | assumption | (simp; assumption), by first | assumption | (simp; assumption), by first | assumption | (simp; assumption), by first | assumption | (simp; assumption), by first | assumption | (simp; assumption)⟩
        by_cases e : j < k
        · exact HA.out j e
        · obtain rfl : j = k := by omega
          rw [HO.out]; exact HYES.out
      case measure => simp [intOf]; omega
    · go_wp2
      go_ret
      exact ⟨ret_bool (domContains_yes ⟨Ee1.out, Ee2.out, Ee3.out, Ee4.out⟩ fun j hj => HA.out j (by have : j < ss.length := hj; omega)).symm, hB⟩

set_option maxHeartbeats 1600000 in
theorem iContains_any (v0 : Value) (x0 : DomT) (S0 : Nat → Prop) (v1 : Value) (x1 : SchT) (S1 : Nat → Prop) (w : World) (h0 : aggR domR S0 w v0 x0) (_hS0 : ∀ b, S0 b → b < w.heap.size) (_hn0 : bulkDomain x0 ≤ 1048576) (h1 : aggR schR S1 w v1 x1) (_hS1 : ∀ b, S1 b → b < w.heap.size) (_hn1 : bulkSchedule x1 ≤ 1048576) :
    Calls Try.prog 47 #[v0, v1] w fun e w' => e = .returned (.bool (domContains x0 x1)) ∧ Bel w w' := by
  obtain ⟨cs0, rfl, h0⟩ := h0
  obtain ⟨c0, c1, c2, rfl, q00, q01, q02⟩ := domR_open h0
  obtain ⟨ls, us, ms⟩ := x0
  simp only at q00 q01 q02
  have A00 := Lib.hid (fun i hi => intsR_at' q00 (i := i) hi)
  have A01 := Lib.hid (fun i hi => intsR_at' q01 (i := i) hi)
  obtain ⟨p00, cap00, rfl, l00, l00', _⟩ := sliceR_open q00
  obtain ⟨p01, cap01, rfl, l01, l01', _⟩ := sliceR_open q01
  have Q02 := Lib.hid q02
  obtain ⟨p02, cap02, rfl, l02, l02', _⟩ := sliceR_open q02
  unfold maxLen at l00' l01' l02'
  clear h0 q00 q01 q02
  obtain ⟨cs1, rfl, h1⟩ := h1
  obtain ⟨d0, d1, rfl, q10, q11⟩ := schR_open h1
  obtain ⟨ss, qs⟩ := x1
  simp only at q10 q11
  have A10 := Lib.hid (fun i hi => intsR_at' q10 (i := i) hi)
  have A11 := Lib.hid (fun i hi => intsR_at' q11 (i := i) hi)
  obtain ⟨p10, cap10, rfl, l10, l10', _⟩ := sliceR_open q10
  obtain ⟨p11, cap11, rfl, l11, l11', _⟩ := sliceR_open q11
  unfold maxLen at l10' l11'
  have AM := Lib.hid (fun i hi => rowsR_at Q02.out (i := i) hi)
  have HSS := Lib.hid _hS0
  clear h1 q10 q11 _hS0 _hn0 _hS1 _hn1 Q02
  show Calls Try.prog 47 #[.agg #[.slice p00 ls.length cap00, .slice p01 us.length cap01, .slice p02 ms.length cap02], .agg #[.slice p10 ss.length cap10, .slice p11 qs.length cap11]] w _
  by_cases e1 : qs.length = ss.length
  rotate_left
  · have HF := Lib.hid (show domContains (ls, us, ms) (ss, qs) = false from domContains_len fun h => e1 h.1)
    have be1 : (((qs.length : Nat) : Int) != ((ss.length : Nat) : Int)) = true := by simp; omega
    clear e1
    go_enter Try.func47, Try.ntmps47
    go_wp2
    go_ret
    exact ⟨ret_bool HF.out.symm, by (repeat (first | exact Bel.refl _ | apply Bel.drewN | apply Bel.drew | apply Bel.alloc | refine Bel.trans ?_ (by assumption)))⟩
  have Ee1 := Lib.hid e1
  have be1 : (((qs.length : Nat) : Int) != ((ss.length : Nat) : Int)) = false := by simp [e1]
  clear e1
  by_cases e2 : ls.length = ss.length
  rotate_left
  · have HF := Lib.hid (show domContains (ls, us, ms) (ss, qs) = false from domContains_len fun h => e2 h.2.1)
    have be2 : (((ls.length : Nat) : Int) != ((ss.length : Nat) : Int)) = true := by simp; omega
    clear e2
    go_enter Try.func47, Try.ntmps47
    go_wp2
    go_ret
    exact ⟨ret_bool HF.out.symm, by (repeat (first | exact Bel.refl _ | apply Bel.drewN | apply Bel.drew | apply Bel.alloc | refine Bel.trans ?_ (by assumption)))⟩
  have Ee2 := Lib.hid e2
  have be2 : (((ls.length : Nat) : Int) != ((ss.length : Nat) : Int)) = false := by simp [e2]
  clear e2
  by_cases e3 : us.length = ss.length
  rotate_left
  · have HF := Lib.hid (show domContains (ls, us, ms) (ss, qs) = false from domContains_len fun h => e3 h.2.2.1)
    have be3 : (((us.length : Nat) : Int) != ((ss.length : Nat) : Int)) = true := by simp; omega
    clear e3
    go_enter Try.func47, Try.ntmps47
    go_wp2
    go_ret
    exact ⟨ret_bool HF.out.symm, by (repeat (first | exact Bel.refl _ | apply Bel.drewN | apply Bel.drew | apply Bel.alloc | refine Bel.trans ?_ (by assumption)))⟩
  have Ee3 := Lib.hid e3
  have be3 : (((us.length : Nat) : Int) != ((ss.length : Nat) : Int)) = false := by simp [e3]
  clear e3
  by_cases e4 : ms.length = ss.length
  rotate_left
  · have HF := Lib.hid (show domContains (ls, us, ms) (ss, qs) = false from domContains_len fun h => e4 h.2.2.2)
    have be4 : (((ms.length : Nat) : Int) != ((ss.length : Nat) : Int)) = true := by simp; omega
    clear e4
    go_enter Try.func47, Try.ntmps47
    go_wp2
    go_ret
    exact ⟨ret_bool HF.out.symm, by (repeat (first | exact Bel.refl _ | apply Bel.drewN | apply Bel.drew | apply Bel.alloc | refine Bel.trans ?_ (by assumption)))⟩
  have Ee4 := Lib.hid e4
  have be4 : (((ms.length : Nat) : Int) != ((ss.length : Nat) : Int)) = false := by simp [e4]
  clear e4
  go_enter Try.func47, Try.ntmps47
  go_wp2_with fail
  go_loopw [40] (fun i wr => ∃ (k : Nat), k ≤ ss.length ∧ i = .int .i64 k ∧ (∀ j, j < k → okAt (ls, us, ms) (ss, qs) j = true) ∧ Bel w wr ∧ wr.cell? ⟨w.heap.size, 0, none⟩ = some (.slice p00 ls.length cap00) ∧ wr.cell? ⟨w.heap.size, 1, none⟩ = some (.slice p01 us.length cap01) ∧ wr.cell? ⟨w.heap.size, 2, none⟩ = some (.slice p02 ms.length cap02) ∧ wr.cell? ⟨w.heap.size + 1, 0, none⟩ = some (.slice p10 ss.length cap10) ∧ wr.cell? ⟨w.heap.size + 1, 1, none⟩ = some (.slice p11 qs.length cap11)) (fun i _ => ss.length - (intOf i).toNat)
  case atStart => exact ⟨0, Nat.zero_le _, rfl, fun j hj => by omega, by (repeat (first | exact Bel.refl _ | apply Bel.drewN | apply Bel.drew | apply Bel.alloc | refine Bel.trans ?_ (by assumption))), by simp [go_sem], by simp [go_sem], by simp [go_sem], by simp [go_sem], by simp [go_sem]⟩
  case round =>
    obtain ⟨k, hk, rfl, hall, hB, b0, b1, b2, b3, b4⟩ := hrel
    have HA := Lib.hid hall; clear hall
    by_cases hlt : k < ss.length
    · obtain ⟨bs, os, es, ds⟩ := A10.out k hlt
      obtain ⟨bq, oq, eq, dq⟩ := A11.out k (by have := Ee1.out; omega)
      obtain ⟨bl, ol, el, dl⟩ := A00.out k (by have := Ee2.out; omega)
      obtain ⟨bu, ou, eu, du⟩ := A01.out k (by have := Ee3.out; omega)
      obtain ⟨bm, om, rp, rcap, em, dm, _, _, hrow⟩ := AM.out k (by have := Ee4.out; omega)
      obtain rfl : p10 = some ⟨bs, os, none⟩ := es
      obtain rfl : p11 = some ⟨bq, oq, none⟩ := eq
      obtain rfl : p00 = some ⟨bl, ol, none⟩ := el
      obtain rfl : p01 = some ⟨bu, ou, none⟩ := eu
      obtain rfl : p02 = some ⟨bm, om, none⟩ := em
      have ds := hB.cell ds
      have dq := hB.cell dq
      have dl := hB.cell dl
      have du := hB.cell du
      have dm := hB.cell dm
      have hrow := Lib.hid (intsR_good.bel hrow hB HSS.out)
      have HSw := Lib.hid (show ∀ b, S0 b → b < wr.heap.size from fun b hb => Nat.lt_of_lt_of_le (HSS.out b hb) hB.size)
      have i1 : (k : Int) < (ss.length : Int) := by omega
      have i2 : (k : Int) < (qs.length : Int) := by have := Ee1.out; omega
      have i3 : (k : Int) < (ls.length : Int) := by have := Ee2.out; omega
      have i4 : (k : Int) < (us.length : Int) := by have := Ee3.out; omega
      have i5 : (k : Int) < (ms.length : Int) := by have := Ee4.out; omega
      have HO := Lib.hid (show okAt (ls, us, ms) (ss, qs) k = (inB (ss.getD k 0) (ls.getD k 0) (us.getD k 0) && hasB (qs.getD k 0) (ms.getD k [])) from rfl)
      generalize ss.getD k 0 = s at *
      generalize qs.getD k 0 = q at *
      generalize ls.getD k 0 = l at *
      generalize us.getD k 0 = u at *
      generalize ms.getD k [] = m at *
      by_cases c1 : l ≤ s
      rotate_left
      · have g1 : s < l := by omega
        have HNO := Lib.hid (show (inB s l u && hasB q m) = false from by unfold inB; simp; omega)
        · go_wp2_with fail
          go_quiet ((first | (go_at_call 88; exact Calls.quiet_of_same ((iSetHas_any _ m q S0 _ (intsR_good.bel hrow.out (by (repeat (first | exact Bel.refl _ | apply Bel.drewN | apply Bel.drew | apply Bel.alloc | refine Bel.trans ?_ (by assumption)))) HSw.out)).mono fun e w' h => ⟨h.1, h.2.symm⟩))))
          go_wp2
          go_ret
          exact ⟨ret_bool (domContains_no hlt (by rw [HO.out]; exact HNO.out)).symm, by (repeat (first | exact Bel.refl _ | apply Bel.drewN | apply Bel.drew | apply Bel.alloc | refine Bel.trans ?_ (by assumption)))⟩
      have g1 : decide (s < l) = false := by simp; omega
      by_cases c2 : s ≤ u
      rotate_left
      · have g2 : u < s := by omega
        have HNO := Lib.hid (show (inB s l u && hasB q m) = false from by unfold inB; simp; omega)
        · go_wp2_with fail
          go_quiet ((first | (go_at_call 88; exact Calls.quiet_of_same ((iSetHas_any _ m q S0 _ (intsR_good.bel hrow.out (by (repeat (first | exact Bel.refl _ | apply Bel.drewN | apply Bel.drew | apply Bel.alloc | refine Bel.trans ?_ (by assumption)))) HSw.out)).mono fun e w' h => ⟨h.1, h.2.symm⟩))))
          go_wp2
          go_ret
          exact ⟨ret_bool (domContains_no hlt (by rw [HO.out]; exact HNO.out)).symm, by (repeat (first | exact Bel.refl _ | apply Bel.drewN | apply Bel.drew | apply Bel.alloc | refine Bel.trans ?_ (by assumption)))⟩
      have g2 : decide (u < s) = false := by simp; omega
      cases hh : hasB q m
      · skip
        have HNO := Lib.hid (show (inB s l u && hasB q m) = false from by rw [hh, Bool.and_false])
        · go_wp2_with fail
          go_quiet ((first | (go_at_call 88; exact Calls.quiet_of_same ((iSetHas_any _ m q S0 _ (intsR_good.bel hrow.out (by (repeat (first | exact Bel.refl _ | apply Bel.drewN | apply Bel.drew | apply Bel.alloc | refine Bel.trans ?_ (by assumption)))) HSw.out)).mono fun e w' h => ⟨h.1, h.2.symm⟩))))
          go_wp2
          go_ret
          exact ⟨ret_bool (domContains_no hlt (by rw [HO.out]; exact HNO.out)).symm, by (repeat (first | exact Bel.refl _ | apply Bel.drewN | apply Bel.drew | apply Bel.alloc | refine Bel.trans ?_ (by assumption)))⟩
      skip
      have HYES := Lib.hid (show (inB s l u && hasB q m) = true from by unfold inB; rw [hh]; simp; omega)
      go_wp2_with fail
      go_quiet ((first | (go_at_call 88; exact Calls.quiet_of_same ((iSetHas_any _ m q S0 _ (intsR_good.bel hrow.out (by (repeat (first | exact Bel.refl _ | apply Bel.drewN | apply Bel.drew | apply Bel.alloc | refine Bel.trans ?_ (by assumption)))) HSw.out)).mono fun e w' h => ⟨h.1, h.2.symm⟩))))
      go_wp2
      go_roundw
      case rel =>
        refine ⟨k + 1, by omega, by go_num, fun j hj => ?_, hB.drewN _, by first | assumption | (simp; assumption), by first | assumption | (simp; assumption), by first | assumption | (simp; assumption), by first | assumption | (simp; assumption), by first | assumption | (simp; assumption)⟩
        by_cases e : j < k
        · exact HA.out j e
        · obtain rfl : j = k := by omega
          rw [HO.out]; exact HYES.out
      case measure => simp [intOf]; omega
    · go_wp2
      go_ret
      exact ⟨ret_bool (domContains_yes ⟨Ee1.out, Ee2.out, Ee3.out, Ee4.out⟩ fun j hj => HA.out j (by have : j < ss.length := hj; omega)).symm, hB⟩

end Go.Proofs.Ytcbiknpbbldmbaa
