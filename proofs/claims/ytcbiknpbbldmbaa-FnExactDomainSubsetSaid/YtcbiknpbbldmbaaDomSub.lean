/- Contracts of DomainSubset. -/
import Derived.Test.YtcbiknpbbldmbaaDomEmpty
namespace Go.Proofs.Ytcbiknpbbldmbaa
open Go.ChangeShapes Go.WideShapes Go.ChangeAt Go.RowKit
set_option linter.unusedVariables false

def subAt (a b : DomT) (i : Nat) : Bool := !decide (a.1.getD i 0 < b.1.getD i 0) && (!decide (b.2.1.getD i 0 < a.2.1.getD i 0) && subB (a.2.2.getD i []) (b.2.2.getD i []))
def SubLen (a b : DomT) : Prop := a.2.1.length = a.1.length ∧ a.2.2.length = a.1.length ∧ b.1.length = a.1.length ∧ b.2.1.length = a.1.length ∧ b.2.2.length = a.1.length
instance (a b : DomT) : Decidable (SubLen a b) := by unfold SubLen; infer_instance
def domSubset (a b : DomT) : Bool := decide (SubLen a b) && (List.range a.1.length).all (subAt a b)
theorem domSubset_len {a b : DomT} (h : ¬ SubLen a b) : domSubset a b = false := by simp [domSubset, h]
theorem domSubset_no {a b : DomT} {k : Nat} (hk : k < a.1.length) (h : subAt a b k = false) : domSubset a b = false := by
  unfold domSubset
  rw [Bool.and_eq_false_iff]
  refine Or.inr (List.all_eq_false.2 ⟨k, List.mem_range.2 hk, by simp [h]⟩)
theorem domSubset_yes {a b : DomT} (h : SubLen a b) (ha : ∀ j, j < a.1.length → subAt a b j = true) : domSubset a b = true := by
  unfold domSubset
  rw [Bool.and_eq_true, decide_eq_true_eq, List.all_eq_true]
  exact ⟨h, fun j hj => ha j (List.mem_range.1 hj)⟩

set_option maxHeartbeats 1600000 in
theorem sDomainSubset_any (v0 : Value) (x0 : DomT) (S0 : Nat → Prop) (v1 : Value) (x1 : DomT) (S1 : Nat → Prop) (w : World) (h0 : aggR domR S0 w v0 x0) (_hS0 : ∀ b, S0 b → b < w.heap.size) (_hn0 : bulkDomain x0 ≤ 1048576) (h1 : aggR domR S1 w v1 x1) (_hS1 : ∀ b, S1 b → b < w.heap.size) (_hn1 : bulkDomain x1 ≤ 1048576) :
    Calls Try.prog 39 #[v0, v1] w fun e w' => e = .returned (.bool (domSubset x0 x1)) ∧ Bel w w' := by
  obtain ⟨cs0, rfl, h0⟩ := h0
  obtain ⟨c0, c1, c2, rfl, q00, q01, q02⟩ := domR_open h0
  obtain ⟨la, ua, ma⟩ := x0
  simp only at q00 q01 q02
  have A00 := Lib.hid (fun i hi => intsR_at' q00 (i := i) hi)
  have A01 := Lib.hid (fun i hi => intsR_at' q01 (i := i) hi)
  obtain ⟨p00, cap00, rfl, l00, l00', _⟩ := sliceR_open q00
  obtain ⟨p01, cap01, rfl, l01, l01', _⟩ := sliceR_open q01
  have Q02 := Lib.hid q02
  obtain ⟨p02, cap02, rfl, l02, l02', _⟩ := sliceR_open q02
  unfold maxLen at l00' l01' l02'
  clear h0 q00 q01 q02
  obtain ⟨cs1, rfl, h1⟩ := h1
  obtain ⟨c0, c1, c2, rfl, q10, q11, q12⟩ := domR_open h1
  obtain ⟨lb, ub, mb⟩ := x1
  simp only at q10 q11 q12
  have A10 := Lib.hid (fun i hi => intsR_at' q10 (i := i) hi)
  have A11 := Lib.hid (fun i hi => intsR_at' q11 (i := i) hi)
  obtain ⟨p10, cap10, rfl, l10, l10', _⟩ := sliceR_open q10
  obtain ⟨p11, cap11, rfl, l11, l11', _⟩ := sliceR_open q11
  have Q12 := Lib.hid q12
  obtain ⟨p12, cap12, rfl, l12, l12', _⟩ := sliceR_open q12
  unfold maxLen at l10' l11' l12'
  clear h1 q10 q11 q12
  have AM := Lib.hid (fun i hi => rowsR_at Q02.out (i := i) hi)
  have BM := Lib.hid (fun i hi => rowsR_at Q12.out (i := i) hi)
  have HSS := Lib.hid _hS0
  have HST := Lib.hid _hS1
  clear _hS0 _hn0 _hS1 _hn1 Q02 Q12
  show Calls Try.prog 39 #[.agg #[.slice p00 la.length cap00, .slice p01 ua.length cap01, .slice p02 ma.length cap02], .agg #[.slice p10 lb.length cap10, .slice p11 ub.length cap11, .slice p12 mb.length cap12]] w _
  by_cases e0 : la.length = lb.length
  rotate_left
  · have HF := Lib.hid (show domSubset (la, ua, ma) (lb, ub, mb) = false from domSubset_len fun h => by obtain ⟨h1, h2, h3, h4, h5⟩ := h; simp only at h1 h2 h3 h4 h5; omega)
    have b0 : (((la.length : Nat) : Int) != ((lb.length : Nat) : Int)) = true := by simp; omega
    clear e0
    go_enter Try.func39, Try.ntmps39
    go_wp2
    go_ret
    exact ⟨ret_bool HF.out.symm, by (repeat (first | exact Bel.refl _ | apply Bel.drewN | apply Bel.drew | apply Bel.alloc | refine Bel.trans ?_ (by assumption)))⟩
  have Ee0 := Lib.hid e0
  have b0 : (((la.length : Nat) : Int) != ((lb.length : Nat) : Int)) = false := by simp [e0]
  clear e0
  by_cases e1 : ua.length = lb.length
  rotate_left
  · have HF := Lib.hid (show domSubset (la, ua, ma) (lb, ub, mb) = false from domSubset_len fun h => by obtain ⟨h1, h2, h3, h4, h5⟩ := h; simp only at h1 h2 h3 h4 h5; omega)
    have b1 : (((ua.length : Nat) : Int) != ((lb.length : Nat) : Int)) = true := by simp; omega
    clear e1
    go_enter Try.func39, Try.ntmps39
    go_wp2
    go_ret
    exact ⟨ret_bool HF.out.symm, by (repeat (first | exact Bel.refl _ | apply Bel.drewN | apply Bel.drew | apply Bel.alloc | refine Bel.trans ?_ (by assumption)))⟩
  have Ee1 := Lib.hid e1
  have b1 : (((ua.length : Nat) : Int) != ((lb.length : Nat) : Int)) = false := by simp [e1]
  clear e1
  by_cases e2 : ub.length = lb.length
  rotate_left
  · have HF := Lib.hid (show domSubset (la, ua, ma) (lb, ub, mb) = false from domSubset_len fun h => by obtain ⟨h1, h2, h3, h4, h5⟩ := h; simp only at h1 h2 h3 h4 h5; omega)
    have b2 : (((ub.length : Nat) : Int) != ((lb.length : Nat) : Int)) = true := by simp; omega
    clear e2
    go_enter Try.func39, Try.ntmps39
    go_wp2
    go_ret
    exact ⟨ret_bool HF.out.symm, by (repeat (first | exact Bel.refl _ | apply Bel.drewN | apply Bel.drew | apply Bel.alloc | refine Bel.trans ?_ (by assumption)))⟩
  have Ee2 := Lib.hid e2
  have b2 : (((ub.length : Nat) : Int) != ((lb.length : Nat) : Int)) = false := by simp [e2]
  clear e2
  by_cases e3 : ma.length = lb.length
  rotate_left
  · have HF := Lib.hid (show domSubset (la, ua, ma) (lb, ub, mb) = false from domSubset_len fun h => by obtain ⟨h1, h2, h3, h4, h5⟩ := h; simp only at h1 h2 h3 h4 h5; omega)
    have b3 : (((ma.length : Nat) : Int) != ((lb.length : Nat) : Int)) = true := by simp; omega
    clear e3
    go_enter Try.func39, Try.ntmps39
    go_wp2
    go_ret
    exact ⟨ret_bool HF.out.symm, by (repeat (first | exact Bel.refl _ | apply Bel.drewN | apply Bel.drew | apply Bel.alloc | refine Bel.trans ?_ (by assumption)))⟩
  have Ee3 := Lib.hid e3
  have b3 : (((ma.length : Nat) : Int) != ((lb.length : Nat) : Int)) = false := by simp [e3]
  clear e3
  by_cases e4 : mb.length = lb.length
  rotate_left
  · have HF := Lib.hid (show domSubset (la, ua, ma) (lb, ub, mb) = false from domSubset_len fun h => by obtain ⟨h1, h2, h3, h4, h5⟩ := h; simp only at h1 h2 h3 h4 h5; omega)
    have b4 : (((mb.length : Nat) : Int) != ((lb.length : Nat) : Int)) = true := by simp; omega
    clear e4
    go_enter Try.func39, Try.ntmps39
    go_wp2
    go_ret
    exact ⟨ret_bool HF.out.symm, by (repeat (first | exact Bel.refl _ | apply Bel.drewN | apply Bel.drew | apply Bel.alloc | refine Bel.trans ?_ (by assumption)))⟩
  have Ee4 := Lib.hid e4
  have b4 : (((mb.length : Nat) : Int) != ((lb.length : Nat) : Int)) = false := by simp [e4]
  clear e4
  have HL := Lib.hid (show SubLen (la, ua, ma) (lb, ub, mb) from by have h0 := Ee0.out; have h1 := Ee1.out; have h2 := Ee2.out; have h3 := Ee3.out; have h4 := Ee4.out; unfold SubLen; simp only; omega)
  have hL : ua.length = la.length ∧ ma.length = la.length ∧ lb.length = la.length ∧ ub.length = la.length ∧ mb.length = la.length := HL.out
  have HLL := Lib.hid hL
  clear hL
  go_enter Try.func39, Try.ntmps39
  go_wp2_with fail
  go_loopw [46] (fun i wr => ∃ (k : Nat), k ≤ la.length ∧ i = .int .i64 k ∧ (∀ j, j < k → subAt (la, ua, ma) (lb, ub, mb) j = true) ∧ Bel w wr ∧ wr.cell? ⟨w.heap.size, 0, none⟩ = some (.slice p00 la.length cap00) ∧ wr.cell? ⟨w.heap.size, 1, none⟩ = some (.slice p01 ua.length cap01) ∧ wr.cell? ⟨w.heap.size, 2, none⟩ = some (.slice p02 ma.length cap02) ∧ wr.cell? ⟨w.heap.size + 1, 0, none⟩ = some (.slice p10 lb.length cap10) ∧ wr.cell? ⟨w.heap.size + 1, 1, none⟩ = some (.slice p11 ub.length cap11) ∧ wr.cell? ⟨w.heap.size + 1, 2, none⟩ = some (.slice p12 mb.length cap12)) (fun i _ => la.length - (intOf i).toNat)
  case atStart => exact ⟨0, Nat.zero_le _, rfl, fun j hj => by omega, by (repeat (first | exact Bel.refl _ | apply Bel.drewN | apply Bel.drew | apply Bel.alloc | refine Bel.trans ?_ (by assumption))), by simp [go_sem], by simp [go_sem], by simp [go_sem], by simp [go_sem], by simp [go_sem], by simp [go_sem]⟩
  case round =>
    obtain ⟨k, hk, rfl, hall, hB, b0, b1, b2, b3, b4, b5⟩ := hrel
    have HA := Lib.hid hall; clear hall
    by_cases hlt : k < la.length
    · obtain ⟨bla, ola, ela, dla⟩ := A00.out k hlt
      obtain ⟨bua, oua, eua, dua⟩ := A01.out k (by have := HLL.out; omega)
      obtain ⟨blb, olb, elb, dlb⟩ := A10.out k (by have := HLL.out; omega)
      obtain ⟨bub, oub, eub, dub⟩ := A11.out k (by have := HLL.out; omega)
      obtain ⟨bma, oma, rpa, rca, ema, dma, _, _, hra⟩ := AM.out k (by have := HLL.out; omega)
      obtain ⟨bmb, omb, rpb, rcb, emb, dmb, _, _, hrb⟩ := BM.out k (by have := HLL.out; omega)
      obtain rfl : p00 = some ⟨bla, ola, none⟩ := ela
      obtain rfl : p01 = some ⟨bua, oua, none⟩ := eua
      obtain rfl : p02 = some ⟨bma, oma, none⟩ := ema
      obtain rfl : p10 = some ⟨blb, olb, none⟩ := elb
      obtain rfl : p11 = some ⟨bub, oub, none⟩ := eub
      obtain rfl : p12 = some ⟨bmb, omb, none⟩ := emb
      have dla := hB.cell dla
      have dua := hB.cell dua
      have dlb := hB.cell dlb
      have dub := hB.cell dub
      have dma := hB.cell dma
      have dmb := hB.cell dmb
      have hra := Lib.hid (intsR_good.bel hra hB HSS.out)
      have hrb := Lib.hid (intsR_good.bel hrb hB HST.out)
      have HSw := Lib.hid (show ∀ b, S0 b → b < wr.heap.size from fun b hb => Nat.lt_of_lt_of_le (HSS.out b hb) hB.size)
      have HTw := Lib.hid (show ∀ b, S1 b → b < wr.heap.size from fun b hb => Nat.lt_of_lt_of_le (HST.out b hb) hB.size)
      have i1 : (k : Int) < (la.length : Int) := by omega
      have i2 : (k : Int) < (ua.length : Int) := by have := HLL.out; omega
      have i3 : (k : Int) < (lb.length : Int) := by have := HLL.out; omega
      have i4 : (k : Int) < (ub.length : Int) := by have := HLL.out; omega
      have i5 : (k : Int) < (ma.length : Int) := by have := HLL.out; omega
      have i6 : (k : Int) < (mb.length : Int) := by have := HLL.out; omega
      have HO := Lib.hid (show subAt (la, ua, ma) (lb, ub, mb) k = (!decide (la.getD k 0 < lb.getD k 0) && (!decide (ub.getD k 0 < ua.getD k 0) && subB (ma.getD k []) (mb.getD k []))) from rfl)
      generalize la.getD k 0 = l at *
      generalize ua.getD k 0 = u at *
      generalize lb.getD k 0 = l' at *
      generalize ub.getD k 0 = u' at *
      generalize ma.getD k [] = m at *
      generalize mb.getD k [] = m' at *
      by_cases c1 : l < l'
      · have HNO := Lib.hid (show (!decide (l < l') && (!decide (u' < u) && subB m m')) = false from by simp [c1])
        go_wp2_with fail
        go_quiet ((first | (go_at_call 80; exact Calls.quiet_of_same ((sSetSubset_any _ _ m m' S0 S1 _ (intsR_good.bel hra.out (by (repeat (first | exact Bel.refl _ | apply Bel.drewN | apply Bel.drew | apply Bel.alloc | refine Bel.trans ?_ (by assumption)))) HSw.out) (intsR_good.bel hrb.out (by (repeat (first | exact Bel.refl _ | apply Bel.drewN | apply Bel.drew | apply Bel.alloc | refine Bel.trans ?_ (by assumption)))) HTw.out)).mono fun e w' h => ⟨h.1, h.2.symm⟩))))
        go_wp2
        go_ret
        exact ⟨ret_bool (domSubset_no hlt (by rw [HO.out]; exact HNO.out)).symm, by (repeat (first | exact Bel.refl _ | apply Bel.drewN | apply Bel.drew | apply Bel.alloc | refine Bel.trans ?_ (by assumption)))⟩
      have g1 : decide (l < l') = false := by simp; omega
      have nc1 := Lib.hid c1
      clear c1
      by_cases c2 : u' < u
      · have HNO := Lib.hid (show (!decide (l < l') && (!decide (u' < u) && subB m m')) = false from by simp [c2])
        go_wp2_with fail
        go_quiet ((first | (go_at_call 80; exact Calls.quiet_of_same ((sSetSubset_any _ _ m m' S0 S1 _ (intsR_good.bel hra.out (by (repeat (first | exact Bel.refl _ | apply Bel.drewN | apply Bel.drew | apply Bel.alloc | refine Bel.trans ?_ (by assumption)))) HSw.out) (intsR_good.bel hrb.out (by (repeat (first | exact Bel.refl _ | apply Bel.drewN | apply Bel.drew | apply Bel.alloc | refine Bel.trans ?_ (by assumption)))) HTw.out)).mono fun e w' h => ⟨h.1, h.2.symm⟩))))
        go_wp2
        go_ret
        exact ⟨ret_bool (domSubset_no hlt (by rw [HO.out]; exact HNO.out)).symm, by (repeat (first | exact Bel.refl _ | apply Bel.drewN | apply Bel.drew | apply Bel.alloc | refine Bel.trans ?_ (by assumption)))⟩
      have g2 : decide (u' < u) = false := by simp; omega
      have nc2 := Lib.hid c2
      clear c2
      cases hh : subB m m'
      · have HNO := Lib.hid (show (!decide (l < l') && (!decide (u' < u) && subB m m')) = false from by simp [hh])
        go_wp2_with fail
        go_quiet ((first | (go_at_call 80; exact Calls.quiet_of_same ((sSetSubset_any _ _ m m' S0 S1 _ (intsR_good.bel hra.out (by (repeat (first | exact Bel.refl _ | apply Bel.drewN | apply Bel.drew | apply Bel.alloc | refine Bel.trans ?_ (by assumption)))) HSw.out) (intsR_good.bel hrb.out (by (repeat (first | exact Bel.refl _ | apply Bel.drewN | apply Bel.drew | apply Bel.alloc | refine Bel.trans ?_ (by assumption)))) HTw.out)).mono fun e w' h => ⟨h.1, h.2.symm⟩))))
        go_wp2
        go_ret
        exact ⟨ret_bool (domSubset_no hlt (by rw [HO.out]; exact HNO.out)).symm, by (repeat (first | exact Bel.refl _ | apply Bel.drewN | apply Bel.drew | apply Bel.alloc | refine Bel.trans ?_ (by assumption)))⟩
      have HYES := Lib.hid (show (!decide (l < l') && (!decide (u' < u) && subB m m')) = true from by rw [g1, g2, hh]; rfl)
      go_wp2_with fail
      go_quiet ((first | (go_at_call 80; exact Calls.quiet_of_same ((sSetSubset_any _ _ m m' S0 S1 _ (intsR_good.bel hra.out (by (repeat (first | exact Bel.refl _ | apply Bel.drewN | apply Bel.drew | apply Bel.alloc | refine Bel.trans ?_ (by assumption)))) HSw.out) (intsR_good.bel hrb.out (by (repeat (first | exact Bel.refl _ | apply Bel.drewN | apply Bel.drew | apply Bel.alloc | refine Bel.trans ?_ (by assumption)))) HTw.out)).mono fun e w' h => ⟨h.1, h.2.symm⟩))))
      go_wp2
      go_roundw
      case rel =>
        refine ⟨k + 1, by omega, by go_num, fun j hj => ?_, hB.drewN _, by first | assumption | (simp; assumption), by first | assumption | (simp; assumption), by first | assumption | (simp; assumption), by first | assumption | (simp; assumption), by first | assumption | (simp; assumption), by first | assumption | (simp; assumption)⟩
        by_cases e : j < k
        · exact HA.out j e
        · obtain rfl : j = k := by omega
          rw [HO.out]; exact HYES.out
      case measure => simp [intOf]; omega
    · have hge : ¬ (k : Int) < (la.length : Int) := by omega
      go_wp2
      go_ret
      exact ⟨ret_bool (domSubset_yes HL.out fun j hj => HA.out j (by have : j < la.length := hj; omega)).symm, hB⟩

set_option maxHeartbeats 1600000 in
theorem iDomainSubset_any (v0 : Value) (x0 : DomT) (S0 : Nat → Prop) (v1 : Value) (x1 : DomT) (S1 : Nat → Prop) (w : World) (h0 : aggR domR S0 w v0 x0) (_hS0 : ∀ b, S0 b → b < w.heap.size) (_hn0 : bulkDomain x0 ≤ 1048576) (h1 : aggR domR S1 w v1 x1) (_hS1 : ∀ b, S1 b → b < w.heap.size) (_hn1 : bulkDomain x1 ≤ 1048576) :
    Calls Try.prog 40 #[v0, v1] w fun e w' => e = .returned (.bool (domSubset x0 x1)) ∧ Bel w w' := by
  obtain ⟨cs0, rfl, h0⟩ := h0
  obtain ⟨c0, c1, c2, rfl, q00, q01, q02⟩ := domR_open h0
  obtain ⟨la, ua, ma⟩ := x0
  simp only at q00 q01 q02
  have A00 := Lib.hid (fun i hi => intsR_at' q00 (i := i) hi)
  have A01 := Lib.hid (fun i hi => intsR_at' q01 (i := i) hi)
  obtain ⟨p00, cap00, rfl, l00, l00', _⟩ := sliceR_open q00
  obtain ⟨p01, cap01, rfl, l01, l01', _⟩ := sliceR_open q01
  have Q02 := Lib.hid q02
  obtain ⟨p02, cap02, rfl, l02, l02', _⟩ := sliceR_open q02
  unfold maxLen at l00' l01' l02'
  clear h0 q00 q01 q02
  obtain ⟨cs1, rfl, h1⟩ := h1
  obtain ⟨c0, c1, c2, rfl, q10, q11, q12⟩ := domR_open h1
  obtain ⟨lb, ub, mb⟩ := x1
  simp only at q10 q11 q12
  have A10 := Lib.hid (fun i hi => intsR_at' q10 (i := i) hi)
  have A11 := Lib.hid (fun i hi => intsR_at' q11 (i := i) hi)
  obtain ⟨p10, cap10, rfl, l10, l10', _⟩ := sliceR_open q10
  obtain ⟨p11, cap11, rfl, l11, l11', _⟩ := sliceR_open q11
  have Q12 := Lib.hid q12
  obtain ⟨p12, cap12, rfl, l12, l12', _⟩ := sliceR_open q12
  unfold maxLen at l10' l11' l12'
  clear h1 q10 q11 q12
  have AM := Lib.hid (fun i hi => rowsR_at Q02.out (i := i) hi)
  have BM := Lib.hid (fun i hi => rowsR_at Q12.out (i := i) hi)
  have HSS := Lib.hid _hS0
  have HST := Lib.hid _hS1
  clear _hS0 _hn0 _hS1 _hn1 Q02 Q12
  show Calls Try.prog 40 #[.agg #[.slice p00 la.length cap00, .slice p01 ua.length cap01, .slice p02 ma.length cap02], .agg #[.slice p10 lb.length cap10, .slice p11 ub.length cap11, .slice p12 mb.length cap12]] w _
  by_cases e0 : ua.length = la.length
  rotate_left
  · have HF := Lib.hid (show domSubset (la, ua, ma) (lb, ub, mb) = false from domSubset_len fun h => by obtain ⟨h1, h2, h3, h4, h5⟩ := h; simp only at h1 h2 h3 h4 h5; omega)
    have b0 : (((ua.length : Nat) : Int) != ((la.length : Nat) : Int)) = true := by simp; omega
    clear e0
    go_enter Try.func40, Try.ntmps40
    go_wp2_with fail
    refine wp_loop_rounds 6 ?_
    iterate 1 (rw [rounds_succ]; go_wp2_with fail)
    go_ret
    exact ⟨ret_bool HF.out.symm, by (repeat (first | exact Bel.refl _ | apply Bel.drewN | apply Bel.drew | apply Bel.alloc | refine Bel.trans ?_ (by assumption)))⟩
  have Ee0 := Lib.hid e0
  have b0 : (((ua.length : Nat) : Int) != ((la.length : Nat) : Int)) = false := by simp [e0]
  clear e0
  by_cases e1 : ma.length = la.length
  rotate_left
  · have HF := Lib.hid (show domSubset (la, ua, ma) (lb, ub, mb) = false from domSubset_len fun h => by obtain ⟨h1, h2, h3, h4, h5⟩ := h; simp only at h1 h2 h3 h4 h5; omega)
    have b1 : (((ma.length : Nat) : Int) != ((la.length : Nat) : Int)) = true := by simp; omega
    clear e1
    go_enter Try.func40, Try.ntmps40
    go_wp2_with fail
    refine wp_loop_rounds 6 ?_
    iterate 2 (rw [rounds_succ]; go_wp2_with fail)
    go_ret
    exact ⟨ret_bool HF.out.symm, by (repeat (first | exact Bel.refl _ | apply Bel.drewN | apply Bel.drew | apply Bel.alloc | refine Bel.trans ?_ (by assumption)))⟩
  have Ee1 := Lib.hid e1
  have b1 : (((ma.length : Nat) : Int) != ((la.length : Nat) : Int)) = false := by simp [e1]
  clear e1
  by_cases e2 : lb.length = la.length
  rotate_left
  · have HF := Lib.hid (show domSubset (la, ua, ma) (lb, ub, mb) = false from domSubset_len fun h => by obtain ⟨h1, h2, h3, h4, h5⟩ := h; simp only at h1 h2 h3 h4 h5; omega)
    have b2 : (((lb.length : Nat) : Int) != ((la.length : Nat) : Int)) = true := by simp; omega
    clear e2
    go_enter Try.func40, Try.ntmps40
    go_wp2_with fail
    refine wp_loop_rounds 6 ?_
    iterate 3 (rw [rounds_succ]; go_wp2_with fail)
    go_ret
    exact ⟨ret_bool HF.out.symm, by (repeat (first | exact Bel.refl _ | apply Bel.drewN | apply Bel.drew | apply Bel.alloc | refine Bel.trans ?_ (by assumption)))⟩
  have Ee2 := Lib.hid e2
  have b2 : (((lb.length : Nat) : Int) != ((la.length : Nat) : Int)) = false := by simp [e2]
  clear e2
  by_cases e3 : ub.length = la.length
  rotate_left
  · have HF := Lib.hid (show domSubset (la, ua, ma) (lb, ub, mb) = false from domSubset_len fun h => by obtain ⟨h1, h2, h3, h4, h5⟩ := h; simp only at h1 h2 h3 h4 h5; omega)
    have b3 : (((ub.length : Nat) : Int) != ((la.length : Nat) : Int)) = true := by simp; omega
    clear e3
    go_enter Try.func40, Try.ntmps40
    go_wp2_with fail
    refine wp_loop_rounds 6 ?_
    iterate 4 (rw [rounds_succ]; go_wp2_with fail)
    go_ret
    exact ⟨ret_bool HF.out.symm, by (repeat (first | exact Bel.refl _ | apply Bel.drewN | apply Bel.drew | apply Bel.alloc | refine Bel.trans ?_ (by assumption)))⟩
  have Ee3 := Lib.hid e3
  have b3 : (((ub.length : Nat) : Int) != ((la.length : Nat) : Int)) = false := by simp [e3]
  clear e3
  by_cases e4 : mb.length = la.length
  rotate_left
  · have HF := Lib.hid (show domSubset (la, ua, ma) (lb, ub, mb) = false from domSubset_len fun h => by obtain ⟨h1, h2, h3, h4, h5⟩ := h; simp only at h1 h2 h3 h4 h5; omega)
    have b4 : (((mb.length : Nat) : Int) != ((la.length : Nat) : Int)) = true := by simp; omega
    clear e4
    go_enter Try.func40, Try.ntmps40
    go_wp2_with fail
    refine wp_loop_rounds 6 ?_
    iterate 5 (rw [rounds_succ]; go_wp2_with fail)
    go_ret
    exact ⟨ret_bool HF.out.symm, by (repeat (first | exact Bel.refl _ | apply Bel.drewN | apply Bel.drew | apply Bel.alloc | refine Bel.trans ?_ (by assumption)))⟩
  have Ee4 := Lib.hid e4
  have b4 : (((mb.length : Nat) : Int) != ((la.length : Nat) : Int)) = false := by simp [e4]
  clear e4
  have HL := Lib.hid (show SubLen (la, ua, ma) (lb, ub, mb) from by have h0 := Ee0.out; have h1 := Ee1.out; have h2 := Ee2.out; have h3 := Ee3.out; have h4 := Ee4.out; unfold SubLen; simp only; omega)
  have hL : ua.length = la.length ∧ ma.length = la.length ∧ lb.length = la.length ∧ ub.length = la.length ∧ mb.length = la.length := HL.out
  have HLL := Lib.hid hL
  clear hL
  go_enter Try.func40, Try.ntmps40
  go_wp2_with fail
  refine wp_loop_rounds 6 ?_
  iterate 6 (rw [rounds_succ]; go_wp2_with fail)
  go_loopw [38] (fun i wr => ∃ (k : Nat), k ≤ la.length ∧ i = .int .i64 k ∧ (∀ j, j < k → subAt (la, ua, ma) (lb, ub, mb) j = true) ∧ Bel w wr ∧ wr.cell? ⟨w.heap.size, 0, none⟩ = some (.slice p00 la.length cap00) ∧ wr.cell? ⟨w.heap.size, 1, none⟩ = some (.slice p01 ua.length cap01) ∧ wr.cell? ⟨w.heap.size, 2, none⟩ = some (.slice p02 ma.length cap02) ∧ wr.cell? ⟨w.heap.size + 1, 0, none⟩ = some (.slice p10 lb.length cap10) ∧ wr.cell? ⟨w.heap.size + 1, 1, none⟩ = some (.slice p11 ub.length cap11) ∧ wr.cell? ⟨w.heap.size + 1, 2, none⟩ = some (.slice p12 mb.length cap12)) (fun i _ => la.length - (intOf i).toNat)
  case atStart => exact ⟨0, Nat.zero_le _, rfl, fun j hj => by omega, by (repeat (first | exact Bel.refl _ | apply Bel.drewN | apply Bel.drew | apply Bel.alloc | refine Bel.trans ?_ (by assumption))), by simp [go_sem], by simp [go_sem], by simp [go_sem], by simp [go_sem], by simp [go_sem], by simp [go_sem]⟩
  case round =>
    obtain ⟨k, hk, rfl, hall, hB, b0, b1, b2, b3, b4, b5⟩ := hrel
    have HA := Lib.hid hall; clear hall
    by_cases hlt : k < la.length
    · obtain ⟨bla, ola, ela, dla⟩ := A00.out k hlt
      obtain ⟨bua, oua, eua, dua⟩ := A01.out k (by have := HLL.out; omega)
      obtain ⟨blb, olb, elb, dlb⟩ := A10.out k (by have := HLL.out; omega)
      obtain ⟨bub, oub, eub, dub⟩ := A11.out k (by have := HLL.out; omega)
      obtain ⟨bma, oma, rpa, rca, ema, dma, _, _, hra⟩ := AM.out k (by have := HLL.out; omega)
      obtain ⟨bmb, omb, rpb, rcb, emb, dmb, _, _, hrb⟩ := BM.out k (by have := HLL.out; omega)
      obtain rfl : p00 = some ⟨bla, ola, none⟩ := ela
      obtain rfl : p01 = some ⟨bua, oua, none⟩ := eua
      obtain rfl : p02 = some ⟨bma, oma, none⟩ := ema
      obtain rfl : p10 = some ⟨blb, olb, none⟩ := elb
      obtain rfl : p11 = some ⟨bub, oub, none⟩ := eub
      obtain rfl : p12 = some ⟨bmb, omb, none⟩ := emb
      have dla := hB.cell dla
      have dua := hB.cell dua
      have dlb := hB.cell dlb
      have dub := hB.cell dub
      have dma := hB.cell dma
      have dmb := hB.cell dmb
      have hra := Lib.hid (intsR_good.bel hra hB HSS.out)
      have hrb := Lib.hid (intsR_good.bel hrb hB HST.out)
      have HSw := Lib.hid (show ∀ b, S0 b → b < wr.heap.size from fun b hb => Nat.lt_of_lt_of_le (HSS.out b hb) hB.size)
      have HTw := Lib.hid (show ∀ b, S1 b → b < wr.heap.size from fun b hb => Nat.lt_of_lt_of_le (HST.out b hb) hB.size)
      have i1 : (k : Int) < (la.length : Int) := by omega
      have i2 : (k : Int) < (ua.length : Int) := by have := HLL.out; omega
      have i3 : (k : Int) < (lb.length : Int) := by have := HLL.out; omega
      have i4 : (k : Int) < (ub.length : Int) := by have := HLL.out; omega
      have i5 : (k : Int) < (ma.length : Int) := by have := HLL.out; omega
      have i6 : (k : Int) < (mb.length : Int) := by have := HLL.out; omega
      have HO := Lib.hid (show subAt (la, ua, ma) (lb, ub, mb) k = (!decide (la.getD k 0 < lb.getD k 0) && (!decide (ub.getD k 0 < ua.getD k 0) && subB (ma.getD k []) (mb.getD k []))) from rfl)
      generalize la.getD k 0 = l at *
      generalize ua.getD k 0 = u at *
      generalize lb.getD k 0 = l' at *
      generalize ub.getD k 0 = u' at *
      generalize ma.getD k [] = m at *
      generalize mb.getD k [] = m' at *
      by_cases c1 : l < l'
      · have HNO := Lib.hid (show (!decide (l < l') && (!decide (u' < u) && subB m m')) = false from by simp [c1])
        go_wp2_with fail
        go_quiet ((first | (go_at_call 81; exact Calls.quiet_of_same ((iSetSubset_any _ _ m m' S0 S1 _ (intsR_good.bel hra.out (by (repeat (first | exact Bel.refl _ | apply Bel.drewN | apply Bel.drew | apply Bel.alloc | refine Bel.trans ?_ (by assumption)))) HSw.out) (intsR_good.bel hrb.out (by (repeat (first | exact Bel.refl _ | apply Bel.drewN | apply Bel.drew | apply Bel.alloc | refine Bel.trans ?_ (by assumption)))) HTw.out)).mono fun e w' h => ⟨h.1, h.2.symm⟩))))
        go_wp2
        go_ret
        exact ⟨ret_bool (domSubset_no hlt (by rw [HO.out]; exact HNO.out)).symm, by (repeat (first | exact Bel.refl _ | apply Bel.drewN | apply Bel.drew | apply Bel.alloc | refine Bel.trans ?_ (by assumption)))⟩
      have g1 : decide (l < l') = false := by simp; omega
      have nc1 := Lib.hid c1
      clear c1
      by_cases c2 : u' < u
      · have HNO := Lib.hid (show (!decide (l < l') && (!decide (u' < u) && subB m m')) = false from by simp [c2])
        go_wp2_with fail
        go_quiet ((first | (go_at_call 81; exact Calls.quiet_of_same ((iSetSubset_any _ _ m m' S0 S1 _ (intsR_good.bel hra.out (by (repeat (first | exact Bel.refl _ | apply Bel.drewN | apply Bel.drew | apply Bel.alloc | refine Bel.trans ?_ (by assumption)))) HSw.out) (intsR_good.bel hrb.out (by (repeat (first | exact Bel.refl _ | apply Bel.drewN | apply Bel.drew | apply Bel.alloc | refine Bel.trans ?_ (by assumption)))) HTw.out)).mono fun e w' h => ⟨h.1, h.2.symm⟩))))
        go_wp2
        go_ret
        exact ⟨ret_bool (domSubset_no hlt (by rw [HO.out]; exact HNO.out)).symm, by (repeat (first | exact Bel.refl _ | apply Bel.drewN | apply Bel.drew | apply Bel.alloc | refine Bel.trans ?_ (by assumption)))⟩
      have g2 : decide (u' < u) = false := by simp; omega
      have nc2 := Lib.hid c2
      clear c2
      cases hh : subB m m'
      · have HNO := Lib.hid (show (!decide (l < l') && (!decide (u' < u) && subB m m')) = false from by simp [hh])
        go_wp2_with fail
        go_quiet ((first | (go_at_call 81; exact Calls.quiet_of_same ((iSetSubset_any _ _ m m' S0 S1 _ (intsR_good.bel hra.out (by (repeat (first | exact Bel.refl _ | apply Bel.drewN | apply Bel.drew | apply Bel.alloc | refine Bel.trans ?_ (by assumption)))) HSw.out) (intsR_good.bel hrb.out (by (repeat (first | exact Bel.refl _ | apply Bel.drewN | apply Bel.drew | apply Bel.alloc | refine Bel.trans ?_ (by assumption)))) HTw.out)).mono fun e w' h => ⟨h.1, h.2.symm⟩))))
        go_wp2
        go_ret
        exact ⟨ret_bool (domSubset_no hlt (by rw [HO.out]; exact HNO.out)).symm, by (repeat (first | exact Bel.refl _ | apply Bel.drewN | apply Bel.drew | apply Bel.alloc | refine Bel.trans ?_ (by assumption)))⟩
      have HYES := Lib.hid (show (!decide (l < l') && (!decide (u' < u) && subB m m')) = true from by rw [g1, g2, hh]; rfl)
      go_wp2_with fail
      go_quiet ((first | (go_at_call 81; exact Calls.quiet_of_same ((iSetSubset_any _ _ m m' S0 S1 _ (intsR_good.bel hra.out (by (repeat (first | exact Bel.refl _ | apply Bel.drewN | apply Bel.drew | apply Bel.alloc | refine Bel.trans ?_ (by assumption)))) HSw.out) (intsR_good.bel hrb.out (by (repeat (first | exact Bel.refl _ | apply Bel.drewN | apply Bel.drew | apply Bel.alloc | refine Bel.trans ?_ (by assumption)))) HTw.out)).mono fun e w' h => ⟨h.1, h.2.symm⟩))))
      go_wp2
      go_roundw
      case rel =>
        refine ⟨k + 1, by omega, by go_num, fun j hj => ?_, hB.drewN _, by first | assumption | (simp; assumption), by first | assumption | (simp; assumption), by first | assumption | (simp; assumption), by first | assumption | (simp; assumption), by first | assumption | (simp; assumption), by first | assumption | (simp; assumption)⟩
        by_cases e : j < k
        · exact HA.out j e
        · obtain rfl : j = k := by omega
          rw [HO.out]; exact HYES.out
      case measure => simp [intOf]; omega
    · have hge : ¬ (k : Int) < (la.length : Int) := by omega
      go_wp2
      go_ret
      exact ⟨ret_bool (domSubset_yes HL.out fun j hj => HA.out j (by have : j < la.length := hj; omega)).symm, hB⟩

end Go.Proofs.Ytcbiknpbbldmbaa
