/- Contracts of ClauseHolds. -/
import Derived.Test.YtcbiknpbbldmbaaHolds
import Derived.Test.YtcbiknpbbldmbaaLit
namespace Go.Proofs.Ytcbiknpbbldmbaa
open Go.ChangeShapes Go.WideShapes Go.ChangeAt Go.RowKit
set_option linter.unusedVariables false

def clHolds (xs : List LitT) (s : SchT) : Bool := xs.any fun x => litHolds x s
theorem clHolds_true {xs : List LitT} {s : SchT} {k : Nat} (hk : k < xs.length) (h : litHolds xs[k] s = true) : clHolds xs s = true := List.any_eq_true.2 ⟨xs[k], List.getElem_mem hk, h⟩
theorem clHolds_false {xs : List LitT} {s : SchT} (h : ∀ j (hj : j < xs.length), litHolds xs[j] s = false) : clHolds xs s = false := by
  unfold clHolds
  rw [List.any_eq_false]
  intro x hx
  obtain ⟨j, hj, e⟩ := List.getElem_of_mem hx
  rw [← e, h j hj]
  exact Bool.false_ne_true
def sliceAddr' : Value → Option Addr
  | .slice p _ _ => p
  | _ => none
/-- The cells of the i-th literal of a slice of literals. -/
theorem litsR_at {S : Nat → Prop} {w : World} {v : Value} {xs : List LitT} (h : litsR S w [v] xs) {i : Nat} (hi : i < xs.length) :
    ∃ b off, sliceAddr' v = some ⟨b, off, none⟩ ∧ w.cell? ⟨b, off + i * 3, none⟩ = some (.int .i64 xs[i].1) ∧ w.cell? ⟨b, off + i * 3 + 1, none⟩ = some (.int .i64 xs[i].2.1) ∧ w.cell? ⟨b, off + i * 3 + 2, none⟩ = some (.int .i64 xs[i].2.2) ∧ I64 xs[i].2.2 := by
  obtain ⟨p', cap', rfl, _, _, h4⟩ := sliceR_open h
  obtain ⟨b, off, ecs, e1, e2, e3, e4, e5⟩ := h4 i hi
  obtain ⟨rfl, q0, q1, q2⟩ := litR_open e5
  exact ⟨b, off, e1, (e4 0 (by simp)).1, (e4 1 (by simp)).1, (e4 2 (by simp)).1, q2⟩

theorem closHolds_any (x : LitT) (B : Nat) (c0 c1 : Value) (x1 : SchT) (S1 : Nat → Prop) (w : World) (b0 : w.cell? ⟨B, 0, none⟩ = some c0) (b1 : w.cell? ⟨B, 1, none⟩ = some c1) (h1 : schR S1 w [c0, c1] x1) (hS1 : ∀ b, S1 b → b < w.heap.size) (hn1 : bulkSchedule x1 ≤ 1048576) :
    Calls Try.prog 79 #[.agg #[.int .i64 x.1, .int .i64 x.2.1, .int .i64 x.2.2], .pointer (some ⟨B, 0, none⟩)] w fun e w' => e = .returned (.bool (litHolds x x1)) ∧ Bel w w' := by
  have H1 := Lib.hid h1
  have HS := Lib.hid hS1
  have a0 := fun o => ((Bel.refl w).alloc o).cell b0
  have a1 := fun o => ((Bel.refl w).alloc o).cell b1
  clear h1 hS1 b0 b1
  go_enter Try.func79, Try.ntmps79
  go_wp2_with fail
  refine (iLiteralHolds_any x _ x1 S1 _ (aggR_mk (schR_good.bel H1.out (by (repeat (first | exact Bel.refl _ | apply Bel.drewN | apply Bel.drew | apply Bel.alloc | refine Bel.trans ?_ (by assumption)))) HS.out)) (fun b hb => Nat.lt_of_lt_of_le (HS.out b hb) (Bel.size (by (repeat (first | exact Bel.refl _ | apply Bel.drewN | apply Bel.drew | apply Bel.alloc | refine Bel.trans ?_ (by assumption)))))) hn1).mono ?_
  rintro e w1 ⟨rfl, g1⟩
  go_wp2
  go_ret
  exact ⟨rfl, by (repeat (first | exact Bel.refl _ | apply Bel.drewN | apply Bel.drew | apply Bel.alloc | refine Bel.trans ?_ (by assumption)))⟩

def FoundHolds (xs : List LitT) (s : SchT) (e : Ending) : Prop := ∃ r : Int, e = .returned (.int .i64 r) ∧ decide (0 ≤ r) = clHolds xs s
set_option maxHeartbeats 400000 in
theorem indexHolds_any (v : Value) (xs : List LitT) (S : Nat → Prop) (B : Nat) (c0 c1 : Value) (x1 : SchT) (S1 : Nat → Prop) (w : World) (hx : litsR S w [v] xs) (b0 : w.cell? ⟨B, 0, none⟩ = some c0) (b1 : w.cell? ⟨B, 1, none⟩ = some c1) (h1 : schR S1 w [c0, c1] x1) (hS1 : ∀ b, S1 b → b < w.heap.size) (hn1 : bulkSchedule x1 ≤ 1048576) :
    Calls Try.prog 104 #[v, .func (.func 79) #[] #[.pointer (some ⟨B, 0, none⟩)]] w fun e w' => FoundHolds xs x1 e ∧ Bel w w' := by
  have hx0 := Lib.hid (fun i hi => litsR_at hx (i := i) hi)
  have H1 := Lib.hid h1
  have HS := Lib.hid hS1
  have HB0 := Lib.hid b0
  have HB1 := Lib.hid b1
  obtain ⟨p, cap, rfl, l1, l2, _⟩ := sliceR_open hx
  unfold maxLen at l2
  clear hx h1 hS1 b0 b1
  go_enter Try.func104, Try.ntmps104
  go_wp2_with fail
  go_loopw [8] (fun i wr => ∃ (k : Nat), k ≤ xs.length ∧ i = .int .i64 k ∧ (∀ j (hj : j < xs.length), j < k → litHolds xs[j] x1 = false) ∧ Bel w wr) (fun i _ => xs.length - (intOf i).toNat)
  case atStart => exact ⟨0, Nat.zero_le _, rfl, fun j hj h => by omega, by (repeat (first | exact Bel.refl _ | apply Bel.drewN | apply Bel.drew | apply Bel.alloc | refine Bel.trans ?_ (by assumption)))⟩
  case round =>
    obtain ⟨k, hk, rfl, hall, hB⟩ := hrel
    have HA := Lib.hid hall; clear hall
    by_cases hlt : k < xs.length
    · obtain ⟨b, off, rfl, d0, d1, d2, _⟩ := hx0.out k hlt
      have d0 := hB.cell d0
      have d1 := hB.cell d1
      have d2 := hB.cell d2
      generalize hX : xs[k] = X at *
      have HX := Lib.hid hX; clear hX
      go_wp2_with fail
      refine (closHolds_any X B c0 c1 x1 S1 _ (hB.cell HB0.out) (hB.cell HB1.out) (schR_good.bel H1.out hB HS.out) (fun b hb => Nat.lt_of_lt_of_le (HS.out b hb) hB.size) hn1).mono ?_
      rintro e w1 ⟨rfl, g1⟩
      have G : Bel w w1 := by (repeat (first | exact Bel.refl _ | apply Bel.drewN | apply Bel.drew | apply Bel.alloc | refine Bel.trans ?_ (by assumption)))
      clear g1 hB
      cases hl : litHolds X x1
      · have HL := Lib.hid hl; clear hl
        go_wp2
        go_roundw
        case rel =>
          refine ⟨k + 1, by omega, by go_num, fun j hj hjk => ?_, G⟩
          by_cases e : j < k
          · exact HA.out j hj e
          · obtain rfl : j = k := by omega
            rw [HX.out]; exact HL.out
        case measure => simp [intOf]; omega
      · have HL := Lib.hid hl; clear hl
        go_wp2
        go_ret
        exact ⟨⟨k, rfl, by rw [clHolds_true hlt (by rw [HX.out]; exact HL.out)]; simp⟩, G⟩
    · go_wp2
      go_ret
      exact ⟨⟨-1, rfl, by rw [clHolds_false fun j hj => HA.out j hj (by omega)]; rfl⟩, hB⟩
theorem containsHolds_any (v : Value) (xs : List LitT) (S : Nat → Prop) (B : Nat) (c0 c1 : Value) (x1 : SchT) (S1 : Nat → Prop) (w : World) (hx : litsR S w [v] xs) (b0 : w.cell? ⟨B, 0, none⟩ = some c0) (b1 : w.cell? ⟨B, 1, none⟩ = some c1) (h1 : schR S1 w [c0, c1] x1) (hS1 : ∀ b, S1 b → b < w.heap.size) (hn1 : bulkSchedule x1 ≤ 1048576) :
    Calls Try.prog 78 #[v, .func (.func 79) #[] #[.pointer (some ⟨B, 0, none⟩)]] w fun e w' => e = .returned (.bool (clHolds xs x1)) ∧ Bel w w' := by
  have hx0 := Lib.hid hx
  have H1 := Lib.hid h1
  have HS := Lib.hid hS1
  have HB0 := Lib.hid b0
  have HB1 := Lib.hid b1
  obtain ⟨p, cap, rfl, _⟩ := sliceR_open hx
  clear hx h1 hS1 b0 b1
  go_enter Try.func78, Try.ntmps78
  go_wp2_with fail
  refine (indexHolds_any _ xs S B c0 c1 x1 S1 _ hx0.out HB0.out HB1.out H1.out HS.out hn1).mono ?_
  rintro e w1 ⟨⟨r, rfl, hr⟩, g1⟩
  have HR := Lib.hid hr; clear hr
  go_wp2
  go_ret
  exact ⟨ret_bool HR.out, g1⟩

theorem iClauseHolds_any (v0 : Value) (x0 : List LitT) (S0 : Nat → Prop) (v1 : Value) (x1 : SchT) (S1 : Nat → Prop) (w : World) (h0 : litsR S0 w [v0] x0) (_hS0 : ∀ b, S0 b → b < w.heap.size) (_hn0 : bulkLiteralS x0 ≤ 1048576) (h1 : aggR schR S1 w v1 x1) (hS1 : ∀ b, S1 b → b < w.heap.size) (hn1 : bulkSchedule x1 ≤ 1048576) :
    Calls Try.prog 38 #[v0, v1] w fun e w' => e = .returned (.bool (clHolds x0 x1)) ∧ Bel w w' := by
  obtain ⟨cs, rfl, h1⟩ := h1
  have H1 := h1
  obtain ⟨c0, c1, rfl, q0, q1⟩ := schR_open h1
  obtain ⟨p0, cap0, rfl, _⟩ := sliceR_open q0
  obtain ⟨p1, cap1, rfl, _⟩ := sliceR_open q1
  have H1 := Lib.hid H1
  have H0 := Lib.hid h0
  have HS0 := Lib.hid _hS0
  have HS := Lib.hid hS1
  have HX0 := Lib.hid (fun i hi => litsR_at h0 (i := i) hi)
  obtain ⟨p, cap, rfl, l1, l2, _⟩ := sliceR_open h0
  unfold maxLen at l2
  clear h0 h1 hS1 q0 q1 _hS0 _hn0
  show Calls Try.prog 38 #[.slice p x0.length cap, .agg #[.slice p0 x1.1.length cap0, .slice p1 x1.2.length cap1]] w _
  go_enter Try.func38, Try.ntmps38
  go_wp2_with fail
  refine (containsHolds_any _ x0 S0 w.heap.size _ _ x1 S1 _ (litsR_good.bel H0.out (by (repeat (first | exact Bel.refl _ | apply Bel.drewN | apply Bel.drew | apply Bel.alloc | refine Bel.trans ?_ (by assumption)))) HS0.out) (by simp [go_sem]) (by simp [go_sem]) (schR_good.bel H1.out (by (repeat (first | exact Bel.refl _ | apply Bel.drewN | apply Bel.drew | apply Bel.alloc | refine Bel.trans ?_ (by assumption)))) HS.out) (fun b hb => Nat.lt_of_lt_of_le (HS.out b hb) (Bel.size (by (repeat (first | exact Bel.refl _ | apply Bel.drewN | apply Bel.drew | apply Bel.alloc | refine Bel.trans ?_ (by assumption)))))) hn1).mono ?_
  rintro e w1 ⟨rfl, g1⟩
  go_wp2
  go_ret
  exact ⟨rfl, by (repeat (first | exact Bel.refl _ | apply Bel.drewN | apply Bel.drew | apply Bel.alloc | refine Bel.trans ?_ (by assumption)))⟩

set_option maxHeartbeats 400000 in
theorem sClauseHolds_any (v0 : Value) (x0 : List LitT) (S0 : Nat → Prop) (v1 : Value) (x1 : SchT) (S1 : Nat → Prop) (w : World) (h0 : litsR S0 w [v0] x0) (_hS0 : ∀ b, S0 b → b < w.heap.size) (_hn0 : bulkLiteralS x0 ≤ 1048576) (h1 : aggR schR S1 w v1 x1) (hS1 : ∀ b, S1 b → b < w.heap.size) (hn1 : bulkSchedule x1 ≤ 1048576) :
    Calls Try.prog 37 #[v0, v1] w fun e w' => e = .returned (.bool (clHolds x0 x1)) ∧ Bel w w' := by
  obtain ⟨cs, rfl, h1⟩ := h1
  have H1 := h1
  obtain ⟨c0, c1, rfl, q0, q1⟩ := schR_open h1
  obtain ⟨p0, cap0, rfl, _⟩ := sliceR_open q0
  obtain ⟨p1, cap1, rfl, _⟩ := sliceR_open q1
  have H1 := Lib.hid H1
  have H0 := Lib.hid h0
  have HS0 := Lib.hid _hS0
  have HS := Lib.hid hS1
  have HX0 := Lib.hid (fun i hi => litsR_at h0 (i := i) hi)
  obtain ⟨p, cap, rfl, l1, l2, _⟩ := sliceR_open h0
  unfold maxLen at l2
  clear h0 h1 hS1 q0 q1 _hS0 _hn0
  show Calls Try.prog 37 #[.slice p x0.length cap, .agg #[.slice p0 x1.1.length cap0, .slice p1 x1.2.length cap1]] w _
  go_enter Try.func37, Try.ntmps37
  go_wp2_with fail
  go_loopw [9] (fun i wr => ∃ (k : Nat), k ≤ x0.length ∧ i = .int .i64 k ∧ (∀ j (hj : j < x0.length), j < k → litHolds x0[j] x1 = false) ∧ Bel w wr ∧ wr.cell? ⟨w.heap.size, 0, none⟩ = some (.slice p0 x1.1.length cap0) ∧ wr.cell? ⟨w.heap.size, 1, none⟩ = some (.slice p1 x1.2.length cap1)) (fun i _ => x0.length - (intOf i).toNat)
  case atStart => exact ⟨0, Nat.zero_le _, rfl, fun j hj h => by omega, by (repeat (first | exact Bel.refl _ | apply Bel.drewN | apply Bel.drew | apply Bel.alloc | refine Bel.trans ?_ (by assumption))), by simp [go_sem], by simp [go_sem]⟩
  case round =>
    obtain ⟨k, hk, rfl, hall, hB, b0, b1⟩ := hrel
    have HA := Lib.hid hall; clear hall
    by_cases hlt : k < x0.length
    · obtain ⟨b, off, rfl, d0, d1, d2, _⟩ := HX0.out k hlt
      have d0 := hB.cell d0
      have d1 := hB.cell d1
      have d2 := hB.cell d2
      have a0 := fun o => ((Bel.refl wr).alloc o).cell b0
      have a1 := fun o => ((Bel.refl wr).alloc o).cell b1
      generalize hX : x0[k] = X at *
      have HX := Lib.hid hX; clear hX
      go_wp2_with fail
      refine (sLiteralHolds_any X _ x1 S1 _ (aggR_mk (schR_good.bel H1.out (by (repeat (first | exact Bel.refl _ | apply Bel.drewN | apply Bel.drew | apply Bel.alloc | refine Bel.trans ?_ (by assumption)))) HS.out)) (fun b hb => Nat.lt_of_lt_of_le (HS.out b hb) (Bel.size (by (repeat (first | exact Bel.refl _ | apply Bel.drewN | apply Bel.drew | apply Bel.alloc | refine Bel.trans ?_ (by assumption)))))) hn1).mono ?_
      rintro e w1 ⟨rfl, g1⟩
      have G : Bel w w1 := by (repeat (first | exact Bel.refl _ | apply Bel.drewN | apply Bel.drew | apply Bel.alloc | refine Bel.trans ?_ (by assumption)))
      have c0' := (((Bel.refl wr).alloc _).trans g1).cell b0
      have c1' := (((Bel.refl wr).alloc _).trans g1).cell b1
      clear g1 hB a0 a1 b0 b1
      cases hl : litHolds X x1
      · have HL := Lib.hid hl; clear hl
        go_wp2
        go_roundw
        case rel =>
          refine ⟨k + 1, by omega, by go_num, fun j hj hjk => ?_, G, c0', c1'⟩
          by_cases e : j < k
          · exact HA.out j hj e
          · obtain rfl : j = k := by omega
            rw [HX.out]; exact HL.out
        case measure => simp [intOf]; omega
      · have HL := Lib.hid hl; clear hl
        go_wp2
        go_ret
        exact ⟨ret_bool (clHolds_true hlt (by rw [HX.out]; exact HL.out)).symm, G⟩
    · go_wp2
      go_ret
      exact ⟨ret_bool (clHolds_false fun j hj => HA.out j hj (by omega)).symm, hB⟩

end Go.Proofs.Ytcbiknpbbldmbaa
