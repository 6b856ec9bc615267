/- Contracts of DomainSize. -/
import Derived.Test.YtcbiknpbbldmbaaHas
namespace Go.Proofs.Ytcbiknpbbldmbaa
open Go.ChangeShapes Go.WideShapes Go.ChangeAt Go.RowKit
set_option linter.unusedVariables false

def sizeTo (ls us : List Int) : Nat → Int
  | 0 => 0
  | k + 1 => maxI (sizeTo ls us k) (clampI (us.getD k 0) - clampI (ls.getD k 0) + 1)
def domSize (x : DomT) : Int := if x.1.length = x.2.1.length then sizeTo x.1 x.2.1 x.1.length else 0

set_option maxHeartbeats 400000 in
theorem sDomainSize_any (v0 : Value) (x0 : DomT) (S0 : Nat → Prop) (w : World) (h0 : aggR domR S0 w v0 x0) (_hS0 : ∀ b, S0 b → b < w.heap.size) (_hn0 : bulkDomain x0 ≤ 1048576) :
    Calls Try.prog 33 #[v0] w fun e w' => e = .returned (.int .i64 (domSize x0)) ∧ Bel w w' := by
  obtain ⟨cs0, rfl, h0⟩ := h0
  obtain ⟨c0, c1, c2, rfl, q00, q01, q02⟩ := domR_open h0
  obtain ⟨ls, us, ms⟩ := x0
  simp only at q00 q01 q02
  have A00 := Lib.hid (fun i hi => intsR_at' q00 (i := i) hi)
  have A01 := Lib.hid (fun i hi => intsR_at' q01 (i := i) hi)
  obtain ⟨p00, cap00, rfl, l00, l00', _⟩ := sliceR_open q00
  obtain ⟨p01, cap01, rfl, l01, l01', _⟩ := sliceR_open q01
  have Q02 := Lib.hid q02
  obtain ⟨p02, cap02, rfl, l02, l02', _⟩ := sliceR_open q02
  unfold maxLen at l00' l01' l02'
  clear h0 q00 q01 q02
  clear _hS0 _hn0
  show Calls Try.prog 33 #[.agg #[.slice p00 ls.length cap00, .slice p01 us.length cap01, .slice p02 ms.length cap02]] w _
  by_cases hE : ls.length = us.length
  · have HE := Lib.hid hE
    have HF := Lib.hid (show domSize (ls, us, ms) = sizeTo ls us ls.length from by simp [domSize, hE])
    have hne : (((ls.length : Nat) : Int) != ((us.length : Nat) : Int)) = false := by simp [hE]
    clear hE
    go_enter Try.func33, Try.ntmps33
    go_wp2_with fail
    go_loopw [3, 15] (fun n i wr => ∃ (k : Nat) (c : Int), k ≤ ls.length ∧ i = .int .i64 k ∧ n = .int .i64 c ∧ c = sizeTo ls us k ∧ Bel w wr ∧ wr.cell? ⟨w.heap.size, 0, none⟩ = some (.slice p00 ls.length cap00) ∧ wr.cell? ⟨w.heap.size, 1, none⟩ = some (.slice p01 us.length cap01) ∧ wr.cell? ⟨w.heap.size, 2, none⟩ = some (.slice p02 ms.length cap02)) (fun _ i _ => ls.length - (intOf i).toNat)
    case atStart => exact ⟨0, 0, Nat.zero_le _, rfl, rfl, rfl, by (repeat (first | exact Bel.refl _ | apply Bel.drewN | apply Bel.drew | apply Bel.alloc | refine Bel.trans ?_ (by assumption))), by simp [go_sem], by simp [go_sem], by simp [go_sem]⟩
    case round =>
      obtain ⟨k, c, hk, rfl, rfl, hc, hB, b0, b1, b2⟩ := hrel
      have HC := Lib.hid hc; clear hc
      by_cases hlt : k < ls.length
      · obtain ⟨ba, oa, ea, da⟩ := A00.out k hlt
        obtain ⟨bb, ob, eb, db⟩ := A01.out k (by rw [← HE.out]; exact hlt)
        obtain rfl : p00 = some ⟨ba, oa, none⟩ := ea
        obtain rfl : p01 = some ⟨bb, ob, none⟩ := eb
        have da := hB.cell da
        have db := hB.cell db
        have hi0 : (k : Int) < (ls.length : Int) := by omega
        have hi1 : (k : Int) < (us.length : Int) := by have := HE.out; omega
        have HS := Lib.hid (show sizeTo ls us (k + 1) = maxI (sizeTo ls us k) (clampI (us.getD k 0) - clampI (ls.getD k 0) + 1) from rfl)
        generalize ls.getD k 0 = X at *
        generalize us.getD k 0 = Y at *
        obtain ⟨cx1, cx2⟩ := clampI_bd X
        obtain ⟨cy1, cy2⟩ := clampI_bd Y
        go_wp2_with fail
        go_quiet ((first | (go_at_call 73; exact Calls.quiet_of_same ((l12Brought_any _ _).mono fun e w' h => ⟨h.1, h.2.symm⟩)) | (go_at_call 72; exact Calls.quiet_of_same ((l02Max_any _ _ _).mono fun e w' h => ⟨h.1, h.2.symm⟩))))
        go_wp2
        all_goals
          go_roundw
          case rel => exact ⟨k + 1, maxI c (clampI Y - clampI X + 1), by omega, by go_num, by first | rfl | (unfold maxI; split <;> first | rfl | go_num | (exfalso; omega)), by rw [HS.out, HC.out], hB.drewN _, by first | assumption | (simp; assumption), by first | assumption | (simp; assumption), by first | assumption | (simp; assumption)⟩
          case measure => simp [intOf]; omega
      · go_wp2
        go_ret
        exact ⟨ret_int (by rw [HF.out, HC.out, show k = ls.length from by omega]), hB⟩
  · have hne : (((ls.length : Nat) : Int) != ((us.length : Nat) : Int)) = true := by simp; omega
    have HF := Lib.hid (show domSize (ls, us, ms) = 0 from by simp [domSize, hE])
    clear hE
    go_enter Try.func33, Try.ntmps33
    go_wp2
    go_ret
    exact ⟨ret_int HF.out.symm, by (repeat (first | exact Bel.refl _ | apply Bel.drewN | apply Bel.drew | apply Bel.alloc | refine Bel.trans ?_ (by assumption)))⟩

set_option maxHeartbeats 400000 in
theorem iDomainSize_any (v0 : Value) (x0 : DomT) (S0 : Nat → Prop) (w : World) (h0 : aggR domR S0 w v0 x0) (_hS0 : ∀ b, S0 b → b < w.heap.size) (_hn0 : bulkDomain x0 ≤ 1048576) :
    Calls Try.prog 34 #[v0] w fun e w' => e = .returned (.int .i64 (domSize x0)) ∧ Bel w w' := by
  obtain ⟨cs0, rfl, h0⟩ := h0
  obtain ⟨c0, c1, c2, rfl, q00, q01, q02⟩ := domR_open h0
  obtain ⟨ls, us, ms⟩ := x0
  simp only at q00 q01 q02
  have A00 := Lib.hid (fun i hi => intsR_at' q00 (i := i) hi)
  have A01 := Lib.hid (fun i hi => intsR_at' q01 (i := i) hi)
  obtain ⟨p00, cap00, rfl, l00, l00', _⟩ := sliceR_open q00
  obtain ⟨p01, cap01, rfl, l01, l01', _⟩ := sliceR_open q01
  have Q02 := Lib.hid q02
  obtain ⟨p02, cap02, rfl, l02, l02', _⟩ := sliceR_open q02
  unfold maxLen at l00' l01' l02'
  clear h0 q00 q01 q02
  clear _hS0 _hn0
  show Calls Try.prog 34 #[.agg #[.slice p00 ls.length cap00, .slice p01 us.length cap01, .slice p02 ms.length cap02]] w _
  by_cases hE : ls.length = us.length
  · have HE := Lib.hid hE
    have HF := Lib.hid (show domSize (ls, us, ms) = sizeTo ls us ls.length from by simp [domSize, hE])
    have hne : (((ls.length : Nat) : Int) != ((us.length : Nat) : Int)) = false := by simp [hE]
    clear hE
    go_enter Try.func34, Try.ntmps34
    go_wp2_with fail
    go_loopw [3, 16] (fun n i wr => ∃ (k : Nat) (c : Int), k ≤ ls.length ∧ i = .int .i64 k ∧ n = .int .i64 c ∧ c = sizeTo ls us k ∧ Bel w wr ∧ wr.cell? ⟨w.heap.size, 0, none⟩ = some (.slice p00 ls.length cap00) ∧ wr.cell? ⟨w.heap.size, 1, none⟩ = some (.slice p01 us.length cap01) ∧ wr.cell? ⟨w.heap.size, 2, none⟩ = some (.slice p02 ms.length cap02)) (fun _ i _ => ls.length - (intOf i).toNat)
    case atStart => exact ⟨0, 0, Nat.zero_le _, rfl, rfl, rfl, by (repeat (first | exact Bel.refl _ | apply Bel.drewN | apply Bel.drew | apply Bel.alloc | refine Bel.trans ?_ (by assumption))), by simp [go_sem], by simp [go_sem], by simp [go_sem]⟩
    case round =>
      obtain ⟨k, c, hk, rfl, rfl, hc, hB, b0, b1, b2⟩ := hrel
      have HC := Lib.hid hc; clear hc
      by_cases hlt : k < ls.length
      · obtain ⟨ba, oa, ea, da⟩ := A00.out k hlt
        obtain ⟨bb, ob, eb, db⟩ := A01.out k (by rw [← HE.out]; exact hlt)
        obtain rfl : p00 = some ⟨ba, oa, none⟩ := ea
        obtain rfl : p01 = some ⟨bb, ob, none⟩ := eb
        have da := hB.cell da
        have db := hB.cell db
        have hi0 : (k : Int) < (ls.length : Int) := by omega
        have hi1 : (k : Int) < (us.length : Int) := by have := HE.out; omega
        have HS := Lib.hid (show sizeTo ls us (k + 1) = maxI (sizeTo ls us k) (clampI (us.getD k 0) - clampI (ls.getD k 0) + 1) from rfl)
        generalize ls.getD k 0 = X at *
        generalize us.getD k 0 = Y at *
        obtain ⟨cx1, cx2⟩ := clampI_bd X
        obtain ⟨cy1, cy2⟩ := clampI_bd Y
        go_wp2_with (first | (go_at_call 74; refine (clamped_any _ _).mono ?_; rintro e w' ⟨rfl, rfl⟩))
        all_goals
          go_roundw
          case rel => exact ⟨k + 1, maxI c (clampI Y - clampI X + 1), by omega, by go_num, by first | rfl | (unfold maxI; split <;> first | rfl | go_num | (exfalso; omega)), by rw [HS.out, HC.out], hB, by first | assumption | (simp; assumption), by first | assumption | (simp; assumption), by first | assumption | (simp; assumption)⟩
          case measure => simp [intOf]; omega
      · go_wp2
        go_ret
        exact ⟨ret_int (by rw [HF.out, HC.out, show k = ls.length from by omega]), hB⟩
  · have hne : (((ls.length : Nat) : Int) != ((us.length : Nat) : Int)) = true := by simp; omega
    have HF := Lib.hid (show domSize (ls, us, ms) = 0 from by simp [domSize, hE])
    clear hE
    go_enter Try.func34, Try.ntmps34
    go_wp2
    go_ret
    exact ⟨ret_int HF.out.symm, by (repeat (first | exact Bel.refl _ | apply Bel.drewN | apply Bel.drew | apply Bel.alloc | refine Bel.trans ?_ (by assumption)))⟩

end Go.Proofs.Ytcbiknpbbldmbaa
