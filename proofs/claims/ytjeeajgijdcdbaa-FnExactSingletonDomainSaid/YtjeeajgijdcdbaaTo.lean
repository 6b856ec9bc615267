/- Contracts of toT: a copy in new memory. -/
import Derived.Test.YtjeeajgijdcdbaaIn
import Derived.Test.YtjeeajgijdcdbaaShape
import Derived.Test.YtjeeajgijdcdbaaBlk
namespace Go.Proofs.Ytjeeajgijdcdbaa
open Go.ChangeShapes Go.WideShapes Go.ChangeAt Go.RowKit
set_option linter.unusedVariables false

theorem Bel.at {a b : World} (h : Bel a b) (q j : Nat) (u : Value) (hq : a.heap.size ≤ q) : Bel a (b.setCell ⟨q, j, none⟩ u) := h.set hq u









set_option maxHeartbeats 400000 in
theorem toIntS_rep (v : Value) (xs : List (Int)) (S : Nat → Prop) (w : World) (hx : intsR S w [v] xs) (hS : ∀ b, S b → b < w.heap.size) (hn : bulkIntS xs ≤ 1048576) :
    Calls Try.prog 14 #[v] w (FreshV intsR w xs) := by
  obtain ⟨p, cap, rfl, h1, h2, h3⟩ := sliceR_open hx
  unfold maxLen at h2
  have HS := Lib.hid hS
  have HN := Lib.hid hn
  have hlen : xs.length ≤ 1048576 := by unfold bulkIntS at hn; omega
  clear hx hS hn
  obtain ⟨i0, hi, hz0, hz1, hz2⟩ := info_parts (P := Try.prog) (e := 3) (z := .int .i64 0) (size := 1) (bytes := 8) (by kernel_rfl)
  go_enter Try.func14, Try.ntmps14
  go_wp2_with (at_make; refine wpList_make_full _ rfl _ _ 22 rfl w.heap.size 3 i0 (.int .i64 0) 1 Try.underlying22 hi hz0 hz1 _ _ _ _ xs.length rfl rfl rfl rfl (by rw [hz2]; omega) (by unfold maxLen; omega) (Nat.le_refl _) ?_; intro w1 hown hgr)
  clear hi hz0 hz1 hz2
  have hB1 := bel_of_grown hgr
  have hBk := blk_of_own hown
  have hl1 := hown.1
  clear hown hgr
  generalize (madeCells _ _).toList = arr0 at *
  have HBk := Lib.hid hBk; clear hBk
  have HL1 := Lib.hid hl1; clear hl1
  go_loopw [4] (fun i wr => ∃ (k : Nat) (arr : List Value), k ≤ xs.length ∧ i = .int .i64 k ∧ Bel w wr ∧ Blk wr w.heap.size 3 arr ∧ arr.length = xs.length * 1 ∧ Filled 1 intR w.heap.size wr arr xs k) (fun i _ => xs.length - (intOf i).toNat)
  case atStart => exact ⟨0, arr0, Nat.zero_le _, rfl, hB1, HBk.out, HL1.out, Filled.zero⟩
  case round =>
    obtain ⟨k, arr, hk, rfl, hB, hBk, hl, hF⟩ := hrel
    have HBk' := Lib.hid hBk; clear hBk
    have HL := Lib.hid hl; clear hl
    have HF := Lib.hid hF; clear hF
    by_cases hlt : k < xs.length
    · obtain ⟨b, off, ecs, rfl, hSb, hlen', hrow, hel⟩ := h3 k hlt
      have hel := intR_good.bel hel hB HS.out
      generalize hkx : xs[k] = X at *
      have HKX := Lib.hid hkx; clear hkx
      have HSw := Lib.hid (show ∀ b, S b → b < wr.heap.size from fun b hb => Nat.lt_of_lt_of_le (HS.out b hb) hB.size)
      obtain ⟨rfl, q0⟩ := hel
      have Q0 := Lib.hid q0; clear q0
      have d0 := hB.cell (hrow 0 (by simp)).1
      simp only [List.getElem_cons_zero, Nat.mul_one, Nat.add_zero] at d0
      clear hlen' hrow h3
      have HBk1 := Lib.hid (HBk'.out)
      obtain ⟨o0, ho0⟩ : ∃ o, wr.cell? ⟨w.heap.size, k, none⟩ = some o := ⟨_, HBk1.out.cellv (by rw [HL.out]; omega)⟩
      have ff0 : wr.frozen? ⟨w.heap.size, k, none⟩ = false := HBk1.out.frozen _
      go_wp2
      go_roundw
      case rel =>
        refine ⟨k + 1, putRow arr (k) [.int .i64 X], by omega, by go_num, (hB.put _ _), ?_, ?_, ?_⟩
        · exact (HBk1.out.set _ _)
        · rw [putRow_length]; exact HL.out
        · exact Filled.put1 intR_good HF.out hlt HBk'.out.lt (Bel.refl _) ((But.refl _ _).put _ _) HL.out (ecs := [.int .i64 X]) rfl (by rw [HKX.out]; exact ⟨rfl, Q0.out⟩)
      case measure => simp [intOf]; omega
    · go_wp2
      go_ret
      obtain rfl : k = xs.length := by omega
      exact ⟨_, rfl, Filled.done intR_good HF.out HBk'.out (Nat.le_refl _) HL.out (by unfold maxLen; omega), hB⟩


theorem toSchedule_rep (v : Value) (x : SchT) (S : Nat → Prop) (w : World) (hx : aggR schR S w v x) (hS : ∀ b, S b → b < w.heap.size) (hn : bulkSchedule x ≤ 1048576) :
    Calls Try.prog 6 #[v] w (FreshA schR w x) := by
  obtain ⟨cs, rfl, hx⟩ := hx
  obtain ⟨c0, c1, rfl, q0, q1⟩ := schR_open hx
  clear hx
  have HS := Lib.hid hS
  clear hS
  unfold bulkSchedule at hn
  show Calls Try.prog 6 #[.agg #[c0, c1]] w _
  go_enter Try.func6, Try.ntmps6
  go_wp2_with fail
  refine (toIntS_rep _ x.1 S _ (intsR_good.bel q0 (by (repeat (first | exact Bel.refl _ | apply Bel.drew | apply Bel.alloc | refine Bel.trans ?_ (by assumption) | refine Bel.set ?_ (by first | exact Nat.le_refl _ | exact Nat.le_add_right _ _ | (simp; omega)) _))) HS.out) (fun b hb => Nat.lt_of_lt_of_le (HS.out b hb) (Bel.size (by (repeat (first | exact Bel.refl _ | apply Bel.drew | apply Bel.alloc | refine Bel.trans ?_ (by assumption) | refine Bel.set ?_ (by first | exact Nat.le_refl _ | exact Nat.le_add_right _ _ | (simp; omega)) _))))) (by omega)).mono ?_
  rintro e w1 ⟨o1, rfl, hr1, g1⟩
  obtain ⟨p1, cap1, rfl, l1, _⟩ := sliceR_open hr1
  have G1 : Bel w w1 := by (repeat (first | exact Bel.refl _ | apply Bel.drew | apply Bel.alloc | refine Bel.trans ?_ (by assumption) | refine Bel.set ?_ (by first | exact Nat.le_refl _ | exact Nat.le_add_right _ _ | (simp; omega)) _))
  obtain ⟨hc1, hf1⟩ := g1.rules
  have z1 : w.heap.size + 1 + 1 < w1.heap.size := by have := g1.size; simp only [World.size_alloc] at this; omega
  have y1 : w.heap.size + 1 < w1.heap.size := by omega
  have x1z : w.heap.size < w1.heap.size := by omega
  have R1 := intsR_good.mono hr1 (show ∀ b, New _ w1 b → w.heap.size + 1 + 1 < b ∧ b < w1.heap.size from fun b hb => ⟨by have := hb.1; simp only [World.size_alloc] at this; omega, hb.2⟩)
  clear hr1
  go_wp2_with fail
  refine (toIntS_rep _ x.2 S _ (intsR_good.bel q1 (by (repeat (first | exact Bel.refl _ | apply Bel.drew | apply Bel.alloc | refine Bel.trans ?_ (by assumption) | refine Bel.set ?_ (by first | exact Nat.le_refl _ | exact Nat.le_add_right _ _ | (simp; omega)) _))) HS.out) (fun b hb => Nat.lt_of_lt_of_le (HS.out b hb) (Bel.size (by (repeat (first | exact Bel.refl _ | apply Bel.drew | apply Bel.alloc | refine Bel.trans ?_ (by assumption) | refine Bel.set ?_ (by first | exact Nat.le_refl _ | exact Nat.le_add_right _ _ | (simp; omega)) _))))) (by omega)).mono ?_
  rintro e w2 ⟨o2, rfl, hr2, g2⟩
  obtain ⟨p2, cap2, rfl, l2, _⟩ := sliceR_open hr2
  have G2 : Bel w w2 := by (repeat (first | exact Bel.refl _ | apply Bel.drew | apply Bel.alloc | refine Bel.trans ?_ (by assumption) | refine Bel.set ?_ (by first | exact Nat.le_refl _ | exact Nat.le_add_right _ _ | (simp; omega)) _))
  obtain ⟨hc2, hf2⟩ := g2.rules
  have z2 : w.heap.size + 1 + 1 < w2.heap.size := by have := g2.size; simp only [World.size_setCell] at this; omega
  have y2 : w.heap.size + 1 < w2.heap.size := by omega
  have x2z : w.heap.size < w2.heap.size := by omega
  have R2 := intsR_good.mono hr2 (show ∀ b, New _ w2 b → w.heap.size + 1 + 1 < b ∧ b < w2.heap.size from fun b hb => ⟨by have := hb.1; simp only [World.size_setCell] at this; omega, hb.2⟩)
  clear hr2
  go_wp2
  exact bodyPost_ret (v := .agg #[.slice p1 (x.1).length cap1, .slice p2 (x.2).length cap2]) (by simp [results, Try.results6, go_sem, hc1, y1, hc2]) rfl ⟨[.slice p1 (x.1).length cap1, .slice p2 (x.2).length cap2], rfl, schR_shut (intsR_good.but R1 (by omega) ((((((But.refl _ _).at (w.heap.size + 1 + 1) _ _ (Nat.le_refl _)).bel g2).at (w.heap.size + 1 + 1) _ _ (Nat.le_refl _)).at (w.heap.size + 1) _ _ (Nat.le_succ _)).at (w.heap.size + 1) _ _ (Nat.le_succ _))) (intsR_good.but R2 (by omega) ((((But.refl _ _).at (w.heap.size + 1 + 1) _ _ (Nat.le_refl _)).at (w.heap.size + 1) _ _ (Nat.le_succ _)).at (w.heap.size + 1) _ _ (Nat.le_succ _))), by (repeat (first | exact Bel.refl _ | apply Bel.drew | apply Bel.alloc | refine Bel.trans ?_ (by assumption) | refine Bel.set ?_ (by first | exact Nat.le_refl _ | exact Nat.le_add_right _ _ | (simp; omega)) _))⟩









end Go.Proofs.Ytjeeajgijdcdbaa
