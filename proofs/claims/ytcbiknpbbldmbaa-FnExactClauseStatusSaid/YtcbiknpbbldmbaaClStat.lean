/- Contracts of ClauseStatus. -/
import Derived.Test.YtcbiknpbbldmbaaLitVal
import Derived.Test.YtcbiknpbbldmbaaClHolds
import Derived.RegionTactic
namespace Go.Proofs.Ytcbiknpbbldmbaa
open Go.ChangeShapes Go.WideShapes Go.ChangeAt Go.RowKit
set_option linter.unusedVariables false

abbrev zLit : LitT := (0, 0, 0)
def stTo (d : DomT) (xs : List LitT) : Nat → Int × LitT
  | 0 => (0, zLit)
  | k + 1 => if litValue d (xs.getD k zLit) = 0 then ((stTo d xs k).1 + 1, xs.getD k zLit) else stTo d xs k
def stEnd (t : Int × LitT) : Int × LitT := if t.1 = 0 then (-1, zLit) else if t.1 = 1 then (0, t.2) else (0, zLit)
def clStatus (d : DomT) (xs : List LitT) : Int × LitT := if (List.range xs.length).any (fun i => litValue d (xs.getD i zLit) == 1) then (1, zLit) else stEnd (stTo d xs xs.length)
theorem clStatus_one {d : DomT} {xs : List LitT} {k : Nat} (hk : k < xs.length) (h : litValue d (xs.getD k zLit) = 1) : clStatus d xs = (1, zLit) := by
  unfold clStatus
  rw [if_pos]
  rw [List.any_eq_true]
  exact ⟨k, List.mem_range.2 hk, by rw [h]; rfl⟩
theorem clStatus_end {d : DomT} {xs : List LitT} (h : ∀ j, j < xs.length → litValue d (xs.getD j zLit) ≠ 1) : clStatus d xs = stEnd (stTo d xs xs.length) := by
  unfold clStatus
  rw [if_neg]
  rw [List.any_eq_true]
  rintro ⟨j, hj, e⟩
  exact h j (List.mem_range.1 hj) (by simpa using e)
theorem litsR_at' {S : Nat → Prop} {w : World} {v : Value} {xs : List LitT} (h : litsR S w [v] xs) {i : Nat} (hi : i < xs.length) :
    ∃ b off, sliceAddr' v = some ⟨b, off, none⟩ ∧ w.cell? ⟨b, off + i * 3, none⟩ = some (.int .i64 (xs.getD i zLit).1) ∧ w.cell? ⟨b, off + i * 3 + 1, none⟩ = some (.int .i64 (xs.getD i zLit).2.1) ∧ w.cell? ⟨b, off + i * 3 + 2, none⟩ = some (.int .i64 (xs.getD i zLit).2.2) ∧ I64 (xs.getD i zLit).2.2 := by
  have e : xs.getD i zLit = xs[i] := by simp [List.getD, hi]
  rw [e]
  exact litsR_at h hi

set_option maxHeartbeats 1600000 in
theorem sClauseStatus_any (v0 : Value) (x0 : DomT) (S0 : Nat → Prop) (v1 : Value) (x1 : List LitT) (S1 : Nat → Prop) (w : World) (h0 : aggR domR S0 w v0 x0) (hS0 : ∀ b, S0 b → b < w.heap.size) (hn0 : bulkDomain x0 ≤ 1048576) (h1 : litsR S1 w [v1] x1) (_hS1 : ∀ b, S1 b → b < w.heap.size) (_hn1 : bulkLiteralS x1 ≤ 1048576) :
    Calls Try.prog 50 #[v0, v1] w fun e w' => e = .returned (.tuple #[.int .i64 (clStatus x0 x1).1, .agg #[.int .i64 (clStatus x0 x1).2.1, .int .i64 (clStatus x0 x1).2.2.1, .int .i64 (clStatus x0 x1).2.2.2]]) ∧ Bel w w' := by
  obtain ⟨cs, rfl, h0⟩ := h0
  have H0 := h0
  obtain ⟨c0, c1, c2, rfl, q0, q1, q2⟩ := domR_open h0
  obtain ⟨p0, cap0, rfl, _⟩ := sliceR_open q0
  obtain ⟨p1, cap1, rfl, _⟩ := sliceR_open q1
  obtain ⟨p2, cap2, rfl, _⟩ := sliceR_open q2
  have H0 := Lib.hid H0
  have HS := Lib.hid hS0
  have HX := Lib.hid (fun i hi => litsR_at' h1 (i := i) hi)
  obtain ⟨p, cap, rfl, l1, l2, _⟩ := sliceR_open h1
  unfold maxLen at l2
  have hn1 : x1.length ≤ 1048576 := _hn1
  have HN := Lib.hid hn0
  clear h0 h1 hS0 hn0 q0 q1 q2 _hS1 _hn1
  show Calls Try.prog 50 #[.agg #[.slice p0 x0.1.length cap0, .slice p1 x0.2.1.length cap1, .slice p2 x0.2.2.length cap2], .slice p x1.length cap] w _
  go_enter Try.func50, Try.ntmps50
  go_wp2_with fail
  go_loopw [6, 13] (fun n i wr => ∃ (k : Nat) (c o0 o1 o2 : Int), k ≤ x1.length ∧ i = .int .i64 k ∧ n = .int .i64 c ∧ 0 ≤ c ∧ c ≤ k ∧ stTo x0 x1 k = (c, o0, o1, o2) ∧ (∀ j, j < k → litValue x0 (x1.getD j zLit) ≠ 1) ∧ Bel w wr ∧ wr.cell? ⟨w.heap.size, 0, none⟩ = some (.slice p0 x0.1.length cap0) ∧ wr.cell? ⟨w.heap.size, 1, none⟩ = some (.slice p1 x0.2.1.length cap1) ∧ wr.cell? ⟨w.heap.size, 2, none⟩ = some (.slice p2 x0.2.2.length cap2) ∧ Blk wr (w.heap.size + 1) 29 [.int .i64 0, .int .i64 0, .int .i64 0] ∧ Blk wr (w.heap.size + 2) 29 [.int .i64 o0, .int .i64 o1, .int .i64 o2]) (fun _ i _ => x1.length - (intOf i).toNat)
  case atStart =>
    refine ⟨0, 0, 0, 0, 0, Nat.zero_le _, rfl, rfl, by omega, by omega, rfl, fun j hj => by omega, by (repeat (first | exact Bel.refl _ | apply Bel.drewN | apply Bel.drew | apply Bel.alloc | refine Bel.trans ?_ (by assumption))), by simp [go_sem], by simp [go_sem], by simp [go_sem], ?_, ?_⟩
    · exact (Blk.new' [.int .i64 0, .int .i64 0, .int .i64 0] (by simp)).alloc _
    · exact Blk.new' [.int .i64 0, .int .i64 0, .int .i64 0] (by simp)
  case round =>
    obtain ⟨k, c, o0, o1, o2, hk, rfl, rfl, hc0, hck, hst, hall, hB, b0, b1, b2, hR, hO⟩ := hrel
    have HA := Lib.hid hall
    have HST := Lib.hid hst
    have HR := Lib.hid hR
    have HO := Lib.hid hO
    have hsz : w.heap.size + 2 < wr.heap.size := hO.lt
    clear hall hst hR hO
    by_cases hlt : k < x1.length
    · obtain ⟨b, off, rfl, d0, d1, d2, hi64⟩ := HX.out k hlt
      have d0 := hB.cell d0
      have d1 := hB.cell d1
      have d2 := hB.cell d2
      have a0 := fun o => ((Bel.refl wr).alloc o).cell b0
      have a1 := fun o => ((Bel.refl wr).alloc o).cell b1
      have a2 := fun o => ((Bel.refl wr).alloc o).cell b2
      have HNX := Lib.hid (show stTo x0 x1 (k + 1) = if litValue x0 (x1.getD k zLit) = 0 then ((stTo x0 x1 k).1 + 1, x1.getD k zLit) else stTo x0 x1 k from rfl)
      have HI := Lib.hid hi64
      clear hi64
      generalize hX : x1.getD k zLit = X at *
      have HX1 := Lib.hid hX; clear hX
      obtain ⟨xk, xa, xv⟩ := X
      simp only at d0 d1 d2
      go_wp2_with fail
      refine (sLiteralValue_any _ x0 S0 (xk, xa, xv) _ (aggR_mk (domR_good.bel H0.out (by (repeat (first | exact Bel.refl _ | apply Bel.drewN | apply Bel.drew | apply Bel.alloc | refine Bel.trans ?_ (by assumption)))) HS.out)) (fun b hb => Nat.lt_of_lt_of_le (HS.out b hb) (Bel.size (by (repeat (first | exact Bel.refl _ | apply Bel.drewN | apply Bel.drew | apply Bel.alloc | refine Bel.trans ?_ (by assumption)))))) HN.out HI.out).mono ?_
      rintro e w1 ⟨rfl, g1⟩
      have G0 : Bel wr w1 := by (repeat (first | exact Bel.refl _ | apply Bel.drewN | apply Bel.drew | apply Bel.alloc | refine Bel.trans ?_ (by assumption)))
      have G : Bel w w1 := by (repeat (first | exact Bel.refl _ | apply Bel.drewN | apply Bel.drew | apply Bel.alloc | refine Bel.trans ?_ (by assumption)))
      have t0 := g1.cell (p := ⟨wr.heap.size, 0, none⟩) (v := .int .i64 xk) (by simp [go_sem])
      have t1 := g1.cell (p := ⟨wr.heap.size, 1, none⟩) (v := .int .i64 xa) (by simp [go_sem])
      have t2 := g1.cell (p := ⟨wr.heap.size, 2, none⟩) (v := .int .i64 xv) (by simp [go_sem])
      have b0 := G0.cell b0
      have b1 := G0.cell b1
      have b2 := G0.cell b2
      have HR := Lib.hid (HR.out.bel G0)
      have HO := Lib.hid (HO.out.bel G0)
      
      clear g1 a0 a1 a2 d0 d1 d2
      generalize hr : litValue x0 (xk, xa, xv) = r at *
      have HV := Lib.hid hr; clear hr
      by_cases r1 : r = 1
      · have e1 : (r == 1) = true := by simp [r1]
        have HF := Lib.hid (show clStatus x0 x1 = (1, zLit) from clStatus_one hlt (by rw [HX1.out, HV.out, r1]))
        clear r1
        have rc0 := HR.out.cellv (j := 0) (by simp)
        have rf0 := HR.out.frozen 0
        have rc1 := HR.out.cellv (j := 1) (by simp)
        have rf1 := HR.out.frozen 1
        have rc2 := HR.out.cellv (j := 2) (by simp)
        have rf2 := HR.out.frozen 2
        simp only [List.getElem_cons_zero, List.getElem_cons_succ] at rc0 rc1 rc2
        go_wp2
        rw [HF.out]
        exact bodyPost_ret (v := .tuple #[.int .i64 1, .agg #[.int .i64 0, .int .i64 0, .int .i64 0]]) (by simp [results, Try.results50, go_sem, rc0, rc1, rc2]) rfl ⟨rfl, by (repeat (first | assumption | exact Bel.refl _ | apply Bel.drewN | apply Bel.drew | apply Bel.alloc | refine Bel.set ?_ (by first | exact Nat.le_refl _ | exact Nat.le_add_right _ _ | (simp; done) | (simp; omega)) _ | refine Bel.trans ?_ (by assumption)))⟩
      · by_cases r0 : r = 0
        · have e1 : (r == 1) = false := by simp [r1]
          have e0 : (r == 0) = true := by simp [r0]
          have HST' := Lib.hid (show stTo x0 x1 (k + 1) = (c + 1, xk, xa, xv) from by rw [HNX.out, if_pos r0, HST.out])
          have HA' := Lib.hid (show litValue x0 (xk, xa, xv) ≠ 1 from by rw [HV.out]; exact r1)
          have of0 := HO.out.frozen 0
          have of1 := HO.out.frozen 1
          have of2 := HO.out.frozen 2
          have oc0 := HO.out.cellv (j := 0) (by simp)
          have oc1 := HO.out.cellv (j := 1) (by simp)
          have oc2 := HO.out.cellv (j := 2) (by simp)
          simp only [List.getElem_cons_zero, List.getElem_cons_succ] at oc0 oc1 oc2
          clear r1 r0
          go_wp2
          go_roundw
          case rel =>
            refine ⟨k + 1, c + 1, xk, xa, xv, by omega, by go_num, rfl, by omega, by omega, HST'.out, fun j hj => ?_, by (repeat (first | assumption | exact Bel.refl _ | apply Bel.drewN | apply Bel.drew | apply Bel.alloc | refine Bel.set ?_ (by first | exact Nat.le_refl _ | exact Nat.le_add_right _ _ | (simp; done) | (simp; omega)) _ | refine Bel.trans ?_ (by assumption))), ?_, ?_, ?_, ?_, ?_⟩
            · by_cases e : j < k
              · exact HA.out j e
              · obtain rfl : j = k := by omega
                rw [HX1.out]; exact HA'.out
            · exact cell_setAt (cell_setAt (cell_setAt b0 (by omega) _) (by omega) _) (by omega) _
            · exact cell_setAt (cell_setAt (cell_setAt b1 (by omega) _) (by omega) _) (by omega) _
            · exact cell_setAt (cell_setAt (cell_setAt b2 (by omega) _) (by omega) _) (by omega) _
            · exact ((HR.out.setAt (by omega) _ _).setAt (by omega) _ _).setAt (by omega) _ _
            · exact ((HO.out.set 0 _).set 1 _).set 2 _
          case measure => simp [intOf]; omega
        · have e1 : (r == 1) = false := by simp [r1]
          have e0 : (r == 0) = false := by simp [r0]
          have HST' := Lib.hid (show stTo x0 x1 (k + 1) = (c, o0, o1, o2) from by rw [HNX.out, if_neg r0, HST.out])
          have HA' := Lib.hid (show litValue x0 (xk, xa, xv) ≠ 1 from by rw [HV.out]; exact r1)
          clear r1 r0
          go_wp2
          go_roundw
          case rel =>
            refine ⟨k + 1, c, o0, o1, o2, by omega, by go_num, rfl, by omega, by omega, HST'.out, fun j hj => ?_, G, b0, b1, b2, HR.out, HO.out⟩
            by_cases e : j < k
            · exact HA.out j e
            · obtain rfl : j = k := by omega
              rw [HX1.out]; exact HA'.out
          case measure => simp [intOf]; omega
    · have HF := Lib.hid (show clStatus x0 x1 = stEnd (c, o0, o1, o2) from by rw [clStatus_end fun j hj => HA.out j (by omega), show x1.length = k from by omega, HST.out])
      have rc0 := HR.out.cellv (j := 0) (by simp)
      have rf0 := HR.out.frozen 0
      have rc1 := HR.out.cellv (j := 1) (by simp)
      have rf1 := HR.out.frozen 1
      have rc2 := HR.out.cellv (j := 2) (by simp)
      have rf2 := HR.out.frozen 2
      simp only [List.getElem_cons_zero, List.getElem_cons_succ] at rc0 rc1 rc2
      have oc0 := HO.out.cellv (j := 0) (by simp)
      have oc1 := HO.out.cellv (j := 1) (by simp)
      have oc2 := HO.out.cellv (j := 2) (by simp)
      simp only [List.getElem_cons_zero, List.getElem_cons_succ] at oc0 oc1 oc2
      by_cases z : c = 0
      · have e0 : (c == 0) = true := by simp [z]
        have HE := Lib.hid (show stEnd (c, o0, o1, o2) = (-1, zLit) from by simp [stEnd, z])
        clear z
        go_wp2
        rw [HF.out, HE.out]
        exact bodyPost_ret (v := .tuple #[.int .i64 (-1), .agg #[.int .i64 0, .int .i64 0, .int .i64 0]]) (by simp [results, Try.results50, go_sem, rc0, rc1, rc2]) rfl ⟨rfl, by (repeat (first | assumption | exact Bel.refl _ | apply Bel.drewN | apply Bel.drew | apply Bel.alloc | refine Bel.set ?_ (by first | exact Nat.le_refl _ | exact Nat.le_add_right _ _ | (simp; done) | (simp; omega)) _ | refine Bel.trans ?_ (by assumption)))⟩
      · have e0 : (c == 0) = false := by simp [z]
        by_cases y : c = 1
        · have g1 : ¬ (1 : Int) < c := by omega
          have HE := Lib.hid (show stEnd (c, o0, o1, o2) = (0, o0, o1, o2) from by simp [stEnd, y])
          clear z y
          go_wp2_with fail
          go_region
          all_goals go_wp2
          all_goals rw [HF.out, HE.out]
          all_goals exact bodyPost_ret (v := .tuple #[.int .i64 0, .agg #[.int .i64 o0, .int .i64 o1, .int .i64 o2]]) (by simp [results, Try.results50, go_sem, rc0, rc1, rc2]) rfl ⟨rfl, by (repeat (first | assumption | exact Bel.refl _ | apply Bel.drewN | apply Bel.drew | apply Bel.alloc | refine Bel.set ?_ (by first | exact Nat.le_refl _ | exact Nat.le_add_right _ _ | (simp; done) | (simp; omega)) _ | refine Bel.trans ?_ (by assumption)))⟩
        · have g1 : (1 : Int) < c := by omega
          have HE := Lib.hid (show stEnd (c, o0, o1, o2) = (0, zLit) from by simp [stEnd, z, y])
          clear z y
          go_wp2
          rw [HF.out, HE.out]
          exact bodyPost_ret (v := .tuple #[.int .i64 0, .agg #[.int .i64 0, .int .i64 0, .int .i64 0]]) (by simp [results, Try.results50, go_sem, rc0, rc1, rc2]) rfl ⟨rfl, by (repeat (first | assumption | exact Bel.refl _ | apply Bel.drewN | apply Bel.drew | apply Bel.alloc | refine Bel.set ?_ (by first | exact Nat.le_refl _ | exact Nat.le_add_right _ _ | (simp; done) | (simp; omega)) _ | refine Bel.trans ?_ (by assumption)))⟩

set_option maxHeartbeats 1600000 in
theorem iClauseStatus_any (v0 : Value) (x0 : DomT) (S0 : Nat → Prop) (v1 : Value) (x1 : List LitT) (S1 : Nat → Prop) (w : World) (h0 : aggR domR S0 w v0 x0) (hS0 : ∀ b, S0 b → b < w.heap.size) (hn0 : bulkDomain x0 ≤ 1048576) (h1 : litsR S1 w [v1] x1) (_hS1 : ∀ b, S1 b → b < w.heap.size) (_hn1 : bulkLiteralS x1 ≤ 1048576) :
    Calls Try.prog 51 #[v0, v1] w fun e w' => e = .returned (.tuple #[.int .i64 (clStatus x0 x1).1, .agg #[.int .i64 (clStatus x0 x1).2.1, .int .i64 (clStatus x0 x1).2.2.1, .int .i64 (clStatus x0 x1).2.2.2]]) ∧ Bel w w' := by
  obtain ⟨cs, rfl, h0⟩ := h0
  have H0 := h0
  obtain ⟨c0, c1, c2, rfl, q0, q1, q2⟩ := domR_open h0
  obtain ⟨p0, cap0, rfl, _⟩ := sliceR_open q0
  obtain ⟨p1, cap1, rfl, _⟩ := sliceR_open q1
  obtain ⟨p2, cap2, rfl, _⟩ := sliceR_open q2
  have H0 := Lib.hid H0
  have HS := Lib.hid hS0
  have HX := Lib.hid (fun i hi => litsR_at' h1 (i := i) hi)
  obtain ⟨p, cap, rfl, l1, l2, _⟩ := sliceR_open h1
  unfold maxLen at l2
  have hn1 : x1.length ≤ 1048576 := _hn1
  have HN := Lib.hid hn0
  clear h0 h1 hS0 hn0 q0 q1 q2 _hS1 _hn1
  show Calls Try.prog 51 #[.agg #[.slice p0 x0.1.length cap0, .slice p1 x0.2.1.length cap1, .slice p2 x0.2.2.length cap2], .slice p x1.length cap] w _
  go_enter Try.func51, Try.ntmps51
  go_wp2_with fail
  go_loopw [6, 13] (fun n i wr => ∃ (k : Nat) (c o0 o1 o2 : Int), k ≤ x1.length ∧ i = .int .i64 k ∧ n = .int .i64 c ∧ 0 ≤ c ∧ c ≤ k ∧ stTo x0 x1 k = (c, o0, o1, o2) ∧ (∀ j, j < k → litValue x0 (x1.getD j zLit) ≠ 1) ∧ Bel w wr ∧ wr.cell? ⟨w.heap.size, 0, none⟩ = some (.slice p0 x0.1.length cap0) ∧ wr.cell? ⟨w.heap.size, 1, none⟩ = some (.slice p1 x0.2.1.length cap1) ∧ wr.cell? ⟨w.heap.size, 2, none⟩ = some (.slice p2 x0.2.2.length cap2) ∧ Blk wr (w.heap.size + 1) 29 [.int .i64 0, .int .i64 0, .int .i64 0] ∧ Blk wr (w.heap.size + 2) 29 [.int .i64 o0, .int .i64 o1, .int .i64 o2]) (fun _ i _ => x1.length - (intOf i).toNat)
  case atStart =>
    refine ⟨0, 0, 0, 0, 0, Nat.zero_le _, rfl, rfl, by omega, by omega, rfl, fun j hj => by omega, by (repeat (first | exact Bel.refl _ | apply Bel.drewN | apply Bel.drew | apply Bel.alloc | refine Bel.trans ?_ (by assumption))), by simp [go_sem], by simp [go_sem], by simp [go_sem], ?_, ?_⟩
    · exact (Blk.new' [.int .i64 0, .int .i64 0, .int .i64 0] (by simp)).alloc _
    · exact Blk.new' [.int .i64 0, .int .i64 0, .int .i64 0] (by simp)
  case round =>
    obtain ⟨k, c, o0, o1, o2, hk, rfl, rfl, hc0, hck, hst, hall, hB, b0, b1, b2, hR, hO⟩ := hrel
    have HA := Lib.hid hall
    have HST := Lib.hid hst
    have HR := Lib.hid hR
    have HO := Lib.hid hO
    have hsz : w.heap.size + 2 < wr.heap.size := hO.lt
    clear hall hst hR hO
    by_cases hlt : k < x1.length
    · obtain ⟨b, off, rfl, d0, d1, d2, hi64⟩ := HX.out k hlt
      have d0 := hB.cell d0
      have d1 := hB.cell d1
      have d2 := hB.cell d2
      have a0 := fun o => ((Bel.refl wr).alloc o).cell b0
      have a1 := fun o => ((Bel.refl wr).alloc o).cell b1
      have a2 := fun o => ((Bel.refl wr).alloc o).cell b2
      have HNX := Lib.hid (show stTo x0 x1 (k + 1) = if litValue x0 (x1.getD k zLit) = 0 then ((stTo x0 x1 k).1 + 1, x1.getD k zLit) else stTo x0 x1 k from rfl)
      have HI := Lib.hid hi64
      clear hi64
      generalize hX : x1.getD k zLit = X at *
      have HX1 := Lib.hid hX; clear hX
      obtain ⟨xk, xa, xv⟩ := X
      simp only at d0 d1 d2
      go_wp2_with fail
      refine (iLiteralValue_any _ x0 S0 (xk, xa, xv) _ (aggR_mk (domR_good.bel H0.out (by (repeat (first | exact Bel.refl _ | apply Bel.drewN | apply Bel.drew | apply Bel.alloc | refine Bel.trans ?_ (by assumption)))) HS.out)) (fun b hb => Nat.lt_of_lt_of_le (HS.out b hb) (Bel.size (by (repeat (first | exact Bel.refl _ | apply Bel.drewN | apply Bel.drew | apply Bel.alloc | refine Bel.trans ?_ (by assumption)))))) HN.out HI.out).mono ?_
      rintro e w1 ⟨rfl, g1⟩
      have G0 : Bel wr w1 := by (repeat (first | exact Bel.refl _ | apply Bel.drewN | apply Bel.drew | apply Bel.alloc | refine Bel.trans ?_ (by assumption)))
      have G : Bel w w1 := by (repeat (first | exact Bel.refl _ | apply Bel.drewN | apply Bel.drew | apply Bel.alloc | refine Bel.trans ?_ (by assumption)))
      have t0 := g1.cell (p := ⟨wr.heap.size, 0, none⟩) (v := .int .i64 xk) (by simp [go_sem])
      have t1 := g1.cell (p := ⟨wr.heap.size, 1, none⟩) (v := .int .i64 xa) (by simp [go_sem])
      have t2 := g1.cell (p := ⟨wr.heap.size, 2, none⟩) (v := .int .i64 xv) (by simp [go_sem])
      have b0 := G0.cell b0
      have b1 := G0.cell b1
      have b2 := G0.cell b2
      have HR := Lib.hid (HR.out.bel G0)
      have HO := Lib.hid (HO.out.bel G0)
      
      clear g1 a0 a1 a2 d0 d1 d2
      generalize hr : litValue x0 (xk, xa, xv) = r at *
      have HV := Lib.hid hr; clear hr
      by_cases r1 : r = 1
      · have e1 : (r == 1) = true := by simp [r1]
        have HF := Lib.hid (show clStatus x0 x1 = (1, zLit) from clStatus_one hlt (by rw [HX1.out, HV.out, r1]))
        clear r1
        have rc0 := HR.out.cellv (j := 0) (by simp)
        have rf0 := HR.out.frozen 0
        have rc1 := HR.out.cellv (j := 1) (by simp)
        have rf1 := HR.out.frozen 1
        have rc2 := HR.out.cellv (j := 2) (by simp)
        have rf2 := HR.out.frozen 2
        simp only [List.getElem_cons_zero, List.getElem_cons_succ] at rc0 rc1 rc2
        go_wp2
        rw [HF.out]
        exact bodyPost_ret (v := .tuple #[.int .i64 1, .agg #[.int .i64 0, .int .i64 0, .int .i64 0]]) (by simp [results, Try.results51, go_sem, rc0, rc1, rc2]) rfl ⟨rfl, by (repeat (first | assumption | exact Bel.refl _ | apply Bel.drewN | apply Bel.drew | apply Bel.alloc | refine Bel.set ?_ (by first | exact Nat.le_refl _ | exact Nat.le_add_right _ _ | (simp; done) | (simp; omega)) _ | refine Bel.trans ?_ (by assumption)))⟩
      · by_cases r0 : r = 0
        · have e1 : (r == 1) = false := by simp [r1]
          have e0 : (r == 0) = true := by simp [r0]
          have HST' := Lib.hid (show stTo x0 x1 (k + 1) = (c + 1, xk, xa, xv) from by rw [HNX.out, if_pos r0, HST.out])
          have HA' := Lib.hid (show litValue x0 (xk, xa, xv) ≠ 1 from by rw [HV.out]; exact r1)
          have of0 := HO.out.frozen 0
          have of1 := HO.out.frozen 1
          have of2 := HO.out.frozen 2
          have oc0 := HO.out.cellv (j := 0) (by simp)
          have oc1 := HO.out.cellv (j := 1) (by simp)
          have oc2 := HO.out.cellv (j := 2) (by simp)
          simp only [List.getElem_cons_zero, List.getElem_cons_succ] at oc0 oc1 oc2
          clear r1 r0
          go_wp2
          go_roundw
          case rel =>
            refine ⟨k + 1, c + 1, xk, xa, xv, by omega, by go_num, rfl, by omega, by omega, HST'.out, fun j hj => ?_, by (repeat (first | assumption | exact Bel.refl _ | apply Bel.drewN | apply Bel.drew | apply Bel.alloc | refine Bel.set ?_ (by first | exact Nat.le_refl _ | exact Nat.le_add_right _ _ | (simp; done) | (simp; omega)) _ | refine Bel.trans ?_ (by assumption))), ?_, ?_, ?_, ?_, ?_⟩
            · by_cases e : j < k
              · exact HA.out j e
              · obtain rfl : j = k := by omega
                rw [HX1.out]; exact HA'.out
            · exact cell_setAt (cell_setAt (cell_setAt b0 (by omega) _) (by omega) _) (by omega) _
            · exact cell_setAt (cell_setAt (cell_setAt b1 (by omega) _) (by omega) _) (by omega) _
            · exact cell_setAt (cell_setAt (cell_setAt b2 (by omega) _) (by omega) _) (by omega) _
            · exact ((HR.out.setAt (by omega) _ _).setAt (by omega) _ _).setAt (by omega) _ _
            · exact ((HO.out.set 0 _).set 1 _).set 2 _
          case measure => simp [intOf]; omega
        · have e1 : (r == 1) = false := by simp [r1]
          have e0 : (r == 0) = false := by simp [r0]
          have HST' := Lib.hid (show stTo x0 x1 (k + 1) = (c, o0, o1, o2) from by rw [HNX.out, if_neg r0, HST.out])
          have HA' := Lib.hid (show litValue x0 (xk, xa, xv) ≠ 1 from by rw [HV.out]; exact r1)
          clear r1 r0
          go_wp2
          go_roundw
          case rel =>
            refine ⟨k + 1, c, o0, o1, o2, by omega, by go_num, rfl, by omega, by omega, HST'.out, fun j hj => ?_, G, b0, b1, b2, HR.out, HO.out⟩
            by_cases e : j < k
            · exact HA.out j e
            · obtain rfl : j = k := by omega
              rw [HX1.out]; exact HA'.out
          case measure => simp [intOf]; omega
    · have HF := Lib.hid (show clStatus x0 x1 = stEnd (c, o0, o1, o2) from by rw [clStatus_end fun j hj => HA.out j (by omega), show x1.length = k from by omega, HST.out])
      have rc0 := HR.out.cellv (j := 0) (by simp)
      have rf0 := HR.out.frozen 0
      have rc1 := HR.out.cellv (j := 1) (by simp)
      have rf1 := HR.out.frozen 1
      have rc2 := HR.out.cellv (j := 2) (by simp)
      have rf2 := HR.out.frozen 2
      simp only [List.getElem_cons_zero, List.getElem_cons_succ] at rc0 rc1 rc2
      have oc0 := HO.out.cellv (j := 0) (by simp)
      have oc1 := HO.out.cellv (j := 1) (by simp)
      have oc2 := HO.out.cellv (j := 2) (by simp)
      simp only [List.getElem_cons_zero, List.getElem_cons_succ] at oc0 oc1 oc2
      by_cases z : c = 0
      · have e0 : (c == 0) = true := by simp [z]
        have HE := Lib.hid (show stEnd (c, o0, o1, o2) = (-1, zLit) from by simp [stEnd, z])
        clear z
        go_wp2
        rw [HF.out, HE.out]
        exact bodyPost_ret (v := .tuple #[.int .i64 (-1), .agg #[.int .i64 0, .int .i64 0, .int .i64 0]]) (by simp [results, Try.results51, go_sem, rc0, rc1, rc2]) rfl ⟨rfl, by (repeat (first | assumption | exact Bel.refl _ | apply Bel.drewN | apply Bel.drew | apply Bel.alloc | refine Bel.set ?_ (by first | exact Nat.le_refl _ | exact Nat.le_add_right _ _ | (simp; done) | (simp; omega)) _ | refine Bel.trans ?_ (by assumption)))⟩
      · have e0 : (c == 0) = false := by simp [z]
        by_cases y : c = 1
        · have e1 : (c == 1) = true := by simp [y]
          have HE := Lib.hid (show stEnd (c, o0, o1, o2) = (0, o0, o1, o2) from by simp [stEnd, y])
          clear z y
          go_wp2_with fail
          go_region
          all_goals go_wp2
          all_goals rw [HF.out, HE.out]
          all_goals exact bodyPost_ret (v := .tuple #[.int .i64 0, .agg #[.int .i64 o0, .int .i64 o1, .int .i64 o2]]) (by simp [results, Try.results51, go_sem, rc0, rc1, rc2]) rfl ⟨rfl, by (repeat (first | assumption | exact Bel.refl _ | apply Bel.drewN | apply Bel.drew | apply Bel.alloc | refine Bel.set ?_ (by first | exact Nat.le_refl _ | exact Nat.le_add_right _ _ | (simp; done) | (simp; omega)) _ | refine Bel.trans ?_ (by assumption)))⟩
        · have e1 : (c == 1) = false := by simp [y]
          have HE := Lib.hid (show stEnd (c, o0, o1, o2) = (0, zLit) from by simp [stEnd, z, y])
          clear z y
          go_wp2
          rw [HF.out, HE.out]
          exact bodyPost_ret (v := .tuple #[.int .i64 0, .agg #[.int .i64 0, .int .i64 0, .int .i64 0]]) (by simp [results, Try.results51, go_sem, rc0, rc1, rc2]) rfl ⟨rfl, by (repeat (first | assumption | exact Bel.refl _ | apply Bel.drewN | apply Bel.drew | apply Bel.alloc | refine Bel.set ?_ (by first | exact Nat.le_refl _ | exact Nat.le_add_right _ _ | (simp; done) | (simp; omega)) _ | refine Bel.trans ?_ (by assumption)))⟩

end Go.Proofs.Ytcbiknpbbldmbaa
