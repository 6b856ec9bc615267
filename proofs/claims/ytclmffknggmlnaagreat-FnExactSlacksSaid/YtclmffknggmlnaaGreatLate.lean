/- LatestStarts, both sides. -/
import Derived.Test.YtclmffknggmlnaaGreatTail
import Derived.Deep.RegionHeld3
namespace Go.Proofs.YtclmffknggmlnaaGreat
open Go.ChangeShapes Go.WideShapes Go.ChangeAt Go.RowKit
set_option linter.unusedVariables false

theorem minI_eq (a b : Int) : minI a b = min a b := by unfold minI; split <;> omega
theorem lateE_in (p : ProjT) (M : List (List Int)) (t : Int) (i k : Nat) : I64 (lateE p M t i k) := by
  have := wrap_in (IntKind.i64.wrap (t - shortV p k) - (M.getD i []).getD k 0)
  unfold I64 lateE
  omega
theorem lateTo_in (p : ProjT) (M : List (List Int)) (t : Int) (i : Nat) : ∀ k, I64 (lateTo p M t i k) := by
  intro k
  induction k with
  | zero =>
    have := wrap_in (t - shortV p i)
    unfold I64 lateTo
    omega
  | succ k ih =>
    have := lateE_in p M t i k
    unfold I64 at *
    simp only [lateTo]
    split
    · exact ih
    · omega
def lateM (p : ProjT) (M : List (List Int)) (t : Int) (k : Nat) : List Int := (List.range k).map fun i => lateTo p M t i M.length
theorem lateM_length (p : ProjT) (M : List (List Int)) (t : Int) (k : Nat) : (lateM p M t k).length = k := by simp [lateM]
theorem lateM_snoc (p : ProjT) (M : List (List Int)) (t : Int) (k : Nat) : lateM p M t (k + 1) = lateM p M t k ++ [lateTo p M t k M.length] := by simp [lateM, List.range_succ]
def lateV (p : ProjT) (t : Int) : List Int := lateM p (distV p) t (distV p).length
theorem lateV_len (p : ProjT) (t : Int) : (lateV p t).length ≤ 1048576 := by
  unfold lateV; rw [lateM_length]
  have := (distV_sq p).1
  omega
theorem lateV_at {p : ProjT} {t : Int} {i : Nat} (h : i < (lateV p t).length) : I64 ((lateV p t).getD i 0) := by
  rw [getD_get _ 0 h]
  have hm := List.getElem_mem h
  generalize (lateV p t)[i] = X at *
  unfold lateV lateM at hm
  rw [List.mem_map] at hm
  obtain ⟨j, -, e⟩ := hm
  rw [← e]
  exact lateTo_in _ _ _ _ _
set_option maxRecDepth 100000 in
set_option maxHeartbeats 1000000 in
theorem sLatestStarts_any (v : Value) (p : ProjT) (S : Nat → Prop) (t : Int) (w : World) (hx : aggR projR S w v p) (hS : ∀ b, S b → b < w.heap.size) (_hn : bulkProject p ≤ 1048576) : Calls Tryz.prog 16 #[v, .int .i64 t] w (FreshV intsR w (lateV p t)) := by
  obtain ⟨cs, rfl, hx⟩ := hx
  obtain ⟨c1, c2, c3, c4, rfl, q0, q1, q2, q3, q4⟩ := projR_open hx
  have Q1 := Lib.hid q1
  have Q2 := Lib.hid q2
  have Q3 := Lib.hid q3
  have Q4 := Lib.hid q4
  have HP := Lib.hid hx
  obtain ⟨p1, k1, rfl, l1, l1', -⟩ := sliceR_open q1
  obtain ⟨p2, k2, rfl, l2, l2', -⟩ := sliceR_open q2
  obtain ⟨p3, k3, rfl, l3, l3', -⟩ := sliceR_open q3
  obtain ⟨p4, k4, rfl, l4, l4', -⟩ := sliceR_open q4
  unfold maxLen at l1' l2' l3' l4'
  clear hx q0 q1 q2 q3 q4
  have HS := Lib.hid hS
  have HNB := Lib.hid _hn
  clear hS _hn
  have HP1 := Lib.hid (show ∀ W, Bel w W → aggR projR S W (.agg #[.int .i64 p.1, .slice p1 p.2.1.length k1, .slice p2 p.2.2.1.length k2, .slice p3 p.2.2.2.1.length k3, .slice p4 p.2.2.2.2.length k4]) p from fun W hW => aggR_mk (projR_good.bel HP.out hW HS.out))
  show Calls Tryz.prog 16 #[.agg #[.int .i64 p.1, .slice p1 p.2.1.length k1, .slice p2 p.2.2.1.length k2, .slice p3 p.2.2.2.1.length k3, .slice p4 p.2.2.2.2.length k4], .int .i64 t] w _
  go_enter Tryz.func16, Tryz.ntmps16
  obtain ⟨W0, hW0, hwW, hsz0, hbx⟩ : ∃ W0, W0 = w.alloc (.cells #[.int .i64 p.1, .slice p1 p.2.1.length k1, .slice p2 p.2.2.1.length k2, .slice p3 p.2.2.2.1.length k3, .slice p4 p.2.2.2.2.length k4] 34) ∧ Bel w W0 ∧ W0.heap.size = w.heap.size + 1 ∧ W0.cell? ⟨w.heap.size, 0, none⟩ = some (.int .i64 p.1) ∧ W0.cell? ⟨w.heap.size, 1, none⟩ = some (.slice p1 p.2.1.length k1) ∧ W0.cell? ⟨w.heap.size, 2, none⟩ = some (.slice p2 p.2.2.1.length k2) ∧ W0.cell? ⟨w.heap.size, 3, none⟩ = some (.slice p3 p.2.2.2.1.length k3) ∧ W0.cell? ⟨w.heap.size, 4, none⟩ = some (.slice p4 p.2.2.2.2.length k4) := ⟨_, rfl, by (repeat (first | assumption | exact Bel.refl _ | apply Bel.drewN | apply Bel.drew | apply Bel.alloc | refine Bel.trans ?_ (by assumption))), by simp, by simp [go_sem], by simp [go_sem], by simp [go_sem], by simp [go_sem], by simp [go_sem]⟩
  have HBX := Lib.hid (show ∀ W, Bel W0 W → W.cell? ⟨w.heap.size, 0, none⟩ = some (.int .i64 p.1) ∧ W.cell? ⟨w.heap.size, 1, none⟩ = some (.slice p1 p.2.1.length k1) ∧ W.cell? ⟨w.heap.size, 2, none⟩ = some (.slice p2 p.2.2.1.length k2) ∧ W.cell? ⟨w.heap.size, 3, none⟩ = some (.slice p3 p.2.2.2.1.length k3) ∧ W.cell? ⟨w.heap.size, 4, none⟩ = some (.slice p4 p.2.2.2.2.length k4) from fun W hW => keep5 hbx hW)
  clear hbx
  have HSZ0 := Lib.hid hsz0
  clear hsz0
  go_wp2_with fail
  rw [← hW0]
  clear hW0
  refine (sDistances_mat _ p S _ (HP1.out _ (by (repeat (first | assumption | exact Bel.refl _ | apply Bel.drewN | apply Bel.drew | apply Bel.alloc | refine Bel.trans ?_ (by assumption))))) (fun b hb => Nat.lt_of_lt_of_le (HS.out b hb) (Bel.size (by (repeat (first | assumption | exact Bel.refl _ | apply Bel.drewN | apply Bel.drew | apply Bel.alloc | refine Bel.trans ?_ (by assumption)))))) HNB.out).mono ?_
  rintro e w1 ⟨vr, rfl, hr, g1⟩
  have G1 : Bel W0 w1 := by (repeat (first | assumption | exact Bel.refl _ | apply Bel.drewN | apply Bel.drew | apply Bel.alloc | refine Bel.trans ?_ (by assumption)))
  have G2 : Bel w w1 := hwW.trans G1
  have hsq := distV_sq p
  have HOK := Lib.hid (fun (h : 0 < (distV p).length) => distV_ok h)
  have HDG := Lib.hid (fun a (h : a < (distV p).length) => distV_diag h)
  have HEV := Lib.hid (show lateV p t = lateM p (distV p) t (distV p).length from rfl)
  obtain ⟨M, hM⟩ : ∃ M, distV p = M := ⟨_, rfl⟩
  rw [hM] at hr hsq HEV HOK HDG
  clear hM
  obtain ⟨q, c, rfl, hqc⟩ := matR_open hr
  have HSQ := Lib.hid hsq
  have HAT := Lib.hid (fun (h0 : 0 < M.length) => mat_at hr (fun b hb => hb.2) hsq h0)
  obtain ⟨q', c', hv', -, hcm, -⟩ := hr
  obtain ⟨rfl, rfl⟩ : q = q' ∧ c = c' := by simpa using hv'
  unfold maxLen at hcm
  have hM6 := hsq.1
  clear hsq
  go_wp2_with fail
  go_loopw [6, 15] (fun o i wr => ∃ (k : Nat) (ys : List Int) (q1 : Option Addr) (c1 : Nat), k ≤ M.length ∧ i = .int .i64 k ∧ o = .slice q1 ys.length c1 ∧ ys = lateM p M t k ∧ OwnE (fun _ => False) 1 intR 3 w1.heap.size wr q1 c1 ys ∧ Bel w1 wr) (fun _ i _ => M.length - (intOf i).toNat)
  case atStart => exact ⟨0, [], _, _, Nat.zero_le _, rfl, rfl, rfl, OwnE.empty _ _, by (repeat (first | assumption | exact Bel.refl _ | apply Bel.drewN | apply Bel.drew | apply Bel.alloc | refine Bel.trans ?_ (by assumption)))⟩
  case round =>
    obtain ⟨k, ys, q1, c1, hk, rfl, rfl, hys, hO, hB⟩ := hrel
    have HYS := Lib.hid hys
    have hyl : ys.length ≤ 6 := by rw [hys, lateM_length]; omega
    clear hys
    have G3 : Bel W0 wr := G1.trans hB
    by_cases hlt : k < M.length
    · obtain ⟨o, rfl, hat⟩ := HAT.out (by omega)
      obtain ⟨b, off, rc, hcell⟩ := hat k hlt
      have HCELL := Lib.hid hcell
      obtain ⟨hpo, hlen⟩ := HOK.out (by omega)
      have HPO := Lib.hid hpo
      have HLE := Lib.hid hlen
      have HKL := Lib.hid (show k < p.2.1.length from by omega)
      have HI := Lib.hid (lateTo_in p M t k M.length)
      have HVB := Lib.hid (fun j (hj : j < M.length) => HSQ.out.2.2 k j hlt hj)
      clear hat hpo hlen
      have hki : (k : Int) < (M.length : Int) := by omega
      obtain ⟨Wb, hWb⟩ : ∃ W, W = wr := ⟨wr, rfl⟩
      subst hWb
      obtain ⟨b0, b1, b2, b3, b4⟩ := HBX.out Wb G3
      clear hcell
      go_wp2_with fail
      refine (sShort_any _ p S _ (HP1.out _ (by (repeat (first | assumption | exact Bel.refl _ | apply Bel.drewN | apply Bel.drew | apply Bel.alloc | refine Bel.trans ?_ (by assumption))))) (fun b hb => Nat.lt_of_lt_of_le (HS.out b hb) (Bel.size (by (repeat (first | assumption | exact Bel.refl _ | apply Bel.drewN | apply Bel.drew | apply Bel.alloc | refine Bel.trans ?_ (by assumption)))))) k HPO.out HKL.out).mono ?_
      rintro e w2 ⟨rfl, g2⟩
      have hB1 : Bel Wb w2 := by (repeat (first | assumption | exact Bel.refl _ | apply Bel.drewN | apply Bel.drew | apply Bel.alloc | refine Bel.trans ?_ (by assumption)))
      clear b0 b1 b2 b3 b4
      have hL0 : IntKind.i64.wrap (t - shortV p k) = lateTo p M t k 0 := rfl
      go_wp2_with fail
      clear hL0
      go_loopw [8, 25] (fun n i wr => ∃ j : Nat, j ≤ M.length ∧ i = .int .i64 j ∧ n = .int .i64 (lateTo p M t k j) ∧ Bel w2 wr) (fun _ i _ => M.length - (intOf i).toNat)
      case atStart => exact ⟨0, Nat.zero_le _, rfl, rfl, Bel.refl _⟩
      case round =>
        obtain ⟨j, hj, rfl, rfl, hB0⟩ := hrel
        have hB2 : Bel Wb wr := hB1.trans hB0
        have hB3 := hB.trans hB2
        have G5 : Bel W0 wr := G1.trans hB3
        by_cases hlj : j < M.length
        · obtain ⟨s1, s2, s3, s4⟩ := HCELL.out wr hB3
          have s5 := s4 j hlj
          have hji : (j : Int) < (M.length : Int) := by omega
          have HJL := Lib.hid (show j < p.2.1.length from by have := HLE.out; omega)
          have HN := Lib.hid (fun (h : (M.getD k []).getD j 0 = -1000) => show lateTo p M t k (j + 1) = lateTo p M t k j from if_pos h)
          have HY := Lib.hid (fun (h : ¬ (M.getD k []).getD j 0 = -1000) => show lateTo p M t k (j + 1) = minI (lateTo p M t k j) (lateE p M t k j) from (if_neg h).trans (minI_eq _ _).symm)
          have HSC := Lib.hid (show ∀ W, Bel w1 W → (fun DV : Int => W.cell? ⟨w.heap.size, 0, none⟩ = some (.int .i64 p.1) ∧ W.cell? ⟨w.heap.size, 1, none⟩ = some (.slice p1 p.2.1.length k1) ∧ W.cell? ⟨w.heap.size, 2, none⟩ = some (.slice p2 p.2.2.1.length k2) ∧ W.cell? ⟨w.heap.size, 3, none⟩ = some (.slice p3 p.2.2.2.1.length k3) ∧ W.cell? ⟨w.heap.size, 4, none⟩ = some (.slice p4 p.2.2.2.2.length k4) ∧ W.cell? ⟨o, k, none⟩ = some (.slice (some ⟨b, off, none⟩) M.length rc) ∧ W.cell? ⟨b, off + j, none⟩ = some (.int .i64 DV)) ((M.getD k []).getD j 0) from fun W hW => by
            obtain ⟨b0, b1, b2, b3, b4⟩ := HBX.out W (G1.trans hW)
            obtain ⟨t1, -, -, t4⟩ := HCELL.out W hW
            exact ⟨b0, b1, b2, b3, b4, t1, t4 j hlj⟩)
          have hsum : IntKind.i64.wrap (IntKind.i64.wrap (t - shortV p j) - (M.getD k []).getD j 0) = lateE p M t k j := rfl
          clear s4
          generalize (M.getD k []).getD j 0 = DV at *
          by_cases hd : DV = -1000
          · have HNN := Lib.hid (HN.out hd)
            subst hd
            clear hsum
            go_wp2
            go_roundw
            case rel => exact ⟨j + 1, by omega, by go_num, by rw [HNN.out], hB0⟩
            case measure => simp [intOf]; omega
          have HYY := Lib.hid (HY.out hd)
          have hd1 : (DV == (-1000 : Int)) = false := by simpa using hd
          go_upto_region 11 with (fail)
          go_region_held3 (fun W => W.cell? ⟨w.heap.size, 0, none⟩ = some (.int .i64 p.1) ∧ W.cell? ⟨w.heap.size, 1, none⟩ = some (.slice p1 p.2.1.length k1) ∧ W.cell? ⟨w.heap.size, 2, none⟩ = some (.slice p2 p.2.2.1.length k2) ∧ W.cell? ⟨w.heap.size, 3, none⟩ = some (.slice p3 p.2.2.2.1.length k3) ∧ W.cell? ⟨w.heap.size, 4, none⟩ = some (.slice p4 p.2.2.2.2.length k4) ∧ W.cell? ⟨o, k, none⟩ = some (.slice (some ⟨b, off, none⟩) M.length rc) ∧ W.cell? ⟨b, off + j, none⟩ = some (.int .i64 DV)) (exact HSC.out _ (by (repeat (first | assumption | exact Bel.refl _ | apply Bel.drewN | apply Bel.drew | apply Bel.alloc | refine Bel.trans ?_ (by assumption)))))
            (first | (go_at_call 39; (with_reducible refine (sShort_any _ p S _ (HP1.out _ (by (repeat (first | assumption | exact Bel.refl _ | apply Bel.drewN | apply Bel.drew | apply Bel.alloc | refine Bel.trans ?_ (by assumption))))) (fun b hb => Nat.lt_of_lt_of_le (HS.out b hb) (Bel.size (by (repeat (first | assumption | exact Bel.refl _ | apply Bel.drewN | apply Bel.drew | apply Bel.alloc | refine Bel.trans ?_ (by assumption)))))) j HPO.out HJL.out).mono ?_); rintro e wt ⟨rfl, gt⟩; have hbt := Bel.trans (a := w1) (by (repeat (first | assumption | exact Bel.refl _ | apply Bel.drewN | apply Bel.drew | apply Bel.alloc | refine Bel.trans ?_ (by assumption)))) gt; have hbw := Bel.trans (a := w) (by (repeat (first | assumption | exact Bel.refl _ | apply Bel.drewN | apply Bel.drew | apply Bel.alloc | refine Bel.trans ?_ (by assumption)))) gt; have hbq := Bel.trans (a := w2) (by (repeat (first | assumption | exact Bel.refl _ | apply Bel.drewN | apply Bel.drew | apply Bel.alloc | refine Bel.trans ?_ (by assumption)))) gt) | (go_at_call 40; (with_reducible refine (l02Min_any _ _ _).mono ?_); rintro e wm ⟨rfl, rfl⟩) | fail)
          all_goals (go_wp2_with fail; go_roundw; (case rel => exact ⟨j + 1, by omega, by go_num, by rw [HYY.out], by (repeat (first | assumption | exact Bel.refl _ | apply Bel.drewN | apply Bel.drew | apply Bel.alloc | refine Bel.trans ?_ (by assumption)))⟩); (case measure => simp [intOf]; omega))
        · obtain rfl : j = M.length := by omega
          have HLTI := Lib.hid HI.out
          have HLT := Lib.hid (show lateTo p M t k M.length = lateTo p M t k M.length from rfl)
          generalize hLT : lateTo p M t k M.length = LT at HLT HLTI ⊢
          have HLT := Lib.hid hLT.symm
          clear hLT
          have HSN := Lib.hid (show ys ++ [LT] = lateM p M t (k + 1) from by rw [HYS.out, lateM_snoc, ← HLT.out])
          have hbd : I64 LT := HLTI.out
          unfold I64 at hbd
          have hO := hO.bel intR_good hB2
          have hsz := hB3.size
          go_wp2_with ((at_builtin; refine wpList_appE (n := 1) intR_good _ rfl _ _ 25 rfl (.int .i64 0) 8 Tryz.underlying25 (by kernel_rfl) rfl (by decide) (by decide) q1 c1 ys (LT) rfl (hO.bel intR_good (by (repeat (first | assumption | exact Bel.refl _ | apply Bel.drewN | apply Bel.drew | apply Bel.alloc | refine Bel.trans ?_ (by assumption))))) _ 1 [.int .i64 LT] rfl rfl (World.news_of_block (alloc_at (by simp))) (by intro u hu; simp at hu; subst hu; rfl) (intRep (by unfold I64; omega)) (by omega) (by first | omega | (simp; omega)) ?_; intro q' cap' w' hO' hBW hsz'))
          have HB := Lib.hid (hBW w1 (by (repeat (first | assumption | exact Bel.refl _ | apply Bel.drewN | apply Bel.drew | apply Bel.alloc | refine Bel.trans ?_ (by assumption)))) (Nat.le_refl _))
          clear hBW hsz'
          go_roundw
          case rel => exact ⟨k + 1, ys ++ [LT], q', cap', by omega, by go_num, by simp, HSN.out, hO', HB.out⟩
          case measure => simp [intOf]; omega
    · obtain rfl : k = M.length := by omega
      have HRES := Lib.hid (show intsR (New w wr) wr [.slice q1 ys.length c1] (lateV p t) from by
        rw [HEV.out, ← HYS.out]
        exact hO.done intR_good (fun _ hf => hf.elim) (fun b h1 h2 => ⟨by have := G2.size; omega, h2⟩))
      clear hO
      go_wp2
      go_ret
      exact ⟨_, rfl, HRES.out, G2.trans hB⟩

set_option maxRecDepth 100000 in
set_option maxHeartbeats 1000000 in
theorem iLatestStarts_any (v : Value) (p : ProjT) (S : Nat → Prop) (t : Int) (w : World) (hx : aggR projR S w v p) (hS : ∀ b, S b → b < w.heap.size) (_hn : bulkProject p ≤ 1048576) : Calls Tryz.prog 17 #[v, .int .i64 t] w (FreshV intsR w (lateV p t)) := by
  obtain ⟨cs, rfl, hx⟩ := hx
  obtain ⟨c1, c2, c3, c4, rfl, q0, q1, q2, q3, q4⟩ := projR_open hx
  have Q1 := Lib.hid q1
  have Q2 := Lib.hid q2
  have Q3 := Lib.hid q3
  have Q4 := Lib.hid q4
  have HP := Lib.hid hx
  obtain ⟨p1, k1, rfl, l1, l1', -⟩ := sliceR_open q1
  obtain ⟨p2, k2, rfl, l2, l2', -⟩ := sliceR_open q2
  obtain ⟨p3, k3, rfl, l3, l3', -⟩ := sliceR_open q3
  obtain ⟨p4, k4, rfl, l4, l4', -⟩ := sliceR_open q4
  unfold maxLen at l1' l2' l3' l4'
  clear hx q0 q1 q2 q3 q4
  have HS := Lib.hid hS
  have HNB := Lib.hid _hn
  clear hS _hn
  have HP1 := Lib.hid (show ∀ W, Bel w W → aggR projR S W (.agg #[.int .i64 p.1, .slice p1 p.2.1.length k1, .slice p2 p.2.2.1.length k2, .slice p3 p.2.2.2.1.length k3, .slice p4 p.2.2.2.2.length k4]) p from fun W hW => aggR_mk (projR_good.bel HP.out hW HS.out))
  show Calls Tryz.prog 17 #[.agg #[.int .i64 p.1, .slice p1 p.2.1.length k1, .slice p2 p.2.2.1.length k2, .slice p3 p.2.2.2.1.length k3, .slice p4 p.2.2.2.2.length k4], .int .i64 t] w _
  go_enter Tryz.func17, Tryz.ntmps17
  obtain ⟨W0, hW0, hwW, hsz0, hbx⟩ : ∃ W0, W0 = w.alloc (.cells #[.int .i64 p.1, .slice p1 p.2.1.length k1, .slice p2 p.2.2.1.length k2, .slice p3 p.2.2.2.1.length k3, .slice p4 p.2.2.2.2.length k4] 34) ∧ Bel w W0 ∧ W0.heap.size = w.heap.size + 1 ∧ W0.cell? ⟨w.heap.size, 0, none⟩ = some (.int .i64 p.1) ∧ W0.cell? ⟨w.heap.size, 1, none⟩ = some (.slice p1 p.2.1.length k1) ∧ W0.cell? ⟨w.heap.size, 2, none⟩ = some (.slice p2 p.2.2.1.length k2) ∧ W0.cell? ⟨w.heap.size, 3, none⟩ = some (.slice p3 p.2.2.2.1.length k3) ∧ W0.cell? ⟨w.heap.size, 4, none⟩ = some (.slice p4 p.2.2.2.2.length k4) := ⟨_, rfl, by (repeat (first | assumption | exact Bel.refl _ | apply Bel.drewN | apply Bel.drew | apply Bel.alloc | refine Bel.trans ?_ (by assumption))), by simp, by simp [go_sem], by simp [go_sem], by simp [go_sem], by simp [go_sem], by simp [go_sem]⟩
  have HBX := Lib.hid (show ∀ W, Bel W0 W → W.cell? ⟨w.heap.size, 0, none⟩ = some (.int .i64 p.1) ∧ W.cell? ⟨w.heap.size, 1, none⟩ = some (.slice p1 p.2.1.length k1) ∧ W.cell? ⟨w.heap.size, 2, none⟩ = some (.slice p2 p.2.2.1.length k2) ∧ W.cell? ⟨w.heap.size, 3, none⟩ = some (.slice p3 p.2.2.2.1.length k3) ∧ W.cell? ⟨w.heap.size, 4, none⟩ = some (.slice p4 p.2.2.2.2.length k4) from fun W hW => keep5 hbx hW)
  clear hbx
  have HSZ0 := Lib.hid hsz0
  clear hsz0
  go_wp2_with fail
  rw [← hW0]
  clear hW0
  refine (iDistances_mat _ p S _ (HP1.out _ (by (repeat (first | assumption | exact Bel.refl _ | apply Bel.drewN | apply Bel.drew | apply Bel.alloc | refine Bel.trans ?_ (by assumption))))) (fun b hb => Nat.lt_of_lt_of_le (HS.out b hb) (Bel.size (by (repeat (first | assumption | exact Bel.refl _ | apply Bel.drewN | apply Bel.drew | apply Bel.alloc | refine Bel.trans ?_ (by assumption)))))) HNB.out).mono ?_
  rintro e w1 ⟨vr, rfl, hr, g1⟩
  have G1 : Bel W0 w1 := by (repeat (first | assumption | exact Bel.refl _ | apply Bel.drewN | apply Bel.drew | apply Bel.alloc | refine Bel.trans ?_ (by assumption)))
  have G2 : Bel w w1 := hwW.trans G1
  have hsq := distV_sq p
  have HOK := Lib.hid (fun (h : 0 < (distV p).length) => distV_ok h)
  have HDG := Lib.hid (fun a (h : a < (distV p).length) => distV_diag h)
  have HEV := Lib.hid (show lateV p t = lateM p (distV p) t (distV p).length from rfl)
  obtain ⟨M, hM⟩ : ∃ M, distV p = M := ⟨_, rfl⟩
  rw [hM] at hr hsq HEV HOK HDG
  clear hM
  obtain ⟨q, c, rfl, hqc⟩ := matR_open hr
  have HSQ := Lib.hid hsq
  have HAT := Lib.hid (fun (h0 : 0 < M.length) => mat_at hr (fun b hb => hb.2) hsq h0)
  obtain ⟨q', c', hv', -, hcm, -⟩ := hr
  obtain ⟨rfl, rfl⟩ : q = q' ∧ c = c' := by simpa using hv'
  unfold maxLen at hcm
  have hM6 := hsq.1
  clear hsq
  go_wp2_with fail
  go_loopw [5, 17] (fun o i wr => ∃ (k : Nat) (ys : List Int) (q1 : Option Addr) (c1 : Nat), k ≤ M.length ∧ i = .int .i64 k ∧ o = .slice q1 ys.length c1 ∧ ys = lateM p M t k ∧ OwnE (fun _ => False) 1 intR 3 w1.heap.size wr q1 c1 ys ∧ Bel w1 wr) (fun _ i _ => M.length - (intOf i).toNat)
  case atStart => exact ⟨0, [], _, _, Nat.zero_le _, rfl, rfl, rfl, OwnE.empty _ _, by (repeat (first | assumption | exact Bel.refl _ | apply Bel.drewN | apply Bel.drew | apply Bel.alloc | refine Bel.trans ?_ (by assumption)))⟩
  case round =>
    obtain ⟨k, ys, q1, c1, hk, rfl, rfl, hys, hO, hB⟩ := hrel
    have HYS := Lib.hid hys
    have hyl : ys.length ≤ 6 := by rw [hys, lateM_length]; omega
    clear hys
    have G3 : Bel W0 wr := G1.trans hB
    by_cases hlt : k < M.length
    · obtain ⟨o, rfl, hat⟩ := HAT.out (by omega)
      obtain ⟨b, off, rc, hcell⟩ := hat k hlt
      have HCELL := Lib.hid hcell
      obtain ⟨hpo, hlen⟩ := HOK.out (by omega)
      have HPO := Lib.hid hpo
      have HLE := Lib.hid hlen
      have HKL := Lib.hid (show k < p.2.1.length from by omega)
      have HI := Lib.hid (lateTo_in p M t k M.length)
      have HVB := Lib.hid (fun j (hj : j < M.length) => HSQ.out.2.2 k j hlt hj)
      clear hat hpo hlen
      have hki : (k : Int) < (M.length : Int) := by omega
      obtain ⟨Wb, hWb⟩ : ∃ W, W = wr := ⟨wr, rfl⟩
      subst hWb
      obtain ⟨s1, s2, s3, -⟩ := hcell _ hB
      clear hcell
      have HEND := Lib.hid (show (lateI p M t k M.length).2 = lateTo p M t k M.length from late_end hlt (HDG.out k hlt))
      go_wp2_with fail
      clear s1
      go_loopw [8, 9, 23] (fun l fd i wr => ∃ j : Nat, j ≤ M.length ∧ i = .int .i64 j ∧ l = .int .i64 (lateI p M t k j).2 ∧ fd = .bool (lateI p M t k j).1 ∧ Bel Wb wr) (fun _ _ i _ => M.length - (intOf i).toNat)
      case atStart => exact ⟨0, Nat.zero_le _, rfl, rfl, rfl, Bel.refl _⟩
      case round =>
        obtain ⟨j, hj, rfl, rfl, rfl, hB2⟩ := hrel
        have hB3 := hB.trans hB2
        have G5 : Bel W0 wr := G1.trans hB3
        by_cases hlj : j < M.length
        · obtain ⟨-, -, -, s4⟩ := HCELL.out wr hB3
          have s5 := s4 j hlj
          clear s4
          have hji : (j : Int) < (M.length : Int) := by omega
          have HJL := Lib.hid (show j < p.2.1.length from by have := HLE.out; omega)
          have HY := Lib.hid (show lateI p M t k (j + 1) = if (M.getD k []).getD j 0 ≠ -1000 ∧ ((lateI p M t k j).1 = false ∨ lateE p M t k j < (lateI p M t k j).2) then (true, lateE p M t k j) else lateI p M t k j from rfl)
          have hsum : IntKind.i64.wrap (IntKind.i64.wrap (t - shortV p j) - (M.getD k []).getD j 0) = lateE p M t k j := rfl
          obtain ⟨b0, b1, b2, b3, b4⟩ := HBX.out wr G5
          generalize (M.getD k []).getD j 0 = DV at *
          generalize lateE p M t k j = LE at *
          generalize hT1 : IntKind.i64.wrap (t - shortV p j) = T1 at hsum
          obtain ⟨LI, hLI⟩ : ∃ LI, lateI p M t k j = LI := ⟨_, rfl⟩
          rw [hLI] at HY ⊢
          clear hLI
          obtain ⟨F, L⟩ := LI
          have HY := Lib.hid (show lateI p M t k (j + 1) = if DV ≠ -1000 ∧ (F = false ∨ LE < L) then (true, LE) else (F, L) from HY.out)
          go_wp2_with fail
          refine (iShort_any _ p S _ (HP1.out _ (by (repeat (first | assumption | exact Bel.refl _ | apply Bel.drewN | apply Bel.drew | apply Bel.alloc | refine Bel.trans ?_ (by assumption))))) (fun b hb => Nat.lt_of_lt_of_le (HS.out b hb) (Bel.size (by (repeat (first | assumption | exact Bel.refl _ | apply Bel.drewN | apply Bel.drew | apply Bel.alloc | refine Bel.trans ?_ (by assumption)))))) j HPO.out HJL.out).mono ?_
          rintro e wt ⟨rfl, gt⟩
          have hBt := hB2.trans gt
          clear b0 b1 b2 b3 b4 s5
          by_cases hd : DV = -1000
          · have HYY := Lib.hid (show lateI p M t k (j + 1) = (F, L) from by rw [HY.out, if_neg (fun h => h.1 hd)])
            subst hd
            go_wp2
            refine ⟨⟨j + 1, by omega, by go_num, by rw [HYY.out], by rw [HYY.out], by (repeat (first | assumption | exact Bel.refl _ | apply Bel.drewN | apply Bel.drew | apply Bel.alloc | refine Bel.trans ?_ (by assumption)))⟩, by simp [intOf]; omega⟩
          have hd1 : (DV == (-1000 : Int)) = false := by simpa using hd
          cases F
          · have HYY := Lib.hid (show lateI p M t k (j + 1) = (true, LE) from by rw [HY.out, if_pos ⟨hd, .inl rfl⟩])
            go_wp2
            refine ⟨⟨j + 1, by omega, by go_num, by rw [HYY.out], by rw [HYY.out], by (repeat (first | assumption | exact Bel.refl _ | apply Bel.drewN | apply Bel.drew | apply Bel.alloc | refine Bel.trans ?_ (by assumption)))⟩, by simp [intOf]; omega⟩
          by_cases hl : LE < L
          · have HYY := Lib.hid (show lateI p M t k (j + 1) = (true, LE) from by rw [HY.out, if_pos ⟨hd, .inr hl⟩])
            go_wp2
            refine ⟨⟨j + 1, by omega, by go_num, by rw [HYY.out], by rw [HYY.out], by (repeat (first | assumption | exact Bel.refl _ | apply Bel.drewN | apply Bel.drew | apply Bel.alloc | refine Bel.trans ?_ (by assumption)))⟩, by simp [intOf]; omega⟩
          · have HYY := Lib.hid (show lateI p M t k (j + 1) = (true, L) from by rw [HY.out, if_neg (fun h => by rcases h.2 with h | h; cases h; exact hl h)])
            go_wp2
            refine ⟨⟨j + 1, by omega, by go_num, by rw [HYY.out], by rw [HYY.out], by (repeat (first | assumption | exact Bel.refl _ | apply Bel.drewN | apply Bel.drew | apply Bel.alloc | refine Bel.trans ?_ (by assumption)))⟩, by simp [intOf]; omega⟩
        · obtain rfl : j = M.length := by omega
          rw [HEND.out]
          have HLTI := Lib.hid HI.out
          generalize hLT : lateTo p M t k M.length = LT at HLTI ⊢
          have HLT := Lib.hid hLT.symm
          clear hLT
          have HSN := Lib.hid (show ys ++ [LT] = lateM p M t (k + 1) from by rw [HYS.out, lateM_snoc, ← HLT.out])
          have hbd : I64 LT := HLTI.out
          unfold I64 at hbd
          have hO := hO.bel intR_good hB2
          have hsz := hB3.size
          go_wp2_with ((at_builtin; refine wpList_appE (n := 1) intR_good _ rfl _ _ 25 rfl (.int .i64 0) 8 Tryz.underlying25 (by kernel_rfl) rfl (by decide) (by decide) q1 c1 ys (LT) rfl (hO.bel intR_good (by (repeat (first | assumption | exact Bel.refl _ | apply Bel.drewN | apply Bel.drew | apply Bel.alloc | refine Bel.trans ?_ (by assumption))))) _ 1 [.int .i64 LT] rfl rfl (World.news_of_block (alloc_at (by simp))) (by intro u hu; simp at hu; subst hu; rfl) (intRep (by unfold I64; omega)) (by omega) (by first | omega | (simp; omega)) ?_; intro q' cap' w' hO' hBW hsz'))
          have HB := Lib.hid (hBW w1 (by (repeat (first | assumption | exact Bel.refl _ | apply Bel.drewN | apply Bel.drew | apply Bel.alloc | refine Bel.trans ?_ (by assumption)))) (Nat.le_refl _))
          clear hBW hsz'
          go_roundw
          case rel => exact ⟨k + 1, ys ++ [LT], q', cap', by omega, by go_num, by simp, HSN.out, hO', HB.out⟩
          case measure => simp [intOf]; omega
    · obtain rfl : k = M.length := by omega
      have HRES := Lib.hid (show intsR (New w wr) wr [.slice q1 ys.length c1] (lateV p t) from by
        rw [HEV.out, ← HYS.out]
        exact hO.done intR_good (fun _ hf => hf.elim) (fun b h1 h2 => ⟨by have := G2.size; omega, h2⟩))
      clear hO
      go_wp2
      go_ret
      exact ⟨_, rfl, HRES.out, G2.trans hB⟩

end Go.Proofs.YtclmffknggmlnaaGreat
