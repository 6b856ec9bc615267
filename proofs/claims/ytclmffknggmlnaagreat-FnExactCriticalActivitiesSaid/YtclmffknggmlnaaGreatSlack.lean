/- Slacks, both sides. -/
import Derived.Test.YtclmffknggmlnaaGreatLate
namespace Go.Proofs.YtclmffknggmlnaaGreat
open Go.ChangeShapes Go.WideShapes Go.ChangeAt Go.RowKit
set_option linter.unusedVariables false

def slackM (E L : List Int) (k : Nat) : List Int := (List.range k).map fun i => IntKind.i64.wrap (L.getD i 0 - E.getD i 0)
theorem slackM_le (E L : List Int) (k : Nat) : (slackM E L k).length ≤ k := by simp [slackM]
theorem slackM_snoc (E L : List Int) (k : Nat) : slackM E L (k + 1) = slackM E L k ++ [IntKind.i64.wrap (L.getD k 0 - E.getD k 0)] := by simp [slackM, List.range_succ]
def slackV (p : ProjT) (t : Int) : List Int := slackM (earlV p) (lateV p t) (earlV p).length
theorem slackV_len (p : ProjT) (t : Int) : (slackV p t).length ≤ 1048576 := Nat.le_trans (slackM_le _ _ _) (earlV_len p)
set_option maxRecDepth 100000 in
set_option maxHeartbeats 1000000 in
theorem sSlacks_any (v : Value) (p : ProjT) (S : Nat → Prop) (t : Int) (w : World) (hx : aggR projR S w v p) (hS : ∀ b, S b → b < w.heap.size) (_hn : bulkProject p ≤ 1048576) : Calls Tryz.prog 18 #[v, .int .i64 t] w (FreshV intsR w (slackV p t)) := by
  obtain ⟨cs, rfl, hx⟩ := hx
  obtain ⟨c1, c2, c3, c4, rfl, q0, q1, q2, q3, q4⟩ := projR_open hx
  have Q1 := Lib.hid q1
  have Q2 := Lib.hid q2
  have Q3 := Lib.hid q3
  have Q4 := Lib.hid q4
  have HP := Lib.hid hx
  obtain ⟨p1, k1, rfl, l1, l1', -⟩ := sliceR_open q1
  obtain ⟨p2, k2, rfl, l2, l2', -⟩ := sliceR_open q2
  obtain ⟨p3, k3, rfl, l3, l3', -⟩ := sliceR_open q3
  obtain ⟨p4, k4, rfl, l4, l4', -⟩ := sliceR_open q4
  unfold maxLen at l1' l2' l3' l4'
  clear hx q0 q1 q2 q3 q4
  have HS := Lib.hid hS
  have HNB := Lib.hid _hn
  clear hS _hn
  have HP1 := Lib.hid (show ∀ W, Bel w W → aggR projR S W (.agg #[.int .i64 p.1, .slice p1 p.2.1.length k1, .slice p2 p.2.2.1.length k2, .slice p3 p.2.2.2.1.length k3, .slice p4 p.2.2.2.2.length k4]) p from fun W hW => aggR_mk (projR_good.bel HP.out hW HS.out))
  show Calls Tryz.prog 18 #[.agg #[.int .i64 p.1, .slice p1 p.2.1.length k1, .slice p2 p.2.2.1.length k2, .slice p3 p.2.2.2.1.length k3, .slice p4 p.2.2.2.2.length k4], .int .i64 t] w _
  go_enter Tryz.func18, Tryz.ntmps18
  obtain ⟨W0, hW0, hwW, hsz0, hbx⟩ : ∃ W0, W0 = w.alloc (.cells #[.int .i64 p.1, .slice p1 p.2.1.length k1, .slice p2 p.2.2.1.length k2, .slice p3 p.2.2.2.1.length k3, .slice p4 p.2.2.2.2.length k4] 34) ∧ Bel w W0 ∧ W0.heap.size = w.heap.size + 1 ∧ W0.cell? ⟨w.heap.size, 0, none⟩ = some (.int .i64 p.1) ∧ W0.cell? ⟨w.heap.size, 1, none⟩ = some (.slice p1 p.2.1.length k1) ∧ W0.cell? ⟨w.heap.size, 2, none⟩ = some (.slice p2 p.2.2.1.length k2) ∧ W0.cell? ⟨w.heap.size, 3, none⟩ = some (.slice p3 p.2.2.2.1.length k3) ∧ W0.cell? ⟨w.heap.size, 4, none⟩ = some (.slice p4 p.2.2.2.2.length k4) := ⟨_, rfl, by (repeat (first | assumption | exact Bel.refl _ | apply Bel.drewN | apply Bel.drew | apply Bel.alloc | refine Bel.trans ?_ (by assumption))), by simp, by simp [go_sem], by simp [go_sem], by simp [go_sem], by simp [go_sem], by simp [go_sem]⟩
  have HBX := Lib.hid (show ∀ W, Bel W0 W → W.cell? ⟨w.heap.size, 0, none⟩ = some (.int .i64 p.1) ∧ W.cell? ⟨w.heap.size, 1, none⟩ = some (.slice p1 p.2.1.length k1) ∧ W.cell? ⟨w.heap.size, 2, none⟩ = some (.slice p2 p.2.2.1.length k2) ∧ W.cell? ⟨w.heap.size, 3, none⟩ = some (.slice p3 p.2.2.2.1.length k3) ∧ W.cell? ⟨w.heap.size, 4, none⟩ = some (.slice p4 p.2.2.2.2.length k4) from fun W hW => keep5 hbx hW)
  clear hbx
  have HSZ0 := Lib.hid hsz0
  clear hsz0
  go_wp2_with fail
  rw [← hW0]
  clear hW0
  refine (sEarliestStarts_any _ p S _ (HP1.out _ (by (repeat (first | assumption | exact Bel.refl _ | apply Bel.drewN | apply Bel.drew | apply Bel.alloc | refine Bel.trans ?_ (by assumption))))) (fun b hb => Nat.lt_of_lt_of_le (HS.out b hb) (Bel.size (by (repeat (first | assumption | exact Bel.refl _ | apply Bel.drewN | apply Bel.drew | apply Bel.alloc | refine Bel.trans ?_ (by assumption)))))) HNB.out).mono ?_
  rintro e w1 ⟨ve, rfl, hre, ge⟩
  obtain ⟨qe, ce, rfl, hec, hem, -⟩ := sliceR_open hre
  unfold maxLen at hem
  have HRE := Lib.hid hre
  clear hre
  obtain ⟨b0, b1, b2, b3, b4⟩ := HBX.out w1 (by (repeat (first | assumption | exact Bel.refl _ | apply Bel.drewN | apply Bel.drew | apply Bel.alloc | refine Bel.trans ?_ (by assumption))))
  go_wp2_with fail
  refine (sLatestStarts_any _ p S t _ (HP1.out _ (by (repeat (first | assumption | exact Bel.refl _ | apply Bel.drewN | apply Bel.drew | apply Bel.alloc | refine Bel.trans ?_ (by assumption))))) (fun b hb => Nat.lt_of_lt_of_le (HS.out b hb) (Bel.size (by (repeat (first | assumption | exact Bel.refl _ | apply Bel.drewN | apply Bel.drew | apply Bel.alloc | refine Bel.trans ?_ (by assumption)))))) HNB.out).mono ?_
  rintro e w2 ⟨vl, rfl, hrl, gl⟩
  obtain ⟨ql, cl, rfl, hlc, hlm, -⟩ := sliceR_open hrl
  unfold maxLen at hlm
  have HRL := Lib.hid hrl
  clear hrl
  clear b0 b1 b2 b3 b4
  obtain ⟨G12, G2, G3⟩ : Bel w1 w2 ∧ Bel W0 w2 ∧ Bel w w2 := ⟨by (repeat (first | assumption | exact Bel.refl _ | apply Bel.drewN | apply Bel.drew | apply Bel.alloc | refine Bel.trans ?_ (by assumption))), by (repeat (first | assumption | exact Bel.refl _ | apply Bel.drewN | apply Bel.drew | apply Bel.alloc | refine Bel.trans ?_ (by assumption))), by (repeat (first | assumption | exact Bel.refl _ | apply Bel.drewN | apply Bel.drew | apply Bel.alloc | refine Bel.trans ?_ (by assumption)))⟩
  have HAE := Lib.hid (fun i hi W (hW : Bel w2 W) => show ∃ b off, qe = some ⟨b, off, none⟩ ∧ W.cell? ⟨b, off + i, none⟩ = some (.int .i64 ((earlV p).getD i 0)) from by
    obtain ⟨b, off, h1, h2⟩ := intsR_at' HRE.out (i := i) hi
    exact ⟨b, off, by simpa [sliceAddr] using h1, Bel.cell (Bel.trans (by first | exact G12 | exact Bel.refl _) hW) h2⟩)
  have HAL := Lib.hid (fun i hi W (hW : Bel w2 W) => show ∃ b off, ql = some ⟨b, off, none⟩ ∧ W.cell? ⟨b, off + i, none⟩ = some (.int .i64 ((lateV p t).getD i 0)) from by
    obtain ⟨b, off, h1, h2⟩ := intsR_at' HRL.out (i := i) hi
    exact ⟨b, off, by simpa [sliceAddr] using h1, Bel.cell (Bel.trans (by first | exact G12 | exact Bel.refl _) hW) h2⟩)
  have hel : (earlV p).length = (distV p).length := earlM_length _ _
  have hll : (lateV p t).length = (distV p).length := lateM_length _ _ _ _
  have h6 := (distV_sq p).1
  have HV := Lib.hid (show slackV p t = slackM (earlV p) (lateV p t) (earlV p).length from rfl)
  generalize earlV p = E at *
  generalize lateV p t = L at *
  generalize distV p = M at *
  have hEL : E.length = L.length := by omega
  have h6 : E.length ≤ 6 := by omega
  clear hel hll
  go_wp2_with fail
  go_loopw [5, 16] (fun o i wr => ∃ (k : Nat) (ys : List Int) (q1 : Option Addr) (c1 : Nat), k ≤ E.length ∧ i = .int .i64 k ∧ o = .slice q1 ys.length c1 ∧ ys = slackM E L k ∧ OwnE (fun _ => False) 1 intR 3 w2.heap.size wr q1 c1 ys ∧ Bel w2 wr) (fun _ i _ => E.length - (intOf i).toNat)
  case atStart => exact ⟨0, [], _, _, Nat.zero_le _, rfl, rfl, rfl, OwnE.empty _ _, by (repeat (first | assumption | exact Bel.refl _ | apply Bel.drewN | apply Bel.drew | apply Bel.alloc | refine Bel.trans ?_ (by assumption)))⟩
  case round =>
    obtain ⟨k, ys, q1, c1, hk, rfl, rfl, hys, hO, hB⟩ := hrel
    have HYS := Lib.hid hys
    have hyl : ys.length ≤ 6 := by rw [hys]; exact Nat.le_trans (slackM_le _ _ _) (by omega)
    clear hys
    by_cases hlt : k < E.length
    · obtain ⟨be, oe, rfl, ce⟩ := HAE.out k hlt wr hB
      obtain ⟨bl, ol, rfl, cl⟩ := HAL.out k (by omega) wr hB
      have hki : (k : Int) < (E.length : Int) := by omega
      have hki2 : (k : Int) < (L.length : Int) := by omega
      have hsz := hB.size
      have HSN := Lib.hid (show ys ++ [IntKind.i64.wrap (L.getD k 0 - E.getD k 0)] = slackM E L (k + 1) from by rw [HYS.out, slackM_snoc])
      have hbd := wrap_in (L.getD k 0 - E.getD k 0)
      generalize L.getD k 0 = LK at *
      generalize E.getD k 0 = EK at *
      generalize hWR : IntKind.i64.wrap (LK - EK) = WR at *
      go_wp2_with ((at_builtin; refine wpList_appE (n := 1) intR_good _ rfl _ _ 25 rfl (.int .i64 0) 8 Tryz.underlying25 (by kernel_rfl) rfl (by decide) (by decide) q1 c1 ys (WR) rfl (hO.bel intR_good (by (repeat (first | assumption | exact Bel.refl _ | apply Bel.drewN | apply Bel.drew | apply Bel.alloc | refine Bel.trans ?_ (by assumption))))) _ 1 [.int .i64 WR] rfl rfl (World.news_of_block (alloc_at (by simp))) (by intro u hu; simp at hu; subst hu; rfl) (intRep (by unfold I64; omega)) (by omega) (by first | omega | (simp; omega)) ?_; intro q' cap' w' hO' hBW hsz'))
      have HB := Lib.hid (hBW w2 (by (repeat (first | assumption | exact Bel.refl _ | apply Bel.drewN | apply Bel.drew | apply Bel.alloc | refine Bel.trans ?_ (by assumption)))) (Nat.le_refl _))
      clear hBW hsz'
      go_roundw
      case rel => exact ⟨k + 1, ys ++ [WR], q', cap', by omega, by go_num, by simp, HSN.out, hO', HB.out⟩
      case measure => simp [intOf]; omega
    · obtain rfl : k = E.length := by omega
      have hki2 : ¬ ((E.length : Int) < (L.length : Int)) := by omega
      have HRES := Lib.hid (show intsR (New w wr) wr [.slice q1 ys.length c1] (slackV p t) from by
        rw [HV.out, ← HYS.out]
        exact hO.done intR_good (fun _ hf => hf.elim) (fun b h1 h2 => ⟨by have := G3.size; omega, h2⟩))
      clear hO
      go_wp2
      go_ret
      exact ⟨_, rfl, HRES.out, G3.trans hB⟩

set_option maxRecDepth 100000 in
set_option maxHeartbeats 1000000 in
theorem iSlacks_any (v : Value) (p : ProjT) (S : Nat → Prop) (t : Int) (w : World) (hx : aggR projR S w v p) (hS : ∀ b, S b → b < w.heap.size) (_hn : bulkProject p ≤ 1048576) : Calls Tryz.prog 19 #[v, .int .i64 t] w (FreshV intsR w (slackV p t)) := by
  obtain ⟨cs, rfl, hx⟩ := hx
  obtain ⟨c1, c2, c3, c4, rfl, q0, q1, q2, q3, q4⟩ := projR_open hx
  have Q1 := Lib.hid q1
  have Q2 := Lib.hid q2
  have Q3 := Lib.hid q3
  have Q4 := Lib.hid q4
  have HP := Lib.hid hx
  obtain ⟨p1, k1, rfl, l1, l1', -⟩ := sliceR_open q1
  obtain ⟨p2, k2, rfl, l2, l2', -⟩ := sliceR_open q2
  obtain ⟨p3, k3, rfl, l3, l3', -⟩ := sliceR_open q3
  obtain ⟨p4, k4, rfl, l4, l4', -⟩ := sliceR_open q4
  unfold maxLen at l1' l2' l3' l4'
  clear hx q0 q1 q2 q3 q4
  have HS := Lib.hid hS
  have HNB := Lib.hid _hn
  clear hS _hn
  have HP1 := Lib.hid (show ∀ W, Bel w W → aggR projR S W (.agg #[.int .i64 p.1, .slice p1 p.2.1.length k1, .slice p2 p.2.2.1.length k2, .slice p3 p.2.2.2.1.length k3, .slice p4 p.2.2.2.2.length k4]) p from fun W hW => aggR_mk (projR_good.bel HP.out hW HS.out))
  show Calls Tryz.prog 19 #[.agg #[.int .i64 p.1, .slice p1 p.2.1.length k1, .slice p2 p.2.2.1.length k2, .slice p3 p.2.2.2.1.length k3, .slice p4 p.2.2.2.2.length k4], .int .i64 t] w _
  go_enter Tryz.func19, Tryz.ntmps19
  obtain ⟨W0, hW0, hwW, hsz0, hbx⟩ : ∃ W0, W0 = w.alloc (.cells #[.int .i64 p.1, .slice p1 p.2.1.length k1, .slice p2 p.2.2.1.length k2, .slice p3 p.2.2.2.1.length k3, .slice p4 p.2.2.2.2.length k4] 34) ∧ Bel w W0 ∧ W0.heap.size = w.heap.size + 1 ∧ W0.cell? ⟨w.heap.size, 0, none⟩ = some (.int .i64 p.1) ∧ W0.cell? ⟨w.heap.size, 1, none⟩ = some (.slice p1 p.2.1.length k1) ∧ W0.cell? ⟨w.heap.size, 2, none⟩ = some (.slice p2 p.2.2.1.length k2) ∧ W0.cell? ⟨w.heap.size, 3, none⟩ = some (.slice p3 p.2.2.2.1.length k3) ∧ W0.cell? ⟨w.heap.size, 4, none⟩ = some (.slice p4 p.2.2.2.2.length k4) := ⟨_, rfl, by (repeat (first | assumption | exact Bel.refl _ | apply Bel.drewN | apply Bel.drew | apply Bel.alloc | refine Bel.trans ?_ (by assumption))), by simp, by simp [go_sem], by simp [go_sem], by simp [go_sem], by simp [go_sem], by simp [go_sem]⟩
  have HBX := Lib.hid (show ∀ W, Bel W0 W → W.cell? ⟨w.heap.size, 0, none⟩ = some (.int .i64 p.1) ∧ W.cell? ⟨w.heap.size, 1, none⟩ = some (.slice p1 p.2.1.length k1) ∧ W.cell? ⟨w.heap.size, 2, none⟩ = some (.slice p2 p.2.2.1.length k2) ∧ W.cell? ⟨w.heap.size, 3, none⟩ = some (.slice p3 p.2.2.2.1.length k3) ∧ W.cell? ⟨w.heap.size, 4, none⟩ = some (.slice p4 p.2.2.2.2.length k4) from fun W hW => keep5 hbx hW)
  clear hbx
  have HSZ0 := Lib.hid hsz0
  clear hsz0
  go_wp2_with fail
  rw [← hW0]
  clear hW0
  refine (iLatestStarts_any _ p S t _ (HP1.out _ (by (repeat (first | assumption | exact Bel.refl _ | apply Bel.drewN | apply Bel.drew | apply Bel.alloc | refine Bel.trans ?_ (by assumption))))) (fun b hb => Nat.lt_of_lt_of_le (HS.out b hb) (Bel.size (by (repeat (first | assumption | exact Bel.refl _ | apply Bel.drewN | apply Bel.drew | apply Bel.alloc | refine Bel.trans ?_ (by assumption)))))) HNB.out).mono ?_
  rintro e w1 ⟨vl, rfl, hrl, gl⟩
  obtain ⟨ql, cl, rfl, hlc, hlm, -⟩ := sliceR_open hrl
  unfold maxLen at hlm
  have HRL := Lib.hid hrl
  clear hrl
  obtain ⟨b0, b1, b2, b3, b4⟩ := HBX.out w1 (by (repeat (first | assumption | exact Bel.refl _ | apply Bel.drewN | apply Bel.drew | apply Bel.alloc | refine Bel.trans ?_ (by assumption))))
  have ab0 := fun o0 => ((Bel.refl w1).alloc o0).cell b0
  have ab1 := fun o0 => ((Bel.refl w1).alloc o0).cell b1
  have ab2 := fun o0 => ((Bel.refl w1).alloc o0).cell b2
  have ab3 := fun o0 => ((Bel.refl w1).alloc o0).cell b3
  have ab4 := fun o0 => ((Bel.refl w1).alloc o0).cell b4
  go_wp2_with fail
  refine (iEarliestStarts_any _ p S _ (HP1.out _ (by (repeat (first | assumption | exact Bel.refl _ | apply Bel.drewN | apply Bel.drew | apply Bel.alloc | refine Bel.trans ?_ (by assumption))))) (fun b hb => Nat.lt_of_lt_of_le (HS.out b hb) (Bel.size (by (repeat (first | assumption | exact Bel.refl _ | apply Bel.drewN | apply Bel.drew | apply Bel.alloc | refine Bel.trans ?_ (by assumption)))))) HNB.out).mono ?_
  rintro e w2 ⟨ve, rfl, hre, ge⟩
  obtain ⟨qe, ce, rfl, hec, hem, -⟩ := sliceR_open hre
  unfold maxLen at hem
  have HRE := Lib.hid hre
  clear hre
  clear b0 b1 b2 b3 b4 ab0 ab1 ab2 ab3 ab4
  obtain ⟨G12, G2, G3⟩ : Bel w1 w2 ∧ Bel W0 w2 ∧ Bel w w2 := ⟨by (repeat (first | assumption | exact Bel.refl _ | apply Bel.drewN | apply Bel.drew | apply Bel.alloc | refine Bel.trans ?_ (by assumption))), by (repeat (first | assumption | exact Bel.refl _ | apply Bel.drewN | apply Bel.drew | apply Bel.alloc | refine Bel.trans ?_ (by assumption))), by (repeat (first | assumption | exact Bel.refl _ | apply Bel.drewN | apply Bel.drew | apply Bel.alloc | refine Bel.trans ?_ (by assumption)))⟩
  have HAE := Lib.hid (fun i hi W (hW : Bel w2 W) => show ∃ b off, qe = some ⟨b, off, none⟩ ∧ W.cell? ⟨b, off + i, none⟩ = some (.int .i64 ((earlV p).getD i 0)) from by
    obtain ⟨b, off, h1, h2⟩ := intsR_at' HRE.out (i := i) hi
    exact ⟨b, off, by simpa [sliceAddr] using h1, Bel.cell (Bel.trans (by first | exact G12 | exact Bel.refl _) hW) h2⟩)
  have HAL := Lib.hid (fun i hi W (hW : Bel w2 W) => show ∃ b off, ql = some ⟨b, off, none⟩ ∧ W.cell? ⟨b, off + i, none⟩ = some (.int .i64 ((lateV p t).getD i 0)) from by
    obtain ⟨b, off, h1, h2⟩ := intsR_at' HRL.out (i := i) hi
    exact ⟨b, off, by simpa [sliceAddr] using h1, Bel.cell (Bel.trans (by first | exact G12 | exact Bel.refl _) hW) h2⟩)
  have hel : (earlV p).length = (distV p).length := earlM_length _ _
  have hll : (lateV p t).length = (distV p).length := lateM_length _ _ _ _
  have h6 := (distV_sq p).1
  have HV := Lib.hid (show slackV p t = slackM (earlV p) (lateV p t) (earlV p).length from rfl)
  generalize earlV p = E at *
  generalize lateV p t = L at *
  generalize distV p = M at *
  have hEL : E.length = L.length := by omega
  have h6 : E.length ≤ 6 := by omega
  clear hel hll
  go_wp2_with fail
  go_loopw [6, 16] (fun o i wr => ∃ (k : Nat) (ys : List Int) (q1 : Option Addr) (c1 : Nat), k ≤ E.length ∧ i = .int .i64 k ∧ o = .slice q1 ys.length c1 ∧ ys = slackM E L k ∧ OwnE (fun _ => False) 1 intR 3 w2.heap.size wr q1 c1 ys ∧ Bel w2 wr) (fun _ i _ => E.length - (intOf i).toNat)
  case atStart => exact ⟨0, [], _, _, Nat.zero_le _, rfl, rfl, rfl, OwnE.empty _ _, by (repeat (first | assumption | exact Bel.refl _ | apply Bel.drewN | apply Bel.drew | apply Bel.alloc | refine Bel.trans ?_ (by assumption)))⟩
  case round =>
    obtain ⟨k, ys, q1, c1, hk, rfl, rfl, hys, hO, hB⟩ := hrel
    have HYS := Lib.hid hys
    have hyl : ys.length ≤ 6 := by rw [hys]; exact Nat.le_trans (slackM_le _ _ _) (by omega)
    clear hys
    by_cases hlt : k < E.length
    · obtain ⟨be, oe, rfl, ce⟩ := HAE.out k hlt wr hB
      obtain ⟨bl, ol, rfl, cl⟩ := HAL.out k (by omega) wr hB
      have hki : (k : Int) < (E.length : Int) := by omega
      have hki2 : (k : Int) < (L.length : Int) := by omega
      have hsz := hB.size
      have HSN := Lib.hid (show ys ++ [IntKind.i64.wrap (L.getD k 0 - E.getD k 0)] = slackM E L (k + 1) from by rw [HYS.out, slackM_snoc])
      have hbd := wrap_in (L.getD k 0 - E.getD k 0)
      generalize L.getD k 0 = LK at *
      generalize E.getD k 0 = EK at *
      generalize hWR : IntKind.i64.wrap (LK - EK) = WR at *
      go_wp2_with ((at_builtin; refine wpList_appE (n := 1) intR_good _ rfl _ _ 25 rfl (.int .i64 0) 8 Tryz.underlying25 (by kernel_rfl) rfl (by decide) (by decide) q1 c1 ys (WR) rfl (hO.bel intR_good (by (repeat (first | assumption | exact Bel.refl _ | apply Bel.drewN | apply Bel.drew | apply Bel.alloc | refine Bel.trans ?_ (by assumption))))) _ 1 [.int .i64 WR] rfl rfl (World.news_of_block (alloc_at (by simp))) (by intro u hu; simp at hu; subst hu; rfl) (intRep (by unfold I64; omega)) (by omega) (by first | omega | (simp; omega)) ?_; intro q' cap' w' hO' hBW hsz'))
      have HB := Lib.hid (hBW w2 (by (repeat (first | assumption | exact Bel.refl _ | apply Bel.drewN | apply Bel.drew | apply Bel.alloc | refine Bel.trans ?_ (by assumption)))) (Nat.le_refl _))
      clear hBW hsz'
      go_roundw
      case rel => exact ⟨k + 1, ys ++ [WR], q', cap', by omega, by go_num, by simp, HSN.out, hO', HB.out⟩
      case measure => simp [intOf]; omega
    · obtain rfl : k = E.length := by omega
      have hki2 : ¬ ((E.length : Int) < (L.length : Int)) := by omega
      have HRES := Lib.hid (show intsR (New w wr) wr [.slice q1 ys.length c1] (slackV p t) from by
        rw [HV.out, ← HYS.out]
        exact hO.done intR_good (fun _ hf => hf.elim) (fun b h1 h2 => ⟨by have := G3.size; omega, h2⟩))
      clear hO
      go_wp2
      go_ret
      exact ⟨_, rfl, HRES.out, G3.trans hB⟩

end Go.Proofs.YtclmffknggmlnaaGreat
