/- TailLength, both sides. -/
import Derived.Test.YtclmffknggmlnaaPath
import Derived.Test.YtclmffknggmlnaaLinkOk
import Derived.Deep.RegionHeld3
namespace Go.Proofs.Ytclmffknggmlnaa
open Go.ChangeShapes Go.WideShapes Go.ChangeAt Go.RowKit
set_option linter.unusedVariables false

def tailTo (M : List (List Int)) (p : ProjT) (a : Nat) : Nat → Int
  | 0 => 0
  | k + 1 => if (M.getD a []).getD k 0 = -1000 then tailTo M p a k else maxI (tailTo M p a k) ((M.getD a []).getD k 0 + shortV p k)
def tailV (p : ProjT) (a : Int) : Int := if 0 ≤ a ∧ a < ((distV p).length : Int) then tailTo (distV p) p a.toNat (distV p).length else 0
theorem distV_ok {p : ProjT} (h : 0 < (distV p).length) : projOk p = true ∧ (distV p).length = p.2.1.length := by
  unfold distV at h ⊢
  split at h
  · next h1 => rw [if_pos h1, rowsOf_length]; exact ⟨h1.1, rfl⟩
  · simp at h
theorem distV_diag {p : ProjT} {a : Nat} (h : a < (distV p).length) : ((distV p).getD a []).getD a 0 = 0 := by
  have hl := (distV_ok (p := p) (by omega)).2
  have hg : projOk p = true ∧ (netOf p).posF = [] := by
    unfold distV at h
    split at h
    · next h1 => exact h1
    · simp at h
  have e : distV p = rowsOf p.2.1.length p.2.1.length (distM (netOf p) p.2.1.length) := by unfold distV; rw [if_pos hg]
  have ha : a < p.2.1.length := by omega
  have hd := (dist_all _ (netOf_fine hg.1) ((netOf p).posF_none (netOf_fine hg.1) hg.2) p.2.1.length (Nat.le_refl _)).diag a ha
  rw [e, getD_get _ [] (by rw [rowsOf_length]; exact ha), rowsOf_at, getD_get _ 0 (by simp; exact ha)]
  simpa using hd
theorem tailTo_bd {p : ProjT} {M : List (List Int)} (hs : Sq M) (hp : projOk p = true) (hl : M.length = p.2.1.length) {a : Nat} (ha : a < M.length) : ∀ k, k ≤ M.length → 0 ≤ tailTo M p a k ∧ tailTo M p a k ≤ 4620 := by
  intro k
  induction k with
  | zero => intro _; simp [tailTo]
  | succ k ih =>
    intro hk
    have h1 := ih (by omega)
    have h2 := hs.2.2 a k ha (by omega)
    have h3 := shortV_bd hp (a := k) (by omega)
    simp only [tailTo, maxI_lt]
    split
    · exact h1
    · split <;> omega
theorem tailTo_ge {p : ProjT} {M : List (List Int)} {a : Nat} (hd : (M.getD a []).getD a 0 = 0) : ∀ k, a < k → shortV p a ≤ tailTo M p a k := by
  intro k
  induction k with
  | zero => intro h; omega
  | succ k ih =>
    intro h
    simp only [tailTo, maxI_lt]
    by_cases e : a = k
    · subst e
      rw [hd, if_neg (by decide)]
      split <;> omega
    · have := ih (by omega)
      split
      · exact this
      · split <;> omega
theorem maxI_eq (a b : Int) : maxI a b = max a b := by unfold maxI; split <;> omega
theorem maxI_swap (a b c : Int) : maxI (maxI a b) c = maxI (maxI a c) b := by
  simp only [maxI_eq]; omega
theorem inB_iff' {n lo hi : Int} : inB n lo hi = true ↔ lo ≤ n ∧ n ≤ hi := by unfold inB; simp
set_option maxRecDepth 100000 in
set_option maxHeartbeats 1000000 in
theorem sTailLength_any (v : Value) (p : ProjT) (S : Nat → Prop) (a : Int) (w : World) (hx : aggR projR S w v p) (hS : ∀ b, S b → b < w.heap.size) (_hn : bulkProject p ≤ 1048576) : Calls Try.prog 35 #[v, .int .i64 a] w (fun e w' => e = .returned (.int .i64 (tailV p a)) ∧ Bel w w') := by
  obtain ⟨cs, rfl, hx⟩ := hx
  obtain ⟨c1, c2, c3, c4, rfl, q0, q1, q2, q3, q4⟩ := projR_open hx
  have Q1 := Lib.hid q1
  have Q2 := Lib.hid q2
  have Q3 := Lib.hid q3
  have Q4 := Lib.hid q4
  have HP := Lib.hid hx
  obtain ⟨p1, k1, rfl, l1, l1', -⟩ := sliceR_open q1
  obtain ⟨p2, k2, rfl, l2, l2', -⟩ := sliceR_open q2
  obtain ⟨p3, k3, rfl, l3, l3', -⟩ := sliceR_open q3
  obtain ⟨p4, k4, rfl, l4, l4', -⟩ := sliceR_open q4
  unfold maxLen at l1' l2' l3' l4'
  clear hx q0 q1 q2 q3 q4
  have HS := Lib.hid hS
  have HNB := Lib.hid _hn
  clear hS _hn
  have HP1 := Lib.hid (show ∀ W, Bel w W → aggR projR S W (.agg #[.int .i64 p.1, .slice p1 p.2.1.length k1, .slice p2 p.2.2.1.length k2, .slice p3 p.2.2.2.1.length k3, .slice p4 p.2.2.2.2.length k4]) p from fun W hW => aggR_mk (projR_good.bel HP.out hW HS.out))
  show Calls Try.prog 35 #[.agg #[.int .i64 p.1, .slice p1 p.2.1.length k1, .slice p2 p.2.2.1.length k2, .slice p3 p.2.2.2.1.length k3, .slice p4 p.2.2.2.2.length k4], .int .i64 a] w _
  go_enter Try.func35, Try.ntmps35
  obtain ⟨W0, hW0, hwW, hsz0, hbx⟩ : ∃ W0, W0 = w.alloc (.cells #[.int .i64 p.1, .slice p1 p.2.1.length k1, .slice p2 p.2.2.1.length k2, .slice p3 p.2.2.2.1.length k3, .slice p4 p.2.2.2.2.length k4] 37) ∧ Bel w W0 ∧ W0.heap.size = w.heap.size + 1 ∧ W0.cell? ⟨w.heap.size, 0, none⟩ = some (.int .i64 p.1) ∧ W0.cell? ⟨w.heap.size, 1, none⟩ = some (.slice p1 p.2.1.length k1) ∧ W0.cell? ⟨w.heap.size, 2, none⟩ = some (.slice p2 p.2.2.1.length k2) ∧ W0.cell? ⟨w.heap.size, 3, none⟩ = some (.slice p3 p.2.2.2.1.length k3) ∧ W0.cell? ⟨w.heap.size, 4, none⟩ = some (.slice p4 p.2.2.2.2.length k4) := ⟨_, rfl, by (repeat (first | assumption | exact Bel.refl _ | apply Bel.drewN | apply Bel.drew | apply Bel.alloc | refine Bel.trans ?_ (by assumption))), by simp, by simp [go_sem], by simp [go_sem], by simp [go_sem], by simp [go_sem], by simp [go_sem]⟩
  have HBX := Lib.hid (show ∀ W, Bel W0 W → W.cell? ⟨w.heap.size, 0, none⟩ = some (.int .i64 p.1) ∧ W.cell? ⟨w.heap.size, 1, none⟩ = some (.slice p1 p.2.1.length k1) ∧ W.cell? ⟨w.heap.size, 2, none⟩ = some (.slice p2 p.2.2.1.length k2) ∧ W.cell? ⟨w.heap.size, 3, none⟩ = some (.slice p3 p.2.2.2.1.length k3) ∧ W.cell? ⟨w.heap.size, 4, none⟩ = some (.slice p4 p.2.2.2.2.length k4) from fun W hW => keep5 hbx hW)
  clear hbx
  have HSZ0 := Lib.hid hsz0
  clear hsz0
  go_wp2_with fail
  rw [← hW0]
  clear hW0
  refine (sDistances_mat _ p S _ (HP1.out _ (by (repeat (first | assumption | exact Bel.refl _ | apply Bel.drewN | apply Bel.drew | apply Bel.alloc | refine Bel.trans ?_ (by assumption))))) (fun b hb => Nat.lt_of_lt_of_le (HS.out b hb) (Bel.size (by (repeat (first | assumption | exact Bel.refl _ | apply Bel.drewN | apply Bel.drew | apply Bel.alloc | refine Bel.trans ?_ (by assumption)))))) HNB.out).mono ?_
  rintro e w1 ⟨vr, rfl, hr, g1⟩
  have G1 : Bel W0 w1 := by (repeat (first | assumption | exact Bel.refl _ | apply Bel.drewN | apply Bel.drew | apply Bel.alloc | refine Bel.trans ?_ (by assumption)))
  have G2 : Bel w w1 := hwW.trans G1
  have hsq := distV_sq p
  have HOK := Lib.hid (fun (h : 0 < (distV p).length) => distV_ok h)
  have HDG := Lib.hid (fun a (h : a < (distV p).length) => distV_diag h)
  have HTV := Lib.hid (show tailV p a = if 0 ≤ a ∧ a < ((distV p).length : Int) then tailTo (distV p) p a.toNat (distV p).length else 0 from rfl)
  obtain ⟨M, hM⟩ : ∃ M, distV p = M := ⟨_, rfl⟩
  rw [hM] at hr hsq HTV HOK HDG
  clear hM
  obtain ⟨q, c, rfl, hqc⟩ := matR_open hr
  have HSQ := Lib.hid hsq
  have HAT := Lib.hid (fun (h0 : 0 < M.length) => mat_at hr (fun b hb => hb.2) hsq h0)
  obtain ⟨q', c', hv', -, hcm, -⟩ := hr
  obtain ⟨rfl, rfl⟩ : q = q' ∧ c = c' := by simpa using hv'
  unfold maxLen at hcm
  have hM6 := hsq.1
  clear hsq
  have hsub : IntKind.i64.wrap ((M.length : Int) - 1) = (M.length : Int) - 1 := IntWalk.i64_in _ (by omega)
  go_wp2_with fail
  refine (l01In_any _ _ _ _).mono ?_
  rintro e wi ⟨rfl, rfl⟩
  by_cases hin : 0 ≤ a ∧ a < (M.length : Int)
  rotate_left
  · have HV := Lib.hid (show tailV p a = 0 from by rw [HTV.out, if_neg hin])
    have hb : inB a 0 ((M.length : Int) - 1) = false := by
      rw [Bool.eq_false_iff]; intro h; exact hin (by have := inB_iff'.1 h; omega)
    rw [hb]
    clear hin
    go_wp2
    go_ret
    exact ⟨by rw [HV.out]; rfl, G2⟩
  have hb : inB a 0 ((M.length : Int) - 1) = true := inB_iff'.2 (by omega)
  rw [hb]
  obtain ⟨A, rfl⟩ : ∃ A : Nat, a = A := ⟨a.toNat, by omega⟩
  have hA : A < M.length := by omega
  obtain ⟨hpo, hlen⟩ := HOK.out (by omega)
  have HPO := Lib.hid hpo
  have HLE := Lib.hid hlen
  have HV := Lib.hid (show tailV p (A : Int) = tailTo M p A M.length from by rw [HTV.out, if_pos hin]; rfl)
  obtain ⟨o, rfl, hat⟩ := HAT.out (by omega)
  obtain ⟨b, off, rc, hcell⟩ := hat A hA
  have HCELL := Lib.hid hcell
  have HBD := Lib.hid (tailTo_bd HSQ.out hpo hlen hA)
  have HVB := Lib.hid (fun k (hk : k < M.length) => HSQ.out.2.2 A k hA hk)
  have hAi : (A : Int) < (M.length : Int) := by omega
  have hA0 : (0 : Int) ≤ (A : Int) := by omega
  clear hcell hat hpo hlen hin hb
  go_wp2_with fail
  go_loopw [6, 18] (fun m i wr => ∃ k : Nat, k ≤ M.length ∧ i = .int .i64 k ∧ m = .int .i64 (tailTo M p A k) ∧ Bel w1 wr) (fun _ i _ => M.length - (intOf i).toNat)
  case atStart => exact ⟨0, Nat.zero_le _, rfl, rfl, Bel.refl _⟩
  case round =>
    obtain ⟨k, hk, rfl, rfl, hB⟩ := hrel
    have G3 : Bel W0 wr := G1.trans hB
    by_cases hlt : k < M.length
    · obtain ⟨s1, s2, s3, s4⟩ := HCELL.out wr hB
      have s5 := s4 k hlt
      have hki : (k : Int) < (M.length : Int) := by omega
      have hvb := HVB.out k hlt
      have htb := HBD.out k hk
      have hsb := shortV_bd HPO.out (a := k) (by have := HLE.out; omega)
      have HKL := Lib.hid (show k < p.2.1.length from by have := HLE.out; omega)
      have HN := Lib.hid (fun (h : (M.getD A []).getD k 0 = -1000) => show tailTo M p A (k + 1) = tailTo M p A k from if_pos h)
      have HY := Lib.hid (fun (h : ¬ (M.getD A []).getD k 0 = -1000) => show tailTo M p A (k + 1) = maxI (tailTo M p A k) ((M.getD A []).getD k 0 + shortV p k) from if_neg h)
      have HSC := Lib.hid (show ∀ W, Bel w1 W → (fun DV : Int => W.cell? ⟨w.heap.size, 0, none⟩ = some (.int .i64 p.1) ∧ W.cell? ⟨w.heap.size, 1, none⟩ = some (.slice p1 p.2.1.length k1) ∧ W.cell? ⟨w.heap.size, 2, none⟩ = some (.slice p2 p.2.2.1.length k2) ∧ W.cell? ⟨w.heap.size, 3, none⟩ = some (.slice p3 p.2.2.2.1.length k3) ∧ W.cell? ⟨w.heap.size, 4, none⟩ = some (.slice p4 p.2.2.2.2.length k4) ∧ W.cell? ⟨o, A, none⟩ = some (.slice (some ⟨b, off, none⟩) M.length rc) ∧ W.cell? ⟨b, off + k, none⟩ = some (.int .i64 DV)) ((M.getD A []).getD k 0) from fun W hW => by
        obtain ⟨b0, b1, b2, b3, b4⟩ := HBX.out W (G1.trans hW)
        obtain ⟨t1, -, -, t4⟩ := HCELL.out W hW
        exact ⟨b0, b1, b2, b3, b4, t1, t4 k hlt⟩)
      have hsum : IntKind.i64.wrap ((M.getD A []).getD k 0 + shortV p k) = (M.getD A []).getD k 0 + shortV p k := IntWalk.i64_in _ (by omega)
      clear s4
      generalize (M.getD A []).getD k 0 = DV at *
      by_cases hd : DV = -1000
      · have HNN := Lib.hid (HN.out hd)
        subst hd
        go_wp2
        go_roundw
        case rel => exact ⟨k + 1, by omega, by go_num, by rw [HNN.out], hB⟩
        case measure => simp [intOf]; omega
      have HYY := Lib.hid (HY.out hd)
      have hd1 : (DV == (-1000 : Int)) = false := by simpa using hd
      go_upto_region 9 with (fail)
      go_region_held3 (fun W => W.cell? ⟨w.heap.size, 0, none⟩ = some (.int .i64 p.1) ∧ W.cell? ⟨w.heap.size, 1, none⟩ = some (.slice p1 p.2.1.length k1) ∧ W.cell? ⟨w.heap.size, 2, none⟩ = some (.slice p2 p.2.2.1.length k2) ∧ W.cell? ⟨w.heap.size, 3, none⟩ = some (.slice p3 p.2.2.2.1.length k3) ∧ W.cell? ⟨w.heap.size, 4, none⟩ = some (.slice p4 p.2.2.2.2.length k4) ∧ W.cell? ⟨o, A, none⟩ = some (.slice (some ⟨b, off, none⟩) M.length rc) ∧ W.cell? ⟨b, off + k, none⟩ = some (.int .i64 DV)) (exact HSC.out _ (by (repeat (first | assumption | exact Bel.refl _ | apply Bel.drewN | apply Bel.drew | apply Bel.alloc | refine Bel.trans ?_ (by assumption)))))
        (first | (go_at_call 80; (with_reducible refine (sShort_any _ p S _ (HP1.out _ (by (repeat (first | assumption | exact Bel.refl _ | apply Bel.drewN | apply Bel.drew | apply Bel.alloc | refine Bel.trans ?_ (by assumption))))) (fun b hb => Nat.lt_of_lt_of_le (HS.out b hb) (Bel.size (by (repeat (first | assumption | exact Bel.refl _ | apply Bel.drewN | apply Bel.drew | apply Bel.alloc | refine Bel.trans ?_ (by assumption)))))) k HPO.out HKL.out).mono ?_); rintro e wt ⟨rfl, gt⟩; have hbt := Bel.trans (a := w1) (by (repeat (first | assumption | exact Bel.refl _ | apply Bel.drewN | apply Bel.drew | apply Bel.alloc | refine Bel.trans ?_ (by assumption)))) gt; have hbw := Bel.trans (a := w) (by (repeat (first | assumption | exact Bel.refl _ | apply Bel.drewN | apply Bel.drew | apply Bel.alloc | refine Bel.trans ?_ (by assumption)))) gt) | (go_at_call 79; (with_reducible refine (l02Max_any _ _ _).mono ?_); rintro e wm ⟨rfl, rfl⟩) | fail)
      all_goals (go_wp2_with fail; go_roundw; (case rel => exact ⟨k + 1, by omega, by go_num, by rw [HYY.out], by (repeat (first | assumption | exact Bel.refl _ | apply Bel.drewN | apply Bel.drew | apply Bel.alloc | refine Bel.trans ?_ (by assumption)))⟩); (case measure => simp [intOf]; omega))
    · obtain rfl : k = M.length := by omega
      go_wp2
      go_ret
      exact ⟨by rw [HV.out]; rfl, hwW.trans G3⟩

set_option maxRecDepth 100000 in
set_option maxHeartbeats 1000000 in
theorem iTailLength_any (v : Value) (p : ProjT) (S : Nat → Prop) (a : Int) (w : World) (hx : aggR projR S w v p) (hS : ∀ b, S b → b < w.heap.size) (_hn : bulkProject p ≤ 1048576) : Calls Try.prog 36 #[v, .int .i64 a] w (fun e w' => e = .returned (.int .i64 (tailV p a)) ∧ Bel w w') := by
  obtain ⟨cs, rfl, hx⟩ := hx
  obtain ⟨c1, c2, c3, c4, rfl, q0, q1, q2, q3, q4⟩ := projR_open hx
  have Q1 := Lib.hid q1
  have Q2 := Lib.hid q2
  have Q3 := Lib.hid q3
  have Q4 := Lib.hid q4
  have HP := Lib.hid hx
  obtain ⟨p1, k1, rfl, l1, l1', -⟩ := sliceR_open q1
  obtain ⟨p2, k2, rfl, l2, l2', -⟩ := sliceR_open q2
  obtain ⟨p3, k3, rfl, l3, l3', -⟩ := sliceR_open q3
  obtain ⟨p4, k4, rfl, l4, l4', -⟩ := sliceR_open q4
  unfold maxLen at l1' l2' l3' l4'
  clear hx q0 q1 q2 q3 q4
  have HS := Lib.hid hS
  have HNB := Lib.hid _hn
  clear hS _hn
  have HP1 := Lib.hid (show ∀ W, Bel w W → aggR projR S W (.agg #[.int .i64 p.1, .slice p1 p.2.1.length k1, .slice p2 p.2.2.1.length k2, .slice p3 p.2.2.2.1.length k3, .slice p4 p.2.2.2.2.length k4]) p from fun W hW => aggR_mk (projR_good.bel HP.out hW HS.out))
  show Calls Try.prog 36 #[.agg #[.int .i64 p.1, .slice p1 p.2.1.length k1, .slice p2 p.2.2.1.length k2, .slice p3 p.2.2.2.1.length k3, .slice p4 p.2.2.2.2.length k4], .int .i64 a] w _
  go_enter Try.func36, Try.ntmps36
  obtain ⟨W0, hW0, hwW, hsz0, hbx⟩ : ∃ W0, W0 = w.alloc (.cells #[.int .i64 p.1, .slice p1 p.2.1.length k1, .slice p2 p.2.2.1.length k2, .slice p3 p.2.2.2.1.length k3, .slice p4 p.2.2.2.2.length k4] 37) ∧ Bel w W0 ∧ W0.heap.size = w.heap.size + 1 ∧ W0.cell? ⟨w.heap.size, 0, none⟩ = some (.int .i64 p.1) ∧ W0.cell? ⟨w.heap.size, 1, none⟩ = some (.slice p1 p.2.1.length k1) ∧ W0.cell? ⟨w.heap.size, 2, none⟩ = some (.slice p2 p.2.2.1.length k2) ∧ W0.cell? ⟨w.heap.size, 3, none⟩ = some (.slice p3 p.2.2.2.1.length k3) ∧ W0.cell? ⟨w.heap.size, 4, none⟩ = some (.slice p4 p.2.2.2.2.length k4) := ⟨_, rfl, by (repeat (first | assumption | exact Bel.refl _ | apply Bel.drewN | apply Bel.drew | apply Bel.alloc | refine Bel.trans ?_ (by assumption))), by simp, by simp [go_sem], by simp [go_sem], by simp [go_sem], by simp [go_sem], by simp [go_sem]⟩
  have HBX := Lib.hid (show ∀ W, Bel W0 W → W.cell? ⟨w.heap.size, 0, none⟩ = some (.int .i64 p.1) ∧ W.cell? ⟨w.heap.size, 1, none⟩ = some (.slice p1 p.2.1.length k1) ∧ W.cell? ⟨w.heap.size, 2, none⟩ = some (.slice p2 p.2.2.1.length k2) ∧ W.cell? ⟨w.heap.size, 3, none⟩ = some (.slice p3 p.2.2.2.1.length k3) ∧ W.cell? ⟨w.heap.size, 4, none⟩ = some (.slice p4 p.2.2.2.2.length k4) from fun W hW => keep5 hbx hW)
  clear hbx
  have HSZ0 := Lib.hid hsz0
  clear hsz0
  go_wp2_with fail
  rw [← hW0]
  clear hW0
  refine (iDistances_mat _ p S _ (HP1.out _ (by (repeat (first | assumption | exact Bel.refl _ | apply Bel.drewN | apply Bel.drew | apply Bel.alloc | refine Bel.trans ?_ (by assumption))))) (fun b hb => Nat.lt_of_lt_of_le (HS.out b hb) (Bel.size (by (repeat (first | assumption | exact Bel.refl _ | apply Bel.drewN | apply Bel.drew | apply Bel.alloc | refine Bel.trans ?_ (by assumption)))))) HNB.out).mono ?_
  rintro e w1 ⟨vr, rfl, hr, g1⟩
  have G1 : Bel W0 w1 := by (repeat (first | assumption | exact Bel.refl _ | apply Bel.drewN | apply Bel.drew | apply Bel.alloc | refine Bel.trans ?_ (by assumption)))
  have G2 : Bel w w1 := hwW.trans G1
  have hsq := distV_sq p
  have HOK := Lib.hid (fun (h : 0 < (distV p).length) => distV_ok h)
  have HDG := Lib.hid (fun a (h : a < (distV p).length) => distV_diag h)
  have HTV := Lib.hid (show tailV p a = if 0 ≤ a ∧ a < ((distV p).length : Int) then tailTo (distV p) p a.toNat (distV p).length else 0 from rfl)
  obtain ⟨M, hM⟩ : ∃ M, distV p = M := ⟨_, rfl⟩
  rw [hM] at hr hsq HTV HOK HDG
  clear hM
  obtain ⟨q, c, rfl, hqc⟩ := matR_open hr
  have HSQ := Lib.hid hsq
  have HAT := Lib.hid (fun (h0 : 0 < M.length) => mat_at hr (fun b hb => hb.2) hsq h0)
  obtain ⟨q', c', hv', -, hcm, -⟩ := hr
  obtain ⟨rfl, rfl⟩ : q = q' ∧ c = c' := by simpa using hv'
  unfold maxLen at hcm
  have hM6 := hsq.1
  clear hsq
  have hsub : IntKind.i64.wrap ((M.length : Int) - 1) = (M.length : Int) - 1 := IntWalk.i64_in _ (by omega)
  by_cases h00 : M.length = 0
  · have HV := Lib.hid (show tailV p a = 0 from by rw [HTV.out, if_neg (by omega)])
    have h0i : ((M.length : Int) == 0) = true := by simpa using h00
    rw [h00]
    clear h00 h0i
    go_wp2
    go_ret
    exact ⟨by rw [HV.out]; rfl, G2⟩
  obtain ⟨hpo, hlen⟩ := HOK.out (by omega)
  have HPO := Lib.hid hpo
  have HLE := Lib.hid hlen
  have h0i : ((M.length : Int) == 0) = false := by simpa using (by omega : ¬ (M.length : Int) = 0)
  have hn63 : p.2.1.length ≤ 9223372036854775807 := by omega
  obtain ⟨b0, b1, b2, b3, b4⟩ := HBX.out w1 G1
  have HBD0 := Lib.hid (fun (A : Nat) (hA : A < M.length) => tailTo_bd HSQ.out HPO.out HLE.out hA)
  clear hpo hlen
  go_wp2_with fail
  refine (hasActivity_any _ _ _ _ _ _ _ hn63 _ _).mono ?_
  rintro e wi ⟨rfl, gi⟩
  have hBi : Bel w1 wi := by (repeat (first | assumption | exact Bel.refl _ | apply Bel.drewN | apply Bel.drew | apply Bel.alloc | refine Bel.trans ?_ (by assumption)))
  have G4 : Bel W0 wi := G1.trans hBi
  by_cases hin : 0 ≤ a ∧ a < (M.length : Int)
  rotate_left
  · have HV := Lib.hid (show tailV p a = 0 from by rw [HTV.out, if_neg hin])
    have hb : inB a 0 ((p.2.1.length : Int) - 1) = false := by
      rw [Bool.eq_false_iff]; intro h; exact hin (by have := inB_iff'.1 h; have := HLE.out; omega)
    rw [hb]
    clear hin
    go_wp2
    go_ret
    exact ⟨by rw [HV.out]; rfl, hwW.trans G4⟩
  have hb : inB a 0 ((p.2.1.length : Int) - 1) = true := inB_iff'.2 (by have := HLE.out; omega)
  rw [hb]
  obtain ⟨A, rfl⟩ : ∃ A : Nat, a = A := ⟨a.toNat, by omega⟩
  have hA : A < M.length := by omega
  have HV := Lib.hid (show tailV p (A : Int) = tailTo M p A M.length from by rw [HTV.out, if_pos hin]; rfl)
  have HGE := Lib.hid (show shortV p A ≤ tailTo M p A M.length from tailTo_ge (HDG.out A hA) _ hA)
  obtain ⟨o, rfl, hat⟩ := HAT.out (by omega)
  obtain ⟨b, off, rc, hcell⟩ := hat A hA
  have HCELL := Lib.hid hcell
  have HBD := Lib.hid (HBD0.out A hA)
  have HVB := Lib.hid (fun k (hk : k < M.length) => HSQ.out.2.2 A k hA hk)
  have HAL := Lib.hid (show A < p.2.1.length from by have := HLE.out; omega)
  have hsA := shortV_bd HPO.out HAL.out
  have hAi : (A : Int) < (M.length : Int) := by omega
  have hA0 : (0 : Int) ≤ (A : Int) := by omega
  clear hcell hat hin hb b0 b1 b2 b3 b4
  obtain ⟨b0, b1, b2, b3, b4⟩ := HBX.out wi G4
  go_wp2_with fail
  refine (iShort_any _ p S _ (HP1.out _ (by (repeat (first | assumption | exact Bel.refl _ | apply Bel.drewN | apply Bel.drew | apply Bel.alloc | refine Bel.trans ?_ (by assumption))))) (fun b hb => Nat.lt_of_lt_of_le (HS.out b hb) (Bel.size (by (repeat (first | assumption | exact Bel.refl _ | apply Bel.drewN | apply Bel.drew | apply Bel.alloc | refine Bel.trans ?_ (by assumption)))))) A HPO.out HAL.out).mono ?_
  rintro e w3 ⟨rfl, g3⟩
  have hB3 : Bel w1 w3 := by (repeat (first | assumption | exact Bel.refl _ | apply Bel.drewN | apply Bel.drew | apply Bel.alloc | refine Bel.trans ?_ (by assumption)))
  clear b0 b1 b2 b3 b4
  obtain ⟨s1, s2, s3, -⟩ := HCELL.out w3 hB3
  have HSA := Lib.hid (show maxI (tailTo M p A 0) (shortV p A) = shortV p A from by simp only [tailTo, maxI_eq]; omega)
  have HSB := Lib.hid (show maxI (tailTo M p A M.length) (shortV p A) = tailTo M p A M.length from by have := HGE.out; simp only [maxI_eq]; omega)
  generalize hSAV : shortV p A = SA at *
  clear hSAV
  go_wp2_with fail
  clear s1
  go_loopw [6, 28] (fun m i wr => ∃ k : Nat, k ≤ M.length ∧ i = .int .i64 k ∧ m = .int .i64 (maxI (tailTo M p A k) SA) ∧ Bel w1 wr) (fun _ i _ => M.length - (intOf i).toNat)
  case atStart => exact ⟨0, Nat.zero_le _, rfl, by rw [HSA.out], hB3⟩
  case round =>
    obtain ⟨k, hk, rfl, rfl, hB⟩ := hrel
    have G3 : Bel W0 wr := G1.trans hB
    have G5 : Bel w wr := hwW.trans G3
    by_cases hlt : k < M.length
    · obtain ⟨-, -, -, s4⟩ := HCELL.out wr hB
      have s5 := s4 k hlt
      have hki : (k : Int) < (M.length : Int) := by omega
      have hvb := HVB.out k hlt
      have hsb := shortV_bd HPO.out (a := k) (by have := HLE.out; omega)
      have HKL := Lib.hid (show k < p.2.1.length from by have := HLE.out; omega)
      have HN := Lib.hid (fun (h : (M.getD A []).getD k 0 = -1000) => show tailTo M p A (k + 1) = tailTo M p A k from if_pos h)
      have HY := Lib.hid (fun (h : ¬ (M.getD A []).getD k 0 = -1000) => show tailTo M p A (k + 1) = maxI (tailTo M p A k) ((M.getD A []).getD k 0 + shortV p k) from if_neg h)
      have hsum : IntKind.i64.wrap ((M.getD A []).getD k 0 + shortV p k) = (M.getD A []).getD k 0 + shortV p k := IntWalk.i64_in _ (by omega)
      clear s4
      obtain ⟨b0, b1, b2, b3, b4⟩ := HBX.out wr G3
      generalize (M.getD A []).getD k 0 = DV at *
      by_cases hd : DV = -1000
      · have HNN := Lib.hid (HN.out hd)
        subst hd
        go_wp2
        go_roundw
        case rel => exact ⟨k + 1, by omega, by go_num, by rw [HNN.out], hB⟩
        case measure => simp [intOf]; omega
      have HYY := Lib.hid (show maxI (maxI (tailTo M p A k) SA) (DV + shortV p k) = maxI (tailTo M p A (k + 1)) SA from by rw [HY.out hd, maxI_swap])
      have hd1 : (DV == (-1000 : Int)) = false := by simpa using hd
      go_wp2_with fail
      refine (iShort_any _ p S _ (HP1.out _ (by (repeat (first | assumption | exact Bel.refl _ | apply Bel.drewN | apply Bel.drew | apply Bel.alloc | refine Bel.trans ?_ (by assumption))))) (fun b hb => Nat.lt_of_lt_of_le (HS.out b hb) (Bel.size (by (repeat (first | assumption | exact Bel.refl _ | apply Bel.drewN | apply Bel.drew | apply Bel.alloc | refine Bel.trans ?_ (by assumption)))))) k HPO.out HKL.out).mono ?_
      rintro e wt ⟨rfl, gt⟩
      have hBt := hB.trans gt
      generalize shortV p k = SK at *
      generalize hMK : maxI (tailTo M p A k) SA = MK at *
      clear b0 b1 b2 b3 b4 s5
      go_wp2
      refine ⟨⟨k + 1, by omega, by go_num, by rw [← HYY.out, maxI_lt], by (repeat (first | assumption | exact Bel.refl _ | apply Bel.drewN | apply Bel.drew | apply Bel.alloc | refine Bel.trans ?_ (by assumption)))⟩, by simp [intOf]; omega⟩
    · obtain rfl : k = M.length := by omega
      go_wp2
      go_ret
      exact ⟨by rw [HV.out]; exact ret_int HSB.out, G5⟩

end Go.Proofs.Ytclmffknggmlnaa
