/- Contracts of PositiveCycle. -/
import Derived.Test.YtiaamddhocdhaaaRing
import Derived.Test.YtiaamddhocdhaaaCycle
namespace Go.Proofs.Ytiaamddhocdhaaa
open Go.ChangeShapes Go.WideShapes Go.ChangeAt Go.RowKit
set_option linter.unusedVariables false

theorem cycle_all : ∀ f, CycC f
  | 0 => cycle_step 0 (fun g h => by cases h)
  | f + 1 => cycle_step (f + 1) (fun g h => by have : g = f := by omega
                                               subst this; exact cycle_all g)
theorem posF_none' {N : Net} {m : Nat} (h : ∀ t, t + 2 < m → firstV (fun k => N.ringF (t + 1) [k]) N.nl = []) (hm : N.n < m) : N.posF = [] := firstV_miss fun t ht => h t (by omega)
theorem posF_hit' {N : Net} {t k : Nat} (h : ∀ t', t' < t → firstV (fun k => N.ringF (t' + 1) [k]) N.nl = []) (ht : t + 2 ≤ N.n) (hk : k < N.nl) (hj : ∀ j, j < k → N.ringF (t + 1) [j] = []) (hr : N.ringF (t + 1) [k] ≠ []) : N.posF = N.ringF (t + 1) [k] := by
  have h1 : firstV (fun k => N.ringF (t + 1) [k]) N.nl = N.ringF (t + 1) [k] := firstV_hit hk hr hj
  have h2 : N.posF = firstV (fun k => N.ringF (t + 1) [k]) N.nl := firstV_hit (c := fun t => firstV (fun k => N.ringF (t + 1) [k]) N.nl) (show t < N.n - 1 by omega) (by rw [h1]; exact hr) h
  rw [h2, h1]
theorem intsR_nil (T : Nat → Prop) (w : World) : intsR T w [.slice none 0 0] [] := ⟨none, 0, rfl, Nat.le_refl _, Nat.zero_le _, fun i hi => absurd hi (Nat.not_lt_zero _)⟩


set_option maxRecDepth 100000 in
set_option maxHeartbeats 2000000 in
theorem iPositiveCycle_any (v : Value) (p : ProjT) (S : Nat → Prop) (w : World) (hx : aggR projR S w v p) (hS : ∀ b, S b → b < w.heap.size) (_hn : bulkProject p ≤ 1048576) :
    Calls Try.prog 33 #[v] w (FreshV intsR w (posV p)) := by
  have hnilc := fun (W : World) (a : Option Addr) (n c : Nat) => run_neq_slice_nil_any (P := Try.prog) W 25 3 a n c 0 0 Try.underlying25
  obtain ⟨cs, rfl, hx⟩ := hx
  obtain ⟨c1, c2, c3, c4, rfl, q0, q1, q2, q3, q4⟩ := projR_open hx
  have Q1 := Lib.hid q1
  have Q2 := Lib.hid q2
  have Q3 := Lib.hid q3
  have Q4 := Lib.hid q4
  have HP := Lib.hid hx
  obtain ⟨p1, k1, rfl, l1, l1', -⟩ := sliceR_open q1
  obtain ⟨p2, k2, rfl, l2, l2', -⟩ := sliceR_open q2
  obtain ⟨p3, k3, rfl, l3, l3', -⟩ := sliceR_open q3
  obtain ⟨p4, k4, rfl, l4, l4', -⟩ := sliceR_open q4
  unfold maxLen at l1' l2' l3' l4'
  clear hx q0 q1 q2 q3 q4
  have HS := Lib.hid hS
  have HN := Lib.hid _hn
  clear hS _hn
  have HP1 := Lib.hid (show ∀ W, Bel w W → aggR projR S W (.agg #[.int .i64 p.1, .slice p1 p.2.1.length k1, .slice p2 p.2.2.1.length k2, .slice p3 p.2.2.2.1.length k3, .slice p4 p.2.2.2.2.length k4]) p from fun W hW => aggR_mk (projR_good.bel HP.out hW HS.out))
  show Calls Try.prog 33 #[.agg #[.int .i64 p.1, .slice p1 p.2.1.length k1, .slice p2 p.2.2.1.length k2, .slice p3 p.2.2.2.1.length k3, .slice p4 p.2.2.2.2.length k4]] w _
  go_enter Try.func33, Try.ntmps33
  obtain ⟨W0, hW0, hwW, hsz0, hbx⟩ : ∃ W0, W0 = w.alloc (.cells #[.int .i64 p.1, .slice p1 p.2.1.length k1, .slice p2 p.2.2.1.length k2, .slice p3 p.2.2.2.1.length k3, .slice p4 p.2.2.2.2.length k4] 34) ∧ Bel w W0 ∧ W0.heap.size = w.heap.size + 1 ∧ W0.cell? ⟨w.heap.size, 0, none⟩ = some (.int .i64 p.1) ∧ W0.cell? ⟨w.heap.size, 1, none⟩ = some (.slice p1 p.2.1.length k1) ∧ W0.cell? ⟨w.heap.size, 2, none⟩ = some (.slice p2 p.2.2.1.length k2) ∧ W0.cell? ⟨w.heap.size, 3, none⟩ = some (.slice p3 p.2.2.2.1.length k3) ∧ W0.cell? ⟨w.heap.size, 4, none⟩ = some (.slice p4 p.2.2.2.2.length k4) := ⟨_, rfl, by (repeat (first | assumption | exact Bel.refl _ | apply Bel.drewN | apply Bel.drew | apply Bel.alloc | refine Bel.trans ?_ (by assumption))), by simp, by simp [go_sem], by simp [go_sem], by simp [go_sem], by simp [go_sem], by simp [go_sem]⟩
  have HBX := Lib.hid (show ∀ W, Bel W0 W → W.cell? ⟨w.heap.size, 0, none⟩ = some (.int .i64 p.1) ∧ W.cell? ⟨w.heap.size, 1, none⟩ = some (.slice p1 p.2.1.length k1) ∧ W.cell? ⟨w.heap.size, 2, none⟩ = some (.slice p2 p.2.2.1.length k2) ∧ W.cell? ⟨w.heap.size, 3, none⟩ = some (.slice p3 p.2.2.2.1.length k3) ∧ W.cell? ⟨w.heap.size, 4, none⟩ = some (.slice p4 p.2.2.2.2.length k4) from fun W hW => keep5 hbx hW)
  clear hbx
  have hB0 : W0.heap.size ≤ w.heap.size + 1 := by omega
  go_wp2_with fail
  rw [← hW0]
  clear hW0
  refine (iProjectOk_any _ p S _ (HP1.out _ (by (repeat (first | assumption | exact Bel.refl _ | apply Bel.drewN | apply Bel.drew | apply Bel.alloc | refine Bel.trans ?_ (by assumption))))) (fun b hb => Nat.lt_of_lt_of_le (HS.out b hb) (Bel.size (by (repeat (first | assumption | exact Bel.refl _ | apply Bel.drewN | apply Bel.drew | apply Bel.alloc | refine Bel.trans ?_ (by assumption))))))).mono ?_
  rintro e w1 ⟨rfl, g1⟩
  have G1 : Bel W0 w1 := by (repeat (first | assumption | exact Bel.refl _ | apply Bel.drewN | apply Bel.drew | apply Bel.alloc | refine Bel.trans ?_ (by assumption)))
  cases hp : projOk p
  · have HV := Lib.hid (posV_no hp)
    clear hp
    go_wp2
    go_ret
    exact ⟨_, rfl, by rw [HV.out]; exact intsR_nil _ _, by (repeat (first | assumption | exact Bel.refl _ | apply Bel.drewN | apply Bel.drew | apply Bel.alloc | refine Bel.trans ?_ (by assumption)))⟩
  have HPO := Lib.hid hp
  have HPV := Lib.hid (posV_ok hp)
  have hpl := (projOk_bd hp).2.1
  have hp1 := (projOk_bd hp).1
  clear hp
  obtain ⟨b0, b1, b2, b3, b4⟩ := HBX.out w1 G1
  go_wp2_with fail
  clear b0 b1 b2 b3 b4
  go_loopw [3] (fun i wr => ∃ (m : Nat), 2 ≤ m ∧ m ≤ p.2.1.length + 1 ∧ i = .int .i64 m ∧ (∀ t, t + 2 < m → firstV (fun k => (netOf p).ringF (t + 1) [k]) (netOf p).nl = []) ∧ Bel w1 wr) (fun i _ => p.2.1.length + 1 - (intOf i).toNat)
  case atStart => exact ⟨2, Nat.le_refl _, by omega, rfl, fun t ht => by omega, Bel.refl _⟩
  case round =>
    obtain ⟨m, hm2, hmn, rfl, hall, hB⟩ := hrel
    have HALL := Lib.hid hall; clear hall
    have hBr : Bel W0 wr := G1.trans hB
    obtain ⟨b0, b1, b2, b3, b4⟩ := HBX.out wr hBr
    by_cases hlt : m ≤ p.2.1.length
    · obtain ⟨t, ht⟩ : ∃ t, m = t + 2 := ⟨m - 2, by omega⟩
      have HT := Lib.hid ht
      clear ht
      obtain ⟨W1, hW1⟩ : ∃ W, W = wr := ⟨wr, rfl⟩
      subst hW1
      go_wp2_with fail
      clear b0 b1 b2 b3 b4
      go_loopw [20] (fun i wr => ∃ (k : Nat), k ≤ p.2.2.1.length ∧ i = .int .i64 k ∧ (∀ j, j < k → (netOf p).ringF (t + 1) [j] = []) ∧ Bel W1 wr) (fun i _ => p.2.2.1.length - (intOf i).toNat)
      case atStart => exact ⟨0, Nat.zero_le _, rfl, fun j hj => by omega, Bel.refl _⟩
      case round =>
        obtain ⟨k, hk, rfl, haj, hB1⟩ := hrel
        have HAJ := Lib.hid haj; clear haj
        have hBx : Bel W0 wr := hBr.trans hB1
        have hBy : Bel w1 wr := hB.trans hB1
        have hBz : Bel w wr := hwW.trans hBx
        obtain ⟨b0, b1, b2, b3, b4⟩ := HBX.out wr hBx
        by_cases hlk : k < p.2.2.1.length
        · obtain ⟨nk1, nk2, nk3, nk4, -, ng0, ng1⟩ := netOf_at HPO.out hlk
          obtain ⟨lb, lo, ea, lk0, lk1, lk2, lk3⟩ := link_at Q2.out hlk
          obtain rfl : p2 = some ⟨lb, lo, none⟩ := ea
          rw [nk1] at lk0
          have lk0 := hBz.cell lk0
          have lk1 := hBz.cell lk1
          have lk2 := hBz.cell lk2
          have lk3 := hBz.cell lk3
          have HXK := Lib.hid (projOk_link HPO.out hlk)
          have HGK := Lib.hid (show fullGapV p (p.2.2.1.getD k zLink) = (netOf p).gp k from rfl)
          have HFK := Lib.hid (show (p.2.2.1.getD k zLink).1 = ((netOf p).fr k : Nat) from nk1)
          have hk12 : p.2.2.1.length ≤ 12 := (projOk_bd HPO.out).2.2.2.2.1
          have HREC := Lib.hid (show ∀ W, Bel W0 W → ∀ v1 V2 v2 U2, intsR V2 W [v1] [(k : Int)] → (∀ b, V2 b → b < W.heap.size) → intsR U2 W [v2] [((netOf p).fr k : Int)] → (∀ b, U2 b → b < W.heap.size) → Calls Try.prog 96 #[.agg #[.int .i64 p.1, .slice p1 p.2.1.length k1, .slice (some ⟨lb, lo, none⟩) p.2.2.1.length k2, .slice p3 p.2.2.2.1.length k3, .slice p4 p.2.2.2.2.length k4], v1, v2, .int .i64 ((netOf p).gp k), .int .i64 (m : Int)] W (CycRes W ((netOf p).ringF (t + 1) [k])) from fun W hW v1 V2 v2 U2 h hV2 h2 hU2 => by
            have h5 := cycle_all (t + 1) _ p S v1 [k] V2 v2 U2 W (HP1.out W (hwW.trans hW)) (fun b hb => Nat.lt_of_lt_of_le (HS.out b hb) (Bel.size (hwW.trans hW))) HPO.out h hV2 h2 hU2 (by simp) (fun x hx => by rw [List.mem_singleton.1 hx]; exact hlk) (by have := HT.out; simp; omega)
            rw [show ((([k] : List Nat).length + (t + 1) : Nat) : Int) = m from by rw [HT.out]; simp; omega, show (netOf p).wt [k] = (netOf p).gp k from by simp [Net.wt]] at h5
            exact h5)
          have HHIT := Lib.hid (show (netOf p).ringF (t + 1) [k] ≠ [] → posV p = nI ((netOf p).ringF (t + 1) [k]) from fun h => by rw [HPV.out, posF_hit' (fun t' ht' => HALL.out t' (by have := HT.out; omega)) (show t + 2 ≤ p.2.1.length by have := HT.out; omega) hlk HAJ.out h])
          have HNJ := Lib.hid (show (netOf p).ringF (t + 1) [k] = [] → ∀ j, j < k + 1 → (netOf p).ringF (t + 1) [j] = [] from fun h j hj => by
            by_cases e : j = k
            · rw [e]; exact h
            · exact HAJ.out j (by omega))
          generalize (netOf p).gp k = GK at *
          have hfk6 : (netOf p).fr k ≤ 6 := by omega
          generalize (netOf p).fr k = FK at *
          generalize p.2.2.1.getD k zLink = X at *
          obtain ⟨x0, x1⟩ := X
          obtain rfl : x0 = (FK : Int) := HFK.out
          clear HFK nk1 nk2 nk3 nk4
          have hszB := hBx.size
          obtain ⟨W2, hW2, hB22, hsz2, hl0, hl1, hl2, hl3⟩ : ∃ W2, W2 = wr.alloc (.cells #[.int .i64 (FK : Int), .int .i64 x1.1, .bool x1.2.1, .int .i64 x1.2.2] 70) ∧ Bel wr W2 ∧ W2.heap.size = wr.heap.size + 1 ∧ W2.cell? ⟨wr.heap.size, 0, none⟩ = some (.int .i64 (FK : Int)) ∧ W2.cell? ⟨wr.heap.size, 1, none⟩ = some (.int .i64 x1.1) ∧ W2.cell? ⟨wr.heap.size, 2, none⟩ = some (.bool x1.2.1) ∧ W2.cell? ⟨wr.heap.size, 3, none⟩ = some (.int .i64 x1.2.2) := ⟨_, rfl, (Bel.refl _).alloc _, by simp, by simp [go_sem], by simp [go_sem], by simp [go_sem], by simp [go_sem]⟩
          have hB20 : Bel W0 W2 := hBx.trans hB22
          have HKP := Lib.hid (show ∀ W, Bel W2 W → W.cell? ⟨w.heap.size, 0, none⟩ = some (.int .i64 p.1) ∧ W.cell? ⟨w.heap.size, 1, none⟩ = some (.slice p1 p.2.1.length k1) ∧ W.cell? ⟨w.heap.size, 2, none⟩ = some (.slice (some ⟨lb, lo, none⟩) p.2.2.1.length k2) ∧ W.cell? ⟨w.heap.size, 3, none⟩ = some (.slice p3 p.2.2.2.1.length k3) ∧ W.cell? ⟨w.heap.size, 4, none⟩ = some (.slice p4 p.2.2.2.2.length k4) ∧ W.cell? ⟨wr.heap.size, 0, none⟩ = some (.int .i64 (FK : Int)) ∧ W.cell? ⟨wr.heap.size, 1, none⟩ = some (.int .i64 x1.1) ∧ W.cell? ⟨wr.heap.size, 2, none⟩ = some (.bool x1.2.1) ∧ W.cell? ⟨wr.heap.size, 3, none⟩ = some (.int .i64 x1.2.2) from fun W hW => by
            obtain ⟨b0, b1, b2, b3, b4⟩ := HBX.out W (hB20.trans hW)
            exact ⟨b0, b1, b2, b3, b4, hW.cell hl0, hW.cell hl1, hW.cell hl2, hW.cell hl3⟩)
          clear hl0 hl1 hl2 hl3
          go_upto_region 9 with (fail)
          rw [← hW2]
          clear hW2
          go_cut [6] (fun s wx => CutN wr ((netOf p).ringF (t + 1) [k]) s wx)
          case first =>
            go_region_held3 (fun W => W.cell? ⟨w.heap.size, 0, none⟩ = some (.int .i64 p.1) ∧ W.cell? ⟨w.heap.size, 1, none⟩ = some (.slice p1 p.2.1.length k1) ∧ W.cell? ⟨w.heap.size, 2, none⟩ = some (.slice (some ⟨lb, lo, none⟩) p.2.2.1.length k2) ∧ W.cell? ⟨w.heap.size, 3, none⟩ = some (.slice p3 p.2.2.2.1.length k3) ∧ W.cell? ⟨w.heap.size, 4, none⟩ = some (.slice p4 p.2.2.2.2.length k4) ∧ W.cell? ⟨wr.heap.size, 0, none⟩ = some (.int .i64 (FK : Int)) ∧ W.cell? ⟨wr.heap.size, 1, none⟩ = some (.int .i64 x1.1) ∧ W.cell? ⟨wr.heap.size, 2, none⟩ = some (.bool x1.2.1) ∧ W.cell? ⟨wr.heap.size, 3, none⟩ = some (.int .i64 x1.2.2)) (first | exact HKP.out _ (by (repeat (first | assumption | exact Bel.refl _ | apply Bel.drewN | apply Bel.drew | apply Bel.alloc | refine Bel.trans ?_ (by assumption)))) | go_keep)
              (first | (go_at_call 97; (with_reducible refine (fullGap_any _ p S ((FK : Int), x1) _ (HP1.out _ (by (repeat (first | assumption | exact Bel.refl _ | apply Bel.drewN | apply Bel.drew | apply Bel.alloc | refine Bel.trans ?_ (by assumption))))) (fun b hb => Nat.lt_of_lt_of_le (HS.out b hb) (Bel.size (by (repeat (first | assumption | exact Bel.refl _ | apply Bel.drewN | apply Bel.drew | apply Bel.alloc | refine Bel.trans ?_ (by assumption)))))) HPO.out HXK.out).mono ?_); rintro e wg ⟨rfl, gG⟩; rw [HGK.out]; have hbG := Bel.trans (a := W0) (by (repeat (first | assumption | exact Bel.refl _ | apply Bel.drewN | apply Bel.drew | apply Bel.alloc | refine Bel.trans ?_ (by assumption)))) gG; have hcG := Bel.trans (a := W2) (by (repeat (first | assumption | exact Bel.refl _ | apply Bel.drewN | apply Bel.drew | apply Bel.alloc | refine Bel.trans ?_ (by assumption)))) gG; have hdG := hB22.trans hcG; have zG := gG.size; (try simp at zG)) | (go_at_call 96; refine (HREC.out _ (by (repeat (first | assumption | exact Bel.refl _ | apply Bel.drewN | apply Bel.drew | apply Bel.alloc | refine Bel.trans ?_ (by assumption)))) _ (fun b => b = _) _ (fun b => b = _) (intsR_cell (by (repeat (first | (with_reducible refine alloc_at ?_; first | rfl | omega | (simp; done) | (simp; omega)) | (with_reducible refine drew_keep ?_) | (with_reducible refine alloc_keep ?_) | (rw [gG.block (by first | omega | (simp; done) | (simp; omega))])))) (by unfold I64; omega)) (fun b hb => by subst hb; first | omega | (simp; done) | (simp; omega)) (intsR_cell (by (repeat (first | (with_reducible refine alloc_at ?_; first | rfl | omega | (simp; done) | (simp; omega)) | (with_reducible refine drew_keep ?_) | (with_reducible refine alloc_keep ?_) | (rw [gG.block (by first | omega | (simp; done) | (simp; omega))])))) (by unfold I64; omega)) (fun b hb => by subst hb; first | omega | (simp; done) | (simp; omega))).mono ?_; rintro e wq ⟨vr, rfl, hr, gr, hnil0⟩; have hcq := Bel.trans (a := wr) (by (repeat (first | assumption | exact Bel.refl _ | apply Bel.drewN | apply Bel.drew | apply Bel.alloc | refine Bel.trans ?_ (by assumption)))) gr; have hdq := Bel.trans (a := W2) (by (repeat (first | assumption | exact Bel.refl _ | apply Bel.drewN | apply Bel.drew | apply Bel.alloc | refine Bel.trans ?_ (by assumption)))) gr; have hr := intsR_good.mono (T := New wr wq) hr (fun b hb => ⟨Nat.le_trans (Bel.size (w := wr) (by (repeat (first | assumption | exact Bel.refl _ | apply Bel.drewN | apply Bel.drew | apply Bel.alloc | refine Bel.trans ?_ (by assumption))))) hb.1, hb.2⟩)) | fail)
            all_goals (go_wp2_with fail; go_meet; exact ⟨hr, hcq, hnil0⟩)
          case rest =>
            obtain ⟨hres, hBn, hnil0⟩ := hcut
            have HRES := Lib.hid hres
            by_cases hemp : (netOf p).ringF (t + 1) [k] = []
            · obtain rfl := hnil0 hemp
              have HNN := Lib.hid (HNJ.out hemp)
              clear hemp hres hnil0 b0 b1 b2 b3 b4
              go_wp2
              go_roundw
              case rel => exact ⟨k + 1, by omega, by go_num, HNN.out, hB1.trans hBn⟩
              case measure => simp [intOf]; omega
            · have hpos := List.length_pos_iff.2 hemp
              obtain ⟨rb, ro, re, -⟩ := intsR_at' hres (i := 0) (by rw [nI_length]; exact hpos)
              obtain ⟨rp, rk, rfl, rl, rl', -⟩ := sliceR_open hres
              obtain rfl : rp = some ⟨rb, ro, none⟩ := re
              have HE := Lib.hid (HHIT.out hemp)
              clear hres hnil0 hemp b0 b1 b2 b3 b4
              go_wp2
              go_ret
              rw [HE.out]
              have hs1 := hBz.size
              exact ⟨_, rfl, intsR_good.mono HRES.out (fun b hb => ⟨by have := hb.1; omega, hb.2⟩), hBz.trans hBn⟩
        · have HAJ := Lib.hid (show ∀ j, j < p.2.2.1.length → (netOf p).ringF (t + 1) [j] = [] from fun j hj => HAJ.out j (by omega))
          have HNT := Lib.hid (show ∀ t', t' + 2 < m + 1 → firstV (fun k => (netOf p).ringF (t' + 1) [k]) (netOf p).nl = [] from fun t' ht' => by
            by_cases e : t' = t
            · rw [e]; exact firstV_miss fun j hj => HAJ.out j hj
            · exact HALL.out t' (by have := HT.out; omega))
          go_wp2
          go_roundw
          case rel => exact ⟨m + 1, by omega, by omega, by go_num, HNT.out, hBy⟩
          case measure => simp [intOf]; omega
    · have HPN := Lib.hid (show posV p = [] from by rw [HPV.out, posF_none' HALL.out (show p.2.1.length < m by omega)]; rfl)
      go_wp2
      go_ret
      exact ⟨_, rfl, by rw [HPN.out]; exact intsR_nil _ _, by (repeat (first | assumption | exact Bel.refl _ | apply Bel.drewN | apply Bel.drew | apply Bel.alloc | refine Bel.trans ?_ (by assumption)))⟩

end Go.Proofs.Ytiaamddhocdhaaa
