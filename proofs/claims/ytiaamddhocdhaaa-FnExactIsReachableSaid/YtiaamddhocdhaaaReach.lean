/- IsReachable, both sides. -/
import Derived.Test.YtiaamddhocdhaaaReachF
import Derived.Test.YtiaamddhocdhaaaNbr
import Derived.Test.YtiaamddhocdhaaaQue
import Derived.Deep.Cut
import Derived.Deep.RegionHeld3
import Derived.Deep.RegionLaw
import Derived.ArgAppend
namespace Go.Proofs.Ytiaamddhocdhaaa
open Go.ChangeShapes Go.WideShapes Go.ChangeAt Go.RowKit
set_option linter.unusedVariables false

set_option maxRecDepth 100000 in
set_option maxHeartbeats 1000000 in
theorem sSetUnion_any (a1 a2 : Addr) (k1 k2 : Nat) (xs ys : List Int) (T1 T2 : Nat → Prop) (w : World) (hx : intsR T1 w [.slice (some a1) xs.length k1] xs) (hT1 : ∀ b, T1 b → b < w.heap.size) (hy : intsR T2 w [.slice (some a2) ys.length k2] ys) (hT2 : ∀ b, T2 b → b < w.heap.size) (hl1 : xs.length ≤ 100) (hl2 : ys.length ≤ 100) :
    Calls Try.prog 65 #[.slice (some a1) xs.length k1, .slice (some a2) ys.length k2] w (SetR (fun _ => False) w (setL (xs ++ ys))) := by
  have HX := Lib.hid hx
  have HY := Lib.hid hy
  have HT1 := Lib.hid hT1
  have HT2 := Lib.hid hT2
  have HO0 := Lib.hid (fun (g : Nat) (W : World) (h : W.heap[g]? = some (.cells #[] 3 (0, 0))) (hg : w.heap.size ≤ g) => show OwnI 3 w.heap.size W (some ⟨g, 0, none⟩) 0 [] from OwnI.empty h hg)
  clear hx hy hT1 hT2
  go_enter Try.func65, Try.ntmps65
  go_wp2_with (first | (at_builtin; refine wpList_apps (B := w.heap.size) _ rfl _ _ 25 rfl (.int .i64 0) 8 Try.underlying25 (by kernel_rfl) rfl (by decide) q1 _ c1' ([] ++ xs) rfl (hO1.bel (by (repeat (first | assumption | exact Bel.refl _ | apply Bel.drewN | apply Bel.drew | apply Bel.alloc | refine Bel.trans ?_ (by assumption))))) (by first | (simp; done) | (simp; omega)) _ _ _ ys T2 rfl (intsR_good.bel HY.out (by (repeat (first | assumption | exact Bel.refl _ | apply Bel.drewN | apply Bel.drew | apply Bel.alloc | refine Bel.trans ?_ (by assumption)))) HT2.out) rfl (fun h => by cases h) (by omega) (by first | omega | (simp; done) | (simp; omega)) ?_; intro q2 c2' w2 hO2 hG2 hN2; have hB2 : Bel w w2 := hG2.bel w (by (repeat (first | assumption | exact Bel.refl _ | apply Bel.drewN | apply Bel.drew | apply Bel.alloc | refine Bel.trans ?_ (by assumption)))) (Nat.le_refl _); have hs2 := hB2.size; clear hG2 hN2) | (at_builtin; refine wpList_apps (B := w.heap.size) _ rfl _ _ 25 rfl (.int .i64 0) 8 Try.underlying25 (by kernel_rfl) rfl (by decide) (some ⟨w.heap.size, 0, none⟩) _ 0 [] rfl (HO0.out _ _ (alloc_at rfl) (Nat.le_refl _)) rfl _ _ _ xs T1 rfl (intsR_good.bel HX.out (by (repeat (first | assumption | exact Bel.refl _ | apply Bel.drewN | apply Bel.drew | apply Bel.alloc | refine Bel.trans ?_ (by assumption)))) HT1.out) rfl (fun h => by cases h) (by omega) (by first | omega | (simp; done) | (simp; omega)) ?_; intro q1 c1' w1 hO1 hG1 hN1; have hB1 : Bel w w1 := hG1.bel w (by (repeat (first | assumption | exact Bel.refl _ | apply Bel.drewN | apply Bel.drew | apply Bel.alloc | refine Bel.trans ?_ (by assumption)))) (Nat.le_refl _); have hs1 := hB1.size; clear hG1 hN1))
  have HI := Lib.hid (show intsR (New w w2) w2 [.slice q2 ([] ++ xs ++ ys).length c2'] ([] ++ xs ++ ys) from hO2.done (fun b h1 h2 => ⟨h1, h2⟩))
  have hlen : ([] ++ xs ++ ys : List Int).length = xs.length + ys.length := by simp
  have HI := Lib.hid (show intsR (New w w2) w2 [.slice q2 (xs.length + ys.length) c2'] (xs ++ ys) from by
    have := HI.out
    rw [hlen] at this
    simpa using this)
  clear hO1 hO2 hlen
  refine (sSetOf_any _ (xs ++ ys) _ _ HI.out (fun b hb => hb.2) (by simp; omega)).mono ?_
  rintro e w3 ⟨g, off, c, rfl, hI, gB⟩
  have HRES := Lib.hid (show intsR (fun b => False ∨ New w w3 b) w3 [.slice (some ⟨g, off, none⟩) (setL (xs ++ ys)).length c] (setL (xs ++ ys)) from intsR_good.mono hI (fun b hb => .inr ⟨by have := (hb.resolve_left id).1; omega, (hb.resolve_left id).2⟩))
  clear hI
  go_wp2
  go_ret
  exact ⟨g, off, c, rfl, HRES.out, hB2.trans gB⟩

set_option maxRecDepth 100000 in
set_option maxHeartbeats 4000000 in
theorem sIsReachable_any (v : Value) (p : ProjT) (S : Nat → Prop) (a b : Int) (w : World) (hx : aggR projR S w v p) (hS : ∀ b, S b → b < w.heap.size) (_hn : bulkProject p ≤ 1048576) : Calls Try.prog 11 #[v, .int .i64 a, .int .i64 b] w fun e w' => e = .returned (.bool (reachB p a b)) ∧ Bel w w' := by
  obtain ⟨cs, rfl, hx⟩ := hx
  obtain ⟨c1, c2, c3, c4, rfl, q0, q1, q2, q3, q4⟩ := projR_open hx
  have Q1 := Lib.hid q1
  have Q2 := Lib.hid q2
  have Q3 := Lib.hid q3
  have Q4 := Lib.hid q4
  have HP := Lib.hid hx
  obtain ⟨p1, k1, rfl, l1, l1', -⟩ := sliceR_open q1
  obtain ⟨p2, k2, rfl, l2, l2', -⟩ := sliceR_open q2
  obtain ⟨p3, k3, rfl, l3, l3', -⟩ := sliceR_open q3
  obtain ⟨p4, k4, rfl, l4, l4', -⟩ := sliceR_open q4
  unfold maxLen at l1' l2' l3' l4'
  clear hx q0 q1 q2 q3 q4
  have HS := Lib.hid hS
  have HNB := Lib.hid _hn
  clear hS _hn
  have HP1 := Lib.hid (show ∀ W, Bel w W → aggR projR S W (.agg #[.int .i64 p.1, .slice p1 p.2.1.length k1, .slice p2 p.2.2.1.length k2, .slice p3 p.2.2.2.1.length k3, .slice p4 p.2.2.2.2.length k4]) p from fun W hW => aggR_mk (projR_good.bel HP.out hW HS.out))
  show Calls Try.prog 11 #[.agg #[.int .i64 p.1, .slice p1 p.2.1.length k1, .slice p2 p.2.2.1.length k2, .slice p3 p.2.2.2.1.length k3, .slice p4 p.2.2.2.2.length k4], .int .i64 a, .int .i64 b] w _
  go_enter Try.func11, Try.ntmps11
  obtain ⟨W0, hW0, hwW, hsz0, hbx⟩ : ∃ W0, W0 = w.alloc (.cells #[.int .i64 p.1, .slice p1 p.2.1.length k1, .slice p2 p.2.2.1.length k2, .slice p3 p.2.2.2.1.length k3, .slice p4 p.2.2.2.2.length k4] 34) ∧ Bel w W0 ∧ W0.heap.size = w.heap.size + 1 ∧ W0.cell? ⟨w.heap.size, 0, none⟩ = some (.int .i64 p.1) ∧ W0.cell? ⟨w.heap.size, 1, none⟩ = some (.slice p1 p.2.1.length k1) ∧ W0.cell? ⟨w.heap.size, 2, none⟩ = some (.slice p2 p.2.2.1.length k2) ∧ W0.cell? ⟨w.heap.size, 3, none⟩ = some (.slice p3 p.2.2.2.1.length k3) ∧ W0.cell? ⟨w.heap.size, 4, none⟩ = some (.slice p4 p.2.2.2.2.length k4) := ⟨_, rfl, by (repeat (first | assumption | exact Bel.refl _ | apply Bel.drewN | apply Bel.drew | apply Bel.alloc | refine Bel.trans ?_ (by assumption))), by simp, by simp [go_sem], by simp [go_sem], by simp [go_sem], by simp [go_sem], by simp [go_sem]⟩
  have HBX := Lib.hid (show ∀ W, Bel W0 W → W.cell? ⟨w.heap.size, 0, none⟩ = some (.int .i64 p.1) ∧ W.cell? ⟨w.heap.size, 1, none⟩ = some (.slice p1 p.2.1.length k1) ∧ W.cell? ⟨w.heap.size, 2, none⟩ = some (.slice p2 p.2.2.1.length k2) ∧ W.cell? ⟨w.heap.size, 3, none⟩ = some (.slice p3 p.2.2.2.1.length k3) ∧ W.cell? ⟨w.heap.size, 4, none⟩ = some (.slice p4 p.2.2.2.2.length k4) from fun W hW => keep5 hbx hW)
  clear hbx
  have HSZ0 := Lib.hid hsz0
  clear hsz0
  go_wp2_with fail
  rw [← hW0]
  clear hW0
  refine (sProjectOk_any _ p S _ (HP1.out _ (by (repeat (first | assumption | exact Bel.refl _ | apply Bel.drewN | apply Bel.drew | apply Bel.alloc | refine Bel.trans ?_ (by assumption))))) (fun b hb => Nat.lt_of_lt_of_le (HS.out b hb) (Bel.size (by (repeat (first | assumption | exact Bel.refl _ | apply Bel.drewN | apply Bel.drew | apply Bel.alloc | refine Bel.trans ?_ (by assumption))))))).mono ?_
  rintro e w1 ⟨rfl, g1⟩
  have G1 : Bel W0 w1 := by (repeat (first | assumption | exact Bel.refl _ | apply Bel.drewN | apply Bel.drew | apply Bel.alloc | refine Bel.trans ?_ (by assumption)))
  have G2 : Bel w w1 := hwW.trans G1
  obtain ⟨b0, b1, b2, b3, b4⟩ := HBX.out w1 G1
  cases hp : projOk p
  · have HF := Lib.hid (reachB_p (a := a) (b := b) hp)
    clear hp
    go_wp2
    go_ret
    exact ⟨ret_bool HF.out.symm, G2⟩
  have hbd := projOk_bd hp
  have HPO := Lib.hid hp
  clear hp
  go_wp2_with fail
  refine (sSuccessors_any _ p S a _ (HP1.out _ (by (repeat (first | assumption | exact Bel.refl _ | apply Bel.drewN | apply Bel.drew | apply Bel.alloc | refine Bel.trans ?_ (by assumption))))) (fun b hb => Nat.lt_of_lt_of_le (HS.out b hb) (Bel.size (by (repeat (first | assumption | exact Bel.refl _ | apply Bel.drewN | apply Bel.drew | apply Bel.alloc | refine Bel.trans ?_ (by assumption)))))) HNB.out).mono ?_
  rintro e w2 ⟨vr, rfl, hr, g2⟩
  have G3 : Bel w1 w2 := by (repeat (first | assumption | exact Bel.refl _ | apply Bel.drewN | apply Bel.drew | apply Bel.alloc | refine Bel.trans ?_ (by assumption)))
  have G4 := G1.trans G3
  obtain ⟨q0, c0, rfl, l0, l0', -⟩ := sliceR_open hr
  have HR := Lib.hid (show intsR (New w w2) w2 [.slice q0 (sucV p a).length c0] (sucV p a) from intsR_good.mono hr (fun b hb => ⟨by have := hb.1; have := G2.size; omega, hb.2⟩))
  clear hr b0 b1 b2 b3 b4
  unfold maxLen at l0'
  go_wp2_with fail
  go_loopw [7, 8] (fun o i wr => ∃ (n : Nat) (q : Option Addr) (c : Nat) (ys : List Int), n ≤ p.2.1.length ∧ i = .int .i64 n ∧ o = .slice q ys.length c ∧ ys = reachS p a n ∧ intsR (New w wr) wr [.slice q ys.length c] ys ∧ Bel w2 wr) (fun _ i _ => p.2.1.length - (intOf i).toNat)
  case atStart => exact ⟨0, q0, c0, _, Nat.zero_le _, rfl, rfl, rfl, HR.out, by (repeat (first | assumption | exact Bel.refl _ | apply Bel.drewN | apply Bel.drew | apply Bel.alloc | refine Bel.trans ?_ (by assumption)))⟩
  case round =>
    obtain ⟨n, q, c, ys, hn, rfl, rfl, hys, hI, hB⟩ := hrel
    have HYS := Lib.hid hys
    have HI := Lib.hid hI
    have HSA := Lib.hid (show SetA p ys from by rw [hys]; exact reachS_set HPO.out a n)
    have hyl : ys.length ≤ p.2.1.length := inr_len HSA.out.1 HSA.out.2
    have hcap : ys.length ≤ c ∧ c ≤ 9223372036854775807 := by
      obtain ⟨p', c', hv, h1, h2, -⟩ := hI
      obtain ⟨h0, -⟩ := List.cons.inj hv
      injection h0 with a1 a2 a3
      subst a3
      unfold maxLen at h2
      exact ⟨h1, by omega⟩
    clear hys hI
    have GB := G4.trans hB
    obtain ⟨b0, b1, b2, b3, b4⟩ := HBX.out wr GB
    by_cases hlt : n < p.2.1.length
    · have hni : (n : Int) < (p.2.1.length : Int) := by omega
      obtain ⟨Wb, hWb⟩ : ∃ W, W = wr := ⟨wr, rfl⟩
      subst hWb
      have HWW := Lib.hid (show Bel w Wb from hwW.trans GB)
      go_wp2_with fail
      clear b0 b1 b2 b3 b4
      go_loopw [7, 26] (fun o i wr => ∃ (j : Nat) (q' : Option Addr) (c' : Nat) (zs : List Int), j ≤ ys.length ∧ i = .int .i64 j ∧ o = .slice q' zs.length c' ∧ zs = fldS p ys j ∧ intsR (New w wr) wr [.slice q' zs.length c'] zs ∧ (q' = none → q = none) ∧ Bel Wb wr) (fun _ i _ => ys.length - (intOf i).toNat)
      case atStart => exact ⟨0, q, c, ys, Nat.zero_le _, rfl, rfl, (fldS_zero p ys).symm, HI.out, id, Bel.refl _⟩
      case round =>
        obtain ⟨j, q', c', zs, hj, rfl, rfl, hzs, hI2, hqn, hB2⟩ := hrel
        have HZS := Lib.hid hzs
        have HI2 := Lib.hid hI2
        have HZA := Lib.hid (show SetA p zs from by rw [hzs]; exact fldS_set HPO.out HSA.out j hj)
        have hzl : zs.length ≤ p.2.1.length := inr_len HZA.out.1 HZA.out.2
        clear hzs hI2
        by_cases hlj : j < ys.length
        · obtain ⟨b', off', e1, e2⟩ := intsR_at' HI.out hlj
          obtain rfl : q = some ⟨b', off', none⟩ := e1
          obtain ⟨ad, rfl⟩ : ∃ ad, q' = some ad := by
            cases q' with
            | none => exact absurd (hqn rfl) (by simp)
            | some ad => exact ⟨ad, rfl⟩
          have e2 := hB2.cell e2
          have HSN := Lib.hid (fldS_next (p := p) hlj)
          have hji : (j : Int) < (ys.length : Int) := by omega
          clear hqn
          generalize ys.getD j 0 = X at *
          have GC := GB.trans hB2
          obtain ⟨b0, b1, b2, b3, b4⟩ := HBX.out wr GC
          go_wp2_with fail
          clear b0 b1 b2 b3 b4
          refine (sSide_any _ p S _ (HP1.out _ (by (repeat (first | assumption | exact Bel.refl _ | apply Bel.drewN | apply Bel.drew | apply Bel.alloc | refine Bel.trans ?_ (by assumption))))) (fun b hb => Nat.lt_of_lt_of_le (HS.out b hb) (Bel.size (by (repeat (first | assumption | exact Bel.refl _ | apply Bel.drewN | apply Bel.drew | apply Bel.alloc | refine Bel.trans ?_ (by assumption)))))) HNB.out X false HPO.out).mono ?_
          rintro e w3 ⟨g, off, c3, rfl, hI3, gB⟩
          have HI3 := Lib.hid hI3
          have hsl := Nat.le_trans (sideV_le p X false) hbd.2.2.2.2.1
          have hwr := (hB2.trans gB).size
          clear hI3
          go_wp2_with fail
          refine (sSetUnion_any ad ⟨g, off, none⟩ c' c3 zs (sideV p X false) _ _ _ (intsR_good.bel HI2.out gB (fun b hb => hb.2)) (fun b hb => Nat.lt_of_lt_of_le hb.2 gB.size) HI3.out (fun b hb => (hb.resolve_left id).2) (by omega) (by omega)).mono ?_
          rintro e w4 ⟨g4, off4, c4, rfl, hI4, gB4⟩
          have HSE := Lib.hid (show setL (zs ++ sideV p X false) = fldS p ys (j + 1) from by rw [HSN.out, ← HZS.out]; rfl)
          have HI4 := Lib.hid (show intsR (New w w4) w4 [.slice (some ⟨g4, off4, none⟩) (setL (zs ++ sideV p X false)).length c4] (setL (zs ++ sideV p X false)) from intsR_good.mono hI4 (fun b hb => ⟨by have := (hb.resolve_left id).1; have := HWW.out.size; omega, (hb.resolve_left id).2⟩))
          clear hI4
          go_wp2_with fail
          go_roundw
          case rel => exact ⟨j + 1, some ⟨g4, off4, none⟩, c4, setL (zs ++ sideV p X false), by omega, by go_num, rfl, HSE.out, HI4.out, (fun h => by cases h), (hB2.trans gB).trans gB4⟩
          case measure => simp [intOf]; omega
        · obtain rfl : j = ys.length := by omega
          have HSE := Lib.hid (show zs = reachS p a (n + 1) from by rw [HZS.out, fldS_all, HYS.out]; rfl)
          go_wp2_with fail
          go_roundw
          case rel => exact ⟨n + 1, q', c', zs, by omega, by go_num, rfl, HSE.out, HI2.out, hB.trans hB2⟩
          case measure => simp [intOf]; omega
    · obtain rfl : n = p.2.1.length := by omega
      have HF := Lib.hid (show reachB p a b = hasB b ys from by unfold reachB; rw [HPO.out, Bool.true_and, HYS.out])
      have hni : ¬ (p.2.1.length : Int) < (p.2.1.length : Int) := by omega
      go_wp2_with fail
      refine (sSetHas_any _ ys b _ _ HI.out).mono ?_
      rintro e w' ⟨rfl, rfl⟩
      go_wp2
      go_ret
      exact ⟨ret_bool HF.out.symm, hwW.trans GB⟩

set_option maxRecDepth 100000 in
set_option maxHeartbeats 4000000 in
theorem iIsReachable_any (v : Value) (p : ProjT) (S : Nat → Prop) (a b : Int) (w : World) (hx : aggR projR S w v p) (hS : ∀ b, S b → b < w.heap.size) (_hn : bulkProject p ≤ 1048576) : Calls Try.prog 13 #[v, .int .i64 a, .int .i64 b] w fun e w' => e = .returned (.bool (reachB p a b)) ∧ Bel w w' := by
  obtain ⟨cs, rfl, hx⟩ := hx
  obtain ⟨c1, c2, c3, c4, rfl, q0, q1, q2, q3, q4⟩ := projR_open hx
  have Q1 := Lib.hid q1
  have Q2 := Lib.hid q2
  have Q3 := Lib.hid q3
  have Q4 := Lib.hid q4
  have HP := Lib.hid hx
  obtain ⟨p1, k1, rfl, l1, l1', -⟩ := sliceR_open q1
  obtain ⟨p2, k2, rfl, l2, l2', -⟩ := sliceR_open q2
  obtain ⟨p3, k3, rfl, l3, l3', -⟩ := sliceR_open q3
  obtain ⟨p4, k4, rfl, l4, l4', -⟩ := sliceR_open q4
  unfold maxLen at l1' l2' l3' l4'
  clear hx q0 q1 q2 q3 q4
  have HS := Lib.hid hS
  have HNB := Lib.hid _hn
  clear hS _hn
  have HP1 := Lib.hid (show ∀ W, Bel w W → aggR projR S W (.agg #[.int .i64 p.1, .slice p1 p.2.1.length k1, .slice p2 p.2.2.1.length k2, .slice p3 p.2.2.2.1.length k3, .slice p4 p.2.2.2.2.length k4]) p from fun W hW => aggR_mk (projR_good.bel HP.out hW HS.out))
  show Calls Try.prog 13 #[.agg #[.int .i64 p.1, .slice p1 p.2.1.length k1, .slice p2 p.2.2.1.length k2, .slice p3 p.2.2.2.1.length k3, .slice p4 p.2.2.2.2.length k4], .int .i64 a, .int .i64 b] w _
  go_enter Try.func13, Try.ntmps13
  obtain ⟨W0, hW0, hwW, hsz0, hbx⟩ : ∃ W0, W0 = w.alloc (.cells #[.int .i64 p.1, .slice p1 p.2.1.length k1, .slice p2 p.2.2.1.length k2, .slice p3 p.2.2.2.1.length k3, .slice p4 p.2.2.2.2.length k4] 34) ∧ Bel w W0 ∧ W0.heap.size = w.heap.size + 1 ∧ W0.cell? ⟨w.heap.size, 0, none⟩ = some (.int .i64 p.1) ∧ W0.cell? ⟨w.heap.size, 1, none⟩ = some (.slice p1 p.2.1.length k1) ∧ W0.cell? ⟨w.heap.size, 2, none⟩ = some (.slice p2 p.2.2.1.length k2) ∧ W0.cell? ⟨w.heap.size, 3, none⟩ = some (.slice p3 p.2.2.2.1.length k3) ∧ W0.cell? ⟨w.heap.size, 4, none⟩ = some (.slice p4 p.2.2.2.2.length k4) := ⟨_, rfl, by (repeat (first | assumption | exact Bel.refl _ | apply Bel.drewN | apply Bel.drew | apply Bel.alloc | refine Bel.trans ?_ (by assumption))), by simp, by simp [go_sem], by simp [go_sem], by simp [go_sem], by simp [go_sem], by simp [go_sem]⟩
  have HBX := Lib.hid (show ∀ W, Bel W0 W → W.cell? ⟨w.heap.size, 0, none⟩ = some (.int .i64 p.1) ∧ W.cell? ⟨w.heap.size, 1, none⟩ = some (.slice p1 p.2.1.length k1) ∧ W.cell? ⟨w.heap.size, 2, none⟩ = some (.slice p2 p.2.2.1.length k2) ∧ W.cell? ⟨w.heap.size, 3, none⟩ = some (.slice p3 p.2.2.2.1.length k3) ∧ W.cell? ⟨w.heap.size, 4, none⟩ = some (.slice p4 p.2.2.2.2.length k4) from fun W hW => keep5 hbx hW)
  clear hbx
  have HSZ0 := Lib.hid hsz0
  clear hsz0
  go_wp2_with fail
  rw [← hW0]
  clear hW0
  refine (iProjectOk_any _ p S _ (HP1.out _ (by (repeat (first | assumption | exact Bel.refl _ | apply Bel.drewN | apply Bel.drew | apply Bel.alloc | refine Bel.trans ?_ (by assumption))))) (fun b hb => Nat.lt_of_lt_of_le (HS.out b hb) (Bel.size (by (repeat (first | assumption | exact Bel.refl _ | apply Bel.drewN | apply Bel.drew | apply Bel.alloc | refine Bel.trans ?_ (by assumption))))))).mono ?_
  rintro e w1 ⟨rfl, g1⟩
  have G1 : Bel W0 w1 := by (repeat (first | assumption | exact Bel.refl _ | apply Bel.drewN | apply Bel.drew | apply Bel.alloc | refine Bel.trans ?_ (by assumption)))
  have G2 : Bel w w1 := hwW.trans G1
  obtain ⟨b0, b1, b2, b3, b4⟩ := HBX.out w1 G1
  cases hp : projOk p
  · have HF := Lib.hid (reachB_p (a := a) (b := b) hp)
    clear hp
    go_wp2
    go_ret
    exact ⟨ret_bool HF.out.symm, G2⟩
  have hbd := projOk_bd hp
  have HPO := Lib.hid hp
  clear hp
  go_wp2_with fail
  refine (hasActivity_any _ _ _ _ _ _ _ (by omega) _ _).mono ?_
  rintro e wa ⟨rfl, ga⟩
  have G3 : Bel w1 wa := by (repeat (first | assumption | exact Bel.refl _ | apply Bel.drewN | apply Bel.drew | apply Bel.alloc | refine Bel.trans ?_ (by assumption)))
  obtain ⟨b0, b1, b2, b3, b4⟩ := HBX.out wa (G1.trans G3)
  cases ha : inB a 0 ((p.2.1.length : Int) - 1)
  · have HF := Lib.hid (reachB_a (b := b) ha)
    clear ha
    go_wp2
    go_ret
    exact ⟨ret_bool HF.out.symm, G2.trans G3⟩
  have HA_ := Lib.hid ha
  clear ha
  go_wp2_with fail
  refine (hasActivity_any _ _ _ _ _ _ _ (by omega) _ _).mono ?_
  rintro e w2 ⟨rfl, g2⟩
  have G4 : Bel w1 w2 := G3.trans (by (repeat (first | assumption | exact Bel.refl _ | apply Bel.drewN | apply Bel.drew | apply Bel.alloc | refine Bel.trans ?_ (by assumption))))
  have G5 := G2.trans G4
  cases hb : inB b 0 ((p.2.1.length : Int) - 1)
  · have HF := Lib.hid (reachB_b (a := a) hb)
    clear hb
    go_wp2
    go_ret
    exact ⟨ret_bool HF.out.symm, G5⟩
  clear hb b0 b1 b2 b3 b4
  obtain ⟨ka, rfl, hka⟩ := inB_idx HA_.out
  have HAI := Lib.hid (show I64 (ka : Int) from by unfold I64; omega)
  go_wp2_with fail
  go_loopw [7, 8] (fun s o wr => ∃ (SN OP : List Int) (ps po : Option Addr) (cs co : Nat), s = .slice ps SN.length cs ∧ o = .slice po OP.length co ∧ Bfs p (ka : Int) SN OP ∧ OP.length ≤ SN.length + 1 ∧ OwnI 3 w2.heap.size wr ps cs SN ∧ Que 3 w2.heap.size wr po co OP ∧ (∀ a, ps = some a → a.block < wr.heap.size) ∧ (∀ a b, ps = some a → po = some b → a.block ≠ b.block) ∧ Bel w2 wr) (fun s o _ => 2 * (p.2.1.length + 1 - lenV s) + lenV o)
  case atStart =>
    refine ⟨[], [(ka : Int)], _, _, _, _, rfl, rfl, Bfs.start p _, Nat.le_refl _, (OwnI.empty (alloc_at (w := w2) rfl) (Nat.le_refl _)).bel (by (repeat (first | assumption | exact Bel.refl _ | apply Bel.drewN | apply Bel.drew | apply Bel.alloc | refine Bel.trans ?_ (by assumption)))), Que.start (alloc_at (by simp)) (by simp) HAI.out, ?_, ?_, by (repeat (first | assumption | exact Bel.refl _ | apply Bel.drewN | apply Bel.drew | apply Bel.alloc | refine Bel.trans ?_ (by assumption)))⟩
    · intro a ha; cases ha; simp; omega
    · intro a b ha hb; cases ha; cases hb; simp
  case round =>
    obtain ⟨seen, opn, ps, po, cs, co, rfl, rfl, hbf, hol, hS, hQ, hps, hap, hB⟩ := hrel
    have HBF := Lib.hid hbf
    have hsl := once_len hbf.once (hbf.inr HPO.out)
    have hqc : opn.length ≤ co ∧ co ≤ maxLen := ⟨hQ.2.1, hQ.2.2.1⟩
    have hsc : cs ≤ maxLen := by
      rcases hS.1.2 with ⟨h4, _⟩ | ⟨g, cap', cur, h4, h5, h6, h7, h8, _⟩
      · have h5 : ps = none ∧ seen.length = 0 ∧ cs = 0 := by simpa using h4
        rw [h5.2.2]; exact Nat.zero_le _
      · have h9 : ps = some ⟨g, 0, none⟩ ∧ cs = cap' := by simpa using h4
        rw [h9.2]; exact h8
    unfold maxLen at hqc hsc
    clear hbf
    have hwsz := hB.size
    by_cases h0 : 0 < opn.length
    · have h0i : (0 : Int) < (opn.length : Int) := by omega
      obtain ⟨qg, qo, rfl⟩ : ∃ qg qo, po = some ⟨qg, qo, none⟩ := by
        obtain ⟨_, _, _, g, off, N, F, rfl, _⟩ := hQ
        exact ⟨g, off, rfl⟩
      obtain ⟨hc0, hI0⟩ := hQ.head h0
      obtain ⟨u, rest, hur⟩ : ∃ u rest, opn = u :: rest := by
        cases opn with
        | nil => simp at h0
        | cons u rest => exact ⟨u, rest, rfl⟩
      have HUR := Lib.hid hur
      have hu0 : opn.getD 0 0 = u := by rw [hur]; rfl
      rw [hu0] at hc0 hI0
      obtain ⟨Wq, hWq⟩ : ∃ W, W = wr := ⟨wr, rfl⟩
      subst hWq
      have GW := G4.trans hB
      have HSU := Lib.hid (show sucV p u = sideV p u false from by
        rcases HBF.out.left u (by rw [hur]; exact List.mem_cons_self) with h | h
        · exact if_pos ⟨HPO.out, by rw [h]; exact HA_.out⟩
        · have := HBF.out.inr HPO.out u h
          exact if_pos ⟨HPO.out, by unfold inB; rw [decide_eq_true this.1, decide_eq_true (show u ≤ (p.2.1.length : Int) - 1 from by omega)]; rfl⟩)
      clear hu0 hur
      have HSC := Lib.hid (show ∀ W, Bel Wq W → W.cell? ⟨w.heap.size, 0, none⟩ = some (.int .i64 p.1) ∧ W.cell? ⟨w.heap.size, 1, none⟩ = some (.slice p1 p.2.1.length k1) ∧ W.cell? ⟨w.heap.size, 2, none⟩ = some (.slice p2 p.2.2.1.length k2) ∧ W.cell? ⟨w.heap.size, 3, none⟩ = some (.slice p3 p.2.2.2.1.length k3) ∧ W.cell? ⟨w.heap.size, 4, none⟩ = some (.slice p4 p.2.2.2.2.length k4) ∧ W.cell? ⟨qg, qo, none⟩ = some (.int .i64 u) from fun W hW => by
        obtain ⟨b0, b1, b2, b3, b4⟩ := HBX.out W ((G1.trans GW).trans hW)
        exact ⟨b0, b1, b2, b3, b4, hW.cell hc0⟩)
      clear hc0 hI0
      go_upto_region 5 with (fail)
      go_region_held3 (fun W => W.cell? ⟨w.heap.size, 0, none⟩ = some (.int .i64 p.1) ∧ W.cell? ⟨w.heap.size, 1, none⟩ = some (.slice p1 p.2.1.length k1) ∧ W.cell? ⟨w.heap.size, 2, none⟩ = some (.slice p2 p.2.2.1.length k2) ∧ W.cell? ⟨w.heap.size, 3, none⟩ = some (.slice p3 p.2.2.2.1.length k3) ∧ W.cell? ⟨w.heap.size, 4, none⟩ = some (.slice p4 p.2.2.2.2.length k4) ∧ W.cell? ⟨qg, qo, none⟩ = some (.int .i64 u)) (exact HSC.out _ (by (repeat (first | assumption | exact Bel.refl _ | apply Bel.drewN | apply Bel.drew | apply Bel.alloc | refine Bel.trans ?_ (by assumption)))))
        (first | (go_at_call 41; (with_reducible refine (iSuccessors_any _ p S u _ (HP1.out _ (by (repeat (first | assumption | exact Bel.refl _ | apply Bel.drewN | apply Bel.drew | apply Bel.alloc | refine Bel.trans ?_ (by assumption))))) (fun b hb => Nat.lt_of_lt_of_le (HS.out b hb) (Bel.size (by (repeat (first | assumption | exact Bel.refl _ | apply Bel.drewN | apply Bel.drew | apply Bel.alloc | refine Bel.trans ?_ (by assumption)))))) HNB.out).mono ?_); rintro e ws ⟨vr, rfl, hr, gs⟩; have HR := Lib.hid hr; obtain ⟨dq, dc, rfl, dl, dl', -⟩ := sliceR_open hr; clear hr) | fail)
      have hBs : Bel Wq ws := by (repeat (first | assumption | exact Bel.refl _ | apply Bel.drewN | apply Bel.drew | apply Bel.alloc | refine Bel.trans ?_ (by assumption)))
      have HR := Lib.hid (show intsR (New Wq ws) ws [.slice dq (sucV p u).length dc] (sucV p u) from intsR_good.mono HR.out (fun b hb => ⟨by have h1 := hb.1; exact h1, hb.2⟩))
      have HDI := Lib.hid (ints_mem HR.out)
      have hdl : (sucV p u).length ≤ 12 := by rw [HSU.out]; have := sideV_le p u false; omega
      have HDD := Lib.hid (HSU.out)
      clear HSU
      generalize sucV p u = DD at *
      unfold maxLen at dl'
      have hs2 := hBs.size
      have HFS0 := Lib.hid (show ∀ a, ps = some a → a.block < ws.heap.size ∧ (a.block < Wq.heap.size ∨ ws.heap.size ≤ a.block) from fun a ha => ⟨Nat.lt_of_lt_of_le (hps a ha) hs2, .inl (hps a ha)⟩)
      have HFO0 := Lib.hid (show ∀ a, some (⟨qg, qo, none⟩ : Addr) = some a → a.block < ws.heap.size ∧ (a.block < Wq.heap.size ∨ ws.heap.size ≤ a.block) from fun a ha => ⟨Nat.lt_of_lt_of_le (hQ.lt ha).2 hs2, .inl (hQ.lt ha).2⟩)
      have hS0 := hS.bel hBs
      have hQ0 := hQ.bel hBs
      have hBw := hB.trans hBs
      have HAP0 := Lib.hid hap
      clear hps hap hS hQ HSC
      go_wp2_with fail
      go_loopw [7, 8, 38] (fun s o i wr => ∃ (j : Nat) (SN OP : List Int) (ps po : Option Addr) (cs co : Nat), j ≤ DD.length ∧ i = .int .i64 j ∧ s = .slice ps SN.length cs ∧ o = .slice po OP.length co ∧ (SN, OP) = bfsTo seen opn DD j ∧ OwnI 3 w2.heap.size wr ps cs SN ∧ Que 3 w2.heap.size wr po co OP ∧ (∀ a, ps = some a → a.block < wr.heap.size ∧ (a.block < Wq.heap.size ∨ ws.heap.size ≤ a.block)) ∧ (∀ a, po = some a → a.block < wr.heap.size ∧ (a.block < Wq.heap.size ∨ ws.heap.size ≤ a.block)) ∧ (∀ a b, ps = some a → po = some b → a.block ≠ b.block) ∧ intsR (New Wq ws) wr [.slice dq DD.length dc] DD ∧ ws.heap.size ≤ wr.heap.size ∧ Bel w2 wr) (fun _ _ i _ => DD.length - (intOf i).toNat)
      case atStart => exact ⟨0, seen, opn, ps, _, cs, co, Nat.zero_le _, rfl, rfl, rfl, (bfsTo_zero _ _ _).symm, hS0, hQ0, HFS0.out, HFO0.out, HAP0.out, HR.out, Nat.le_refl _, hBw⟩
      case round =>
        clear hS0 hQ0
        obtain ⟨j, SN, OP, ps, po, cs, co, hj, rfl, rfl, rfl, hso, hS, hQ, hfs, hfo, hap, hD, hws, hB2⟩ := hrel
        have HSO := Lib.hid hso
        have HFS := Lib.hid hfs
        have HFO := Lib.hid hfo
        have HAP := Lib.hid hap
        have HD := Lib.hid hD
        have hle := bfs_len (DD.take j) (seen, opn)
        have hle2 : SN.length ≤ 18 ∧ OP.length ≤ 19 := by
          have e1 : (bfsTo seen opn DD j).1 = SN := by rw [← hso]
          have e2 : (bfsTo seen opn DD j).2 = OP := by rw [← hso]
          unfold bfsTo at e1 e2
          rw [e1, e2, List.length_take] at hle
          simp only at hle
          omega
        have hsc2 : cs ≤ 9223372036854775807 ∧ co ≤ 9223372036854775807 := by
          have hc2 := hQ.2.2.1
          unfold maxLen at hc2
          refine ⟨?_, by omega⟩
          rcases hS.1.2 with ⟨h4, _⟩ | ⟨g, cap', cur, h4, h5, h6, h7, h8, _⟩
          · have h5 : ps = none ∧ SN.length = 0 ∧ cs = 0 := by simpa using h4
            omega
          · have h9 : ps = some ⟨g, 0, none⟩ ∧ cs = cap' := by simpa using h4
            unfold maxLen at h8
            omega
        have hwsz2 := hB2.size
        clear hso hfs hfo hap hD hle
        by_cases hlj : j < DD.length
        · obtain ⟨b', off', e1, e2⟩ := intsR_at' HD.out hlj
          obtain rfl : dq = some ⟨b', off', none⟩ := e1
          have hmem : DD.getD j 0 ∈ DD := by rw [List.getD_eq_getElem?_getD, List.getElem?_eq_getElem hlj, Option.getD_some]; exact List.getElem_mem hlj
          have HXI := Lib.hid (HDI.out _ hmem)
          have HNX := Lib.hid (bfsTo_next (seen := seen) (opn := opn) hlj)
          have hji : (j : Int) < (DD.length : Int) := by omega
          have HSI := Lib.hid (show intsR (fun b => b < wr.heap.size) wr [.slice ps SN.length cs] SN from hS.done (fun b h1 h2 => h2))
          clear hmem
          generalize DD.getD j 0 = X at *
          go_wp2_with fail
          refine (containsInts_any _ SN X _ _ HSI.out).mono ?_
          rintro e w' ⟨rfl, rfl⟩
          cases hx : hasB X SN
          · have HEQ := Lib.hid (show (SN ++ [X], OP ++ [X]) = bfsTo seen opn DD (j + 1) from by rw [HNX.out, ← HSO.out]; unfold bfs; rw [if_neg (by rw [hx]; decide)])
            clear hx
            go_wp2_with (first | (at_builtin; refine wpList_que (B := w2.heap.size) _ rfl _ _ 25 rfl (.int .i64 0) 8 Try.underlying25 (by kernel_rfl) rfl (by decide) po co OP X rfl (hQA.bel (by (repeat (first | assumption | exact Bel.refl _ | apply Bel.drewN | apply Bel.drew | apply Bel.alloc | refine Bel.trans ?_ (by assumption))))) _ 1 rfl (by simp [go_sem]) HXI.out (by omega) (by first | omega | (simp; done) | (simp; omega)) ?_; intro po' co' wB hQB hBW hszB hfB; have hBB := hBW w2 (by (repeat (first | assumption | exact Bel.refl _ | apply Bel.drewN | apply Bel.drew | apply Bel.alloc | refine Bel.trans ?_ (by assumption)))) (Nat.le_refl _)) | (at_builtin; refine wpList_apps (B := w2.heap.size) _ rfl _ _ 25 rfl (.int .i64 0) 8 Try.underlying25 (by kernel_rfl) rfl (by decide) ps _ cs SN rfl (hS.bel (by (repeat (first | assumption | exact Bel.refl _ | apply Bel.drewN | apply Bel.drew | apply Bel.alloc | refine Bel.trans ?_ (by assumption))))) rfl _ _ _ [X] (fun g => g = wr.heap.size) rfl (intsR_cell (alloc_at rfl) HXI.out) rfl (fun h => by cases h) (by omega) (by first | omega | (simp; done) | (simp; omega)) ?_; intro ps' cs' wA hSA hGA hNA; have hBA := hGA.bel w2 (by (repeat (first | assumption | exact Bel.refl _ | apply Bel.drewN | apply Bel.drew | apply Bel.alloc | refine Bel.trans ?_ (by assumption)))) (Nat.le_refl _); have hfA := hGA.far; have hszA := hGA.size; simp only [World.size_alloc] at hszA; have hQA := hQ.keep (w' := wA) (fun a ha => (hfA a.block (by have := (HFO.out a ha).1; simp; omega) (fun a' ha' hh => HAP.out a' a ha' ha hh.symm)).1.trans (((Bel.refl wr).alloc _).block (HFO.out a ha).1)); clear hGA hNA))
            have HBf := Lib.hid hBB
            have HSB := Lib.hid (show OwnI 3 w2.heap.size wB ps' cs' (SN ++ [X]) from by
              have hmv : ∀ a, ps' = some a → wB.heap[a.block]? = wA.heap[a.block]? := fun a ha => by
                have hlt := (hSA.lt ha).2
                refine ((hfB a.block (by simp; omega) (fun a' ha' hh => ?_)).1).trans (((Bel.refl wA).alloc _).block hlt)
                exact (hfA a'.block (by have := (HFO.out a' ha').1; simp; omega) (fun a'' ha'' hh' => HAP.out a'' a' ha'' ha' hh'.symm)).2 a ha hh.symm
              exact hSA.keep hmv)
            have HDB := Lib.hid (show intsR (New Wq ws) wB [.slice (some ⟨b', off', none⟩) DD.length dc] DD from by
              refine intsR_good.stay HD.out fun b hb => ?_
              have hb1 := hb.1
              have hb2 := hb.2
              have k1 := hfA b (by simp; omega) (fun a ha hh => by have := (HFS.out a ha).2; omega)
              have k2 := hfB b (by simp; omega) (fun a ha hh => by have := (HFO.out a ha).2; omega)
              exact (k2.1.trans (((Bel.refl wA).alloc _).block (by omega))).trans (k1.1.trans (((Bel.refl wr).alloc _).block (by omega))))
            have HFSB := Lib.hid (show ∀ a, ps' = some a → a.block < wB.heap.size ∧ (a.block < Wq.heap.size ∨ ws.heap.size ≤ a.block) from fun a ha => ⟨by have := (HSB.out.lt ha).2; exact this, by
              rcases Nat.lt_or_ge a.block Wq.heap.size with h | h
              · exact .inl h
              · rcases Nat.lt_or_ge a.block ws.heap.size with h' | h'
                · exact absurd rfl ((hfA a.block (by simp; omega) (fun a' ha' hh => by have := (HFS.out a' ha').2; omega)).2 a ha)
                · exact .inr h'⟩)
            have HFOB := Lib.hid (show ∀ a, po' = some a → a.block < wB.heap.size ∧ (a.block < Wq.heap.size ∨ ws.heap.size ≤ a.block) from fun a ha => ⟨(hQB.lt ha).2, by
              rcases Nat.lt_or_ge a.block Wq.heap.size with h | h
              · exact .inl h
              · rcases Nat.lt_or_ge a.block ws.heap.size with h' | h'
                · exact absurd rfl ((hfB a.block (by simp; omega) (fun a' ha' hh => by have := (HFO.out a' ha').2; omega)).2 a ha)
                · exact .inr h'⟩)
            have HAPB := Lib.hid (show ∀ a b, ps' = some a → po' = some b → a.block ≠ b.block from fun a b ha hb =>
              (hfB a.block (by have := (hSA.lt ha).2; simp; omega) (fun a' ha' hh => (hfA a'.block (by have := (HFO.out a' ha').1; simp; omega) (fun a'' ha'' hh' => HAP.out a'' a' ha'' ha' hh'.symm)).2 a ha hh.symm)).2 b hb)
            have HWS := Lib.hid (show ws.heap.size ≤ wB.heap.size from by simp at hszB hszA; omega)
            have HQB := Lib.hid hQB
            clear hfA hfB hBW hszB hszA hQA hSA hBA hBB hQB
            go_roundw
            case rel => exact ⟨j + 1, SN ++ [X], OP ++ [X], ps', po', cs', co', by omega, by go_num, by simp, by simp, HEQ.out, HSB.out, HQB.out, HFSB.out, HFOB.out, HAPB.out, HDB.out, HWS.out, HBf.out⟩
            case measure => simp [intOf]; omega
          · have HEQ := Lib.hid (show (SN, OP) = bfsTo seen opn DD (j + 1) from by rw [HNX.out, ← HSO.out]; unfold bfs; rw [if_pos hx])
            clear hx
            go_wp2_with fail
            go_roundw
            case rel => exact ⟨j + 1, SN, OP, ps, po, cs, co, by omega, by go_num, rfl, rfl, HEQ.out, hS, hQ, HFS.out, HFO.out, HAP.out, HD.out, hws, hB2⟩
            case measure => simp [intOf]; omega
        · obtain rfl : j = DD.length := by omega
          have hbl := bfs_len DD (seen, opn)
          have hall := HSO.out
          unfold bfsTo at hall
          rw [List.take_length] at hall
          rw [← hall] at hbl
          simp only at hbl
          have hro : opn = u :: rest := HUR.out
          have hNB := Bfs.next (rest := rest) HPO.out HA_.out (show Bfs p (ka : Int) seen (u :: rest) from by rw [← hro]; exact HBF.out)
          rw [← HDD.out, ← hro] at hNB
          unfold bfsTo at hNB
          rw [List.take_length, ← hall] at hNB
          simp only at hNB
          have hnl := once_len hNB.once (hNB.inr HPO.out)
          have HNB := Lib.hid hNB
          have hop1 : 0 < OP.length := by omega
          have htl : OP.tail.length = OP.length - 1 := List.length_tail
          have hcO : OP.length ≤ co := hQ.2.1
          obtain ⟨qg', qo', hpo⟩ : ∃ qg qo, po = some ⟨qg, qo, none⟩ := by
            obtain ⟨_, _, _, g, off, N, F, h, _⟩ := hQ
            exact ⟨g, off, h⟩
          subst hpo
          obtain ⟨A, hA1, hA2, hA3⟩ := hQ.tail hop1
          have HA1 := Lib.hid hA1
          have HA3 := Lib.hid hA3
          have HAPN := Lib.hid (show ∀ a b, ps = some a → some A = some b → a.block ≠ b.block from fun a b ha hb => by
            cases hb
            rw [hA2]
            exact HAP.out a _ ha rfl)
          have HSF := Lib.hid (show ∀ a, ps = some a → a.block < wr.heap.size from fun a ha => (HFS.out a ha).1)
          clear hall hNB hA1 hA3 hro hQ
          go_wp2_with fail
          trace_state
          go_roundw
          case rel => exact ⟨SN, OP.tail, ps, some A, cs, co - 1, rfl, by rw [htl]; first | rfl | (rw [← HA1.out]; rfl) | (rw [HA1.out]), HNB.out, by omega, hS, HA3.out, HSF.out, HAPN.out, hB2⟩
          case measure => simp only [lenV]; omega
    · obtain rfl : opn = [] := List.eq_nil_of_length_eq_zero (by omega)
      have HF := Lib.hid (Bfs.fin (b := b) HPO.out HA_.out HBF.out)
      have HSI := Lib.hid (show intsR (fun b => b < wr.heap.size) wr [.slice ps seen.length cs] seen from hS.done (fun b h1 h2 => h2))
      have h0i : ¬ (0 : Int) < (0 : Int) := by omega
      go_wp2_with fail
      refine (containsInts_any _ seen b _ _ HSI.out).mono ?_
      rintro e w' ⟨rfl, rfl⟩
      go_wp2
      go_ret
      exact ⟨ret_bool HF.out, G5.trans hB⟩

end Go.Proofs.Ytiaamddhocdhaaa
