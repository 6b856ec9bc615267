/- Contract of l07Ring. -/
import Derived.Test.YtclmffknggmlnaaGreatRingF
import Derived.Deep.DeepCutAuto
import Derived.Deep.RegionHeld3
namespace Go.Proofs.YtclmffknggmlnaaGreat
open Go.ChangeShapes Go.WideShapes Go.ChangeAt Go.RowKit
set_option linter.unusedVariables false

/-- The contract of l07Ring, f links ahead of the end. -/
def RingS (f : Nat) : Prop := ∀ (v : Value) (p : ProjT) (S : Nat → Prop) (v1 : Value) (way : List Nat) (V : Nat → Prop) (w : World), aggR projR S w v p → (∀ b, S b → b < w.heap.size) → projOk p = true → intsR V w [v1] (nI way) → (∀ b, V b → b < w.heap.size) → way ≠ [] → (∀ x ∈ way, x < p.2.2.1.length) → way.length + f ≤ 6 →
    Calls Tryz.prog 74 #[v, v1, .int .i64 ((way.length + f : Nat) : Int)] w (RingRes w V ((netOf p).ringF f way))

set_option maxRecDepth 100000 in
set_option maxHeartbeats 2000000 in
theorem l07Ring_step (f : Nat) (IH : ∀ g, f = g + 1 → RingS g) : RingS f := by
  intro v p S v1 way V w hx hS hp hw hV hne hlt hlen
  obtain ⟨cs, rfl, hx⟩ := hx
  obtain ⟨c1, c2, c3, c4, rfl, q0, q1, q2, q3, q4⟩ := projR_open hx
  have Q1 := Lib.hid q1
  have Q2 := Lib.hid q2
  have Q3 := Lib.hid q3
  have Q4 := Lib.hid q4
  have HP := Lib.hid hx
  obtain ⟨p1, k1, rfl, l1, l1', -⟩ := sliceR_open q1
  obtain ⟨p2, k2, rfl, l2, l2', -⟩ := sliceR_open q2
  obtain ⟨p3, k3, rfl, l3, l3', -⟩ := sliceR_open q3
  obtain ⟨p4, k4, rfl, l4, l4', -⟩ := sliceR_open q4
  unfold maxLen at l1' l2' l3' l4'
  clear hx q0 q1 q2 q3 q4
  have HS := Lib.hid hS
  have HPO := Lib.hid hp
  have HIH := Lib.hid IH
  clear hS IH
  have HP1 := Lib.hid (show ∀ W, Bel w W → aggR projR S W (.agg #[.int .i64 p.1, .slice p1 p.2.1.length k1, .slice p2 p.2.2.1.length k2, .slice p3 p.2.2.2.1.length k3, .slice p4 p.2.2.2.2.length k4]) p from fun W hW => aggR_mk (projR_good.bel HP.out hW HS.out))
  have hF := netOf_fine hp
  have HF := Lib.hid hF
  obtain ⟨ln, hln⟩ : ∃ ln, way.length = ln + 1 := ⟨way.length - 1, by have := List.length_pos_iff.2 hne; omega⟩
  have ha : way.getD 0 0 < p.2.2.1.length := hlt _ (getD_in (by omega))
  have hz : way.getD ln 0 < p.2.2.1.length := hlt _ (getD_in (by omega))
  have eA := headD_at way
  have eZ := lastD_at way ln hln
  have HLT := Lib.hid hlt
  have HW := Lib.hid hw
  have HV := Lib.hid hV
  have HWI := Lib.hid (fun i (hi : i < way.length) => intsR_at' hw (i := i) (by rw [nI_length]; exact hi))
  obtain ⟨vp, vk, rfl, vl, vl', -⟩ := sliceR_open hw
  rw [nI_length, hln] at vl
  unfold maxLen at vl'
  have HWL := Lib.hid (show intsR V w [.slice vp (ln + 1) vk] (nI way) from by have h := HW.out; rw [nI_length, hln] at h; exact h)
  obtain ⟨ba, oa, ea1, wa⟩ := HWI.out 0 (by omega)
  obtain ⟨bz, oz, ez1, wz⟩ := HWI.out ln (by omega)
  obtain rfl : vp = some ⟨ba, oa, none⟩ := ea1
  obtain ⟨rfl, rfl⟩ : ba = bz ∧ oa = oz := by simpa using (show some (⟨ba, oa, none⟩ : Addr) = some ⟨bz, oz, none⟩ from ez1)
  rw [nI_at] at wa wz
  obtain ⟨na1, na2, na3, na4, -⟩ := netOf_at hp ha
  obtain ⟨nz1, nz2, nz3, nz4, -⟩ := netOf_at hp hz
  obtain ⟨lb, lo, ea, la0, la1, la2, la3⟩ := link_at Q2.out ha
  obtain ⟨lb', lo', ea', lz0, lz1, lz2, lz3⟩ := link_at Q2.out hz
  obtain rfl : p2 = some ⟨lb, lo, none⟩ := ea
  obtain ⟨rfl, rfl⟩ : lb = lb' ∧ lo = lo' := by simpa using ea'
  rw [na1] at la0
  rw [nz2] at lz1
  have HG := Lib.hid (show (f = 0 ∧ (netOf p).ringF f way = (if (netOf p).to (way.getD ln 0) = (netOf p).fr (way.getD 0 0) ∧ 0 < (netOf p).wt way then way else [])) ∨ (∃ g, f = g + 1 ∧ (netOf p).ringF f way = (if (netOf p).to (way.getD ln 0) = (netOf p).fr (way.getD 0 0) then [] else if (way.dropLast.map (netOf p).to).contains ((netOf p).to (way.getD ln 0)) then [] else firstV (fun k => if way.getD 0 0 < k ∧ (netOf p).fr k = (netOf p).to (way.getD ln 0) then (netOf p).ringF g (way ++ [k]) else []) (netOf p).nl)) from by
    cases f with
    | zero => left; exact ⟨rfl, by rw [ring_zero, eA, eZ]⟩
    | succ g => right; exact ⟨g, rfl, by rw [ring_succ, eA, eZ]⟩)
  have HWB := Lib.hid (fun i (hi : i ≤ way.length) => wt_bd (netOf p) hF (way.take i) (fun x hx => hlt x (List.mem_of_mem_take hx)))
  obtain ⟨most, hmost⟩ : ∃ m : Int, ((way.length + f : Nat) : Int) = m := ⟨_, rfl⟩
  rw [hmost, nI_length, hln]
  have HM := Lib.hid (show most = (ln : Int) + 1 + f from by rw [← hmost, hln]; simp)
  have hm6 : most ≤ 6 := by omega
  have hln6 : ln ≤ 5 := by omega
  clear hmost
  obtain ⟨FA, hFA⟩ : ∃ n : Nat, (netOf p).fr (way.getD 0 0) = n := ⟨_, rfl⟩
  obtain ⟨TZ, hTZ⟩ : ∃ n : Nat, (netOf p).to (way.getD ln 0) = n := ⟨_, rfl⟩
  rw [hFA] at la0 HG
  rw [hTZ] at lz1 HG
  have HFA := Lib.hid hFA
  have HTZ := Lib.hid hTZ
  obtain ⟨A, hA⟩ : ∃ n : Nat, way.getD 0 0 = n := ⟨_, rfl⟩
  obtain ⟨Z, hZ⟩ : ∃ n : Nat, way.getD ln 0 = n := ⟨_, rfl⟩
  rw [hA] at wa la0 la1 la2 la3 HG HFA ha
  rw [hZ] at wz lz0 lz1 lz2 lz3 HTZ hz
  have HA := Lib.hid hA
  have HZ := Lib.hid hZ
  have hai : (A : Int) < (p.2.2.1.length : Int) := by omega
  have hzi : (Z : Int) < (p.2.2.1.length : Int) := by omega
  have HLN := Lib.hid hln
  have HLEN := Lib.hid hlen
  clear hw hV hne hlt hp hF eA eZ na1 na2 na3 na4 nz1 nz2 nz3 nz4 lz0 lz2 lz3 la1 la2 la3 ha hz ez1 ea' hFA hTZ hA hZ hln hlen
  show Calls Tryz.prog 74 #[.agg #[.int .i64 p.1, .slice p1 p.2.1.length k1, .slice (some ⟨lb, lo, none⟩) p.2.2.1.length k2, .slice p3 p.2.2.2.1.length k3, .slice p4 p.2.2.2.2.length k4], .slice (some ⟨ba, oa, none⟩) (ln + 1) vk, .int .i64 most] w _
  go_enter Tryz.func74, Tryz.ntmps74
  obtain ⟨W0, hW0, hwW, hsz0, hbx⟩ : ∃ W0, W0 = w.alloc (.cells #[.int .i64 p.1, .slice p1 p.2.1.length k1, .slice (some ⟨lb, lo, none⟩) p.2.2.1.length k2, .slice p3 p.2.2.2.1.length k3, .slice p4 p.2.2.2.2.length k4] 34) ∧ Bel w W0 ∧ W0.heap.size = w.heap.size + 1 ∧ W0.cell? ⟨w.heap.size, 0, none⟩ = some (.int .i64 p.1) ∧ W0.cell? ⟨w.heap.size, 1, none⟩ = some (.slice p1 p.2.1.length k1) ∧ W0.cell? ⟨w.heap.size, 2, none⟩ = some (.slice (some ⟨lb, lo, none⟩) p.2.2.1.length k2) ∧ W0.cell? ⟨w.heap.size, 3, none⟩ = some (.slice p3 p.2.2.2.1.length k3) ∧ W0.cell? ⟨w.heap.size, 4, none⟩ = some (.slice p4 p.2.2.2.2.length k4) := ⟨_, rfl, by (repeat (first | assumption | exact Bel.refl _ | apply Bel.drewN | apply Bel.drew | apply Bel.alloc | refine Bel.trans ?_ (by assumption))), by simp, by simp [go_sem], by simp [go_sem], by simp [go_sem], by simp [go_sem], by simp [go_sem]⟩
  have HBX := Lib.hid (show ∀ W, Bel W0 W → W.cell? ⟨w.heap.size, 0, none⟩ = some (.int .i64 p.1) ∧ W.cell? ⟨w.heap.size, 1, none⟩ = some (.slice p1 p.2.1.length k1) ∧ W.cell? ⟨w.heap.size, 2, none⟩ = some (.slice (some ⟨lb, lo, none⟩) p.2.2.1.length k2) ∧ W.cell? ⟨w.heap.size, 3, none⟩ = some (.slice p3 p.2.2.2.1.length k3) ∧ W.cell? ⟨w.heap.size, 4, none⟩ = some (.slice p4 p.2.2.2.2.length k4) from fun W hW => keep5 hbx hW)
  clear hbx
  simp only [Nat.add_zero] at wa
  have HWA := Lib.hid wa
  have wa := hwW.cell wa
  have wz := hwW.cell wz
  have la0 := hwW.cell la0
  have lz1 := hwW.cell lz1
  obtain ⟨b0, b1, b2, b3, b4⟩ := HBX.out W0 (Bel.refl _)
  go_wp2_with fail
  rw [← hW0]
  clear hW0
  go_quiet (fail)
  go_wp2_with fail
  go_quiet (fail)
  clear b0 b1 b2 b3 b4 wa wz la0 lz1
  by_cases hc : TZ = FA
  · obtain rfl : FA = TZ := hc.symm
    clear hc
    go_wp2_with fail
    go_loopw [9, 41] (fun c i wr => ∃ (k : Nat) (s : Int), k ≤ ln + 1 ∧ i = .int .i64 k ∧ c = .int .i64 s ∧ s = (netOf p).wt (way.take k) ∧ Bel W0 wr) (fun _ i _ => ln + 1 - (intOf i).toNat)
    case atStart => exact ⟨0, 0, Nat.zero_le _, rfl, rfl, by simp [Net.wt], by (repeat (first | assumption | exact Bel.refl _ | apply Bel.drewN | apply Bel.drew | apply Bel.alloc | refine Bel.trans ?_ (by assumption)))⟩
    case round =>
      obtain ⟨k, s, hk, rfl, rfl, hs, hB⟩ := hrel
      have hB2 : Bel w wr := hwW.trans hB
      have hsb := HWB.out k (by rw [HLN.out]; exact hk)
      rw [← hs] at hsb
      have hsl : (way.take k).length ≤ 6 := Nat.le_trans (List.length_take_le _ _) (by omega)
      have hs0 : -360 ≤ s := by omega
      have hs1 : s ≤ 432 := by omega
      have HS0 := Lib.hid hs
      clear hs hsb hsl
      by_cases hlt : k < ln + 1
      · obtain ⟨bk, ok, ek, wk⟩ := HWI.out k (by rw [HLN.out]; exact hlt)
        obtain ⟨rfl, rfl⟩ : ba = bk ∧ oa = ok := by simpa using (show some (⟨ba, oa, none⟩ : Addr) = some ⟨bk, ok, none⟩ from ek)
        have wk := hB2.cell wk
        rw [nI_at] at wk
        have HJ := Lib.hid (HLT.out _ (getD_in (l := way) (i := k) (by rw [HLN.out]; exact hlt)))
        have HNX := Lib.hid (wt_take (netOf p) way (i := k) (by rw [HLN.out]; exact hlt))
        obtain ⟨J, hJ⟩ : ∃ n : Nat, way.getD k 0 = n := ⟨_, rfl⟩
        rw [hJ] at wk HJ HNX
        obtain ⟨-, -, -, -, -, hg0, hg1⟩ := netOf_at HPO.out HJ.out
        obtain ⟨b0, b1, b2, b3, b4⟩ := HBX.out wr hB
        clear hJ ek
        go_wp2_with fail
        refine (l07All_any _ p S J _ (HP1.out _ (by (repeat (first | assumption | exact Bel.refl _ | apply Bel.drewN | apply Bel.drew | apply Bel.alloc | refine Bel.trans ?_ (by assumption))))) (fun b hb => Nat.lt_of_lt_of_le (HS.out b hb) (Bel.size (by (repeat (first | assumption | exact Bel.refl _ | apply Bel.drewN | apply Bel.drew | apply Bel.alloc | refine Bel.trans ?_ (by assumption)))))) HPO.out HJ.out).mono ?_
        rintro e w2 ⟨rfl, g2⟩
        rw [show fullGapV p (p.2.2.1.getD J zLink) = (netOf p).gp J from rfl]
        have HNY := Lib.hid (show s + (netOf p).gp J = (netOf p).wt (way.take (k + 1)) from by rw [HNX.out, HS0.out])
        clear HNX HS0
        generalize (netOf p).gp J = G at *
        clear b0 b1 b2 b3 b4 wk
        go_wp2
        go_roundw
        case rel => exact ⟨k + 1, s + G, by omega, by go_num, rfl, HNY.out, by (repeat (first | assumption | exact Bel.refl _ | apply Bel.drewN | apply Bel.drew | apply Bel.alloc | refine Bel.trans ?_ (by assumption)))⟩
        case measure => simp [intOf]; omega
      · have hkn : k = ln + 1 := by omega
        have HSF := Lib.hid (show s = (netOf p).wt way from by rw [HS0.out, List.take_of_length_le (by rw [HLN.out]; omega)])
        clear HS0 hkn
        by_cases hs : 0 < s
        · by_cases hm : most = (ln : Int) + 1
          · have HR := Lib.hid (show (netOf p).ringF f way = way from by
              rcases HG.out with ⟨_, h⟩ | ⟨g, hg, _⟩
              · rw [h]; have h7 := HSF.out; simp [← h7, hs]
              · have := HM.out; omega)
            subst hm
            go_wp2
            go_ret
            exact ⟨_, rfl, by rw [HR.out]; exact intsR_good.mono (intsR_good.bel HWL.out hB2 HV.out) (fun b hb => Or.inl hb), hB2⟩
          · have HR := Lib.hid (show (netOf p).ringF f way = [] from by
              rcases HG.out with ⟨h0, _⟩ | ⟨g, hg, h⟩
              · have := HM.out; omega
              · rw [h]; simp)
            have hm2 : ¬ (ln : Int) + 1 = most := fun e => hm e.symm
            have hmm : ((ln : Int) + 1 == most) = false := by simpa using hm2
            clear hm
            go_wp2
            go_ret
            rw [HR.out]
            exact RingRes.nil hB2
        · have HR := Lib.hid (show (netOf p).ringF f way = [] from by
            rcases HG.out with ⟨h0, h⟩ | ⟨g, hg, h⟩
            · rw [h]; have h7 := HSF.out; simp [← h7, hs]
            · rw [h]; simp)
          go_wp2
          go_ret
          rw [HR.out]
          exact RingRes.nil hB2
  · have hcb : ((TZ : Int) == (FA : Int)) = false := by simpa using (by omega : ¬ (TZ : Int) = (FA : Int))
    by_cases hm : most = (ln : Int) + 1
    · have HR := Lib.hid (show (netOf p).ringF f way = [] from by
        rcases HG.out with ⟨h0, h⟩ | ⟨g, hg, h⟩
        · rw [h, if_neg (by rintro ⟨h, _⟩; exact hc h)]
        · have := HM.out; omega)
      subst hm
      go_wp2
      go_ret
      rw [HR.out]
      exact RingRes.nil (by (repeat (first | assumption | exact Bel.refl _ | apply Bel.drewN | apply Bel.drew | apply Bel.alloc | refine Bel.trans ?_ (by assumption))))
    obtain ⟨g, hg, hr⟩ : ∃ g, f = g + 1 ∧ (netOf p).ringF f way = (if (way.dropLast.map (netOf p).to).contains TZ then [] else firstV (fun k => if A < k ∧ (netOf p).fr k = TZ then (netOf p).ringF g (way ++ [k]) else []) (netOf p).nl) := by
      rcases HG.out with ⟨h0, h⟩ | ⟨g, hg, h⟩
      · have := HM.out; omega
      · exact ⟨g, hg, by rw [h, if_neg hc]⟩
    have HR := Lib.hid hr
    have HGF := Lib.hid hg
    have hm2 : ¬ (ln : Int) + 1 = most := fun e => hm e.symm
    have hmm : ((ln : Int) + 1 == most) = false := by simpa using hm2
    have hl0 : (0 : Int) ≤ (ln : Int) := by omega
    have hlk : (ln : Int) ≤ (vk : Int) := by omega
    clear hr hg hm HG
    go_wp2_with fail
    clear hmm hm2
    go_loopw [70] (fun i wr => ∃ (k : Nat), k ≤ ln ∧ i = .int .i64 k ∧ (∀ j, j < k → (netOf p).to (way.getD j 0) ≠ TZ) ∧ Bel W0 wr) (fun i _ => ln - (intOf i).toNat)
    case atStart => exact ⟨0, Nat.zero_le _, rfl, fun j hj => by omega, by (repeat (first | assumption | exact Bel.refl _ | apply Bel.drewN | apply Bel.drew | apply Bel.alloc | refine Bel.trans ?_ (by assumption)))⟩
    case round =>
      obtain ⟨k, hk, rfl, hall, hB⟩ := hrel
      have HALL := Lib.hid hall; clear hall
      have hB2 : Bel w wr := hwW.trans hB
      obtain ⟨b0, b1, b2, b3, b4⟩ := HBX.out wr hB
      by_cases hlt : k < ln
      · obtain ⟨bk, ok, ek, wk⟩ := HWI.out k (by rw [HLN.out]; omega)
        obtain ⟨rfl, rfl⟩ : ba = bk ∧ oa = ok := by simpa using (show some (⟨ba, oa, none⟩ : Addr) = some ⟨bk, ok, none⟩ from ek)
        have wk := hB2.cell wk
        rw [nI_at] at wk
        have hJ := HLT.out _ (getD_in (l := way) (i := k) (by rw [HLN.out]; omega))
        have HNX := Lib.hid (show (netOf p).to (way.getD k 0) = TZ → ((way.dropLast.map (netOf p).to).contains TZ) = true from drop_yes (by rw [HLN.out]; omega))
        have HNO := Lib.hid (show (netOf p).to (way.getD k 0) ≠ TZ → ∀ j, j < k + 1 → (netOf p).to (way.getD j 0) ≠ TZ from fun h j hj => by
          by_cases e : j = k
          · rw [e]; exact h
          · exact HALL.out j (by omega))
        obtain ⟨J, hJJ⟩ : ∃ n : Nat, way.getD k 0 = n := ⟨_, rfl⟩
        rw [hJJ] at wk hJ HNX HNO
        obtain ⟨-, nj2, -, -, -, -, -⟩ := netOf_at HPO.out hJ
        obtain ⟨lb', lo', ea', lj0, lj1, lj2, lj3⟩ := link_at Q2.out hJ
        obtain ⟨rfl, rfl⟩ : lb = lb' ∧ lo = lo' := by simpa using ea'
        rw [nj2] at lj1
        have lj1 := hB2.cell lj1
        have hji : (J : Int) < (p.2.2.1.length : Int) := by omega
        obtain ⟨TJ, hTJ⟩ : ∃ n : Nat, (netOf p).to J = n := ⟨_, rfl⟩
        rw [hTJ] at lj1 HNX HNO
        clear hJJ ek ea' nj2 hTJ lj0 lj2 lj3 hJ
        by_cases hh : TJ = TZ
        · have HRR := Lib.hid (show (netOf p).ringF f way = [] from by rw [HR.out, if_pos (HNX.out hh)])
          obtain rfl := hh
          go_wp2
          go_ret
          rw [HRR.out]
          exact RingRes.nil hB2
        · have HNN := Lib.hid (HNO.out hh)
          go_wp2
          go_roundw
          case rel => exact ⟨k + 1, by omega, by go_num, HNN.out, hB⟩
          case measure => simp [intOf]; omega
      · have HRR := Lib.hid (show (netOf p).ringF f way = firstV (fun k => if A < k ∧ (netOf p).fr k = TZ then (netOf p).ringF g (way ++ [k]) else []) p.2.2.1.length from by
          rw [HR.out, drop_no (fun j hj => HALL.out j (by rw [HLN.out] at hj; omega)), if_neg (by simp)]
          rfl)
        clear HR HALL
        obtain ⟨W1, hW1⟩ : ∃ W, W = wr := ⟨wr, rfl⟩
        subst hW1
        go_wp2_with fail
        clear b0 b1 b2 b3 b4
        go_loopw [86] (fun i wr => ∃ (k : Nat), k ≤ p.2.2.1.length ∧ i = .int .i64 k ∧ (∀ j, j < k → (if A < j ∧ (netOf p).fr j = TZ then (netOf p).ringF g (way ++ [j]) else []) = []) ∧ Bel W0 wr) (fun i _ => p.2.2.1.length - (intOf i).toNat)
        case atStart => exact ⟨0, Nat.zero_le _, rfl, fun j hj => by omega, hB⟩
        case round =>
          clear hB hB2
          obtain ⟨k, hk, rfl, hall, hB⟩ := hrel
          have HALL := Lib.hid hall; clear hall
          have hB2 : Bel w wr := hwW.trans hB
          obtain ⟨b0, b1, b2, b3, b4⟩ := HBX.out wr hB
          have wa := hB2.cell (p := ⟨ba, oa, none⟩) (v := .int .i64 (A : Int)) HWA.out
          by_cases hlt : k < p.2.2.1.length
          · obtain ⟨nk1, nk2, nk3, nk4, -, -, -⟩ := netOf_at HPO.out hlt
            obtain ⟨lb', lo', ea', lk0, lk1, lk2, lk3⟩ := link_at Q2.out hlt
            obtain ⟨rfl, rfl⟩ : lb = lb' ∧ lo = lo' := by simpa using ea'
            rw [nk1] at lk0
            have lk0 := hB2.cell lk0
            have lk1 := hB2.cell lk1
            have lk2 := hB2.cell lk2
            have lk3 := hB2.cell lk3
            have HKL := Lib.hid hlt
            have HNO := Lib.hid (show (if A < k ∧ (netOf p).fr k = TZ then (netOf p).ringF g (way ++ [k]) else []) = [] → ∀ j, j < k + 1 → (if A < j ∧ (netOf p).fr j = TZ then (netOf p).ringF g (way ++ [j]) else []) = [] from fun h j hj => by
              by_cases e : j = k
              · rw [e]; exact h
              · exact HALL.out j (by omega))
            have HY := Lib.hid (show A < k ∧ (netOf p).fr k = TZ → (if A < k ∧ (netOf p).fr k = TZ then (netOf p).ringF g (way ++ [k]) else []) = (netOf p).ringF g (way ++ [k]) from fun h => if_pos h)
            have HN := Lib.hid (show ¬ (A < k ∧ (netOf p).fr k = TZ) → (if A < k ∧ (netOf p).fr k = TZ then (netOf p).ringF g (way ++ [k]) else []) = [] from fun h => if_neg h)
            have HHIT := Lib.hid (show (if A < k ∧ (netOf p).fr k = TZ then (netOf p).ringF g (way ++ [k]) else []) ≠ [] → (netOf p).ringF f way = (if A < k ∧ (netOf p).fr k = TZ then (netOf p).ringF g (way ++ [k]) else []) from fun h => by rw [HRR.out]; exact firstV_hit hlt h HALL.out)
            generalize (if A < k ∧ (netOf p).fr k = TZ then (netOf p).ringF g (way ++ [k]) else []) = CK at *
            generalize (netOf p).fr k = FK at *
            have awa := fun o => ((Bel.refl wr).alloc o).cell wa
            have hka : (k : Int) ≤ (A : Int) ∨ (A : Int) < (k : Int) := by omega
            generalize p.2.2.1.getD k zLink = X at *
            clear ea' nk1 nk2 nk3 nk4
            by_cases h1 : FK = TZ
            rotate_left
            · have HNN := Lib.hid (HNO.out (HN.out (fun h => h1 h.2)))
              have h1i : ((FK : Int) != (TZ : Int)) = true := by simpa using (by omega : ¬ (FK : Int) = (TZ : Int))
              have h1j : (FK != TZ) = true := by simpa using h1
              go_wp2
              go_roundw
              case rel => exact ⟨k + 1, by omega, by go_num, HNN.out, by (repeat (first | assumption | exact Bel.refl _ | apply Bel.drewN | apply Bel.drew | apply Bel.alloc | refine Bel.trans ?_ (by assumption)))⟩
              case measure => simp [intOf]; omega
            obtain rfl := h1
            by_cases h2 : A < k
            rotate_left
            · have HNN := Lib.hid (HNO.out (HN.out (fun h => h2 h.1)))
              have h2i : (k : Int) ≤ (A : Int) := by omega
              clear hka
              go_wp2
              go_roundw
              case rel => exact ⟨k + 1, by omega, by go_num, HNN.out, by (repeat (first | assumption | exact Bel.refl _ | apply Bel.drewN | apply Bel.drew | apply Bel.alloc | refine Bel.trans ?_ (by assumption)))⟩
              case measure => simp [intOf]; omega
            have HC := Lib.hid (HY.out ⟨h2, rfl⟩)
            clear HY HN hka
            have h2i : (A : Int) < (k : Int) := by omega
            have HREC := Lib.hid (show ∀ W, Bel W0 W → ∀ v1 V2, intsR V2 W [v1] (nI way ++ [(k : Int)]) → (∀ b, V2 b → b < W.heap.size) → Calls Tryz.prog 74 #[.agg #[.int .i64 p.1, .slice p1 p.2.1.length k1, .slice (some ⟨lb, lo, none⟩) p.2.2.1.length k2, .slice p3 p.2.2.2.1.length k3, .slice p4 p.2.2.2.2.length k4], v1, .int .i64 most] W (RingRes W V2 ((netOf p).ringF g (way ++ [k]))) from fun W hW v1 V2 h hV2 => by
              have h5 := HIH.out g HGF.out _ p S v1 (way ++ [k]) V2 W (HP1.out W (hwW.trans hW)) (fun b hb => Nat.lt_of_lt_of_le (HS.out b hb) (Bel.size (hwW.trans hW))) HPO.out (by rw [nI_append, nI_one]; exact h) hV2 (by simp) (fun x hx => by
                rcases List.mem_append.1 hx with hx | hx
                · exact HLT.out x hx
                · rw [List.mem_singleton.1 hx]; exact HKL.out) (by have := HLEN.out; have := HGF.out; simp; omega)
              rw [show (((way ++ [k]).length + g : Nat) : Int) = most from by rw [HM.out, HGF.out, List.length_append, HLN.out]; simp; omega] at h5
              exact h5)
            have hszB := hB.size
            have hwa1 : (nI way).length = ln + 1 := by rw [nI_length, HLN.out]
            have HWA1 := Lib.hid hwa1
            clear hwa1
            go_upto_region 25 with (fail)
            go_cut [16] (fun s wx => CutI wr (nI ((netOf p).ringF g (way ++ [k]))) s wx)
            case first =>
              go_region_held3 (fun W => W.cell? ⟨w.heap.size, 0, none⟩ = some (.int .i64 p.1) ∧ W.cell? ⟨w.heap.size, 1, none⟩ = some (.slice p1 p.2.1.length k1) ∧ W.cell? ⟨w.heap.size, 2, none⟩ = some (.slice (some ⟨lb, lo, none⟩) p.2.2.1.length k2) ∧ W.cell? ⟨w.heap.size, 3, none⟩ = some (.slice p3 p.2.2.2.1.length k3) ∧ W.cell? ⟨w.heap.size, 4, none⟩ = some (.slice p4 p.2.2.2.2.length k4)) (exact HBX.out _ (by (repeat (first | assumption | exact Bel.refl _ | apply Bel.drewN | apply Bel.drew | apply Bel.alloc | refine Bel.trans ?_ (by assumption)))))
                (first | (go_at_call 74; (with_reducible refine (HREC.out _ (by (repeat (first | assumption | exact Bel.refl _ | apply Bel.drewN | apply Bel.drew | apply Bel.alloc | refine Bel.trans ?_ (by assumption)))) _ (New wr _) (HX2.out _ (by omega)) HX3.out).mono ?_); rintro e wa3 ⟨vr, rfl, hr, gr⟩) | ((refine step_apps (B := wr.heap.size) _ (by rfl) _ _ 25 (by rfl) (.int .i64 0) 8 Tryz.underlying25 (by kernel_rfl) rfl (by decide) _ _ _ [] (by rfl) (OwnI.empty (by (first | exact alloc_at (by simp) | exact drew_keep (alloc_at (by simp)) | exact alloc_keep (alloc_at (by simp)) | exact drew_keep (alloc_keep (alloc_at (by simp))))) (by first | exact Nat.le_refl _ | omega | (simp; done) | (simp; omega))) (by rfl) _ _ _ (nI way) V (by rfl) (intsR_good.bel HW.out (by (repeat (first | assumption | exact Bel.refl _ | apply Bel.drewN | apply Bel.drew | apply Bel.alloc | refine Bel.trans ?_ (by assumption)))) HV.out) HWA1.out (fun h => by cases h) (by first | omega | (simp; omega)) (by first | omega | (simp; done) | (simp; omega)) ?_); intro q1 cq1 wa1 hO1 hG1 hN1; have hb1 := hG1.bel W0 (by (repeat (first | assumption | exact Bel.refl _ | apply Bel.drewN | apply Bel.drew | apply Bel.alloc | refine Bel.trans ?_ (by assumption)))) hszB; have hc1 := hG1.bel wr (by (repeat (first | assumption | exact Bel.refl _ | apply Bel.drewN | apply Bel.drew | apply Bel.alloc | refine Bel.trans ?_ (by assumption)))) (Nat.le_refl _)) | ((refine step_apps (B := wr.heap.size) _ (by rfl) _ _ 25 (by rfl) (.int .i64 0) 8 Tryz.underlying25 (by kernel_rfl) rfl (by decide) _ _ _ ([] ++ nI way) (by rfl) (hO1.bel (by (repeat (first | assumption | exact Bel.refl _ | apply Bel.drewN | apply Bel.drew | apply Bel.alloc | refine Bel.trans ?_ (by assumption))))) (by have h := HWA1.out; simp only [List.nil_append]; omega) _ _ _ [(k : Int)] (fun b => b = _) (by rfl) (intsR_cell (by first | (exact alloc_at (by simp)) | (rw [(hG1.far _ (by first | omega | (simp; done) | (simp; omega)) (by intro a ha; cases ha; first | omega | (simp; done) | (simp; omega))).1]; (first | exact alloc_at (by simp) | exact drew_keep (alloc_at (by simp)) | exact alloc_keep (alloc_at (by simp)) | exact drew_keep (alloc_keep (alloc_at (by simp)))))) (by unfold I64; omega)) rfl (fun h => by cases h) (by first | omega | (simp; omega)) (by first | exact hc1.size | exact Nat.le_trans hc1.size (Bel.size (by (repeat (first | assumption | exact Bel.refl _ | apply Bel.drewN | apply Bel.drew | apply Bel.alloc | refine Bel.trans ?_ (by assumption)))))) ?_); intro q2 cq2 wa2 hO2 hG2 hN2; have hb2 := hG2.bel W0 (by (repeat (first | assumption | exact Bel.refl _ | apply Bel.drewN | apply Bel.drew | apply Bel.alloc | refine Bel.trans ?_ (by assumption)))) hszB; have hc2 := hG2.bel wr (by (repeat (first | assumption | exact Bel.refl _ | apply Bel.drewN | apply Bel.drew | apply Bel.alloc | refine Bel.trans ?_ (by assumption)))) (Nat.le_refl _); have HX2 := Lib.hid (show ∀ n, n = ln + 1 + 1 → intsR (New wr wa2) wa2 [.slice q2 n cq2] (nI way ++ [(k : Int)]) from fun n hn => by have h := hO2.done (T := New wr wa2) (fun b h1 h2 => ⟨h1, h2⟩); rw [List.nil_append, show (nI way ++ [(k : Int)]).length = n from by rw [List.length_append, HWA1.out, hn]; rfl] at h; exact h); have HX3 := Lib.hid (show ∀ b, New wr wa2 b → b < wa2.heap.size from fun b hb => hb.2)))
              all_goals (go_wp2_with fail; go_meet; exact ⟨intsR_good.mono hr (fun b hb => by rcases hb with hb | hb; exact ⟨hb.1, Nat.lt_of_lt_of_le hb.2 gr.size⟩; exact ⟨Nat.le_trans hc2.size hb.1, hb.2⟩), hc2.trans gr⟩)
            case rest =>
              obtain ⟨hres, hBx⟩ := hcut
              have HRES := Lib.hid hres
              obtain ⟨rp, rk, rfl, rl, rl', -⟩ := sliceR_open hres
              rw [nI_length]
              clear hres
              have hBx0 := hB.trans hBx
              by_cases hemp : (netOf p).ringF g (way ++ [k]) = []
              · have hz0 : ((netOf p).ringF g (way ++ [k])).length = 0 := by rw [hemp]; rfl
                have HNN := Lib.hid (HNO.out (HC.out.trans hemp))
                rw [hz0]
                clear hemp hz0
                go_wp2
                go_roundw
                case rel => exact ⟨k + 1, by omega, by go_num, HNN.out, hBx0⟩
                case measure => simp [intOf]; omega
              · have hpos := List.length_pos_iff.2 hemp
                have HE := Lib.hid (show (netOf p).ringF f way = (netOf p).ringF g (way ++ [k]) from by rw [← HC.out]; exact HHIT.out (by rw [HC.out]; exact hemp))
                have HLL := Lib.hid (nI_length ((netOf p).ringF g (way ++ [k])))
                rw [HLL.out] at HRES
                generalize ((netOf p).ringF g (way ++ [k])).length = rn at *
                go_wp2
                go_ret
                rw [HE.out]
                have hs1 := hB2.size
                exact ⟨_, rfl, intsR_good.mono HRES.out (fun b hb => Or.inr ⟨by have := hb.1; omega, hb.2⟩), hB2.trans hBx⟩
          · have HRX := Lib.hid (show (netOf p).ringF f way = [] from by rw [HRR.out]; exact firstV_miss fun j hj => HALL.out j (by omega))
            go_wp2
            go_ret
            rw [HRX.out]
            exact RingRes.nil hB2

end Go.Proofs.YtclmffknggmlnaaGreat
