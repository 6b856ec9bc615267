/- Contracts of DomainForm. -/
import Derived.Test.YthkcdmghchikjaaGreatSetOk
import Derived.Test.YthkcdmghchikjaaGreatRange
import Derived.Test.YthkcdmghchikjaaGreatMode
import Derived.Test.YthkcdmghchikjaaGreatHas
import Derived.Test.YthkcdmghchikjaaGreatKeep
import Derived.Deep.RegionHeld3
namespace Go.Proofs.YthkcdmghchikjaaGreat
open Go.ChangeShapes Go.WideShapes Go.ChangeAt Go.RowKit
set_option linter.unusedVariables false

def formD (p : ProjT) (b : DomT) (i : Nat) : Bool := inBv (b.1.getD i 0) (-2) 62 && (inBv (b.2.1.getD i 0) (-2) 62 && (setOkB (b.2.2.getD i []) && subB (b.2.2.getD i []) (rangeL (p.2.1.getD i zAct).2.2.length)))
def domFormB (p : ProjT) (b : DomT) : Bool := projOk p && (decide (b.1.length = p.2.1.length) && (decide (b.2.1.length = p.2.1.length) && (decide (b.2.2.length = p.2.1.length) && (List.range p.2.1.length).all (formD p b))))
theorem domForm_no1 {p : ProjT} {b : DomT} (h : projOk p = false) : domFormB p b = false := by unfold domFormB; rw [h]; rfl
theorem domForm_no2 {p : ProjT} {b : DomT} (h : ¬ b.1.length = p.2.1.length) : domFormB p b = false := by unfold domFormB; rw [decide_eq_false h]; simp
theorem domForm_no3 {p : ProjT} {b : DomT} (h : ¬ b.2.1.length = p.2.1.length) : domFormB p b = false := by unfold domFormB; rw [decide_eq_false h]; simp
theorem domForm_no4 {p : ProjT} {b : DomT} (h : ¬ b.2.2.length = p.2.1.length) : domFormB p b = false := by unfold domFormB; rw [decide_eq_false h]; simp
theorem domForm_no5 {p : ProjT} {b : DomT} {k : Nat} (hk : k < p.2.1.length) (h : formD p b k = false) : domFormB p b = false := by unfold domFormB; rw [all_false hk h]; simp
theorem domForm_yes {p : ProjT} {b : DomT} (h1 : projOk p = true) (h2 : b.1.length = p.2.1.length) (h3 : b.2.1.length = p.2.1.length) (h4 : b.2.2.length = p.2.1.length) (h : ∀ j, j < p.2.1.length → formD p b j = true) : domFormB p b = true := by
  unfold domFormB; rw [h1, decide_eq_true h2, decide_eq_true h3, decide_eq_true h4, all_true h]; rfl

theorem isStart_any (n : Int) (w : World) : Calls Tryz.prog 117 #[.int .i64 n] w fun e w' => e = .returned (.bool (inB n (-2) 62)) ∧ w = w' := by
  go_enter Tryz.func117, Tryz.ntmps117
  go_wp2_with (go_at_call 89; refine (within_any _ _ _ _).mono ?_; rintro e w' ⟨rfl, rfl⟩)
  go_ret
  exact ⟨rfl, rfl⟩

set_option maxRecDepth 100000 in
set_option maxHeartbeats 4000000 in
theorem iDomainForm_any (v : Value) (p : ProjT) (S : Nat → Prop) (v0 : Value) (x0 : DomT) (S0 : Nat → Prop) (w : World) (hx : aggR projR S w v p) (hS : ∀ b, S b → b < w.heap.size) (_hn : bulkProject p ≤ 1048576) (h0 : aggR domR S0 w v0 x0) (_hS0 : ∀ b, S0 b → b < w.heap.size) (_hn0 : bulkDomain x0 ≤ 1048576) :
    Calls Tryz.prog 68 #[v, v0] w fun e w' => e = .returned (.bool (domFormB p x0)) ∧ Bel w w' := by
  obtain ⟨cs, rfl, hx⟩ := hx
  obtain ⟨y1, y2, y3, y4, rfl, q0, q1, q2, q3, q4⟩ := projR_open hx
  have Q1 := Lib.hid q1
  have Q2 := Lib.hid q2
  have Q3 := Lib.hid q3
  have Q4 := Lib.hid q4
  have HP := Lib.hid hx
  obtain ⟨p1, k1, rfl, l1, l1', -⟩ := sliceR_open q1
  obtain ⟨p2, k2, rfl, l2, l2', -⟩ := sliceR_open q2
  obtain ⟨p3, k3, rfl, l3, l3', -⟩ := sliceR_open q3
  obtain ⟨p4, k4, rfl, l4, l4', -⟩ := sliceR_open q4
  unfold maxLen at l1' l2' l3' l4'
  clear hx q0 q1 q2 q3 q4
  obtain ⟨cs0, rfl, h0⟩ := h0
  obtain ⟨c0, c1, c2, rfl, q00, q01, q02⟩ := domR_open h0
  obtain ⟨ls, us, ms⟩ := x0
  simp only at q00 q01 q02
  have A00 := Lib.hid (fun i hi => intsR_at' q00 (i := i) hi)
  have A01 := Lib.hid (fun i hi => intsR_at' q01 (i := i) hi)
  obtain ⟨p00, cap00, rfl, l00, l00', _⟩ := sliceR_open q00
  obtain ⟨p01, cap01, rfl, l01, l01', _⟩ := sliceR_open q01
  have Q02 := Lib.hid q02
  obtain ⟨p02, cap02, rfl, l02, l02', _⟩ := sliceR_open q02
  unfold maxLen at l00' l01' l02'
  clear h0 q00 q01 q02
  have HS := Lib.hid hS
  have HS0 := Lib.hid _hS0
  clear hS _hn _hS0 _hn0
  have HP1 := Lib.hid (show ∀ W, Bel w W → aggR projR S W (.agg #[.int .i64 p.1, .slice p1 p.2.1.length k1, .slice p2 p.2.2.1.length k2, .slice p3 p.2.2.2.1.length k3, .slice p4 p.2.2.2.2.length k4]) p from fun W hW => aggR_mk (projR_good.bel HP.out hW HS.out))
  show Calls Tryz.prog 68 #[.agg #[.int .i64 p.1, .slice p1 p.2.1.length k1, .slice p2 p.2.2.1.length k2, .slice p3 p.2.2.2.1.length k3, .slice p4 p.2.2.2.2.length k4], .agg #[.slice p00 ls.length cap00, .slice p01 us.length cap01, .slice p02 ms.length cap02]] w _
  go_enter Tryz.func68, Tryz.ntmps68
  go_wp2_with fail
  refine (iProjectOk_any _ p S _ (HP1.out _ (by (repeat (first | assumption | exact Bel.refl _ | apply Bel.drewN | apply Bel.drew | apply Bel.alloc | refine Bel.trans ?_ (by assumption))))) (fun b hb => Nat.lt_of_lt_of_le (HS.out b hb) (Bel.size (by (repeat (first | assumption | exact Bel.refl _ | apply Bel.drewN | apply Bel.drew | apply Bel.alloc | refine Bel.trans ?_ (by assumption))))))).mono ?_
  rintro e w1 ⟨rfl, g1⟩
  have b0 := g1.cell (p := ⟨w.heap.size, 0, none⟩) (v := .int .i64 p.1) (by simp [go_sem])
  have b1 := g1.cell (p := ⟨w.heap.size, 1, none⟩) (v := .slice p1 p.2.1.length k1) (by simp [go_sem])
  have b2 := g1.cell (p := ⟨w.heap.size, 2, none⟩) (v := .slice p2 p.2.2.1.length k2) (by simp [go_sem])
  have b3 := g1.cell (p := ⟨w.heap.size, 3, none⟩) (v := .slice p3 p.2.2.2.1.length k3) (by simp [go_sem])
  have b4 := g1.cell (p := ⟨w.heap.size, 4, none⟩) (v := .slice p4 p.2.2.2.2.length k4) (by simp [go_sem])
  have c0 := g1.cell (p := ⟨w.heap.size + 1, 0, none⟩) (v := .slice p00 ls.length cap00) (by simp [go_sem])
  have c1 := g1.cell (p := ⟨w.heap.size + 1, 1, none⟩) (v := .slice p01 us.length cap01) (by simp [go_sem])
  have c2 := g1.cell (p := ⟨w.heap.size + 1, 2, none⟩) (v := .slice p02 ms.length cap02) (by simp [go_sem])
  have G : Bel w w1 := by (repeat (first | assumption | exact Bel.refl _ | apply Bel.drewN | apply Bel.drew | apply Bel.alloc | refine Bel.trans ?_ (by assumption)))
  cases hp : projOk p
  · have HF := Lib.hid (domForm_no1 (b := (ls, us, ms)) hp)
    clear hp
    go_wp2
    go_ret
    exact ⟨ret_bool HF.out.symm, by (repeat (first | assumption | exact Bel.refl _ | apply Bel.drewN | apply Bel.drew | apply Bel.alloc | refine Bel.trans ?_ (by assumption)))⟩
  have HPO := Lib.hid hp; clear hp
  by_cases h2 : ls.length = p.2.1.length
  rotate_left
  · have HF := Lib.hid (domForm_no2 (p := p) (b := (ls, us, ms)) h2)
    have n2 : (((ls.length : Nat) : Int) != ((p.2.1.length : Nat) : Int)) = true := by simp; omega
    clear h2
    go_wp2
    go_ret
    exact ⟨ret_bool HF.out.symm, by (repeat (first | assumption | exact Bel.refl _ | apply Bel.drewN | apply Bel.drew | apply Bel.alloc | refine Bel.trans ?_ (by assumption)))⟩
  have n2 : (((ls.length : Nat) : Int) != ((p.2.1.length : Nat) : Int)) = false := by simp [h2]
  have H2 := Lib.hid h2; clear h2
  by_cases h3 : us.length = p.2.1.length
  rotate_left
  · have HF := Lib.hid (domForm_no3 (p := p) (b := (ls, us, ms)) h3)
    have n3 : (((us.length : Nat) : Int) != ((p.2.1.length : Nat) : Int)) = true := by simp; omega
    clear h3
    go_wp2
    go_ret
    exact ⟨ret_bool HF.out.symm, by (repeat (first | assumption | exact Bel.refl _ | apply Bel.drewN | apply Bel.drew | apply Bel.alloc | refine Bel.trans ?_ (by assumption)))⟩
  have n3 : (((us.length : Nat) : Int) != ((p.2.1.length : Nat) : Int)) = false := by simp [h3]
  have H3 := Lib.hid h3; clear h3
  by_cases h4 : ms.length = p.2.1.length
  rotate_left
  · have HF := Lib.hid (domForm_no4 (p := p) (b := (ls, us, ms)) h4)
    have n4 : (((ms.length : Nat) : Int) != ((p.2.1.length : Nat) : Int)) = true := by simp; omega
    clear h4
    go_wp2
    go_ret
    exact ⟨ret_bool HF.out.symm, by (repeat (first | assumption | exact Bel.refl _ | apply Bel.drewN | apply Bel.drew | apply Bel.alloc | refine Bel.trans ?_ (by assumption)))⟩
  have n4 : (((ms.length : Nat) : Int) != ((p.2.1.length : Nat) : Int)) = false := by simp [h4]
  have H4 := Lib.hid h4; clear h4
  have KX := Lib.hid (show ∀ W, Bel w1 W → W.cell? ⟨w.heap.size, 0, none⟩ = some (.int .i64 p.1) ∧ W.cell? ⟨w.heap.size, 1, none⟩ = some (.slice p1 p.2.1.length k1) ∧ W.cell? ⟨w.heap.size, 2, none⟩ = some (.slice p2 p.2.2.1.length k2) ∧ W.cell? ⟨w.heap.size, 3, none⟩ = some (.slice p3 p.2.2.2.1.length k3) ∧ W.cell? ⟨w.heap.size, 4, none⟩ = some (.slice p4 p.2.2.2.2.length k4) ∧ W.cell? ⟨w.heap.size + 1, 0, none⟩ = some (.slice p00 ls.length cap00) ∧ W.cell? ⟨w.heap.size + 1, 1, none⟩ = some (.slice p01 us.length cap01) ∧ W.cell? ⟨w.heap.size + 1, 2, none⟩ = some (.slice p02 ms.length cap02) from fun W hW => keep8 (And.intro b0 (And.intro b1 (And.intro b2 (And.intro b3 (And.intro b4 (And.intro c0 (And.intro c1 c2))))))) hW)
  go_wp2_with fail
  clear b0 b1 b2 b3 b4 c0 c1 c2 g1
  go_loopw [38] (fun i wr => ∃ (k : Nat), k ≤ p.2.1.length ∧ i = .int .i64 k ∧ (∀ j, j < k → formD p (ls, us, ms) j = true) ∧ Bel w1 wr) (fun i _ => p.2.1.length - (intOf i).toNat)
  case atStart => exact ⟨0, Nat.zero_le _, rfl, fun j hj => by omega, Bel.refl _⟩
  case round =>
    obtain ⟨k, hk, rfl, hall, hB⟩ := hrel
    have HA := Lib.hid hall; clear hall
    have hB0 : Bel w wr := G.trans hB
    by_cases hlt : k < p.2.1.length
    · obtain ⟨b0, b1, b2, b3, b4, c0, c1, c2⟩ := KX.out wr hB
      have hl0 : k < ls.length := by rw [H2.out]; exact hlt
      have hl1 : k < us.length := by rw [H3.out]; exact hlt
      have hl2 : k < ms.length := by rw [H4.out]; exact hlt
      obtain ⟨ab, ao, acs, aea, arow, ael⟩ := sliceR_at zAct Q1.out hlt
      obtain rfl : p1 = some ⟨ab, ao, none⟩ := aea
      obtain ⟨lb, lo, le, ld⟩ := A00.out k hl0
      obtain rfl : p00 = some ⟨lb, lo, none⟩ := le
      obtain ⟨ub, uo, ue, ud⟩ := A01.out k hl1
      obtain rfl : p01 = some ⟨ub, uo, none⟩ := ue
      obtain ⟨mb, mo, mp, mc, me, md, ml, ml', mr⟩ := rowsR_at Q02.out hl2
      obtain rfl : p02 = some ⟨mb, mo, none⟩ := me
      have ld := hB0.cell ld
      have ud := hB0.cell ud
      have md := hB0.cell md
      have HRW := Lib.hid mr; clear mr
      have hk0 : (k : Int) < (ls.length : Int) := by omega
      have hk1 : (k : Int) < (us.length : Int) := by omega
      have hk2 : (k : Int) < (ms.length : Int) := by omega
      have hkp : (k : Int) < (p.2.1.length : Int) := by omega
      have hxm := (projOk_modes HPO.out hlt).2
      have HA1 := Lib.hid (show formD p (ls, us, ms) k = (inBv (ls.getD k 0) (-2) 62 && (inBv (us.getD k 0) (-2) 62 && (setOkB (ms.getD k []) && subB (ms.getD k []) (rangeL (p.2.1.getD k zAct).2.2.length)))) from rfl)
      generalize ls.getD k 0 = X0 at *
      generalize us.getD k 0 = X1 at *
      generalize ms.getD k [] = X2 at *
      generalize p.2.1.getD k zAct = X at *
      obtain ⟨ac2, rfl, aq0, aq1, aq2⟩ := actR_open ael
      have HEL := Lib.hid ael
      obtain ⟨am, amk, rfl, aml, aml', -⟩ := sliceR_open aq2
      have ea0 := hB0.cell (arow 0 (by simp)).1
      have ea1 := hB0.cell (arow 1 (by simp)).1
      have ea2 := hB0.cell (arow 2 (by simp)).1
      simp only [List.getElem_cons_zero, List.getElem_cons_succ, Nat.add_zero] at ea0 ea1 ea2
      unfold maxLen at ml' aml'
      clear arow ael aq0 aq1 aq2 hl0 hl1 hl2
      cases t1 : inB X0 (-2) 62
      · have HF := Lib.hid (domForm_no5 (b := (ls, us, ms)) hlt (by rw [HA1.out, ← inB_v, t1]; rfl))
        go_wp2_with (go_at_call 117; refine (isStart_any _ _).mono ?_; rintro e w' ⟨rfl, rfl⟩)
        go_ret
        exact ⟨ret_bool HF.out.symm, by (repeat (first | assumption | exact Bel.refl _ | apply Bel.drewN | apply Bel.drew | apply Bel.alloc | refine Bel.trans ?_ (by assumption)))⟩
      cases t2 : inB X1 (-2) 62
      · have HF := Lib.hid (domForm_no5 (b := (ls, us, ms)) hlt (by rw [HA1.out, ← inB_v X1, t2]; simp))
        go_wp2_with (go_at_call 117; refine (isStart_any _ _).mono ?_; rintro e w' ⟨rfl, rfl⟩)
        go_ret
        exact ⟨ret_bool HF.out.symm, by (repeat (first | assumption | exact Bel.refl _ | apply Bel.drewN | apply Bel.drew | apply Bel.alloc | refine Bel.trans ?_ (by assumption)))⟩
      cases t3 : setOkB X2
      · have HSO := Lib.hid t3
        have HF := Lib.hid (domForm_no5 (b := (ls, us, ms)) hlt (by rw [HA1.out, HSO.out]; simp))
        go_wp2_with (first | (go_at_call 117; refine (isStart_any _ _).mono ?_; rintro e w' ⟨rfl, rfl⟩) | (go_at_call 118; refine (iSetOk_any _ X2 S0 _ (intsR_good.bel HRW.out (by (repeat (first | assumption | exact Bel.refl _ | apply Bel.drewN | apply Bel.drew | apply Bel.alloc | refine Bel.trans ?_ (by assumption)))) HS0.out)).mono ?_; rintro e w' ⟨rfl, nq, rfl⟩; rw [HSO.out]))
        go_ret
        exact ⟨ret_bool HF.out.symm, by (repeat (first | assumption | exact Bel.refl _ | apply Bel.drewN | apply Bel.drew | apply Bel.alloc | refine Bel.trans ?_ (by assumption)))⟩
      have HSO := Lib.hid t3
      cases t4 : subB X2 (rangeL X.2.2.length)
      · have HSB := Lib.hid t4; clear t4
        have HF := Lib.hid (domForm_no5 (b := (ls, us, ms)) hlt (by rw [HA1.out, HSB.out]; simp))
        clear t3
        go_wp2_with (first | (go_at_call 117; refine (isStart_any _ _).mono ?_; rintro e w' ⟨rfl, rfl⟩) | (go_at_call 118; refine (iSetOk_any _ X2 S0 _ (intsR_good.bel HRW.out (by (repeat (first | assumption | exact Bel.refl _ | apply Bel.drewN | apply Bel.drew | apply Bel.alloc | refine Bel.trans ?_ (by assumption)))) HS0.out)).mono ?_; rintro e w' ⟨rfl, nq, rfl⟩; rw [HSO.out]) | (go_at_call 70; refine (iModeIndexes_any _ X S _ (aggR_mk (actR_good.bel HEL.out (by (repeat (first | assumption | exact Bel.refl _ | apply Bel.drewN | apply Bel.drew | apply Bel.alloc | refine Bel.trans ?_ (by assumption)))) HS.out)) (by omega)).mono ?_; rintro e wt ⟨vm, rfl, hr, gt⟩; have HRG := Lib.hid hr; obtain ⟨rp, rk, rfl, -⟩ := sliceR_open hr; clear hr) | (go_at_call 119; refine (iSetSubset_any _ _ X2 (rangeL X.2.2.length) S0 _ _ (intsR_good.bel HRW.out (by (repeat (first | assumption | exact Bel.refl _ | apply Bel.drewN | apply Bel.drew | apply Bel.alloc | refine Bel.trans ?_ (by assumption)))) HS0.out) HRG.out).mono ?_; rintro e w' ⟨rfl, rfl⟩; rw [HSB.out]))
        go_ret
        exact ⟨ret_bool HF.out.symm, by (repeat (first | assumption | exact Bel.refl _ | apply Bel.drewN | apply Bel.drew | apply Bel.alloc | refine Bel.trans ?_ (by assumption)))⟩
      have HSB := Lib.hid t4; clear t4
      have HE := Lib.hid (show formD p (ls, us, ms) k = true from by rw [HA1.out, ← inB_v, ← inB_v, t1, t2, HSO.out, HSB.out]; rfl)
      clear t3
      go_wp2_with (first | (go_at_call 117; refine (isStart_any _ _).mono ?_; rintro e w' ⟨rfl, rfl⟩) | (go_at_call 118; refine (iSetOk_any _ X2 S0 _ (intsR_good.bel HRW.out (by (repeat (first | assumption | exact Bel.refl _ | apply Bel.drewN | apply Bel.drew | apply Bel.alloc | refine Bel.trans ?_ (by assumption)))) HS0.out)).mono ?_; rintro e w' ⟨rfl, nq, rfl⟩; rw [HSO.out]) | (go_at_call 70; refine (iModeIndexes_any _ X S _ (aggR_mk (actR_good.bel HEL.out (by (repeat (first | assumption | exact Bel.refl _ | apply Bel.drewN | apply Bel.drew | apply Bel.alloc | refine Bel.trans ?_ (by assumption)))) HS.out)) (by omega)).mono ?_; rintro e wt ⟨vm, rfl, hr, gt⟩; have HRG := Lib.hid hr; obtain ⟨rp, rk, rfl, -⟩ := sliceR_open hr; clear hr) | (go_at_call 119; refine (iSetSubset_any _ _ X2 (rangeL X.2.2.length) S0 _ _ (intsR_good.bel HRW.out (by (repeat (first | assumption | exact Bel.refl _ | apply Bel.drewN | apply Bel.drew | apply Bel.alloc | refine Bel.trans ?_ (by assumption)))) HS0.out) HRG.out).mono ?_; rintro e w' ⟨rfl, rfl⟩; rw [HSB.out]))
      go_roundw
      case rel =>
        refine ⟨k + 1, by omega, by go_num, fun j hj => ?_, by (repeat (first | assumption | exact Bel.refl _ | apply Bel.drewN | apply Bel.drew | apply Bel.alloc | refine Bel.trans ?_ (by assumption)))⟩
        by_cases e : j < k
        · exact HA.out j e
        · obtain rfl : j = k := by omega
          exact HE.out
      case measure => simp [intOf]; omega
    · have HF := Lib.hid (domForm_yes (b := (ls, us, ms)) HPO.out H2.out H3.out H4.out fun j hj => HA.out j (by omega))
      have hkl : k = p.2.1.length := by omega
      have hkm : ¬ ((k : Int) < (ms.length : Int)) := by have := H4.out; omega
      clear hkl
      go_wp2
      go_ret
      exact ⟨ret_bool HF.out.symm, by (repeat (first | assumption | exact Bel.refl _ | apply Bel.drewN | apply Bel.drew | apply Bel.alloc | refine Bel.trans ?_ (by assumption)))⟩

set_option maxRecDepth 100000 in
set_option maxHeartbeats 4000000 in
theorem sDomainForm_any (v : Value) (p : ProjT) (S : Nat → Prop) (v0 : Value) (x0 : DomT) (S0 : Nat → Prop) (w : World) (hx : aggR projR S w v p) (hS : ∀ b, S b → b < w.heap.size) (_hn : bulkProject p ≤ 1048576) (h0 : aggR domR S0 w v0 x0) (_hS0 : ∀ b, S0 b → b < w.heap.size) (_hn0 : bulkDomain x0 ≤ 1048576) :
    Calls Tryz.prog 64 #[v, v0] w fun e w' => e = .returned (.bool (domFormB p x0)) ∧ Bel w w' := by
  obtain ⟨cs, rfl, hx⟩ := hx
  obtain ⟨y1, y2, y3, y4, rfl, q0, q1, q2, q3, q4⟩ := projR_open hx
  have Q1 := Lib.hid q1
  have Q2 := Lib.hid q2
  have Q3 := Lib.hid q3
  have Q4 := Lib.hid q4
  have HP := Lib.hid hx
  obtain ⟨p1, k1, rfl, l1, l1', -⟩ := sliceR_open q1
  obtain ⟨p2, k2, rfl, l2, l2', -⟩ := sliceR_open q2
  obtain ⟨p3, k3, rfl, l3, l3', -⟩ := sliceR_open q3
  obtain ⟨p4, k4, rfl, l4, l4', -⟩ := sliceR_open q4
  unfold maxLen at l1' l2' l3' l4'
  clear hx q0 q1 q2 q3 q4
  obtain ⟨cs0, rfl, h0⟩ := h0
  obtain ⟨c0, c1, c2, rfl, q00, q01, q02⟩ := domR_open h0
  obtain ⟨ls, us, ms⟩ := x0
  simp only at q00 q01 q02
  have A00 := Lib.hid (fun i hi => intsR_at' q00 (i := i) hi)
  have A01 := Lib.hid (fun i hi => intsR_at' q01 (i := i) hi)
  obtain ⟨p00, cap00, rfl, l00, l00', _⟩ := sliceR_open q00
  obtain ⟨p01, cap01, rfl, l01, l01', _⟩ := sliceR_open q01
  have Q02 := Lib.hid q02
  obtain ⟨p02, cap02, rfl, l02, l02', _⟩ := sliceR_open q02
  unfold maxLen at l00' l01' l02'
  clear h0 q00 q01 q02
  have HS := Lib.hid hS
  have HS0 := Lib.hid _hS0
  clear hS _hn _hS0 _hn0
  have HP1 := Lib.hid (show ∀ W, Bel w W → aggR projR S W (.agg #[.int .i64 p.1, .slice p1 p.2.1.length k1, .slice p2 p.2.2.1.length k2, .slice p3 p.2.2.2.1.length k3, .slice p4 p.2.2.2.2.length k4]) p from fun W hW => aggR_mk (projR_good.bel HP.out hW HS.out))
  show Calls Tryz.prog 64 #[.agg #[.int .i64 p.1, .slice p1 p.2.1.length k1, .slice p2 p.2.2.1.length k2, .slice p3 p.2.2.2.1.length k3, .slice p4 p.2.2.2.2.length k4], .agg #[.slice p00 ls.length cap00, .slice p01 us.length cap01, .slice p02 ms.length cap02]] w _
  go_enter Tryz.func64, Tryz.ntmps64
  go_wp2_with fail
  refine (sProjectOk_any _ p S _ (HP1.out _ (by (repeat (first | assumption | exact Bel.refl _ | apply Bel.drewN | apply Bel.drew | apply Bel.alloc | refine Bel.trans ?_ (by assumption))))) (fun b hb => Nat.lt_of_lt_of_le (HS.out b hb) (Bel.size (by (repeat (first | assumption | exact Bel.refl _ | apply Bel.drewN | apply Bel.drew | apply Bel.alloc | refine Bel.trans ?_ (by assumption))))))).mono ?_
  rintro e w1 ⟨rfl, g1⟩
  have b0 := g1.cell (p := ⟨w.heap.size, 0, none⟩) (v := .int .i64 p.1) (by simp [go_sem])
  have b1 := g1.cell (p := ⟨w.heap.size, 1, none⟩) (v := .slice p1 p.2.1.length k1) (by simp [go_sem])
  have b2 := g1.cell (p := ⟨w.heap.size, 2, none⟩) (v := .slice p2 p.2.2.1.length k2) (by simp [go_sem])
  have b3 := g1.cell (p := ⟨w.heap.size, 3, none⟩) (v := .slice p3 p.2.2.2.1.length k3) (by simp [go_sem])
  have b4 := g1.cell (p := ⟨w.heap.size, 4, none⟩) (v := .slice p4 p.2.2.2.2.length k4) (by simp [go_sem])
  have c0 := g1.cell (p := ⟨w.heap.size + 1, 0, none⟩) (v := .slice p00 ls.length cap00) (by simp [go_sem])
  have c1 := g1.cell (p := ⟨w.heap.size + 1, 1, none⟩) (v := .slice p01 us.length cap01) (by simp [go_sem])
  have c2 := g1.cell (p := ⟨w.heap.size + 1, 2, none⟩) (v := .slice p02 ms.length cap02) (by simp [go_sem])
  have G : Bel w w1 := by (repeat (first | assumption | exact Bel.refl _ | apply Bel.drewN | apply Bel.drew | apply Bel.alloc | refine Bel.trans ?_ (by assumption)))
  cases hp : projOk p
  · have HF := Lib.hid (domForm_no1 (b := (ls, us, ms)) hp)
    clear hp
    go_wp2
    go_ret
    exact ⟨ret_bool HF.out.symm, by (repeat (first | assumption | exact Bel.refl _ | apply Bel.drewN | apply Bel.drew | apply Bel.alloc | refine Bel.trans ?_ (by assumption)))⟩
  have HPO := Lib.hid hp; clear hp
  by_cases h2 : ls.length = p.2.1.length
  rotate_left
  · have HF := Lib.hid (domForm_no2 (p := p) (b := (ls, us, ms)) h2)
    have n2 : (((ls.length : Nat) : Int) != ((p.2.1.length : Nat) : Int)) = true := by simp; omega
    clear h2
    go_wp2
    go_ret
    exact ⟨ret_bool HF.out.symm, by (repeat (first | assumption | exact Bel.refl _ | apply Bel.drewN | apply Bel.drew | apply Bel.alloc | refine Bel.trans ?_ (by assumption)))⟩
  have n2 : (((ls.length : Nat) : Int) != ((p.2.1.length : Nat) : Int)) = false := by simp [h2]
  have H2 := Lib.hid h2; clear h2
  by_cases h3 : us.length = p.2.1.length
  rotate_left
  · have HF := Lib.hid (domForm_no3 (p := p) (b := (ls, us, ms)) h3)
    have n3 : (((us.length : Nat) : Int) != ((p.2.1.length : Nat) : Int)) = true := by simp; omega
    clear h3
    go_wp2
    go_ret
    exact ⟨ret_bool HF.out.symm, by (repeat (first | assumption | exact Bel.refl _ | apply Bel.drewN | apply Bel.drew | apply Bel.alloc | refine Bel.trans ?_ (by assumption)))⟩
  have n3 : (((us.length : Nat) : Int) != ((p.2.1.length : Nat) : Int)) = false := by simp [h3]
  have H3 := Lib.hid h3; clear h3
  by_cases h4 : ms.length = p.2.1.length
  rotate_left
  · have HF := Lib.hid (domForm_no4 (p := p) (b := (ls, us, ms)) h4)
    have n4 : (((ms.length : Nat) : Int) != ((p.2.1.length : Nat) : Int)) = true := by simp; omega
    clear h4
    go_wp2
    go_ret
    exact ⟨ret_bool HF.out.symm, by (repeat (first | assumption | exact Bel.refl _ | apply Bel.drewN | apply Bel.drew | apply Bel.alloc | refine Bel.trans ?_ (by assumption)))⟩
  have n4 : (((ms.length : Nat) : Int) != ((p.2.1.length : Nat) : Int)) = false := by simp [h4]
  have H4 := Lib.hid h4; clear h4
  have KX := Lib.hid (show ∀ W, Bel w1 W → W.cell? ⟨w.heap.size, 0, none⟩ = some (.int .i64 p.1) ∧ W.cell? ⟨w.heap.size, 1, none⟩ = some (.slice p1 p.2.1.length k1) ∧ W.cell? ⟨w.heap.size, 2, none⟩ = some (.slice p2 p.2.2.1.length k2) ∧ W.cell? ⟨w.heap.size, 3, none⟩ = some (.slice p3 p.2.2.2.1.length k3) ∧ W.cell? ⟨w.heap.size, 4, none⟩ = some (.slice p4 p.2.2.2.2.length k4) ∧ W.cell? ⟨w.heap.size + 1, 0, none⟩ = some (.slice p00 ls.length cap00) ∧ W.cell? ⟨w.heap.size + 1, 1, none⟩ = some (.slice p01 us.length cap01) ∧ W.cell? ⟨w.heap.size + 1, 2, none⟩ = some (.slice p02 ms.length cap02) from fun W hW => keep8 (And.intro b0 (And.intro b1 (And.intro b2 (And.intro b3 (And.intro b4 (And.intro c0 (And.intro c1 c2))))))) hW)
  go_wp2_with fail
  clear b0 b1 b2 b3 b4 c0 c1 c2 g1
  go_loopw [40] (fun i wr => ∃ (k : Nat), k ≤ p.2.1.length ∧ i = .int .i64 k ∧ (∀ j, j < k → formD p (ls, us, ms) j = true) ∧ Bel w1 wr) (fun i _ => p.2.1.length - (intOf i).toNat)
  case atStart => exact ⟨0, Nat.zero_le _, rfl, fun j hj => by omega, Bel.refl _⟩
  case round =>
    obtain ⟨k, hk, rfl, hall, hB⟩ := hrel
    have HA := Lib.hid hall; clear hall
    have hB0 : Bel w wr := G.trans hB
    by_cases hlt : k < p.2.1.length
    · obtain ⟨b0, b1, b2, b3, b4, c0, c1, c2⟩ := KX.out wr hB
      have hl0 : k < ls.length := by rw [H2.out]; exact hlt
      have hl1 : k < us.length := by rw [H3.out]; exact hlt
      have hl2 : k < ms.length := by rw [H4.out]; exact hlt
      obtain ⟨ab, ao, acs, aea, arow, ael⟩ := sliceR_at zAct Q1.out hlt
      obtain rfl : p1 = some ⟨ab, ao, none⟩ := aea
      obtain ⟨lb, lo, le, ld⟩ := A00.out k hl0
      obtain rfl : p00 = some ⟨lb, lo, none⟩ := le
      obtain ⟨ub, uo, ue, ud⟩ := A01.out k hl1
      obtain rfl : p01 = some ⟨ub, uo, none⟩ := ue
      obtain ⟨mb, mo, mp, mc, me, md, ml, ml', mr⟩ := rowsR_at Q02.out hl2
      obtain rfl : p02 = some ⟨mb, mo, none⟩ := me
      have ld := hB0.cell ld
      have ud := hB0.cell ud
      have md := hB0.cell md
      have HRW := Lib.hid mr; clear mr
      have hk0 : (k : Int) < (ls.length : Int) := by omega
      have hk1 : (k : Int) < (us.length : Int) := by omega
      have hk2 : (k : Int) < (ms.length : Int) := by omega
      have hkp : (k : Int) < (p.2.1.length : Int) := by omega
      have hxm := (projOk_modes HPO.out hlt).2
      have HA1 := Lib.hid (show formD p (ls, us, ms) k = (inBv (ls.getD k 0) (-2) 62 && (inBv (us.getD k 0) (-2) 62 && (setOkB (ms.getD k []) && subB (ms.getD k []) (rangeL (p.2.1.getD k zAct).2.2.length)))) from rfl)
      generalize ls.getD k 0 = X0 at *
      generalize us.getD k 0 = X1 at *
      generalize ms.getD k [] = X2 at *
      generalize p.2.1.getD k zAct = X at *
      obtain ⟨ac2, rfl, aq0, aq1, aq2⟩ := actR_open ael
      have HEL := Lib.hid ael
      obtain ⟨am, amk, rfl, aml, aml', -⟩ := sliceR_open aq2
      have ea0 := hB0.cell (arow 0 (by simp)).1
      have ea1 := hB0.cell (arow 1 (by simp)).1
      have ea2 := hB0.cell (arow 2 (by simp)).1
      simp only [List.getElem_cons_zero, List.getElem_cons_succ, Nat.add_zero] at ea0 ea1 ea2
      unfold maxLen at ml' aml'
      clear arow ael aq0 aq1 aq2 hl0 hl1 hl2
      have ab0 := fun o => ((Bel.refl wr).alloc o).cell b0
      have ab1 := fun o => ((Bel.refl wr).alloc o).cell b1
      have ab2 := fun o => ((Bel.refl wr).alloc o).cell b2
      have ab3 := fun o => ((Bel.refl wr).alloc o).cell b3
      have ab4 := fun o => ((Bel.refl wr).alloc o).cell b4
      have ac0 := fun o => ((Bel.refl wr).alloc o).cell c0
      have ac1 := fun o => ((Bel.refl wr).alloc o).cell c1
      have ac2 := fun o => ((Bel.refl wr).alloc o).cell c2
      have aea0 := fun o => ((Bel.refl wr).alloc o).cell ea0
      have aea1 := fun o => ((Bel.refl wr).alloc o).cell ea1
      have aea2 := fun o => ((Bel.refl wr).alloc o).cell ea2
      have ald := fun o => ((Bel.refl wr).alloc o).cell ld
      have aud := fun o => ((Bel.refl wr).alloc o).cell ud
      have amd := fun o => ((Bel.refl wr).alloc o).cell md
      cases t1 : inB X0 (-2) 62
      · have HF := Lib.hid (domForm_no5 (b := (ls, us, ms)) hlt (by rw [HA1.out, ← inB_v, t1]; rfl))
        go_wp2_with fail
        go_quiet ((first | (go_at_call 75; exact quiet_one (l01In_any _ _ _ _)) | (go_at_call 112; exact Calls.quiet_of (sSetOk_any _ X2 S0 _ (intsR_good.bel HRW.out (by (repeat (first | assumption | exact Bel.refl _ | apply Bel.drewN | apply Bel.drew | apply Bel.alloc | refine Bel.trans ?_ (by assumption)))) HS0.out)))))
        go_wp2
        go_ret
        exact ⟨ret_bool HF.out.symm, by (repeat (first | assumption | exact Bel.refl _ | apply Bel.drewN | apply Bel.drew | apply Bel.alloc | refine Bel.trans ?_ (by assumption)))⟩
      cases t2 : inB X1 (-2) 62
      · have HF := Lib.hid (domForm_no5 (b := (ls, us, ms)) hlt (by rw [HA1.out, ← inB_v X1, t2]; simp))
        go_wp2_with fail
        go_quiet ((first | (go_at_call 75; exact quiet_one (l01In_any _ _ _ _)) | (go_at_call 112; exact Calls.quiet_of (sSetOk_any _ X2 S0 _ (intsR_good.bel HRW.out (by (repeat (first | assumption | exact Bel.refl _ | apply Bel.drewN | apply Bel.drew | apply Bel.alloc | refine Bel.trans ?_ (by assumption)))) HS0.out)))))
        go_wp2
        go_ret
        exact ⟨ret_bool HF.out.symm, by (repeat (first | assumption | exact Bel.refl _ | apply Bel.drewN | apply Bel.drew | apply Bel.alloc | refine Bel.trans ?_ (by assumption)))⟩
      cases t3 : setOkB X2
      · have HSO := Lib.hid t3
        have HF := Lib.hid (domForm_no5 (b := (ls, us, ms)) hlt (by rw [HA1.out, HSO.out]; simp))
        go_wp2_with fail
        go_quiet ((first | (go_at_call 75; exact quiet_one (l01In_any _ _ _ _)) | (go_at_call 112; exact Calls.quiet_of (sSetOk_any _ X2 S0 _ (intsR_good.bel HRW.out (by (repeat (first | assumption | exact Bel.refl _ | apply Bel.drewN | apply Bel.drew | apply Bel.alloc | refine Bel.trans ?_ (by assumption)))) HS0.out)))))
        go_wp2
        go_ret
        exact ⟨ret_bool HF.out.symm, by (repeat (first | assumption | exact Bel.refl _ | apply Bel.drewN | apply Bel.drew | apply Bel.alloc | refine Bel.trans ?_ (by assumption)))⟩
      have HSO := Lib.hid t3
      cases t4 : subB X2 (rangeL X.2.2.length)
      · have HSB := Lib.hid t4; clear t4
        have HF := Lib.hid (domForm_no5 (b := (ls, us, ms)) hlt (by rw [HA1.out, HSB.out]; simp))
        clear t3
        go_wp2_with fail
        go_region_held3 (fun W => W.cell? ⟨w.heap.size, 0, none⟩ = some (.int .i64 p.1) ∧ W.cell? ⟨w.heap.size, 1, none⟩ = some (.slice (some ⟨ab, ao, none⟩) p.2.1.length k1) ∧ W.cell? ⟨w.heap.size, 2, none⟩ = some (.slice p2 p.2.2.1.length k2) ∧ W.cell? ⟨w.heap.size, 3, none⟩ = some (.slice p3 p.2.2.2.1.length k3) ∧ W.cell? ⟨w.heap.size, 4, none⟩ = some (.slice p4 p.2.2.2.2.length k4) ∧ W.cell? ⟨w.heap.size + 1, 0, none⟩ = some (.slice (some ⟨lb, lo, none⟩) ls.length cap00) ∧ W.cell? ⟨w.heap.size + 1, 1, none⟩ = some (.slice (some ⟨ub, uo, none⟩) us.length cap01) ∧ W.cell? ⟨w.heap.size + 1, 2, none⟩ = some (.slice (some ⟨mb, mo, none⟩) ms.length cap02) ∧ W.cell? ⟨lb, lo + k, none⟩ = some (.int .i64 X0) ∧ W.cell? ⟨ub, uo + k, none⟩ = some (.int .i64 X1) ∧ W.cell? ⟨mb, mo + k, none⟩ = some (.slice mp X2.length mc) ∧ W.cell? ⟨wr.heap.size, 0, none⟩ = some (.string X.1) ∧ W.cell? ⟨wr.heap.size, 1, none⟩ = some (.int .i64 X.2.1) ∧ W.cell? ⟨wr.heap.size, 2, none⟩ = some (.slice am X.2.2.length amk)) (first | exact keep14 (by assumption) (by first | (((repeat (first | assumption | exact Bel.refl _ | apply Bel.drewN | apply Bel.drew | apply Bel.alloc | refine Bel.trans ?_ (by assumption)))); done) | (refine Bel.ofDrew ?_; ((repeat (first | assumption | exact Bel.refl _ | apply Bel.drewN | apply Bel.drew | apply Bel.alloc | refine Bel.trans ?_ (by assumption)))); done) | (refine Bel.ofDrewN ?_; ((repeat (first | assumption | exact Bel.refl _ | apply Bel.drewN | apply Bel.drew | apply Bel.alloc | refine Bel.trans ?_ (by assumption)))); done)) | go_keep)
          (first | (go_at_call 75; (with_reducible refine (l01In_any _ _ _ _).mono ?_); rintro e w' ⟨rfl, rfl⟩) | (go_at_call 112; refine (sSetOk_any _ X2 S0 _ (intsR_good.bel HRW.out (by (repeat (first | assumption | exact Bel.refl _ | apply Bel.drewN | apply Bel.drew | apply Bel.alloc | refine Bel.trans ?_ (by assumption)))) HS0.out)).mono ?_; rintro e w' ⟨rfl, nq, rfl⟩; rw [HSO.out]) | (go_at_call 66; refine (sModeIndexes_any _ X S _ (aggR_mk (actR_good.bel HEL.out (by (repeat (first | assumption | exact Bel.refl _ | apply Bel.drewN | apply Bel.drew | apply Bel.alloc | refine Bel.trans ?_ (by assumption)))) HS.out)) (by omega)).mono ?_; rintro e wt ⟨vm, rfl, hr, gt⟩; have HRG := Lib.hid hr; obtain ⟨rp, rk, rfl, -⟩ := sliceR_open hr; clear hr) | (go_at_call 113; refine (sSetSubset_any _ _ X2 (rangeL X.2.2.length) S0 _ _ (intsR_good.bel HRW.out (by (repeat (first | assumption | exact Bel.refl _ | apply Bel.drewN | apply Bel.drew | apply Bel.alloc | refine Bel.trans ?_ (by assumption)))) HS0.out) HRG.out).mono ?_; rintro e w' ⟨rfl, rfl⟩; rw [HSB.out]))
        go_wp2
        go_ret
        exact ⟨ret_bool HF.out.symm, by (repeat (first | assumption | exact Bel.refl _ | apply Bel.drewN | apply Bel.drew | apply Bel.alloc | refine Bel.trans ?_ (by assumption)))⟩
      have HSB := Lib.hid t4; clear t4
      have HE := Lib.hid (show formD p (ls, us, ms) k = true from by rw [HA1.out, ← inB_v, ← inB_v, t1, t2, HSO.out, HSB.out]; rfl)
      clear t3
      go_wp2_with fail
      go_region_held3 (fun W => W.cell? ⟨w.heap.size, 0, none⟩ = some (.int .i64 p.1) ∧ W.cell? ⟨w.heap.size, 1, none⟩ = some (.slice (some ⟨ab, ao, none⟩) p.2.1.length k1) ∧ W.cell? ⟨w.heap.size, 2, none⟩ = some (.slice p2 p.2.2.1.length k2) ∧ W.cell? ⟨w.heap.size, 3, none⟩ = some (.slice p3 p.2.2.2.1.length k3) ∧ W.cell? ⟨w.heap.size, 4, none⟩ = some (.slice p4 p.2.2.2.2.length k4) ∧ W.cell? ⟨w.heap.size + 1, 0, none⟩ = some (.slice (some ⟨lb, lo, none⟩) ls.length cap00) ∧ W.cell? ⟨w.heap.size + 1, 1, none⟩ = some (.slice (some ⟨ub, uo, none⟩) us.length cap01) ∧ W.cell? ⟨w.heap.size + 1, 2, none⟩ = some (.slice (some ⟨mb, mo, none⟩) ms.length cap02) ∧ W.cell? ⟨lb, lo + k, none⟩ = some (.int .i64 X0) ∧ W.cell? ⟨ub, uo + k, none⟩ = some (.int .i64 X1) ∧ W.cell? ⟨mb, mo + k, none⟩ = some (.slice mp X2.length mc) ∧ W.cell? ⟨wr.heap.size, 0, none⟩ = some (.string X.1) ∧ W.cell? ⟨wr.heap.size, 1, none⟩ = some (.int .i64 X.2.1) ∧ W.cell? ⟨wr.heap.size, 2, none⟩ = some (.slice am X.2.2.length amk)) (first | exact keep14 (by assumption) (by first | (((repeat (first | assumption | exact Bel.refl _ | apply Bel.drewN | apply Bel.drew | apply Bel.alloc | refine Bel.trans ?_ (by assumption)))); done) | (refine Bel.ofDrew ?_; ((repeat (first | assumption | exact Bel.refl _ | apply Bel.drewN | apply Bel.drew | apply Bel.alloc | refine Bel.trans ?_ (by assumption)))); done) | (refine Bel.ofDrewN ?_; ((repeat (first | assumption | exact Bel.refl _ | apply Bel.drewN | apply Bel.drew | apply Bel.alloc | refine Bel.trans ?_ (by assumption)))); done)) | go_keep)
        (first | (go_at_call 75; (with_reducible refine (l01In_any _ _ _ _).mono ?_); rintro e w' ⟨rfl, rfl⟩) | (go_at_call 112; refine (sSetOk_any _ X2 S0 _ (intsR_good.bel HRW.out (by (repeat (first | assumption | exact Bel.refl _ | apply Bel.drewN | apply Bel.drew | apply Bel.alloc | refine Bel.trans ?_ (by assumption)))) HS0.out)).mono ?_; rintro e w' ⟨rfl, nq, rfl⟩; rw [HSO.out]) | (go_at_call 66; refine (sModeIndexes_any _ X S _ (aggR_mk (actR_good.bel HEL.out (by (repeat (first | assumption | exact Bel.refl _ | apply Bel.drewN | apply Bel.drew | apply Bel.alloc | refine Bel.trans ?_ (by assumption)))) HS.out)) (by omega)).mono ?_; rintro e wt ⟨vm, rfl, hr, gt⟩; have HRG := Lib.hid hr; obtain ⟨rp, rk, rfl, -⟩ := sliceR_open hr; clear hr) | (go_at_call 113; refine (sSetSubset_any _ _ X2 (rangeL X.2.2.length) S0 _ _ (intsR_good.bel HRW.out (by (repeat (first | assumption | exact Bel.refl _ | apply Bel.drewN | apply Bel.drew | apply Bel.alloc | refine Bel.trans ?_ (by assumption)))) HS0.out) HRG.out).mono ?_; rintro e w' ⟨rfl, rfl⟩; rw [HSB.out]))
      go_wp2
      go_roundw
      case rel =>
        refine ⟨k + 1, by omega, by go_num, fun j hj => ?_, by (repeat (first | assumption | exact Bel.refl _ | apply Bel.drewN | apply Bel.drew | apply Bel.alloc | refine Bel.trans ?_ (by assumption)))⟩
        by_cases e : j < k
        · exact HA.out j e
        · obtain rfl : j = k := by omega
          exact HE.out
      case measure => simp [intOf]; omega
    · have HF := Lib.hid (domForm_yes (b := (ls, us, ms)) HPO.out H2.out H3.out H4.out fun j hj => HA.out j (by omega))
      have hkl : k = p.2.1.length := by omega
      have hkm : ¬ ((k : Int) < (ms.length : Int)) := by have := H4.out; omega
      clear hkl
      go_wp2
      go_ret
      exact ⟨ret_bool HF.out.symm, by (repeat (first | assumption | exact Bel.refl _ | apply Bel.drewN | apply Bel.drew | apply Bel.alloc | refine Bel.trans ?_ (by assumption)))⟩

end Go.Proofs.YthkcdmghchikjaaGreat
