/- Contracts of the gap of a link, LinkGap. -/
import Derived.Test.YtiaamddhocdhaaaMinDur
import Derived.Test.YtiaamddhocdhaaaMode
import Derived.Test.YtiaamddhocdhaaaHolds
namespace Go.Proofs.Ytiaamddhocdhaaa
open Go.ChangeShapes Go.WideShapes Go.ChangeAt Go.RowKit
set_option linter.unusedVariables false

def gapV (p : ProjT) (k : LinkT) (sel : List Int) : Int := if k.2.2.1 = true then k.2.2.2 + minDur (p.2.1.getD k.1.toNat zAct).2.2 sel else k.2.2.2
def linkGapV (p : ProjT) (k : Int) (sel : List Int) : Int := if projOk p && inBv k 0 ((p.2.2.1.length : Int) - 1) then gapV p (p.2.2.1.getD k.toNat zLink) sel else 0
theorem projOk_link {p : ProjT} (h : projOk p = true) {j : Nat} (hj : j < p.2.2.1.length) : linkOkB p.2.1.length (p.2.2.1.getD j zLink) = true := by
  unfold projOk at h
  simp only [Bool.and_eq_true] at h
  exact List.all_eq_true.1 h.2.2.2.2 j (List.mem_range.2 hj)
theorem linkOk_bd {n : Nat} {k : LinkT} (h : linkOkB n k = true) : (∃ a : Nat, k.1 = a ∧ a < n) ∧ (∃ b : Nat, k.2.1 = b ∧ b < n) ∧ k.1 ≠ k.2.1 ∧ -60 ≤ k.2.2.2 ∧ k.2.2.2 ≤ 60 := by
  unfold linkOkB at h
  simp only [inBv, Bool.and_eq_true, decide_eq_true_eq, Bool.not_eq_true', decide_eq_false_iff_not] at h
  obtain ⟨⟨h1, h2⟩, ⟨h3, h4⟩, h5, h6, h7⟩ := h
  obtain ⟨a, ha⟩ := Int.eq_ofNat_of_zero_le h1
  obtain ⟨b, hb⟩ := Int.eq_ofNat_of_zero_le h3
  exact ⟨⟨a, ha, by omega⟩, ⟨b, hb, by omega⟩, h5, h6, h7⟩
theorem getD_at {α : Type} {l : List α} {i : Nat} (d : α) (h : i < l.length) : l.getD i d = l[i] := by simp [List.getD, h]
theorem projOk_durs {p : ProjT} (h : projOk p = true) {a : Nat} (ha : a < p.2.1.length) : ∀ m, m ∈ (p.2.1.getD a zAct).2.2 → 1 ≤ m.1 ∧ m.1 ≤ 12 := by
  intro m hm
  obtain ⟨i, hi, rfl⟩ := List.mem_iff_getElem.1 hm
  have h1 := modeOk_bd (projOk_mode h ha hi)
  rw [getD_at zMode hi] at h1
  exact ⟨h1.1, h1.2.1⟩
theorem projOk_mindur {p : ProjT} (h : projOk p = true) {a : Nat} (ha : a < p.2.1.length) (sel : List Int) : 0 ≤ minDur (p.2.1.getD a zAct).2.2 sel ∧ minDur (p.2.1.getD a zAct).2.2 sel ≤ 12 := minDur_bd (projOk_durs h ha)
theorem gapV_bd {p : ProjT} (h : projOk p = true) {k : LinkT} (hk : linkOkB p.2.1.length k = true) (sel : List Int) : -60 ≤ gapV p k sel ∧ gapV p k sel ≤ 72 := by
  obtain ⟨⟨a, ha, ha'⟩, _, _, h6, h7⟩ := linkOk_bd hk
  have h1 := projOk_mindur h ha' sel
  unfold gapV
  rw [ha, show ((a : Nat) : Int).toNat = a from rfl]
  split <;> omega

set_option maxHeartbeats 1000000 in
theorem gap_any (v : Value) (p : ProjT) (S : Nat → Prop) (k : LinkT) (v2 : Value) (sel : List Int) (T : Nat → Prop) (w : World) (hx : aggR projR S w v p) (hS : ∀ b, S b → b < w.heap.size) (hp : projOk p = true) (hk : linkOkB p.2.1.length k = true) (hs : intsR T w [v2] sel) (hT : ∀ b, T b → b < w.heap.size) :
    Calls Try.prog 103 #[v, .agg #[.int .i64 k.1, .int .i64 k.2.1, .bool k.2.2.1, .int .i64 k.2.2.2], v2] w fun e w' => e = .returned (.int .i64 (gapV p k sel)) ∧ Bel w w' := by
  obtain ⟨cs, rfl, hx⟩ := hx
  obtain ⟨c1, c2, c3, c4, rfl, q0, q1, q2, q3, q4⟩ := projR_open hx
  have Q1 := Lib.hid q1
  have Q2 := Lib.hid q2
  have Q3 := Lib.hid q3
  have Q4 := Lib.hid q4
  have HP := Lib.hid hx
  obtain ⟨p1, k1, rfl, l1, l1', -⟩ := sliceR_open q1
  obtain ⟨p2, k2, rfl, l2, l2', -⟩ := sliceR_open q2
  obtain ⟨p3, k3, rfl, l3, l3', -⟩ := sliceR_open q3
  obtain ⟨p4, k4, rfl, l4, l4', -⟩ := sliceR_open q4
  unfold maxLen at l1' l2' l3' l4'
  clear hx q0 q1 q2 q3 q4
  have HQ := Lib.hid (show ∀ W, Bel w W → intsR T W [v2] sel from fun W hW => intsR_good.bel hs hW hT)
  have HT := Lib.hid hT
  obtain ⟨sp, sk, rfl, -⟩ := sliceR_open hs
  clear hs hT
  have HS := Lib.hid hS
  clear hS
  obtain ⟨⟨a, haa, ha⟩, -, -, hl0, hl1⟩ := linkOk_bd hk
  have hmd := projOk_mindur hp ha sel
  have hml := (projOk_modes hp ha).2
  clear hk
  obtain ⟨fa, tb, fe, lag⟩ := k
  obtain rfl : fa = (a : Int) := haa
  simp only at hl0 hl1
  show Calls Try.prog 103 #[.agg #[.int .i64 p.1, .slice p1 p.2.1.length k1, .slice p2 p.2.2.1.length k2, .slice p3 p.2.2.2.1.length k3, .slice p4 p.2.2.2.2.length k4], .agg #[.int .i64 (a : Int), .int .i64 tb, .bool fe, .int .i64 lag], .slice sp sel.length sk] w _
  cases fe with
  | false =>
    have HF := Lib.hid (show gapV p ((a : Int), tb, false, lag) sel = lag from rfl)
    go_enter Try.func103, Try.ntmps103
    go_wp2
    go_ret
    exact ⟨ret_int HF.out.symm, by (repeat (first | exact Bel.refl _ | apply Bel.drewN | apply Bel.drew | apply Bel.alloc | refine Bel.trans ?_ (by assumption)))⟩
  | true =>
    have HF := Lib.hid (show gapV p ((a : Int), tb, true, lag) sel = lag + minDur (p.2.1.getD a zAct).2.2 sel from rfl)
    obtain ⟨ab, ao, acs, aea, arow, ael⟩ := sliceR_at zAct Q1.out ha
    obtain rfl : p1 = some ⟨ab, ao, none⟩ := aea
    generalize p.2.1.getD a zAct = X at *
    obtain ⟨ac2, rfl, aq0, aq1, aq2⟩ := actR_open ael
    have HEL := Lib.hid ael
    obtain ⟨am, amk, rfl, aml, aml', -⟩ := sliceR_open aq2
    unfold maxLen at aml'
    have ea0 := (arow 0 (by simp)).1
    have ea1 := (arow 1 (by simp)).1
    have ea2 := (arow 2 (by simp)).1
    simp only [List.getElem_cons_zero, List.getElem_cons_succ, Nat.add_zero] at ea0 ea1 ea2
    clear arow ael aq0 aq1 aq2
    have ea0 := fun o1 o2 => (((Bel.refl w).alloc o1).alloc o2).cell ea0
    have ea1 := fun o1 o2 => (((Bel.refl w).alloc o1).alloc o2).cell ea1
    have ea2 := fun o1 o2 => (((Bel.refl w).alloc o1).alloc o2).cell ea2
    have hai : (a : Int) < (p.2.1.length : Int) := by omega
    have HWR := Lib.hid (show IntKind.i64.wrap (lag + minDur X.2.2 sel) = lag + minDur X.2.2 sel from IntWalk.i64_in _ (by omega))
    go_enter Try.func103, Try.ntmps103
    go_wp2_with fail
    go_region_held3 (fun W => W.cell? ⟨w.heap.size, 1, none⟩ = some (.slice (some ⟨ab, ao, none⟩) p.2.1.length k1) ∧ W.cell? ⟨w.heap.size + 1, 0, none⟩ = some (.int .i64 (a : Int)) ∧ W.cell? ⟨w.heap.size + 1, 3, none⟩ = some (.int .i64 lag) ∧ W.cell? ⟨ab, ao + a * 3, none⟩ = some (.string X.1) ∧ W.cell? ⟨ab, ao + a * 3 + 1, none⟩ = some (.int .i64 X.2.1) ∧ W.cell? ⟨ab, ao + a * 3 + 2, none⟩ = some (.slice am X.2.2.length amk)) (first | exact keep6 (by assumption) (by assumption) | go_keep)
      (first | (go_at_call 157; (with_reducible refine (iMinDuration_any _ X S _ sel T _ (aggR_mk (actR_good.bel HEL.out (by (repeat (first | exact Bel.refl _ | apply Bel.drewN | apply Bel.drew | apply Bel.alloc | refine Bel.trans ?_ (by assumption)))) HS.out)) (fun b hb => Nat.lt_of_lt_of_le (HS.out b hb) (Bel.size (by (repeat (first | exact Bel.refl _ | apply Bel.drewN | apply Bel.drew | apply Bel.alloc | refine Bel.trans ?_ (by assumption)))))) (HQ.out _ (by (repeat (first | exact Bel.refl _ | apply Bel.drewN | apply Bel.drew | apply Bel.alloc | refine Bel.trans ?_ (by assumption))))) (fun b hb => Nat.lt_of_lt_of_le (HT.out b hb) (Bel.size (by (repeat (first | exact Bel.refl _ | apply Bel.drewN | apply Bel.drew | apply Bel.alloc | refine Bel.trans ?_ (by assumption)))))) (by omega)).mono ?_); rintro e wt ⟨rfl, gt⟩))
    go_wp2
    go_ret
    exact ⟨ret_int (by rw [HF.out]; first | exact HWR.out | rfl), by (repeat (first | exact Bel.refl _ | apply Bel.drewN | apply Bel.drew | apply Bel.alloc | refine Bel.trans ?_ (by assumption)))⟩


set_option maxHeartbeats 1000000 in
theorem iLinkGap_any (v : Value) (p : ProjT) (S : Nat → Prop) (k : Int) (v2 : Value) (sel : List Int) (T : Nat → Prop) (w : World) (hx : aggR projR S w v p) (hS : ∀ b, S b → b < w.heap.size) (_hn : bulkProject p ≤ 1048576) (hs : intsR T w [v2] sel) (hT : ∀ b, T b → b < w.heap.size) (_hn1 : bulkIntS sel ≤ 1048576) :
    Calls Try.prog 36 #[v, .int .i64 k, v2] w fun e w' => e = .returned (.int .i64 (linkGapV p k sel)) ∧ Bel w w' := by
  obtain ⟨cs, rfl, hx⟩ := hx
  obtain ⟨c1, c2, c3, c4, rfl, q0, q1, q2, q3, q4⟩ := projR_open hx
  have Q1 := Lib.hid q1
  have Q2 := Lib.hid q2
  have Q3 := Lib.hid q3
  have Q4 := Lib.hid q4
  have HP := Lib.hid hx
  obtain ⟨p1, k1, rfl, l1, l1', -⟩ := sliceR_open q1
  obtain ⟨p2, k2, rfl, l2, l2', -⟩ := sliceR_open q2
  obtain ⟨p3, k3, rfl, l3, l3', -⟩ := sliceR_open q3
  obtain ⟨p4, k4, rfl, l4, l4', -⟩ := sliceR_open q4
  unfold maxLen at l1' l2' l3' l4'
  clear hx q0 q1 q2 q3 q4
  have HQ := Lib.hid (show ∀ W, Bel w W → intsR T W [v2] sel from fun W hW => intsR_good.bel hs hW hT)
  have HT := Lib.hid hT
  obtain ⟨sp, sk, rfl, -⟩ := sliceR_open hs
  clear hs hT
  have HS := Lib.hid hS
  clear hS _hn _hn1
  have HP1 := Lib.hid (show ∀ W, Bel w W → aggR projR S W (.agg #[.int .i64 p.1, .slice p1 p.2.1.length k1, .slice p2 p.2.2.1.length k2, .slice p3 p.2.2.2.1.length k3, .slice p4 p.2.2.2.2.length k4]) p from fun W hW => aggR_mk (projR_good.bel HP.out hW HS.out))
  show Calls Try.prog 36 #[.agg #[.int .i64 p.1, .slice p1 p.2.1.length k1, .slice p2 p.2.2.1.length k2, .slice p3 p.2.2.2.1.length k3, .slice p4 p.2.2.2.2.length k4], .int .i64 k, .slice sp sel.length sk] w _
  go_enter Try.func36, Try.ntmps36
  go_wp2_with fail
  refine (iProjectOk_any _ p S _ (HP1.out _ (by (repeat (first | exact Bel.refl _ | apply Bel.drewN | apply Bel.drew | apply Bel.alloc | refine Bel.trans ?_ (by assumption))))) (fun b hb => Nat.lt_of_lt_of_le (HS.out b hb) (Bel.size (by (repeat (first | exact Bel.refl _ | apply Bel.drewN | apply Bel.drew | apply Bel.alloc | refine Bel.trans ?_ (by assumption))))))).mono ?_
  rintro e w1 ⟨rfl, g1⟩
  have b0 := g1.cell (p := ⟨w.heap.size, 0, none⟩) (v := .int .i64 p.1) (by simp [go_sem])
  have b1 := g1.cell (p := ⟨w.heap.size, 1, none⟩) (v := .slice p1 p.2.1.length k1) (by simp [go_sem])
  have b2 := g1.cell (p := ⟨w.heap.size, 2, none⟩) (v := .slice p2 p.2.2.1.length k2) (by simp [go_sem])
  have b3 := g1.cell (p := ⟨w.heap.size, 3, none⟩) (v := .slice p3 p.2.2.2.1.length k3) (by simp [go_sem])
  have b4 := g1.cell (p := ⟨w.heap.size, 4, none⟩) (v := .slice p4 p.2.2.2.2.length k4) (by simp [go_sem])
  have G : Bel w w1 := by (repeat (first | exact Bel.refl _ | apply Bel.drewN | apply Bel.drew | apply Bel.alloc | refine Bel.trans ?_ (by assumption)))
  cases hp : projOk p
  · have HF := Lib.hid (show linkGapV p k sel = 0 from by unfold linkGapV; rw [hp]; rfl)
    clear hp
    go_wp2
    go_ret
    exact ⟨ret_int HF.out.symm, by (repeat (first | exact Bel.refl _ | apply Bel.drewN | apply Bel.drew | apply Bel.alloc | refine Bel.trans ?_ (by assumption)))⟩
  have HPO := Lib.hid hp; clear hp
  cases ha : inB k 0 ((p.2.2.1.length : Int) - 1)
  · have HF := Lib.hid (show linkGapV p k sel = 0 from by unfold linkGapV; rw [← inB_v k, ha]; simp)
    go_wp2_with (go_at_call 82; refine (within_any _ _ _ _).mono ?_; rintro e w' ⟨rfl, rfl⟩)
    go_ret
    exact ⟨ret_int HF.out.symm, by (repeat (first | exact Bel.refl _ | apply Bel.drewN | apply Bel.drew | apply Bel.alloc | refine Bel.trans ?_ (by assumption)))⟩
  obtain ⟨j, rfl, hj⟩ := inB_idx ha
  have HV := Lib.hid (show linkGapV p (j : Int) sel = gapV p (p.2.2.1.getD j zLink) sel from by unfold linkGapV; rw [HPO.out, ← inB_v (j : Int), ha]; rfl)
  obtain ⟨b, off, ecs, ea, hrow, hel⟩ := sliceR_at zLink Q2.out hj
  obtain rfl : p2 = some ⟨b, off, none⟩ := ea
  have HLK := Lib.hid (projOk_link HPO.out hj)
  generalize p.2.2.1.getD j zLink = k at *
  obtain ⟨rfl, eq0, eq1, eq3⟩ := linkR_open hel
  have ed0 := G.cell (hrow 0 (by simp)).1
  have ed1 := G.cell (hrow 1 (by simp)).1
  have ed2 := G.cell (hrow 2 (by simp)).1
  have ed3 := G.cell (hrow 3 (by simp)).1
  simp only [List.getElem_cons_zero, List.getElem_cons_succ, Nat.add_zero] at ed0 ed1 ed2 ed3
  clear hrow hel eq0 eq1 eq3
  have hji : (j : Int) < (p.2.2.1.length : Int) := by omega
  go_wp2_with (go_at_call 82; refine (within_any _ _ _ _).mono ?_; rintro e w' ⟨rfl, rfl⟩)
  go_region_held3 (fun W => W.cell? ⟨w.heap.size, 0, none⟩ = some (.int .i64 p.1) ∧ W.cell? ⟨w.heap.size, 1, none⟩ = some (.slice p1 p.2.1.length k1) ∧ W.cell? ⟨w.heap.size, 2, none⟩ = some (.slice (some ⟨b, off, none⟩) p.2.2.1.length k2) ∧ W.cell? ⟨w.heap.size, 3, none⟩ = some (.slice p3 p.2.2.2.1.length k3) ∧ W.cell? ⟨w.heap.size, 4, none⟩ = some (.slice p4 p.2.2.2.2.length k4) ∧ W.cell? ⟨b, off + j * 4, none⟩ = some (.int .i64 k.1) ∧ W.cell? ⟨b, off + j * 4 + 1, none⟩ = some (.int .i64 k.2.1) ∧ W.cell? ⟨b, off + j * 4 + 2, none⟩ = some (.bool k.2.2.1) ∧ W.cell? ⟨b, off + j * 4 + 3, none⟩ = some (.int .i64 k.2.2.2)) (first | exact keep9 (by assumption) (by assumption) | go_keep)
    (first | (go_at_call 103; (with_reducible refine (gap_any _ p S k _ sel T _ (HP1.out _ (by (repeat (first | exact Bel.refl _ | apply Bel.drewN | apply Bel.drew | apply Bel.alloc | refine Bel.trans ?_ (by assumption))))) (fun b hb => Nat.lt_of_lt_of_le (HS.out b hb) (Bel.size (by (repeat (first | exact Bel.refl _ | apply Bel.drewN | apply Bel.drew | apply Bel.alloc | refine Bel.trans ?_ (by assumption)))))) HPO.out HLK.out (HQ.out _ (by (repeat (first | exact Bel.refl _ | apply Bel.drewN | apply Bel.drew | apply Bel.alloc | refine Bel.trans ?_ (by assumption))))) (fun b hb => Nat.lt_of_lt_of_le (HT.out b hb) (Bel.size (by (repeat (first | exact Bel.refl _ | apply Bel.drewN | apply Bel.drew | apply Bel.alloc | refine Bel.trans ?_ (by assumption))))))).mono ?_); rintro e wt ⟨rfl, gt⟩))
  go_wp2
  go_ret
  exact ⟨ret_int HV.out.symm, by (repeat (first | exact Bel.refl _ | apply Bel.drewN | apply Bel.drew | apply Bel.alloc | refine Bel.trans ?_ (by assumption)))⟩


end Go.Proofs.Ytiaamddhocdhaaa
