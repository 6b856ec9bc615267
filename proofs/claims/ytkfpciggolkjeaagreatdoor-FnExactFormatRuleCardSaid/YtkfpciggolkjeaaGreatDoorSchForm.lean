/- Contracts of ScheduleForm. -/
import Derived.Test.YtkfpciggolkjeaaGreatDoorProjOk
namespace Go.Proofs.YtkfpciggolkjeaaGreatDoor
open Go.ChangeShapes Go.WideShapes Go.ChangeAt Go.RowKit
set_option linter.unusedVariables false

def formAt (p : ProjT) (s : SchT) (i : Nat) : Bool := inBv (s.1.getD i 0) 0 60 && inBv (s.2.getD i 0) 0 (((p.2.1.getD i zAct).2.2.length : Int) - 1)
def schFormB (p : ProjT) (s : SchT) : Bool := projOk p && (decide (s.1.length = p.2.1.length) && (decide (s.2.length = p.2.1.length) && (List.range p.2.1.length).all (formAt p s)))
theorem schForm_no1 {p : ProjT} {s : SchT} (h : projOk p = false) : schFormB p s = false := by unfold schFormB; rw [h]; rfl
theorem schForm_no2 {p : ProjT} {s : SchT} (h : ¬ s.1.length = p.2.1.length) : schFormB p s = false := by unfold schFormB; rw [decide_eq_false h]; simp
theorem schForm_no3 {p : ProjT} {s : SchT} (h : ¬ s.2.length = p.2.1.length) : schFormB p s = false := by unfold schFormB; rw [decide_eq_false h]; simp
theorem schForm_no4 {p : ProjT} {s : SchT} {k : Nat} (hk : k < p.2.1.length) (h : formAt p s k = false) : schFormB p s = false := by unfold schFormB; rw [all_false hk h]; simp
theorem schForm_yes {p : ProjT} {s : SchT} (h1 : projOk p = true) (h2 : s.1.length = p.2.1.length) (h3 : s.2.length = p.2.1.length) (h : ∀ j, j < p.2.1.length → formAt p s j = true) : schFormB p s = true := by
  unfold schFormB; rw [h1, decide_eq_true h2, decide_eq_true h3, all_true h]; rfl

set_option maxHeartbeats 2000000 in
theorem iScheduleForm_all (v : Value) (p : ProjT) (S : Nat → Prop) (v1 : Value) (s : SchT) (T : Nat → Prop) (w : World) (hx : aggR projR S w v p) (hS : ∀ b, S b → b < w.heap.size) (hs : aggR schR T w v1 s) (hT : ∀ b, T b → b < w.heap.size) :
    Calls Tryz.prog 93 #[v, v1] w fun e w' => e = .returned (.bool (schFormB p s)) ∧ Bel w w' := by
  obtain ⟨cs, rfl, hx⟩ := hx
  obtain ⟨c1, c2, c3, c4, rfl, q0, q1, q2, q3, q4⟩ := projR_open hx
  have Q1 := Lib.hid q1
  have Q2 := Lib.hid q2
  have Q3 := Lib.hid q3
  have Q4 := Lib.hid q4
  have HP := Lib.hid hx
  obtain ⟨p1, k1, rfl, l1, l1', -⟩ := sliceR_open q1
  obtain ⟨p2, k2, rfl, l2, l2', -⟩ := sliceR_open q2
  obtain ⟨p3, k3, rfl, l3, l3', -⟩ := sliceR_open q3
  obtain ⟨p4, k4, rfl, l4, l4', -⟩ := sliceR_open q4
  unfold maxLen at l1' l2' l3' l4'
  clear hx q0 q1 q2 q3 q4
  obtain ⟨zs, rfl, hs⟩ := hs
  have HZ := hs
  obtain ⟨z0, z1, rfl, zq0, zq1⟩ := schR_open hs
  have A0 := Lib.hid (fun i hi => intsR_at' zq0 (i := i) hi)
  have A1 := Lib.hid (fun i hi => intsR_at' zq1 (i := i) hi)
  obtain ⟨sp0, sk0, rfl, sl0, sl0', -⟩ := sliceR_open zq0
  obtain ⟨sp1, sk1, rfl, sl1, sl1', -⟩ := sliceR_open zq1
  unfold maxLen at sl0' sl1'
  have HT := Lib.hid hT
  have HQ1 := Lib.hid (show ∀ W, Bel w W → aggR schR T W (.agg #[.slice sp0 s.1.length sk0, .slice sp1 s.2.length sk1]) s from fun W hW => aggR_mk (schR_good.bel HZ hW HT.out))
  clear hs zq0 zq1 hT HZ
  have HS := Lib.hid hS
  clear hS
  have HP1 := Lib.hid (show ∀ W, Bel w W → aggR projR S W (.agg #[.int .i64 p.1, .slice p1 p.2.1.length k1, .slice p2 p.2.2.1.length k2, .slice p3 p.2.2.2.1.length k3, .slice p4 p.2.2.2.2.length k4]) p from fun W hW => aggR_mk (projR_good.bel HP.out hW HS.out))
  show Calls Tryz.prog 93 #[.agg #[.int .i64 p.1, .slice p1 p.2.1.length k1, .slice p2 p.2.2.1.length k2, .slice p3 p.2.2.2.1.length k3, .slice p4 p.2.2.2.2.length k4], .agg #[.slice sp0 s.1.length sk0, .slice sp1 s.2.length sk1]] w _
  go_enter Tryz.func93, Tryz.ntmps93
  go_wp2_with fail
  refine (iProjectOk_any _ p S _ (HP1.out _ (by (repeat (first | assumption | exact Bel.refl _ | apply Bel.drewN | apply Bel.drew | apply Bel.alloc | refine Bel.trans ?_ (by assumption))))) (fun b hb => Nat.lt_of_lt_of_le (HS.out b hb) (Bel.size (by (repeat (first | assumption | exact Bel.refl _ | apply Bel.drewN | apply Bel.drew | apply Bel.alloc | refine Bel.trans ?_ (by assumption))))))).mono ?_
  rintro e w1 ⟨rfl, g1⟩
  have b0 := g1.cell (p := ⟨w.heap.size, 0, none⟩) (v := .int .i64 p.1) (by simp [go_sem])
  have b1 := g1.cell (p := ⟨w.heap.size, 1, none⟩) (v := .slice p1 p.2.1.length k1) (by simp [go_sem])
  have b2 := g1.cell (p := ⟨w.heap.size, 2, none⟩) (v := .slice p2 p.2.2.1.length k2) (by simp [go_sem])
  have b3 := g1.cell (p := ⟨w.heap.size, 3, none⟩) (v := .slice p3 p.2.2.2.1.length k3) (by simp [go_sem])
  have b4 := g1.cell (p := ⟨w.heap.size, 4, none⟩) (v := .slice p4 p.2.2.2.2.length k4) (by simp [go_sem])
  have c0 := g1.cell (p := ⟨w.heap.size + 1, 0, none⟩) (v := .slice sp0 s.1.length sk0) (by simp [go_sem])
  have c1 := g1.cell (p := ⟨w.heap.size + 1, 1, none⟩) (v := .slice sp1 s.2.length sk1) (by simp [go_sem])
  have G : Bel w w1 := by (repeat (first | assumption | exact Bel.refl _ | apply Bel.drewN | apply Bel.drew | apply Bel.alloc | refine Bel.trans ?_ (by assumption)))
  cases hp : projOk p
  · have HF := Lib.hid (schForm_no1 (s := s) hp)
    clear hp
    go_wp2
    go_ret
    exact ⟨ret_bool HF.out.symm, by (repeat (first | assumption | exact Bel.refl _ | apply Bel.drewN | apply Bel.drew | apply Bel.alloc | refine Bel.trans ?_ (by assumption)))⟩
  have HPO := Lib.hid hp; clear hp
  by_cases h2 : s.1.length = p.2.1.length
  rotate_left
  · have HF := Lib.hid (schForm_no2 (s := s) h2)
    have n2 : (((s.1.length : Nat) : Int) != ((p.2.1.length : Nat) : Int)) = true := by simp; omega
    clear h2
    go_wp2
    go_ret
    exact ⟨ret_bool HF.out.symm, by (repeat (first | assumption | exact Bel.refl _ | apply Bel.drewN | apply Bel.drew | apply Bel.alloc | refine Bel.trans ?_ (by assumption)))⟩
  have n2 : (((s.1.length : Nat) : Int) != ((p.2.1.length : Nat) : Int)) = false := by simp [h2]
  have H2 := Lib.hid h2; clear h2
  by_cases h3 : s.2.length = p.2.1.length
  rotate_left
  · have HF := Lib.hid (schForm_no3 (s := s) h3)
    have n3 : (((s.2.length : Nat) : Int) != ((p.2.1.length : Nat) : Int)) = true := by simp; omega
    clear h3
    go_wp2
    go_ret
    exact ⟨ret_bool HF.out.symm, by (repeat (first | assumption | exact Bel.refl _ | apply Bel.drewN | apply Bel.drew | apply Bel.alloc | refine Bel.trans ?_ (by assumption)))⟩
  have n3 : (((s.2.length : Nat) : Int) != ((p.2.1.length : Nat) : Int)) = false := by simp [h3]
  have H3 := Lib.hid h3; clear h3
  go_wp2_with fail
  go_loopw [30] (fun i wr => ∃ (k : Nat), k ≤ p.2.1.length ∧ i = .int .i64 k ∧ (∀ j, j < k → formAt p s j = true) ∧ Bel w wr ∧ wr.cell? ⟨w.heap.size, 0, none⟩ = some (.int .i64 p.1) ∧ wr.cell? ⟨w.heap.size, 1, none⟩ = some (.slice p1 p.2.1.length k1) ∧ wr.cell? ⟨w.heap.size, 2, none⟩ = some (.slice p2 p.2.2.1.length k2) ∧ wr.cell? ⟨w.heap.size, 3, none⟩ = some (.slice p3 p.2.2.2.1.length k3) ∧ wr.cell? ⟨w.heap.size, 4, none⟩ = some (.slice p4 p.2.2.2.2.length k4) ∧ wr.cell? ⟨w.heap.size + 1, 0, none⟩ = some (.slice sp0 s.1.length sk0) ∧ wr.cell? ⟨w.heap.size + 1, 1, none⟩ = some (.slice sp1 s.2.length sk1)) (fun i _ => p.2.1.length - (intOf i).toNat)
  case atStart => exact ⟨0, Nat.zero_le _, rfl, fun j hj => by omega, G, b0, b1, b2, b3, b4, c0, c1⟩
  case round =>
    clear b0 b1 b2 b3 b4 c0 c1 g1 G
    obtain ⟨k, hk, rfl, hall, hB, b0, b1, b2, b3, b4, c0, c1⟩ := hrel
    have HA := Lib.hid hall; clear hall
    by_cases hlt : k < p.2.1.length
    · have hl0 : k < s.1.length := by rw [H2.out]; exact hlt
      have hl1 : k < s.2.length := by rw [H3.out]; exact hlt
      obtain ⟨sb0, so0, se0, sa0⟩ := A0.out k hl0
      obtain ⟨sb1, so1, se1, sa1⟩ := A1.out k hl1
      obtain rfl : sp0 = some ⟨sb0, so0, none⟩ := se0
      obtain rfl : sp1 = some ⟨sb1, so1, none⟩ := se1
      have sa0 := hB.cell sa0
      have sa1 := hB.cell sa1
      obtain ⟨ab, ao, acs, aea, arow, ael⟩ := sliceR_at zAct Q1.out hlt
      obtain rfl : p1 = some ⟨ab, ao, none⟩ := aea
      obtain ⟨ac2, rfl, aq0, aq1, aq2⟩ := actR_open ael
      have HMea := Lib.hid aq2
      obtain ⟨am, amk, rfl, aml, aml', -⟩ := sliceR_open aq2
      unfold maxLen at aml'
      have ea0 := hB.cell (arow 0 (by simp)).1
      have ea1 := hB.cell (arow 1 (by simp)).1
      have ea2 := hB.cell (arow 2 (by simp)).1
      simp only [List.getElem_cons_zero, List.getElem_cons_succ, Nat.add_zero] at ea0 ea1 ea2
      clear arow ael aq0 aq1 aq2
      have hk0 : (k : Int) < (s.1.length : Int) := by omega
      have hk1 : (k : Int) < (s.2.length : Int) := by omega
      have hkp : (k : Int) < (p.2.1.length : Int) := by omega
      have HA1 := Lib.hid (show formAt p s k = (inBv (s.1.getD k 0) 0 60 && inBv (s.2.getD k 0) 0 (((p.2.1.getD k zAct).2.2.length : Int) - 1)) from rfl)
      generalize s.1.getD k 0 = X0 at *
      generalize s.2.getD k 0 = X1 at *
      generalize p.2.1.getD k zAct = X at *
      have hwm : IntKind.i64.wrap ((X.2.2.length : Int) - 1) = (X.2.2.length : Int) - 1 := IntWalk.i64_in _ (by omega)
      cases t1 : inB X0 0 60
      · have HF := Lib.hid (schForm_no4 (s := s) hlt (by rw [HA1.out, ← inB_v, t1]; rfl))
        go_wp2_with fail
        go_quiet ((first | (go_at_call 74; exact quiet_one (isTime_any _ _)) | (go_at_call 71; exact quiet_one (within_any _ _ _ _))))
        go_wp2
        go_ret
        exact ⟨ret_bool HF.out.symm, by (repeat (first | assumption | exact Bel.refl _ | apply Bel.drewN | apply Bel.drew | apply Bel.alloc | refine Bel.trans ?_ (by assumption)))⟩
      cases t2 : inB X1 0 ((X.2.2.length : Int) - 1)
      · have HF := Lib.hid (schForm_no4 (s := s) hlt (by rw [HA1.out, ← inB_v X1, t2]; simp))
        go_wp2_with fail
        go_quiet ((first | (go_at_call 74; exact quiet_one (isTime_any _ _)) | (go_at_call 71; exact quiet_one (within_any _ _ _ _))))
        go_wp2
        go_ret
        exact ⟨ret_bool HF.out.symm, by (repeat (first | assumption | exact Bel.refl _ | apply Bel.drewN | apply Bel.drew | apply Bel.alloc | refine Bel.trans ?_ (by assumption)))⟩
      have HE := Lib.hid (show formAt p s k = true from by rw [HA1.out, ← inB_v, ← inB_v, t1, t2]; rfl)
      go_wp2_with fail
      go_quiet ((first | (go_at_call 74; exact quiet_one (isTime_any _ _)) | (go_at_call 71; exact quiet_one (within_any _ _ _ _))))
      go_wp2
      go_roundw
      case rel =>
        refine ⟨k + 1, by omega, by go_num, fun j hj => ?_, hB.drewN _, ((Bel.refl wr).drewN _).cell b0, ((Bel.refl wr).drewN _).cell b1, ((Bel.refl wr).drewN _).cell b2, ((Bel.refl wr).drewN _).cell b3, ((Bel.refl wr).drewN _).cell b4, ((Bel.refl wr).drewN _).cell c0, ((Bel.refl wr).drewN _).cell c1⟩
        by_cases e : j < k
        · exact HA.out j e
        · obtain rfl : j = k := by omega
          exact HE.out
      case measure => simp [intOf]; omega
    · have HF := Lib.hid (schForm_yes HPO.out H2.out H3.out fun j hj => HA.out j (by omega))
      go_wp2
      go_ret
      exact ⟨ret_bool HF.out.symm, by (repeat (first | assumption | exact Bel.refl _ | apply Bel.drewN | apply Bel.drew | apply Bel.alloc | refine Bel.trans ?_ (by assumption)))⟩
theorem iScheduleForm_any (v : Value) (p : ProjT) (S : Nat → Prop) (v1 : Value) (s : SchT) (T : Nat → Prop) (w : World) (hx : aggR projR S w v p) (hS : ∀ b, S b → b < w.heap.size) (_hn : bulkProject p ≤ 1048576) (hs : aggR schR T w v1 s) (hT : ∀ b, T b → b < w.heap.size) (_hn1 : bulkSchedule s ≤ 1048576) :
    Calls Tryz.prog 93 #[v, v1] w fun e w' => e = .returned (.bool (schFormB p s)) ∧ Bel w w' := iScheduleForm_all v p S v1 s T w hx hS hs hT

set_option maxHeartbeats 2000000 in
theorem sScheduleForm_all (v : Value) (p : ProjT) (S : Nat → Prop) (v1 : Value) (s : SchT) (T : Nat → Prop) (w : World) (hx : aggR projR S w v p) (hS : ∀ b, S b → b < w.heap.size) (hs : aggR schR T w v1 s) (hT : ∀ b, T b → b < w.heap.size) :
    Calls Tryz.prog 91 #[v, v1] w fun e w' => e = .returned (.bool (schFormB p s)) ∧ Bel w w' := by
  obtain ⟨cs, rfl, hx⟩ := hx
  obtain ⟨c1, c2, c3, c4, rfl, q0, q1, q2, q3, q4⟩ := projR_open hx
  have Q1 := Lib.hid q1
  have Q2 := Lib.hid q2
  have Q3 := Lib.hid q3
  have Q4 := Lib.hid q4
  have HP := Lib.hid hx
  obtain ⟨p1, k1, rfl, l1, l1', -⟩ := sliceR_open q1
  obtain ⟨p2, k2, rfl, l2, l2', -⟩ := sliceR_open q2
  obtain ⟨p3, k3, rfl, l3, l3', -⟩ := sliceR_open q3
  obtain ⟨p4, k4, rfl, l4, l4', -⟩ := sliceR_open q4
  unfold maxLen at l1' l2' l3' l4'
  clear hx q0 q1 q2 q3 q4
  obtain ⟨zs, rfl, hs⟩ := hs
  have HZ := hs
  obtain ⟨z0, z1, rfl, zq0, zq1⟩ := schR_open hs
  have A0 := Lib.hid (fun i hi => intsR_at' zq0 (i := i) hi)
  have A1 := Lib.hid (fun i hi => intsR_at' zq1 (i := i) hi)
  obtain ⟨sp0, sk0, rfl, sl0, sl0', -⟩ := sliceR_open zq0
  obtain ⟨sp1, sk1, rfl, sl1, sl1', -⟩ := sliceR_open zq1
  unfold maxLen at sl0' sl1'
  have HT := Lib.hid hT
  have HQ1 := Lib.hid (show ∀ W, Bel w W → aggR schR T W (.agg #[.slice sp0 s.1.length sk0, .slice sp1 s.2.length sk1]) s from fun W hW => aggR_mk (schR_good.bel HZ hW HT.out))
  clear hs zq0 zq1 hT HZ
  have HS := Lib.hid hS
  clear hS
  have HP1 := Lib.hid (show ∀ W, Bel w W → aggR projR S W (.agg #[.int .i64 p.1, .slice p1 p.2.1.length k1, .slice p2 p.2.2.1.length k2, .slice p3 p.2.2.2.1.length k3, .slice p4 p.2.2.2.2.length k4]) p from fun W hW => aggR_mk (projR_good.bel HP.out hW HS.out))
  show Calls Tryz.prog 91 #[.agg #[.int .i64 p.1, .slice p1 p.2.1.length k1, .slice p2 p.2.2.1.length k2, .slice p3 p.2.2.2.1.length k3, .slice p4 p.2.2.2.2.length k4], .agg #[.slice sp0 s.1.length sk0, .slice sp1 s.2.length sk1]] w _
  go_enter Tryz.func91, Tryz.ntmps91
  go_wp2_with fail
  refine (sProjectOk_any _ p S _ (HP1.out _ (by (repeat (first | assumption | exact Bel.refl _ | apply Bel.drewN | apply Bel.drew | apply Bel.alloc | refine Bel.trans ?_ (by assumption))))) (fun b hb => Nat.lt_of_lt_of_le (HS.out b hb) (Bel.size (by (repeat (first | assumption | exact Bel.refl _ | apply Bel.drewN | apply Bel.drew | apply Bel.alloc | refine Bel.trans ?_ (by assumption))))))).mono ?_
  rintro e w1 ⟨rfl, g1⟩
  have b0 := g1.cell (p := ⟨w.heap.size, 0, none⟩) (v := .int .i64 p.1) (by simp [go_sem])
  have b1 := g1.cell (p := ⟨w.heap.size, 1, none⟩) (v := .slice p1 p.2.1.length k1) (by simp [go_sem])
  have b2 := g1.cell (p := ⟨w.heap.size, 2, none⟩) (v := .slice p2 p.2.2.1.length k2) (by simp [go_sem])
  have b3 := g1.cell (p := ⟨w.heap.size, 3, none⟩) (v := .slice p3 p.2.2.2.1.length k3) (by simp [go_sem])
  have b4 := g1.cell (p := ⟨w.heap.size, 4, none⟩) (v := .slice p4 p.2.2.2.2.length k4) (by simp [go_sem])
  have c0 := g1.cell (p := ⟨w.heap.size + 1, 0, none⟩) (v := .slice sp0 s.1.length sk0) (by simp [go_sem])
  have c1 := g1.cell (p := ⟨w.heap.size + 1, 1, none⟩) (v := .slice sp1 s.2.length sk1) (by simp [go_sem])
  have G : Bel w w1 := by (repeat (first | assumption | exact Bel.refl _ | apply Bel.drewN | apply Bel.drew | apply Bel.alloc | refine Bel.trans ?_ (by assumption)))
  cases hp : projOk p
  · have HF := Lib.hid (schForm_no1 (s := s) hp)
    clear hp
    go_wp2
    go_ret
    exact ⟨ret_bool HF.out.symm, by (repeat (first | assumption | exact Bel.refl _ | apply Bel.drewN | apply Bel.drew | apply Bel.alloc | refine Bel.trans ?_ (by assumption)))⟩
  have HPO := Lib.hid hp; clear hp
  by_cases h2 : s.1.length = p.2.1.length
  rotate_left
  · have HF := Lib.hid (schForm_no2 (s := s) h2)
    have n2 : (((s.1.length : Nat) : Int) != ((p.2.1.length : Nat) : Int)) = true := by simp; omega
    clear h2
    go_wp2
    go_ret
    exact ⟨ret_bool HF.out.symm, by (repeat (first | assumption | exact Bel.refl _ | apply Bel.drewN | apply Bel.drew | apply Bel.alloc | refine Bel.trans ?_ (by assumption)))⟩
  have n2 : (((s.1.length : Nat) : Int) != ((p.2.1.length : Nat) : Int)) = false := by simp [h2]
  have H2 := Lib.hid h2; clear h2
  by_cases h3 : s.2.length = p.2.1.length
  rotate_left
  · have HF := Lib.hid (schForm_no3 (s := s) h3)
    have n3 : (((s.2.length : Nat) : Int) != ((p.2.1.length : Nat) : Int)) = true := by simp; omega
    clear h3
    go_wp2
    go_ret
    exact ⟨ret_bool HF.out.symm, by (repeat (first | assumption | exact Bel.refl _ | apply Bel.drewN | apply Bel.drew | apply Bel.alloc | refine Bel.trans ?_ (by assumption)))⟩
  have n3 : (((s.2.length : Nat) : Int) != ((p.2.1.length : Nat) : Int)) = false := by simp [h3]
  have H3 := Lib.hid h3; clear h3
  go_wp2_with fail
  go_loopw [31] (fun i wr => ∃ (k : Nat), k ≤ p.2.1.length ∧ i = .int .i64 k ∧ (∀ j, j < k → formAt p s j = true) ∧ Bel w wr ∧ wr.cell? ⟨w.heap.size, 0, none⟩ = some (.int .i64 p.1) ∧ wr.cell? ⟨w.heap.size, 1, none⟩ = some (.slice p1 p.2.1.length k1) ∧ wr.cell? ⟨w.heap.size, 2, none⟩ = some (.slice p2 p.2.2.1.length k2) ∧ wr.cell? ⟨w.heap.size, 3, none⟩ = some (.slice p3 p.2.2.2.1.length k3) ∧ wr.cell? ⟨w.heap.size, 4, none⟩ = some (.slice p4 p.2.2.2.2.length k4) ∧ wr.cell? ⟨w.heap.size + 1, 0, none⟩ = some (.slice sp0 s.1.length sk0) ∧ wr.cell? ⟨w.heap.size + 1, 1, none⟩ = some (.slice sp1 s.2.length sk1)) (fun i _ => p.2.1.length - (intOf i).toNat)
  case atStart => exact ⟨0, Nat.zero_le _, rfl, fun j hj => by omega, G, b0, b1, b2, b3, b4, c0, c1⟩
  case round =>
    clear b0 b1 b2 b3 b4 c0 c1 g1 G
    obtain ⟨k, hk, rfl, hall, hB, b0, b1, b2, b3, b4, c0, c1⟩ := hrel
    have HA := Lib.hid hall; clear hall
    by_cases hlt : k < p.2.1.length
    · have hl0 : k < s.1.length := by rw [H2.out]; exact hlt
      have hl1 : k < s.2.length := by rw [H3.out]; exact hlt
      obtain ⟨sb0, so0, se0, sa0⟩ := A0.out k hl0
      obtain ⟨sb1, so1, se1, sa1⟩ := A1.out k hl1
      obtain rfl : sp0 = some ⟨sb0, so0, none⟩ := se0
      obtain rfl : sp1 = some ⟨sb1, so1, none⟩ := se1
      have sa0 := hB.cell sa0
      have sa1 := hB.cell sa1
      obtain ⟨ab, ao, acs, aea, arow, ael⟩ := sliceR_at zAct Q1.out hlt
      obtain rfl : p1 = some ⟨ab, ao, none⟩ := aea
      obtain ⟨ac2, rfl, aq0, aq1, aq2⟩ := actR_open ael
      have HMea := Lib.hid aq2
      obtain ⟨am, amk, rfl, aml, aml', -⟩ := sliceR_open aq2
      unfold maxLen at aml'
      have ea0 := hB.cell (arow 0 (by simp)).1
      have ea1 := hB.cell (arow 1 (by simp)).1
      have ea2 := hB.cell (arow 2 (by simp)).1
      simp only [List.getElem_cons_zero, List.getElem_cons_succ, Nat.add_zero] at ea0 ea1 ea2
      clear arow ael aq0 aq1 aq2
      have hk0 : (k : Int) < (s.1.length : Int) := by omega
      have hk1 : (k : Int) < (s.2.length : Int) := by omega
      have hkp : (k : Int) < (p.2.1.length : Int) := by omega
      have HA1 := Lib.hid (show formAt p s k = (inBv (s.1.getD k 0) 0 60 && inBv (s.2.getD k 0) 0 (((p.2.1.getD k zAct).2.2.length : Int) - 1)) from rfl)
      generalize s.1.getD k 0 = X0 at *
      generalize s.2.getD k 0 = X1 at *
      generalize p.2.1.getD k zAct = X at *
      have ab0 := fun o => ((Bel.refl wr).alloc o).cell b0
      have ab1 := fun o => ((Bel.refl wr).alloc o).cell b1
      have ab2 := fun o => ((Bel.refl wr).alloc o).cell b2
      have ab3 := fun o => ((Bel.refl wr).alloc o).cell b3
      have ab4 := fun o => ((Bel.refl wr).alloc o).cell b4
      have ac0 := fun o => ((Bel.refl wr).alloc o).cell c0
      have ac1 := fun o => ((Bel.refl wr).alloc o).cell c1
      have aea0 := fun o => ((Bel.refl wr).alloc o).cell ea0
      have aea1 := fun o => ((Bel.refl wr).alloc o).cell ea1
      have aea2 := fun o => ((Bel.refl wr).alloc o).cell ea2
      have asa0 := fun o => ((Bel.refl wr).alloc o).cell sa0
      have asa1 := fun o => ((Bel.refl wr).alloc o).cell sa1
      have hwm : IntKind.i64.wrap ((X.2.2.length : Int) - 1) = (X.2.2.length : Int) - 1 := IntWalk.i64_in _ (by omega)
      cases t1 : inB X0 0 60
      · have HF := Lib.hid (schForm_no4 (s := s) hlt (by rw [HA1.out, ← inB_v, t1]; rfl))
        go_wp2_with fail
        go_quiet ((go_at_call 65; exact quiet_one (l01In_any _ _ _ _)))
        go_wp2
        go_ret
        exact ⟨ret_bool HF.out.symm, by (repeat (first | assumption | exact Bel.refl _ | apply Bel.drewN | apply Bel.drew | apply Bel.alloc | refine Bel.trans ?_ (by assumption)))⟩
      cases t2 : inB X1 0 ((X.2.2.length : Int) - 1)
      · have HF := Lib.hid (schForm_no4 (s := s) hlt (by rw [HA1.out, ← inB_v X1, t2]; simp))
        go_wp2_with fail
        go_quiet ((go_at_call 65; exact quiet_one (l01In_any _ _ _ _)))
        go_wp2
        go_ret
        exact ⟨ret_bool HF.out.symm, by (repeat (first | assumption | exact Bel.refl _ | apply Bel.drewN | apply Bel.drew | apply Bel.alloc | refine Bel.trans ?_ (by assumption)))⟩
      have HE := Lib.hid (show formAt p s k = true from by rw [HA1.out, ← inB_v, ← inB_v, t1, t2]; rfl)
      go_wp2_with fail
      go_quiet ((go_at_call 65; exact quiet_one (l01In_any _ _ _ _)))
      go_wp2
      go_roundw
      case rel =>
        refine ⟨k + 1, by omega, by go_num, fun j hj => ?_, (hB.alloc _).drewN _, (((Bel.refl wr).alloc _).drewN _).cell b0, (((Bel.refl wr).alloc _).drewN _).cell b1, (((Bel.refl wr).alloc _).drewN _).cell b2, (((Bel.refl wr).alloc _).drewN _).cell b3, (((Bel.refl wr).alloc _).drewN _).cell b4, (((Bel.refl wr).alloc _).drewN _).cell c0, (((Bel.refl wr).alloc _).drewN _).cell c1⟩
        by_cases e : j < k
        · exact HA.out j e
        · obtain rfl : j = k := by omega
          exact HE.out
      case measure => simp [intOf]; omega
    · have HF := Lib.hid (schForm_yes HPO.out H2.out H3.out fun j hj => HA.out j (by omega))
      go_wp2
      go_ret
      exact ⟨ret_bool HF.out.symm, by (repeat (first | assumption | exact Bel.refl _ | apply Bel.drewN | apply Bel.drew | apply Bel.alloc | refine Bel.trans ?_ (by assumption)))⟩
theorem sScheduleForm_any (v : Value) (p : ProjT) (S : Nat → Prop) (v1 : Value) (s : SchT) (T : Nat → Prop) (w : World) (hx : aggR projR S w v p) (hS : ∀ b, S b → b < w.heap.size) (_hn : bulkProject p ≤ 1048576) (hs : aggR schR T w v1 s) (hT : ∀ b, T b → b < w.heap.size) (_hn1 : bulkSchedule s ≤ 1048576) :
    Calls Tryz.prog 91 #[v, v1] w fun e w' => e = .returned (.bool (schFormB p s)) ∧ Bel w w' := sScheduleForm_all v p S v1 s T w hx hS hs hT

end Go.Proofs.YtkfpciggolkjeaaGreatDoor
