/- Contract of cycle. -/
import Derived.Test.YtiaamddhocdhaaaRingF
import Derived.Test.YtiaamddhocdhaaaApps
import Derived.Test.YtiaamddhocdhaaaHas
import Derived.Deep.DeepCutAuto
import Derived.Deep.RegionHeld3
import Derived.Deep.DrawnRows
namespace Go.Proofs.Ytiaamddhocdhaaa
open Go.ChangeShapes Go.WideShapes Go.ChangeAt Go.RowKit
set_option linter.unusedVariables false

/-- The nodes that a way has met. -/
def visL (N : Net) (way : List Nat) : List Nat := N.fr (way.headD 0) :: way.dropLast.map N.to
theorem visL_length (N : Net) {way : List Nat} (h : way ≠ []) : (visL N way).length = way.length := by
  have := List.length_pos_iff.2 h
  simp [visL]; omega
theorem visL_snoc (N : Net) {way : List Nat} (h : way ≠ []) (k : Nat) : visL N (way ++ [k]) = visL N way ++ [N.to (way.getLastD 0)] := by
  obtain ⟨a, t, rfl⟩ : ∃ a t, way = a :: t := by cases way with | nil => exact absurd rfl h | cons a t => exact ⟨a, t, rfl⟩
  unfold visL
  rw [List.dropLast_concat, show (a :: t ++ [k]).headD 0 = (a :: t).headD 0 from rfl, List.cons_append]
  congr 1
  rw [← List.map_singleton, ← List.map_append]
  congr 1
  have h1 := List.dropLast_concat_getLast (l := a :: t) (by simp)
  rw [show (a :: t).getLastD 0 = (a :: t).getLast (by simp) from by simp [List.getLastD]]
  exact h1.symm
theorem hasB_nI (z : Nat) (l : List Nat) : hasB (z : Int) (nI l) = l.contains z := by
  unfold hasB nI
  rw [Bool.eq_iff_iff]
  simp
  constructor
  · rintro ⟨a, h1, h2⟩
    have h3 : a = z := by omega
    subst h3; exact h1
  · intro h
    exact ⟨z, h, rfl⟩
/-- What cycle leaves. -/
def CycRes (w : World) (res : List Nat) (e : Ending) (w' : World) : Prop := ∃ v, e = .returned v ∧ intsR (New w w') w' [v] (nI res) ∧ Bel w w' ∧ (res = [] → v = .slice none 0 0)
theorem CycRes.nil {w w' : World} (h : Bel w w') : CycRes w [] (.returned (.slice none 0 0)) w' := ⟨_, rfl, ⟨none, 0, rfl, Nat.le_refl _, Nat.zero_le _, fun i hi => absurd hi (Nat.not_lt_zero _)⟩, h, fun _ => rfl⟩
/-- The first and the last link of a way, each in a box of its own. -/
def Cut1 (W0 : World) (fa tz : Nat) (s1 s2 : Value) (wx : World) : Prop := ∃ A1 A2 : Nat, s1 = .pointer (some ⟨A1, 0, none⟩) ∧ s2 = .pointer (some ⟨A2, 0, none⟩) ∧ wx.cell? ⟨A1, 0, none⟩ = some (.int .i64 (fa : Int)) ∧ wx.cell? ⟨A2, 1, none⟩ = some (.int .i64 (tz : Int)) ∧ Bel W0 wx
def CutN (wr : World) (res : List Nat) (s : Value) (wx : World) : Prop := intsR (New wr wx) wx [s] (nI res) ∧ Bel wr wx ∧ (res = [] → s = .slice none 0 0)
theorem OwnI.low {e : TypeId} {B B' : Nat} {w : World} {p : Option Addr} {cap : Nat} {xs : List Int} (h : OwnI e B w p cap xs) (hB : B' ≤ B) : OwnI e B' w p cap xs := by
  obtain ⟨⟨h1, h2⟩, h3⟩ := h
  refine ⟨⟨h1, ?_⟩, h3⟩
  rcases h2 with h2 | ⟨g, cap', cur, h4, h5, h6⟩
  · exact .inl h2
  · exact .inr ⟨g, cap', cur, h4, Nat.le_trans hB h5, h6⟩
/-- The contract of cycle, f links ahead of the end. -/
def CycC (f : Nat) : Prop := ∀ (v : Value) (p : ProjT) (S : Nat → Prop) (v1 : Value) (way : List Nat) (V : Nat → Prop) (v2 : Value) (U : Nat → Prop) (w : World), aggR projR S w v p → (∀ b, S b → b < w.heap.size) → projOk p = true → intsR V w [v1] (nI way) → (∀ b, V b → b < w.heap.size) → intsR U w [v2] (nI (visL (netOf p) way)) → (∀ b, U b → b < w.heap.size) → way ≠ [] → (∀ x ∈ way, x < p.2.2.1.length) → way.length + f ≤ 6 →
    Calls Try.prog 96 #[v, v1, v2, .int .i64 ((netOf p).wt way), .int .i64 ((way.length + f : Nat) : Int)] w (CycRes w ((netOf p).ringF f way))

set_option maxRecDepth 100000 in
set_option maxHeartbeats 4000000 in
attribute [local go_sem ↓] Go.wp_at_zero Go.wp_at_succ in
theorem cycle_step (f : Nat) (IH : ∀ g, f = g + 1 → CycC g) : CycC f := by
  intro v p S v1 way V v2 U w hx hS hp hw hV hu hU hne hlt hlen
  obtain ⟨cs, rfl, hx⟩ := hx
  obtain ⟨c1, c2, c3, c4, rfl, q0, q1, q2, q3, q4⟩ := projR_open hx
  have Q1 := Lib.hid q1
  have Q2 := Lib.hid q2
  have Q3 := Lib.hid q3
  have Q4 := Lib.hid q4
  have HP := Lib.hid hx
  obtain ⟨p1, k1, rfl, l1, l1', -⟩ := sliceR_open q1
  obtain ⟨p2, k2, rfl, l2, l2', -⟩ := sliceR_open q2
  obtain ⟨p3, k3, rfl, l3, l3', -⟩ := sliceR_open q3
  obtain ⟨p4, k4, rfl, l4, l4', -⟩ := sliceR_open q4
  unfold maxLen at l1' l2' l3' l4'
  clear hx q0 q1 q2 q3 q4
  have HS := Lib.hid hS
  have HPO := Lib.hid hp
  have HIH := Lib.hid IH
  have HNE := Lib.hid hne
  clear hS IH
  have HP1 := Lib.hid (show ∀ W, Bel w W → aggR projR S W (.agg #[.int .i64 p.1, .slice p1 p.2.1.length k1, .slice p2 p.2.2.1.length k2, .slice p3 p.2.2.2.1.length k3, .slice p4 p.2.2.2.2.length k4]) p from fun W hW => aggR_mk (projR_good.bel HP.out hW HS.out))
  have hF := netOf_fine hp
  have HF := Lib.hid hF
  obtain ⟨ln, hln⟩ : ∃ ln, way.length = ln + 1 := ⟨way.length - 1, by have := List.length_pos_iff.2 hne; omega⟩
  have ha : way.getD 0 0 < p.2.2.1.length := hlt _ (getD_in (by omega))
  have hz : way.getD ln 0 < p.2.2.1.length := hlt _ (getD_in (by omega))
  have eA := headD_at way
  have eZ := lastD_at way ln hln
  have HLT := Lib.hid hlt
  have HW := Lib.hid hw
  have HV := Lib.hid hV
  have HWI := Lib.hid (fun i (hi : i < way.length) => intsR_at' hw (i := i) (by rw [nI_length]; exact hi))
  obtain ⟨vp, vk, rfl, vl, vl', -⟩ := sliceR_open hw
  rw [nI_length, hln] at vl
  unfold maxLen at vl'
  have HWL := Lib.hid (show intsR V w [.slice vp (ln + 1) vk] (nI way) from by have h := HW.out; rw [nI_length, hln] at h; exact h)
  have hvl := visL_length (netOf p) hne
  have HU := Lib.hid hU
  have huc := intsR_at' hu (i := 0) (by rw [nI_length, hvl]; omega)
  obtain ⟨bu, ou, eu, -⟩ := huc
  have HUW := Lib.hid hu
  obtain ⟨up, uk, rfl, ul, ul', -⟩ := sliceR_open hu
  obtain rfl : up = some ⟨bu, ou, none⟩ := eu
  rw [nI_length, hvl, hln] at ul
  unfold maxLen at ul'
  have HUL1 := Lib.hid (show (nI (visL (netOf p) way)).length = ln + 1 from by rw [nI_length, hvl, hln])
  have HUL := Lib.hid (show intsR U w [.slice (some ⟨bu, ou, none⟩) (ln + 1) uk] (nI (visL (netOf p) way)) from by have h := HUW.out; rw [HUL1.out] at h; exact h)
  obtain ⟨ba, oa, ea1, wa⟩ := HWI.out 0 (by omega)
  obtain ⟨bz, oz, ez1, wz⟩ := HWI.out ln (by omega)
  obtain rfl : vp = some ⟨ba, oa, none⟩ := ea1
  obtain ⟨rfl, rfl⟩ : ba = bz ∧ oa = oz := by simpa using (show some (⟨ba, oa, none⟩ : Addr) = some ⟨bz, oz, none⟩ from ez1)
  rw [nI_at] at wa wz
  obtain ⟨na1, na2, na3, na4, -⟩ := netOf_at hp ha
  obtain ⟨nz1, nz2, nz3, nz4, -⟩ := netOf_at hp hz
  obtain ⟨lb, lo, ea, la0, la1, la2, la3⟩ := link_at Q2.out ha
  obtain ⟨lb', lo', ea', lz0, lz1, lz2, lz3⟩ := link_at Q2.out hz
  obtain rfl : p2 = some ⟨lb, lo, none⟩ := ea
  obtain ⟨rfl, rfl⟩ : lb = lb' ∧ lo = lo' := by simpa using ea'
  rw [na1] at la0
  rw [nz2] at lz1
  have HG := Lib.hid (show (f = 0 ∧ (netOf p).ringF f way = (if (netOf p).to (way.getD ln 0) = (netOf p).fr (way.getD 0 0) ∧ 0 < (netOf p).wt way then way else [])) ∨ (∃ g, f = g + 1 ∧ (netOf p).ringF f way = (if (visL (netOf p) way).contains ((netOf p).to (way.getD ln 0)) then [] else firstV (fun k => if way.getD 0 0 < k ∧ (netOf p).fr k = (netOf p).to (way.getD ln 0) then (netOf p).ringF g (way ++ [k]) else []) (netOf p).nl)) from by
    cases f with
    | zero => left; exact ⟨rfl, by rw [ring_zero, eA, eZ]⟩
    | succ g =>
      right
      refine ⟨g, rfl, ?_⟩
      rw [ring_succ, eA, eZ]
      unfold visL
      rw [List.contains_cons, eA]
      by_cases e : (netOf p).to (way.getD ln 0) = (netOf p).fr (way.getD 0 0)
      · rw [if_pos e, if_pos (by rw [e, beq_self_eq_true, Bool.true_or])]
      · rw [if_neg e]
        have e2 : ((netOf p).to (way.getD ln 0) == (netOf p).fr (way.getD 0 0)) = false := by simpa using e
        rw [e2, Bool.false_or])
  have hsb := wt_bd (netOf p) hF way hlt
  obtain ⟨most, hmost⟩ : ∃ m : Int, ((way.length + f : Nat) : Int) = m := ⟨_, rfl⟩
  rw [hmost, nI_length, HUL1.out, hln]
  have HM := Lib.hid (show most = (ln : Int) + 1 + f from by rw [← hmost, hln]; simp)
  have hm6 : most ≤ 6 := by omega
  have hln6 : ln ≤ 5 := by omega
  rw [hln] at hsb
  obtain ⟨SM, hSM⟩ : ∃ z : Int, (netOf p).wt way = z := ⟨_, rfl⟩
  rw [hSM] at hsb HG
  rw [hSM]
  have hs0 : -360 ≤ SM := by omega
  have hs1 : SM ≤ 432 := by omega
  have HSM := Lib.hid hSM
  have HLL := Lib.hid (fun k => visL_snoc (netOf p) hne k)
  clear hmost hSM hsb
  obtain ⟨FA, hFA⟩ : ∃ n : Nat, (netOf p).fr (way.getD 0 0) = n := ⟨_, rfl⟩
  obtain ⟨TZ, hTZ⟩ : ∃ n : Nat, (netOf p).to (way.getD ln 0) = n := ⟨_, rfl⟩
  have HTL := Lib.hid (show (netOf p).to (way.getLastD 0) = TZ from by rw [eZ, hTZ])
  rw [hFA] at la0 HG
  rw [hTZ] at lz1 HG
  have htz : TZ ≤ 6 := by have := (projOk_bd hp).2.1; omega
  obtain ⟨A, hA⟩ : ∃ n : Nat, way.getD 0 0 = n := ⟨_, rfl⟩
  obtain ⟨Z, hZ⟩ : ∃ n : Nat, way.getD ln 0 = n := ⟨_, rfl⟩
  rw [hA] at wa la0 la1 la2 la3 HG ha
  rw [hZ] at wz lz0 lz1 lz2 lz3 hz
  have hai : (A : Int) < (p.2.2.1.length : Int) := by omega
  have hzi : (Z : Int) < (p.2.2.1.length : Int) := by omega
  have HLN := Lib.hid hln
  have HLEN := Lib.hid hlen
  have HWA1 := Lib.hid (show (nI way).length = ln + 1 from by rw [nI_length, hln])
  have HW6 := Lib.hid (show (nI way).length ≤ 1000000 from by rw [nI_length, hln]; omega)
  have HU6 := Lib.hid (show (nI (visL (netOf p) way)).length ≤ 1000000 from by rw [HUL1.out]; omega)
  have hl0 : (0 : Int) ≤ (ln : Int) := by omega
  clear hw hV hu hU hne hlt hp hF eA eZ na1 na2 na3 na4 nz1 nz2 nz3 nz4 ha hz ez1 ea' hFA hTZ hA hZ hln hlen hvl
  simp only [Nat.add_zero] at wa
  generalize p.2.2.1.getD A zLink = XA at *
  generalize p.2.2.1.getD Z zLink = XZ at *
  show Calls Try.prog 96 #[.agg #[.int .i64 p.1, .slice p1 p.2.1.length k1, .slice (some ⟨lb, lo, none⟩) p.2.2.1.length k2, .slice p3 p.2.2.2.1.length k3, .slice p4 p.2.2.2.2.length k4], .slice (some ⟨ba, oa, none⟩) (ln + 1) vk, .slice (some ⟨bu, ou, none⟩) (ln + 1) uk, .int .i64 SM, .int .i64 most] w _
  go_enter Try.func96, Try.ntmps96
  obtain ⟨W0, hW0, hwW, hsz0, hbx⟩ : ∃ W0, W0 = w.alloc (.cells #[.int .i64 p.1, .slice p1 p.2.1.length k1, .slice (some ⟨lb, lo, none⟩) p.2.2.1.length k2, .slice p3 p.2.2.2.1.length k3, .slice p4 p.2.2.2.2.length k4] 34) ∧ Bel w W0 ∧ W0.heap.size = w.heap.size + 1 ∧ W0.cell? ⟨w.heap.size, 0, none⟩ = some (.int .i64 p.1) ∧ W0.cell? ⟨w.heap.size, 1, none⟩ = some (.slice p1 p.2.1.length k1) ∧ W0.cell? ⟨w.heap.size, 2, none⟩ = some (.slice (some ⟨lb, lo, none⟩) p.2.2.1.length k2) ∧ W0.cell? ⟨w.heap.size, 3, none⟩ = some (.slice p3 p.2.2.2.1.length k3) ∧ W0.cell? ⟨w.heap.size, 4, none⟩ = some (.slice p4 p.2.2.2.2.length k4) := ⟨_, rfl, by (repeat (first | assumption | exact Bel.refl _ | apply Bel.drewN | apply Bel.drew | apply Bel.alloc | refine Bel.trans ?_ (by assumption))), by simp, by simp [go_sem], by simp [go_sem], by simp [go_sem], by simp [go_sem], by simp [go_sem]⟩
  have HBX := Lib.hid (show ∀ W, Bel W0 W → W.cell? ⟨w.heap.size, 0, none⟩ = some (.int .i64 p.1) ∧ W.cell? ⟨w.heap.size, 1, none⟩ = some (.slice p1 p.2.1.length k1) ∧ W.cell? ⟨w.heap.size, 2, none⟩ = some (.slice (some ⟨lb, lo, none⟩) p.2.2.1.length k2) ∧ W.cell? ⟨w.heap.size, 3, none⟩ = some (.slice p3 p.2.2.2.1.length k3) ∧ W.cell? ⟨w.heap.size, 4, none⟩ = some (.slice p4 p.2.2.2.2.length k4) from fun W hW => keep5 hbx hW)
  clear hbx
  have HCL := Lib.hid (show ∀ W, Bel W0 W → W.cell? ⟨w.heap.size, 2, none⟩ = some (.slice (some ⟨lb, lo, none⟩) p.2.2.1.length k2) ∧ W.cell? ⟨ba, oa, none⟩ = some (.int .i64 (A : Int)) ∧ W.cell? ⟨ba, oa + ln, none⟩ = some (.int .i64 (Z : Int)) ∧ W.cell? ⟨lb, lo + A * 4, none⟩ = some (.int .i64 (FA : Int)) ∧ W.cell? ⟨lb, lo + A * 4 + 1, none⟩ = some (.int .i64 XA.2.1) ∧ W.cell? ⟨lb, lo + A * 4 + 2, none⟩ = some (.bool XA.2.2.1) ∧ W.cell? ⟨lb, lo + A * 4 + 3, none⟩ = some (.int .i64 XA.2.2.2) ∧ W.cell? ⟨lb, lo + Z * 4, none⟩ = some (.int .i64 XZ.1) ∧ W.cell? ⟨lb, lo + Z * 4 + 1, none⟩ = some (.int .i64 (TZ : Int)) ∧ W.cell? ⟨lb, lo + Z * 4 + 2, none⟩ = some (.bool XZ.2.2.1) ∧ W.cell? ⟨lb, lo + Z * 4 + 3, none⟩ = some (.int .i64 XZ.2.2.2) from fun W hW => by
    have h0 := HBX.out W hW
    have hwW2 := hwW.trans hW
    exact ⟨h0.2.2.1, hwW2.cell wa, hwW2.cell wz, hwW2.cell la0, hwW2.cell la1, hwW2.cell la2, hwW2.cell la3, hwW2.cell lz0, hwW2.cell lz1, hwW2.cell lz2, hwW2.cell lz3⟩)
  have HWA := Lib.hid wa
  clear wa wz la0 la1 la2 la3 lz0 lz1 lz2 lz3
  have hnilc := fun (W : World) (a : Option Addr) (n c : Nat) => run_neq_slice_nil_any (P := Try.prog) W 25 3 a n c 0 0 Try.underlying25
  go_upto_region 1 with (fail)
  rw [← hW0]
  clear hW0
  go_cut [11, 12] (fun s1 s2 wx => Cut1 W0 FA TZ s1 s2 wx)
  case first =>
    have hll1 : (ln : Int) < (ln : Int) + 1 := by omega
    have hwr1 : IntKind.i64.wrap (ln : Int) = (ln : Int) := IntWalk.i64_in _ (by omega)
    go_region_held3 (fun W => W.cell? ⟨w.heap.size, 2, none⟩ = some (.slice (some ⟨lb, lo, none⟩) p.2.2.1.length k2) ∧ W.cell? ⟨ba, oa, none⟩ = some (.int .i64 (A : Int)) ∧ W.cell? ⟨ba, oa + ln, none⟩ = some (.int .i64 (Z : Int)) ∧ W.cell? ⟨lb, lo + A * 4, none⟩ = some (.int .i64 (FA : Int)) ∧ W.cell? ⟨lb, lo + A * 4 + 1, none⟩ = some (.int .i64 XA.2.1) ∧ W.cell? ⟨lb, lo + A * 4 + 2, none⟩ = some (.bool XA.2.2.1) ∧ W.cell? ⟨lb, lo + A * 4 + 3, none⟩ = some (.int .i64 XA.2.2.2) ∧ W.cell? ⟨lb, lo + Z * 4, none⟩ = some (.int .i64 XZ.1) ∧ W.cell? ⟨lb, lo + Z * 4 + 1, none⟩ = some (.int .i64 (TZ : Int)) ∧ W.cell? ⟨lb, lo + Z * 4 + 2, none⟩ = some (.bool XZ.2.2.1) ∧ W.cell? ⟨lb, lo + Z * 4 + 3, none⟩ = some (.int .i64 XZ.2.2.2)) (exact HCL.out _ (by (repeat (first | assumption | exact Bel.refl _ | apply Bel.drewN | apply Bel.drew | apply Bel.alloc | (refine Bel.set ?_ (by first | exact Nat.le_refl _ | (simp; omega) | omega) _) | refine Bel.trans ?_ (by assumption))))) (fail)
    all_goals (go_wp2_with fail; go_meet; refine ⟨_, _, rfl, rfl, ?_, ?_, by (repeat (first | assumption | exact Bel.refl _ | apply Bel.drewN | apply Bel.drew | apply Bel.alloc | (refine Bel.set ?_ (by first | exact Nat.le_refl _ | (simp; omega) | omega) _) | refine Bel.trans ?_ (by assumption)))⟩ <;> first | exact (cell_obj (alloc_at (by simp [hsz0])) _).trans rfl | exact (cell_obj (alloc_keep (alloc_at (by simp [hsz0]))) _).trans rfl)
  case rest =>
    obtain ⟨A1, A2, rfl, rfl, hc1, hc2, hB⟩ := hcut
    obtain ⟨W1, hW1⟩ : ∃ W, W = wc := ⟨wc, rfl⟩
    subst hW1
    have HC12 := Lib.hid (show ∀ W, Bel W1 W → W.cell? ⟨A1, 0, none⟩ = some (.int .i64 (FA : Int)) ∧ W.cell? ⟨A2, 1, none⟩ = some (.int .i64 (TZ : Int)) from fun W hW => ⟨hW.cell hc1, hW.cell hc2⟩)
    have hBw := hwW.trans hB
    by_cases hm : most = (ln : Int) + 1
    · have HR := Lib.hid (show (netOf p).ringF f way = (if TZ = FA ∧ 0 < SM then way else []) from by
        rcases HG.out with ⟨_, h⟩ | ⟨g, hg, _⟩
        · exact h
        · have := HM.out; omega)
      subst hm
      by_cases hc : TZ = FA
      rotate_left
      · have HRR := Lib.hid (show (netOf p).ringF f way = [] from by rw [HR.out, if_neg (by rintro ⟨h, _⟩; exact hc h)])
        have hcb : ((TZ : Int) == (FA : Int)) = false := by simpa using (by omega : ¬ (TZ : Int) = (FA : Int))
        go_wp2
        go_ret
        rw [HRR.out]
        exact CycRes.nil hBw
      obtain rfl : FA = TZ := hc.symm
      by_cases hs : 0 < SM
      rotate_left
      · have HRR := Lib.hid (show (netOf p).ringF f way = [] from by rw [HR.out]; simp [hs])
        go_wp2
        go_ret
        rw [HRR.out]
        exact CycRes.nil hBw
      have HRR := Lib.hid (show (netOf p).ringF f way = way from by rw [HR.out]; simp [hs])
      clear HR hc
      go_wp2_with fail
      refine (cloneInts_any (some ⟨ba, oa, none⟩) (ln + 1) vk (nI way) V _ HWA1.out (intsR_good.bel HWL.out (by (repeat (first | assumption | exact Bel.refl _ | apply Bel.drewN | apply Bel.drew | apply Bel.alloc | refine Bel.trans ?_ (by assumption)))) HV.out) (fun b hb => Nat.lt_of_lt_of_le (HV.out b hb) (Bel.size (by (repeat (first | assumption | exact Bel.refl _ | apply Bel.drewN | apply Bel.drew | apply Bel.alloc | refine Bel.trans ?_ (by assumption)))))) (fun h => by cases h) HW6.out).mono ?_
      rintro e w3 ⟨q1, cq1, rfl, hO1, gC1, -, -⟩
      have hsz1 := hBw.size
      have HO := Lib.hid (hO1.done (T := New w w3) (fun b h1 h2 => ⟨by omega, h2⟩))
      clear hO1
      rw [HWA1.out] at HO
      rw [HWA1.out]
      go_wp2
      go_ret
      rw [HRR.out]
      exact ⟨_, rfl, HO.out, hBw.trans gC1, fun h => absurd h HNE.out⟩
    obtain ⟨g, hg, hr⟩ : ∃ g, f = g + 1 ∧ (netOf p).ringF f way = (if (visL (netOf p) way).contains TZ then [] else firstV (fun k => if A < k ∧ (netOf p).fr k = TZ then (netOf p).ringF g (way ++ [k]) else []) (netOf p).nl) := by
      rcases HG.out with ⟨h0, h⟩ | ⟨g, hg, h⟩
      · have := HM.out; omega
      · exact ⟨g, hg, h⟩
    have HR := Lib.hid hr
    have HGF := Lib.hid hg
    have hm2 : ¬ (ln : Int) + 1 = most := fun e => hm e.symm
    have hmm : ((ln : Int) + 1 == most) = false := by simpa using hm2
    clear hr hg hm HG
    go_wp2_with fail
    refine (containsInts_any _ (nI (visL (netOf p) way)) (TZ : Int) U _ (intsR_good.bel HUL.out (by (repeat (first | assumption | exact Bel.refl _ | apply Bel.drewN | apply Bel.drew | apply Bel.alloc | refine Bel.trans ?_ (by assumption)))) HU.out)).mono ?_
    rintro e w' ⟨rfl, rfl⟩
    rw [hasB_nI]
    cases hh : (visL (netOf p) way).contains TZ
    rotate_left
    · have HRR := Lib.hid (show (netOf p).ringF f way = [] from by rw [HR.out, hh]; rfl)
      clear hh
      go_wp2
      go_ret
      rw [HRR.out]
      exact CycRes.nil hBw
    have HRR := Lib.hid (show (netOf p).ringF f way = firstV (fun k => if A < k ∧ (netOf p).fr k = TZ then (netOf p).ringF g (way ++ [k]) else []) p.2.2.1.length from by rw [HR.out, hh]; rfl)
    clear HR hh
    obtain ⟨b0, b1, b2, b3, b4⟩ := HBX.out _ hB
    go_wp2_with fail
    clear b0 b1 b2 b3 b4 hc1 hc2 hmm hm2
    go_loopw [55] (fun i wr => ∃ (k : Nat), k ≤ p.2.2.1.length ∧ i = .int .i64 k ∧ (∀ j, j < k → (if A < j ∧ (netOf p).fr j = TZ then (netOf p).ringF g (way ++ [j]) else []) = []) ∧ Bel W1 wr) (fun i _ => p.2.2.1.length - (intOf i).toNat)
    case atStart => exact ⟨0, Nat.zero_le _, rfl, fun j hj => by omega, Bel.refl _⟩
    case round =>
      obtain ⟨k, hk, rfl, hall, hB1⟩ := hrel
      have HALL := Lib.hid hall; clear hall
      have hBr : Bel W0 wr := hB.trans hB1
      have hB2 : Bel w wr := hwW.trans hBr
      obtain ⟨b0, b1, b2, b3, b4⟩ := HBX.out wr hBr
      obtain ⟨hc1, hc2⟩ := HC12.out wr hB1
      have wa := hB2.cell (p := ⟨ba, oa, none⟩) (v := .int .i64 (A : Int)) HWA.out
      by_cases hlt : k < p.2.2.1.length
      · obtain ⟨nk1, nk2, nk3, nk4, -, ng0, ng1⟩ := netOf_at HPO.out hlt
        obtain ⟨lb', lo', ea', lk0, lk1, lk2, lk3⟩ := link_at Q2.out hlt
        obtain ⟨rfl, rfl⟩ : lb = lb' ∧ lo = lo' := by simpa using ea'
        have lk0 := hB2.cell lk0
        have lk1 := hB2.cell lk1
        have lk2 := hB2.cell lk2
        have lk3 := hB2.cell lk3
        have HKL := Lib.hid hlt
        have HXK := Lib.hid (projOk_link HPO.out hlt)
        have HGK := Lib.hid (show fullGapV p (p.2.2.1.getD k zLink) = (netOf p).gp k from rfl)
        have HFK := Lib.hid (show (p.2.2.1.getD k zLink).1 = ((netOf p).fr k : Nat) from nk1)
        have HNO := Lib.hid (show (if A < k ∧ (netOf p).fr k = TZ then (netOf p).ringF g (way ++ [k]) else []) = [] → ∀ j, j < k + 1 → (if A < j ∧ (netOf p).fr j = TZ then (netOf p).ringF g (way ++ [j]) else []) = [] from fun h j hj => by
          by_cases e : j = k
          · rw [e]; exact h
          · exact HALL.out j (by omega))
        have HY := Lib.hid (show A < k ∧ (netOf p).fr k = TZ → (if A < k ∧ (netOf p).fr k = TZ then (netOf p).ringF g (way ++ [k]) else []) = (netOf p).ringF g (way ++ [k]) from fun h => if_pos h)
        have HN := Lib.hid (show ¬ (A < k ∧ (netOf p).fr k = TZ) → (if A < k ∧ (netOf p).fr k = TZ then (netOf p).ringF g (way ++ [k]) else []) = [] from fun h => if_neg h)
        have HHIT := Lib.hid (show (if A < k ∧ (netOf p).fr k = TZ then (netOf p).ringF g (way ++ [k]) else []) ≠ [] → (netOf p).ringF f way = (if A < k ∧ (netOf p).fr k = TZ then (netOf p).ringF g (way ++ [k]) else []) from fun h => by rw [HRR.out]; exact firstV_hit hlt h HALL.out)
        have HREC := Lib.hid (show ∀ W, Bel W0 W → ∀ v1 V2 v2 U2, intsR V2 W [v1] (nI way ++ [(k : Int)]) → (∀ b, V2 b → b < W.heap.size) → intsR U2 W [v2] (nI (visL (netOf p) way) ++ [(TZ : Int)]) → (∀ b, U2 b → b < W.heap.size) → Calls Try.prog 96 #[.agg #[.int .i64 p.1, .slice p1 p.2.1.length k1, .slice (some ⟨lb, lo, none⟩) p.2.2.1.length k2, .slice p3 p.2.2.2.1.length k3, .slice p4 p.2.2.2.2.length k4], v1, v2, .int .i64 (SM + (netOf p).gp k), .int .i64 most] W (CycRes W ((netOf p).ringF g (way ++ [k]))) from fun W hW v1 V2 v2 U2 h hV2 h2 hU2 => by
          have h5 := HIH.out g HGF.out _ p S v1 (way ++ [k]) V2 v2 U2 W (HP1.out W (hwW.trans hW)) (fun b hb => Nat.lt_of_lt_of_le (HS.out b hb) (Bel.size (hwW.trans hW))) HPO.out (by rw [nI_append, nI_one]; exact h) hV2 (by rw [HLL.out, HTL.out, nI_append, nI_one]; exact h2) hU2 (by simp) (fun x hx => by
            rcases List.mem_append.1 hx with hx | hx
            · exact HLT.out x hx
            · rw [List.mem_singleton.1 hx]; exact HKL.out) (by have := HLEN.out; have := HGF.out; simp; omega)
          rw [show (((way ++ [k]).length + g : Nat) : Int) = most from by rw [HM.out, HGF.out, List.length_append, HLN.out]; simp; omega, show (netOf p).wt (way ++ [k]) = SM + (netOf p).gp k from by rw [(netOf p).wt_append, HSM.out]; simp [Net.wt]] at h5
          exact h5)
        have awa := fun o => ((Bel.refl wr).alloc o).cell wa
        have ahc1 := fun o => ((Bel.refl wr).alloc o).cell hc1
        have ahc2 := fun o => ((Bel.refl wr).alloc o).cell hc2
        have hg0 : -360 ≤ SM + (netOf p).gp k - 60 + 60 ∨ True := Or.inr trivial
        have hwrS : IntKind.i64.wrap (SM + (netOf p).gp k) = SM + (netOf p).gp k := IntWalk.i64_in _ (by omega)
        generalize (netOf p).gp k = GK at *
        generalize (if A < k ∧ (netOf p).fr k = TZ then (netOf p).ringF g (way ++ [k]) else []) = CK at *
        generalize (netOf p).fr k = FK at *
        have hka : (k : Int) ≤ (A : Int) ∨ (A : Int) < (k : Int) := by omega
        generalize p.2.2.1.getD k zLink = X at *
        clear ea' nk1 nk2 nk3 nk4 hg0
        obtain ⟨x0, x1⟩ := X
        obtain rfl : x0 = (FK : Int) := HFK.out
        clear HFK
        by_cases h2 : A < k
        rotate_left
        · have HNN := Lib.hid (HNO.out (HN.out (fun h => h2 h.1)))
          have h2i : (k : Int) ≤ (A : Int) := by omega
          clear hka hwrS
          go_wp2
          go_roundw
          case rel => exact ⟨k + 1, by omega, by go_num, HNN.out, by (repeat (first | assumption | exact Bel.refl _ | apply Bel.drewN | apply Bel.drew | apply Bel.alloc | refine Bel.trans ?_ (by assumption)))⟩
          case measure => simp [intOf]; omega
        have h2i : (A : Int) < (k : Int) := by omega
        clear hka
        by_cases h1 : FK = TZ
        rotate_left
        · have HNN := Lib.hid (HNO.out (HN.out (fun h => h1 h.2)))
          have h1i : ((FK : Int) == (TZ : Int)) = false := by simpa using (by omega : ¬ (FK : Int) = (TZ : Int))
          clear hwrS
          go_wp2
          go_roundw
          case rel => exact ⟨k + 1, by omega, by go_num, HNN.out, by (repeat (first | assumption | exact Bel.refl _ | apply Bel.drewN | apply Bel.drew | apply Bel.alloc | refine Bel.trans ?_ (by assumption)))⟩
          case measure => simp [intOf]; omega
        obtain rfl : TZ = FK := h1.symm
        have HC := Lib.hid (HY.out ⟨h2, rfl⟩)
        clear HY HN
        have hszB := hBr.size
        obtain ⟨W2, hW2, hB22, hsz2, hl0, hl1, hl2, hl3⟩ : ∃ W2, W2 = wr.alloc (.cells #[.int .i64 (TZ : Int), .int .i64 x1.1, .bool x1.2.1, .int .i64 x1.2.2] 70) ∧ Bel wr W2 ∧ W2.heap.size = wr.heap.size + 1 ∧ W2.cell? ⟨wr.heap.size, 0, none⟩ = some (.int .i64 (TZ : Int)) ∧ W2.cell? ⟨wr.heap.size, 1, none⟩ = some (.int .i64 x1.1) ∧ W2.cell? ⟨wr.heap.size, 2, none⟩ = some (.bool x1.2.1) ∧ W2.cell? ⟨wr.heap.size, 3, none⟩ = some (.int .i64 x1.2.2) := ⟨_, rfl, (Bel.refl _).alloc _, by simp, by simp [go_sem], by simp [go_sem], by simp [go_sem], by simp [go_sem]⟩
        have hB20 : Bel W0 W2 := hBr.trans hB22
        have HKP := Lib.hid (show ∀ W, Bel W2 W → W.cell? ⟨w.heap.size, 0, none⟩ = some (.int .i64 p.1) ∧ W.cell? ⟨w.heap.size, 1, none⟩ = some (.slice p1 p.2.1.length k1) ∧ W.cell? ⟨w.heap.size, 2, none⟩ = some (.slice (some ⟨lb, lo, none⟩) p.2.2.1.length k2) ∧ W.cell? ⟨w.heap.size, 3, none⟩ = some (.slice p3 p.2.2.2.1.length k3) ∧ W.cell? ⟨w.heap.size, 4, none⟩ = some (.slice p4 p.2.2.2.2.length k4) ∧ W.cell? ⟨A2, 1, none⟩ = some (.int .i64 (TZ : Int)) ∧ W.cell? ⟨wr.heap.size, 0, none⟩ = some (.int .i64 (TZ : Int)) ∧ W.cell? ⟨wr.heap.size, 1, none⟩ = some (.int .i64 x1.1) ∧ W.cell? ⟨wr.heap.size, 2, none⟩ = some (.bool x1.2.1) ∧ W.cell? ⟨wr.heap.size, 3, none⟩ = some (.int .i64 x1.2.2) from fun W hW => by
          obtain ⟨b0, b1, b2, b3, b4⟩ := HBX.out W (hB20.trans hW)
          exact ⟨b0, b1, b2, b3, b4, (HC12.out W (hB1.trans (hB22.trans hW))).2, hW.cell hl0, hW.cell hl1, hW.cell hl2, hW.cell hl3⟩)
        clear hl0 hl1 hl2 hl3
        go_upto_region 12 with (fail)
        rw [← hW2]
        clear hW2
        go_cut [15] (fun s wx => CutN wr ((netOf p).ringF g (way ++ [k])) s wx)
        case first =>
          go_region_held3 (fun W => W.cell? ⟨w.heap.size, 0, none⟩ = some (.int .i64 p.1) ∧ W.cell? ⟨w.heap.size, 1, none⟩ = some (.slice p1 p.2.1.length k1) ∧ W.cell? ⟨w.heap.size, 2, none⟩ = some (.slice (some ⟨lb, lo, none⟩) p.2.2.1.length k2) ∧ W.cell? ⟨w.heap.size, 3, none⟩ = some (.slice p3 p.2.2.2.1.length k3) ∧ W.cell? ⟨w.heap.size, 4, none⟩ = some (.slice p4 p.2.2.2.2.length k4) ∧ W.cell? ⟨A2, 1, none⟩ = some (.int .i64 (TZ : Int)) ∧ W.cell? ⟨wr.heap.size, 0, none⟩ = some (.int .i64 (TZ : Int)) ∧ W.cell? ⟨wr.heap.size, 1, none⟩ = some (.int .i64 x1.1) ∧ W.cell? ⟨wr.heap.size, 2, none⟩ = some (.bool x1.2.1) ∧ W.cell? ⟨wr.heap.size, 3, none⟩ = some (.int .i64 x1.2.2)) (first | exact HKP.out _ (by (repeat (first | assumption | exact Bel.refl _ | apply Bel.drewN | apply Bel.drew | apply Bel.alloc | refine Bel.trans ?_ (by assumption)))) | go_keep)
            (first | (go_at_call 97; (with_reducible refine (fullGap_any _ p S ((TZ : Int), x1) _ (HP1.out _ (by (repeat (first | assumption | exact Bel.refl _ | apply Bel.drewN | apply Bel.drew | apply Bel.alloc | refine Bel.trans ?_ (by assumption))))) (fun b hb => Nat.lt_of_lt_of_le (HS.out b hb) (Bel.size (by (repeat (first | assumption | exact Bel.refl _ | apply Bel.drewN | apply Bel.drew | apply Bel.alloc | refine Bel.trans ?_ (by assumption)))))) HPO.out HXK.out).mono ?_); rintro e wg ⟨rfl, gG⟩; rw [HGK.out]; have hb5 := Bel.trans hb4 gG; have hc5 := Bel.trans hc4 gG; have HX1 := Lib.hid (intsR_good.bel HX1.out gG HX3.out); have HX2 := Lib.hid (intsR_good.bel HX2.out gG HX3.out); have HX3 := Lib.hid (show ∀ b, New W2 wa2 b → b < wg.heap.size from fun b hb => Nat.lt_of_lt_of_le hb.2 gG.size)) | (go_at_call 96; (with_reducible refine (HREC.out _ hb5 _ (New W2 wa2) _ (New W2 wa2) HX1.out HX3.out HX2.out HX3.out).mono ?_); rintro e wq ⟨vr, rfl, hr, gr, hnil0⟩) | (go_at_call 110; (with_reducible refine (cloneInts_any (some ⟨ba, oa, none⟩) (ln + 1) vk (nI way) V _ HWA1.out (intsR_good.bel HWL.out (by (repeat (first | assumption | exact Bel.refl _ | apply Bel.drewN | apply Bel.drew | apply Bel.alloc | refine Bel.trans ?_ (by assumption)))) HV.out) (fun b hb => Nat.lt_of_lt_of_le (HV.out b hb) (Bel.size (by (repeat (first | assumption | exact Bel.refl _ | apply Bel.drewN | apply Bel.drew | apply Bel.alloc | refine Bel.trans ?_ (by assumption)))))) (fun h => by cases h) HW6.out).mono ?_); rintro e wc1 ⟨q1, cq1, rfl, hO1, gC1, hn1, -⟩; rw [HWA1.out]; have hb1 := Bel.trans (a := W0) (by (repeat (first | assumption | exact Bel.refl _ | apply Bel.drewN | apply Bel.drew | apply Bel.alloc | refine Bel.trans ?_ (by assumption)))) gC1; have hc1 := Bel.trans (a := W2) (by (repeat (first | assumption | exact Bel.refl _ | apply Bel.drewN | apply Bel.drew | apply Bel.alloc | refine Bel.trans ?_ (by assumption)))) gC1; have hL1 := fun a ha => hO1.lt (a := a) ha; have z1 := gC1.size; (try simp at z1); (try simp at hL1); have hO1 := hO1.low (B' := W2.heap.size) (by first | omega | (simp; done) | (simp; omega))) | (go_at_call 110; (with_reducible refine (cloneInts_any (some ⟨bu, ou, none⟩) (ln + 1) uk (nI (visL (netOf p) way)) U _ HUL1.out (intsR_good.bel HUL.out (by (repeat (first | assumption | exact Bel.refl _ | apply Bel.drewN | apply Bel.drew | apply Bel.alloc | refine Bel.trans ?_ (by assumption)))) HU.out) (fun b hb => Nat.lt_of_lt_of_le (HU.out b hb) (Bel.size (by (repeat (first | assumption | exact Bel.refl _ | apply Bel.drewN | apply Bel.drew | apply Bel.alloc | refine Bel.trans ?_ (by assumption)))))) (fun h => by cases h) HU6.out).mono ?_); rintro e wc2 ⟨q3, cq3, rfl, hO3, gC2, hn3, -⟩; rw [HUL1.out]; have hb3 := Bel.trans (a := W0) (by (repeat (first | assumption | exact Bel.refl _ | apply Bel.drewN | apply Bel.drew | apply Bel.alloc | refine Bel.trans ?_ (by assumption)))) gC2; have hc3 := Bel.trans (a := W2) (by (repeat (first | assumption | exact Bel.refl _ | apply Bel.drewN | apply Bel.drew | apply Bel.alloc | refine Bel.trans ?_ (by assumption)))) gC2; have hd3 := Bel.trans (a := wa1) (by (repeat (first | assumption | exact Bel.refl _ | apply Bel.drewN | apply Bel.drew | apply Bel.alloc | refine Bel.trans ?_ (by assumption)))) gC2; have hL3 := fun a ha => hO3.lt (a := a) ha; have z3 := gC2.size; (try simp at z3); (try simp at hL3); have hO3 := hO3.low (B' := W2.heap.size) (by first | omega | (simp; done) | (simp; omega))) | ((refine step_apps (o := ⟨some 77, _, _, _, _, _⟩) (B := W2.heap.size) _ (by rfl) _ _ 25 (by rfl) (.int .i64 0) 8 Try.underlying25 (by kernel_rfl) rfl (by decide) _ _ _ (nI way) (by rfl) (hO1.bel (by (repeat (first | assumption | exact Bel.refl _ | apply Bel.drewN | apply Bel.drew | apply Bel.alloc | refine Bel.trans ?_ (by assumption))))) (by have h := HWA1.out; omega) _ _ _ [(k : Int)] (fun b => b = _) (by rfl) (intsR_cell (by (repeat (first | (with_reducible refine alloc_at ?_; first | rfl | omega | (simp; done) | (simp; omega)) | (with_reducible refine drew_keep ?_) | (with_reducible refine alloc_keep ?_) | (rw [gC1.block (by first | omega | (simp; done) | (simp; omega))])))) (by unfold I64; omega)) rfl (fun h => by cases h) (by first | omega | (simp; done) | (simp; omega)) (by first | exact hc1.size | exact Nat.le_trans hc1.size (Bel.size (by (repeat (first | assumption | exact Bel.refl _ | apply Bel.drewN | apply Bel.drew | apply Bel.alloc | refine Bel.trans ?_ (by assumption)))))) ?_); intro q2 cq2 wa1 hO2 hG1 hNN; have z2 := hG1.size; (try simp at z2); have hb2 := hG1.bel W0 (by (repeat (first | assumption | exact Bel.refl _ | apply Bel.drewN | apply Bel.drew | apply Bel.alloc | refine Bel.trans ?_ (by assumption)))) (by omega); have hc2 := hG1.bel W2 (by (repeat (first | assumption | exact Bel.refl _ | apply Bel.drewN | apply Bel.drew | apply Bel.alloc | refine Bel.trans ?_ (by assumption)))) (Nat.le_refl _); have hL2 := fun a ha => hO2.lt (a := a) ha) | ((refine step_apps (o := ⟨some 83, _, _, _, _, _⟩) (B := W2.heap.size) _ (by rfl) _ _ 25 (by rfl) (.int .i64 0) 8 Try.underlying25 (by kernel_rfl) rfl (by decide) _ _ _ (nI (visL (netOf p) way)) (by rfl) (hO3.bel (by (repeat (first | assumption | exact Bel.refl _ | apply Bel.drewN | apply Bel.drew | apply Bel.alloc | refine Bel.trans ?_ (by assumption))))) (by have h := HUL1.out; omega) _ _ _ [(TZ : Int)] (fun b => b = _) (by rfl) (intsR_cell (by (repeat (first | (with_reducible refine alloc_at ?_; first | rfl | omega | (simp; done) | (simp; omega)) | (with_reducible refine drew_keep ?_) | (with_reducible refine alloc_keep ?_) | (rw [gC2.block (by first | omega | (simp; done) | (simp; omega))]) | (rw [(hG1.far _ (by first | omega | (simp; done) | (simp; omega)) (by intro a ha; have hL := hL1 a ha; first | omega | (simp; done) | (simp; omega))).1]) | (rw [gC1.block (by first | omega | (simp; done) | (simp; omega))])))) (by unfold I64; omega)) rfl (fun h => by cases h) (by first | omega | (simp; done) | (simp; omega)) (by first | exact hc3.size | exact Nat.le_trans hc3.size (Bel.size (by (repeat (first | assumption | exact Bel.refl _ | apply Bel.drewN | apply Bel.drew | apply Bel.alloc | refine Bel.trans ?_ (by assumption)))))) ?_); intro q4 cq4 wa2 hO4 hG2 hNN; have z4 := hG2.size; (try simp at z4); have hb4 := hG2.bel W0 (by (repeat (first | assumption | exact Bel.refl _ | apply Bel.drewN | apply Bel.drew | apply Bel.alloc | refine Bel.trans ?_ (by assumption)))) (by omega); have hc4 := hG2.bel W2 (by (repeat (first | assumption | exact Bel.refl _ | apply Bel.drewN | apply Bel.drew | apply Bel.alloc | refine Bel.trans ?_ (by assumption)))) (Nat.le_refl _); have HX1 := Lib.hid (show intsR (New W2 wa2) wa2 [.slice q2 (ln + 1 + 1) cq2] (nI way ++ [(k : Int)]) from by have h := ((OwnI.bel hO2 hd3).bel (by (repeat (first | assumption | exact Bel.refl _ | apply Bel.drewN | apply Bel.drew | apply Bel.alloc | refine Bel.trans ?_ (by assumption))))).keep (w' := wa2) (fun a ha => (hG2.far a.block (by have h2 := hL2 a ha; first | omega | (simp; done) | (simp; omega)) (by intro a' ha'; have h2 := hL2 a ha; have h3 := hL3 a' ha'; first | omega | (simp; done) | (simp; omega))).1); have h := h.done (T := New W2 wa2) (fun b h1 h2 => ⟨h1, h2⟩); rw [show (nI way ++ [(k : Int)]).length = ln + 1 + 1 from by rw [List.length_append, HWA1.out]; rfl] at h; exact h); have HX2 := Lib.hid (show intsR (New W2 wa2) wa2 [.slice q4 (ln + 1 + 1) cq4] (nI (visL (netOf p) way) ++ [(TZ : Int)]) from by have h := hO4.done (T := New W2 wa2) (fun b h1 h2 => ⟨h1, h2⟩); rw [show (nI (visL (netOf p) way) ++ [(TZ : Int)]).length = ln + 1 + 1 from by rw [List.length_append, HUL1.out]; rfl] at h; exact h); have HX3 := Lib.hid (show ∀ b, New W2 wa2 b → b < wa2.heap.size from fun b hb => hb.2); clear hO1 gC1 hn1 hL1 z1 hO2 hG1 z2 hb1 hc1 hb2 hc2 hL2 hO3 gC2 hn3 hL3 z3 hb3 hc3 hd3 hO4 hG2 z4) | fail)
          all_goals (go_wp2_with fail; go_meet; exact ⟨intsR_good.mono hr (fun b hb => ⟨Nat.le_trans hB22.size (Nat.le_trans hc5.size hb.1), hb.2⟩), (hB22.trans hc5).trans gr, hnil0⟩)
        case rest =>
          obtain ⟨hres, hBx, hnil0⟩ := hcut
          have HRES := Lib.hid hres
          have hBx0 := hB1.trans hBx
          by_cases hemp : (netOf p).ringF g (way ++ [k]) = []
          · obtain rfl := hnil0 hemp
            have HNN := Lib.hid (HNO.out (HC.out.trans hemp))
            clear hemp hres hnil0
            go_wp2
            go_roundw
            case rel => exact ⟨k + 1, by omega, by go_num, HNN.out, hBx0⟩
            case measure => simp [intOf]; omega
          · have hpos := List.length_pos_iff.2 hemp
            obtain ⟨rb, ro, re, -⟩ := intsR_at' hres (i := 0) (by rw [nI_length]; exact hpos)
            obtain ⟨rp, rk, rfl, rl, rl', -⟩ := sliceR_open hres
            obtain rfl : rp = some ⟨rb, ro, none⟩ := re
            have HE := Lib.hid (show (netOf p).ringF f way = (netOf p).ringF g (way ++ [k]) from by rw [← HC.out]; exact HHIT.out (by rw [HC.out]; exact hemp))
            have HEMP := Lib.hid hemp
            clear hres hnil0 hemp
            go_wp2
            go_ret
            rw [HE.out]
            have hs1 := hB2.size
            exact ⟨_, rfl, intsR_good.mono HRES.out (fun b hb => ⟨by have := hb.1; omega, hb.2⟩), hB2.trans hBx, fun h => absurd h HEMP.out⟩
      · have HRX := Lib.hid (show (netOf p).ringF f way = [] from by rw [HRR.out]; exact firstV_miss fun j hj => HALL.out j (by omega))
        go_wp2
        go_ret
        rw [HRX.out]
        exact CycRes.nil hB2

end Go.Proofs.Ytiaamddhocdhaaa
