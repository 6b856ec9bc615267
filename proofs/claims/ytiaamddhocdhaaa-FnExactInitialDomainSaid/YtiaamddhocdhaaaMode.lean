/- Contracts of mode and end of an activity in a schedule. -/
import Derived.Test.YtiaamddhocdhaaaSchForm
import Derived.Test.YtiaamddhocdhaaaKeep
import Derived.Deep.RegionHeld3
import Derived.StillTailTactics
namespace Go.Proofs.Ytiaamddhocdhaaa
open Go.ChangeShapes Go.WideShapes Go.ChangeAt Go.RowKit
set_option linter.unusedVariables false

/-- The mode of the k-th activity in a schedule. -/
def modeOf (p : ProjT) (s : SchT) (k : Nat) : ModeT := (p.2.1.getD k zAct).2.2.getD (s.2.getD k 0).toNat zMode
def endOf (p : ProjT) (s : SchT) (k : Nat) : Int := s.1.getD k 0 + (modeOf p s k).1
/-- A mode's value, its numbers in blocks of S. -/
def ModeRes (S : Nat → Prop) (w' : World) (x : ModeT) (e : Ending) : Prop := ∃ u0 un c0 cn, e = .returned (.agg #[.int .i64 x.1, .slice u0 x.2.1.length un, .slice c0 x.2.2.length cn]) ∧ intsR S w' [.slice u0 x.2.1.length un] x.2.1 ∧ intsR S w' [.slice c0 x.2.2.length cn] x.2.2
/-- The k-th activity is there and has the mode that the schedule names. -/
def ModeIn (p : ProjT) (s : SchT) (k : Nat) : Prop := k < p.2.1.length ∧ k < s.1.length ∧ k < s.2.length ∧ ∃ m : Nat, s.2.getD k 0 = m ∧ m < (p.2.1.getD k zAct).2.2.length
theorem formAt_in {p : ProjT} {s : SchT} {k : Nat} (h : schFormB p s = true) (hk : k < p.2.1.length) : ModeIn p s k ∧ 0 ≤ s.1.getD k 0 ∧ s.1.getD k 0 ≤ 60 := by
  unfold schFormB at h
  simp only [Bool.and_eq_true, decide_eq_true_eq] at h
  obtain ⟨_, h2, h3, h4⟩ := h
  have h5 := List.all_eq_true.1 h4 k (List.mem_range.2 hk)
  unfold formAt at h5
  simp only [inBv, Bool.and_eq_true, decide_eq_true_eq] at h5
  obtain ⟨⟨h6, h7⟩, h8, h9⟩ := h5
  obtain ⟨m, hm⟩ := Int.eq_ofNat_of_zero_le h8
  exact ⟨⟨hk, by omega, by omega, m, hm, by omega⟩, h6, h7⟩
theorem projOk_form {p : ProjT} {s : SchT} (h : schFormB p s = true) : projOk p = true := by
  unfold schFormB at h
  simp only [Bool.and_eq_true] at h
  exact h.1
theorem projOk_head {p : ProjT} (h : projOk p = true) : headOkB p = true := by
  unfold projOk at h
  simp only [Bool.and_eq_true] at h
  exact h.1
theorem projOk_bd {p : ProjT} (h : projOk p = true) : 1 ≤ p.2.1.length ∧ p.2.1.length ≤ 6 ∧ p.2.2.2.1.length ≤ 3 ∧ p.2.2.2.2.length ≤ 2 ∧ p.2.2.1.length ≤ 12 ∧ 1 ≤ p.1 ∧ p.1 ≤ 60 := by
  have h1 := projOk_head h
  unfold headOkB at h1
  simp only [inBv, Bool.and_eq_true, decide_eq_true_eq] at h1
  omega
theorem projOk_act {p : ProjT} (h : projOk p = true) {k : Nat} (hk : k < p.2.1.length) : actAtOk p k = true := by
  unfold projOk at h
  simp only [Bool.and_eq_true] at h
  exact List.all_eq_true.1 h.2.1 k (List.mem_range.2 hk)
theorem projOk_modes {p : ProjT} (h : projOk p = true) {k : Nat} (hk : k < p.2.1.length) : 1 ≤ (p.2.1.getD k zAct).2.2.length ∧ (p.2.1.getD k zAct).2.2.length ≤ 3 := by
  have h1 := projOk_act h hk
  unfold actAtOk actOkB at h1
  simp only [inBv, Bool.and_eq_true, decide_eq_true_eq] at h1
  omega
theorem projOk_mode {p : ProjT} (h : projOk p = true) {k m : Nat} (hk : k < p.2.1.length) (hm : m < (p.2.1.getD k zAct).2.2.length) : modeOkB ((p.2.1.getD k zAct).2.2.getD m zMode) p.2.2.2.1.length p.2.2.2.2.length = true := by
  have h1 := projOk_act h hk
  unfold actAtOk actOkB at h1
  simp only [Bool.and_eq_true] at h1
  exact List.all_eq_true.1 h1.1.1 m (List.mem_range.2 hm)
/-- A mode of a well formed project: durations, usages, consumptions. -/
theorem modeOk_bd {x : ModeT} {r s : Nat} (h : modeOkB x r s = true) : 1 ≤ x.1 ∧ x.1 ≤ 12 ∧ x.2.1.length = r ∧ x.2.2.length = s ∧ (∀ i, i < r → 0 ≤ x.2.1.getD i 0 ∧ x.2.1.getD i 0 ≤ 20) ∧ (∀ i, i < s → 0 ≤ x.2.2.getD i 0 ∧ x.2.2.getD i 0 ≤ 20) := by
  unfold modeOkB amountsB at h
  simp only [inBv, Bool.and_eq_true, decide_eq_true_eq, List.all_eq_true, List.mem_range] at h
  obtain ⟨⟨h1, h2⟩, ⟨h3, h4⟩, h5, h6⟩ := h
  have e4 : x.2.1.length = r := by omega
  have e6 : x.2.2.length = s := by omega
  rw [e4] at h3
  rw [e6] at h5
  exact ⟨h1, h2, e4, e6, h3, h5⟩
theorem modeOf_ok {p : ProjT} {s : SchT} {k : Nat} (h : schFormB p s = true) (hk : k < p.2.1.length) : modeOkB (modeOf p s k) p.2.2.2.1.length p.2.2.2.2.length = true := by
  obtain ⟨⟨_, _, _, m, hm, hm'⟩, _, _⟩ := formAt_in h hk
  unfold modeOf
  rw [hm]
  exact projOk_mode (projOk_form h) hk hm'
theorem endOf_bd {p : ProjT} {s : SchT} {k : Nat} (h : schFormB p s = true) (hk : k < p.2.1.length) : 1 ≤ endOf p s k ∧ endOf p s k ≤ 72 := by
  have h1 := modeOk_bd (modeOf_ok h hk)
  have h2 := (formAt_in h hk).2
  unfold endOf
  omega

theorem cell_away {w : World} {a : Addr} {v u : Value} {g j : Nat} (h : w.cell? a = some v) (hne : a.block ≠ g) : (w.setCell ⟨g, j, none⟩ u).cell? a = some v := by
  rw [World.cell?_of_block (w := w) (Below.heap_setCell _ _ _ _ hne)]
  exact h

theorem modeField0 (d : Int) (u0 : Option Addr) (ul un : Nat) (c0 : Option Addr) (cl cn : Nat) (w : World) : (Instr.field 176 (.agg #[.int .i64 d, .slice u0 ul un, .slice c0 cl cn]) 0).run Try.prog w = .ok (.int .i64 d) w := by kernel_rfl
theorem modeField1 (d : Int) (u0 : Option Addr) (ul un : Nat) (c0 : Option Addr) (cl cn : Nat) (w : World) : (Instr.field 176 (.agg #[.int .i64 d, .slice u0 ul un, .slice c0 cl cn]) 1).run Try.prog w = .ok (.slice u0 ul un) w := by kernel_rfl
theorem modeField2 (d : Int) (u0 : Option Addr) (ul un : Nat) (c0 : Option Addr) (cl cn : Nat) (w : World) : (Instr.field 176 (.agg #[.int .i64 d, .slice u0 ul un, .slice c0 cl cn]) 2).run Try.prog w = .ok (.slice c0 cl cn) w := by kernel_rfl

set_option maxHeartbeats 1000000 in
theorem iMode_any (v : Value) (p : ProjT) (S : Nat → Prop) (v1 : Value) (s : SchT) (T : Nat → Prop) (k : Nat) (w : World) (hx : aggR projR S w v p) (hS : ∀ b, S b → b < w.heap.size) (hs : aggR schR T w v1 s) (hT : ∀ b, T b → b < w.heap.size) (hk : ModeIn p s k) :
    Calls Try.prog 153 #[v, v1, .int .i64 k] w fun e w' => ModeRes S w' (modeOf p s k) e ∧ Bel w w' := by
  obtain ⟨cs, rfl, hx⟩ := hx
  obtain ⟨c1, c2, c3, c4, rfl, q0, q1, q2, q3, q4⟩ := projR_open hx
  have Q1 := Lib.hid q1
  have Q2 := Lib.hid q2
  have Q3 := Lib.hid q3
  have Q4 := Lib.hid q4
  have HP := Lib.hid hx
  obtain ⟨p1, k1, rfl, l1, l1', -⟩ := sliceR_open q1
  obtain ⟨p2, k2, rfl, l2, l2', -⟩ := sliceR_open q2
  obtain ⟨p3, k3, rfl, l3, l3', -⟩ := sliceR_open q3
  obtain ⟨p4, k4, rfl, l4, l4', -⟩ := sliceR_open q4
  unfold maxLen at l1' l2' l3' l4'
  clear hx q0 q1 q2 q3 q4
  obtain ⟨zs, rfl, hs⟩ := hs
  have HZ := hs
  obtain ⟨z0, z1, rfl, zq0, zq1⟩ := schR_open hs
  have A0 := Lib.hid (fun i hi => intsR_at' zq0 (i := i) hi)
  have A1 := Lib.hid (fun i hi => intsR_at' zq1 (i := i) hi)
  obtain ⟨sp0, sk0, rfl, sl0, sl0', -⟩ := sliceR_open zq0
  obtain ⟨sp1, sk1, rfl, sl1, sl1', -⟩ := sliceR_open zq1
  unfold maxLen at sl0' sl1'
  have HT := Lib.hid hT
  have HQ1 := Lib.hid (show ∀ W, Bel w W → aggR schR T W (.agg #[.slice sp0 s.1.length sk0, .slice sp1 s.2.length sk1]) s from fun W hW => aggR_mk (schR_good.bel HZ hW HT.out))
  clear hs zq0 zq1 hT HZ
  have HS := Lib.hid hS
  clear hS
  show Calls Try.prog 153 #[.agg #[.int .i64 p.1, .slice p1 p.2.1.length k1, .slice p2 p.2.2.1.length k2, .slice p3 p.2.2.2.1.length k3, .slice p4 p.2.2.2.2.length k4], .agg #[.slice sp0 s.1.length sk0, .slice sp1 s.2.length sk1], .int .i64 k] w _
  obtain ⟨hkp, hk0, hk1, m, hm, hml⟩ := hk
  have G := Bel.refl w
  obtain ⟨sb0, so0, se0, sa0⟩ := A0.out k hk0
  obtain ⟨sb1, so1, se1, sa1⟩ := A1.out k hk1
  obtain rfl : sp0 = some ⟨sb0, so0, none⟩ := se0
  obtain rfl : sp1 = some ⟨sb1, so1, none⟩ := se1
  have sa0 := G.cell sa0
  have sa1 := G.cell sa1
  obtain ⟨ab, ao, acs, aea, arow, ael⟩ := sliceR_at zAct Q1.out hkp
  obtain rfl : p1 = some ⟨ab, ao, none⟩ := aea
  obtain ⟨ac2, rfl, aq0, aq1, aq2⟩ := actR_open ael
  have HMea := Lib.hid aq2
  obtain ⟨am, amk, rfl, aml, aml', -⟩ := sliceR_open aq2
  unfold maxLen at aml'
  have ea0 := G.cell (arow 0 (by simp)).1
  have ea1 := G.cell (arow 1 (by simp)).1
  have ea2 := G.cell (arow 2 (by simp)).1
  simp only [List.getElem_cons_zero, List.getElem_cons_succ, Nat.add_zero] at ea0 ea1 ea2
  clear arow ael aq0 aq1 aq2
  have HMO := Lib.hid (show modeOf p s k = (p.2.1.getD k zAct).2.2.getD m zMode from by unfold modeOf; rw [hm]; rfl)
  rw [hm] at sa1
  clear hm sa0
  generalize p.2.1.getD k zAct = X at *
  obtain ⟨mb, mo, mcs, mea, mrow, mel⟩ := sliceR_at zMode HMea.out hml
  obtain rfl : am = some ⟨mb, mo, none⟩ := mea
  rw [← HMO.out] at mel
  clear HMO
  generalize modeOf p s k = M at *
  obtain ⟨mc1, mc2, rfl, mq0, mq1, mq2⟩ := modeR_open mel
  have HU := Lib.hid mq1
  have HC := Lib.hid mq2
  obtain ⟨u0, un, rfl, -⟩ := sliceR_open mq1
  obtain ⟨c0, cn, rfl, -⟩ := sliceR_open mq2
  have md0 := (mrow 0 (by simp)).1
  have md1 := (mrow 1 (by simp)).1
  have md2 := (mrow 2 (by simp)).1
  simp only [List.getElem_cons_zero, List.getElem_cons_succ, Nat.add_zero] at md0 md1 md2
  clear mrow mel mq0 mq1 mq2 ea0 ea1
  have hkpi : (k : Int) < (p.2.1.length : Int) := by omega
  have hk1i : (k : Int) < (s.2.length : Int) := by omega
  have hmli : (m : Int) < (X.2.2.length : Int) := by omega
  have sa1 := fun o1 o2 o3 => ((((Bel.refl w).alloc o1).alloc o2).alloc o3).cell sa1
  have ea2 := fun o1 o2 o3 => ((((Bel.refl w).alloc o1).alloc o2).alloc o3).cell ea2
  have md0 := fun o1 o2 o3 => ((((Bel.refl w).alloc o1).alloc o2).alloc o3).cell md0
  have md1 := fun o1 o2 o3 => ((((Bel.refl w).alloc o1).alloc o2).alloc o3).cell md1
  have md2 := fun o1 o2 o3 => ((((Bel.refl w).alloc o1).alloc o2).alloc o3).cell md2
  clear hk0 hkp hk1 hml
  go_enter Try.func153, Try.ntmps153
  go_wp2_with fail
  go_region_held3 (fun W => W.cell? ⟨w.heap.size, 1, none⟩ = some (.slice (some ⟨ab, ao, none⟩) p.2.1.length k1) ∧ W.cell? ⟨w.heap.size + 1, 1, none⟩ = some (.slice (some ⟨sb1, so1, none⟩) s.2.length sk1) ∧ W.cell? ⟨sb1, so1 + k, none⟩ = some (.int .i64 m) ∧ W.cell? ⟨ab, ao + k * 3 + 2, none⟩ = some (.slice (some ⟨mb, mo, none⟩) X.2.2.length amk) ∧ W.cell? ⟨mb, mo + m * 3, none⟩ = some (.int .i64 M.1) ∧ W.cell? ⟨mb, mo + m * 3 + 1, none⟩ = some (.slice u0 M.2.1.length un) ∧ W.cell? ⟨mb, mo + m * 3 + 2, none⟩ = some (.slice c0 M.2.2.length cn)) (first | go_keep | (go_split_ands; refine ⟨?_, ?_, ?_, ?_, ?_, ?_, ?_⟩ <;> (repeat (first | assumption | refine cell_away ?_ (by simp; omega)))))
    (fail)
  go_wp2
  refine bodyPost_ret (v := .agg #[.int .i64 M.1, .slice u0 M.2.1.length un, .slice c0 M.2.2.length cn]) (by simp [results, Try.results153, go_sem]) rfl ⟨⟨u0, un, c0, cn, rfl, intsR_good.bel HU.out (by (repeat (first | exact Bel.refl _ | apply Bel.drewN | apply Bel.drew | apply Bel.alloc | refine Bel.trans ?_ (by assumption)))) HS.out, intsR_good.bel HC.out (by (repeat (first | exact Bel.refl _ | apply Bel.drewN | apply Bel.drew | apply Bel.alloc | refine Bel.trans ?_ (by assumption)))) HS.out⟩, by (repeat (first | exact Bel.refl _ | apply Bel.drewN | apply Bel.drew | apply Bel.alloc | refine Bel.trans ?_ (by assumption)))⟩


set_option maxHeartbeats 1000000 in
theorem iEnd_any (v : Value) (p : ProjT) (S : Nat → Prop) (v1 : Value) (s : SchT) (T : Nat → Prop) (k : Nat) (w : World) (hx : aggR projR S w v p) (hS : ∀ b, S b → b < w.heap.size) (hs : aggR schR T w v1 s) (hT : ∀ b, T b → b < w.heap.size) (hf : schFormB p s = true) (hk : k < p.2.1.length) :
    Calls Try.prog 146 #[v, v1, .int .i64 k] w fun e w' => e = .returned (.int .i64 (endOf p s k)) ∧ Bel w w' := by
  obtain ⟨cs, rfl, hx⟩ := hx
  obtain ⟨c1, c2, c3, c4, rfl, q0, q1, q2, q3, q4⟩ := projR_open hx
  have Q1 := Lib.hid q1
  have Q2 := Lib.hid q2
  have Q3 := Lib.hid q3
  have Q4 := Lib.hid q4
  have HP := Lib.hid hx
  obtain ⟨p1, k1, rfl, l1, l1', -⟩ := sliceR_open q1
  obtain ⟨p2, k2, rfl, l2, l2', -⟩ := sliceR_open q2
  obtain ⟨p3, k3, rfl, l3, l3', -⟩ := sliceR_open q3
  obtain ⟨p4, k4, rfl, l4, l4', -⟩ := sliceR_open q4
  unfold maxLen at l1' l2' l3' l4'
  clear hx q0 q1 q2 q3 q4
  obtain ⟨zs, rfl, hs⟩ := hs
  have HZ := hs
  obtain ⟨z0, z1, rfl, zq0, zq1⟩ := schR_open hs
  have A0 := Lib.hid (fun i hi => intsR_at' zq0 (i := i) hi)
  have A1 := Lib.hid (fun i hi => intsR_at' zq1 (i := i) hi)
  obtain ⟨sp0, sk0, rfl, sl0, sl0', -⟩ := sliceR_open zq0
  obtain ⟨sp1, sk1, rfl, sl1, sl1', -⟩ := sliceR_open zq1
  unfold maxLen at sl0' sl1'
  have HT := Lib.hid hT
  have HQ1 := Lib.hid (show ∀ W, Bel w W → aggR schR T W (.agg #[.slice sp0 s.1.length sk0, .slice sp1 s.2.length sk1]) s from fun W hW => aggR_mk (schR_good.bel HZ hW HT.out))
  clear hs zq0 zq1 hT HZ
  have HS := Lib.hid hS
  clear hS
  show Calls Try.prog 146 #[.agg #[.int .i64 p.1, .slice p1 p.2.1.length k1, .slice p2 p.2.2.1.length k2, .slice p3 p.2.2.2.1.length k3, .slice p4 p.2.2.2.2.length k4], .agg #[.slice sp0 s.1.length sk0, .slice sp1 s.2.length sk1], .int .i64 k] w _
  have HP1 := Lib.hid (show ∀ W, Bel w W → aggR projR S W (.agg #[.int .i64 p.1, .slice p1 p.2.1.length k1, .slice p2 p.2.2.1.length k2, .slice p3 p.2.2.2.1.length k3, .slice p4 p.2.2.2.2.length k4]) p from fun W hW => aggR_mk (projR_good.bel HP.out hW HS.out))
  have HI := Lib.hid (formAt_in hf hk)
  obtain ⟨⟨hkp, hk0, hk1, _⟩, hst0, hst1⟩ := formAt_in hf hk
  have hmb := modeOk_bd (modeOf_ok hf hk)
  obtain ⟨hd0, hd1, -⟩ := hmb
  have HE := Lib.hid (show endOf p s k = s.1.getD k 0 + (modeOf p s k).1 from rfl)
  obtain ⟨sb0, so0, se0, sa0⟩ := A0.out k hk0
  obtain rfl : sp0 = some ⟨sb0, so0, none⟩ := se0
  clear hf hk
  generalize s.1.getD k 0 = st at *
  have hk0i : (k : Int) < (s.1.length : Int) := by omega
  have sa0' := fun o1 o2 => (((Bel.refl w).alloc o1).alloc o2).cell sa0
  clear sa0 hkp hk0 hk1
  have HWR := Lib.hid (show IntKind.i64.wrap (st + (modeOf p s k).1) = st + (modeOf p s k).1 from IntWalk.i64_in _ (by omega))
  have hfd := modeField0
  go_enter Try.func146, Try.ntmps146
  go_wp2_with fail
  go_region_held3 (fun W => W.cell? ⟨w.heap.size, 0, none⟩ = some (.int .i64 p.1) ∧ W.cell? ⟨w.heap.size, 1, none⟩ = some (.slice p1 p.2.1.length k1) ∧ W.cell? ⟨w.heap.size, 2, none⟩ = some (.slice p2 p.2.2.1.length k2) ∧ W.cell? ⟨w.heap.size, 3, none⟩ = some (.slice p3 p.2.2.2.1.length k3) ∧ W.cell? ⟨w.heap.size, 4, none⟩ = some (.slice p4 p.2.2.2.2.length k4) ∧ W.cell? ⟨w.heap.size + 1, 0, none⟩ = some (.slice (some ⟨sb0, so0, none⟩) s.1.length sk0) ∧ W.cell? ⟨w.heap.size + 1, 1, none⟩ = some (.slice sp1 s.2.length sk1) ∧ W.cell? ⟨sb0, so0 + k, none⟩ = some (.int .i64 st)) (first | exact keep8 (by assumption) (by assumption) | go_keep)
    (first | (go_at_call 153; (with_reducible refine (iMode_any _ p S _ s T k _ (HP1.out _ (by (repeat (first | exact Bel.refl _ | apply Bel.drewN | apply Bel.drew | apply Bel.alloc | refine Bel.trans ?_ (by assumption))))) (fun b hb => Nat.lt_of_lt_of_le (HS.out b hb) (Bel.size (by (repeat (first | exact Bel.refl _ | apply Bel.drewN | apply Bel.drew | apply Bel.alloc | refine Bel.trans ?_ (by assumption)))))) (HQ1.out _ (by (repeat (first | exact Bel.refl _ | apply Bel.drewN | apply Bel.drew | apply Bel.alloc | refine Bel.trans ?_ (by assumption))))) (fun b hb => Nat.lt_of_lt_of_le (HT.out b hb) (Bel.size (by (repeat (first | exact Bel.refl _ | apply Bel.drewN | apply Bel.drew | apply Bel.alloc | refine Bel.trans ?_ (by assumption)))))) HI.out.1).mono ?_); rintro e wt ⟨⟨u0, un, c0, cn, rfl, hu, hc⟩, gt⟩; have HU := Lib.hid hu; have HC := Lib.hid hc; clear hu hc))
  go_wp2
  go_ret
  exact ⟨ret_int (by rw [HE.out]; first | exact HWR.out | rfl), by (repeat (first | exact Bel.refl _ | apply Bel.drewN | apply Bel.drew | apply Bel.alloc | refine Bel.trans ?_ (by assumption)))⟩


end Go.Proofs.Ytiaamddhocdhaaa
