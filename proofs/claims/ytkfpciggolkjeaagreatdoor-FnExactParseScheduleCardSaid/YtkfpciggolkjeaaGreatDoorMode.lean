/- Contracts of mode and end of an activity in a schedule. -/
import Derived.Test.YtkfpciggolkjeaaGreatDoorSchForm
import Derived.Test.YtkfpciggolkjeaaGreatDoorKeep
import Derived.Deep.RegionHeld3
import Derived.StillTailTactics
namespace Go.Proofs.YtkfpciggolkjeaaGreatDoor
open Go.ChangeShapes Go.WideShapes Go.ChangeAt Go.RowKit
set_option linter.unusedVariables false

/-- The mode of the k-th activity in a schedule. -/
def modeOf (p : ProjT) (s : SchT) (k : Nat) : ModeT := (p.2.1.getD k zAct).2.2.getD (s.2.getD k 0).toNat zMode
def endOf (p : ProjT) (s : SchT) (k : Nat) : Int := s.1.getD k 0 + (modeOf p s k).1
/-- A mode's value, its numbers in blocks of S. -/
def ModeRes (S : Nat → Prop) (w' : World) (x : ModeT) (e : Ending) : Prop := ∃ u0 un c0 cn, e = .returned (.agg #[.int .i64 x.1, .slice u0 x.2.1.length un, .slice c0 x.2.2.length cn]) ∧ intsR S w' [.slice u0 x.2.1.length un] x.2.1 ∧ intsR S w' [.slice c0 x.2.2.length cn] x.2.2
/-- The k-th activity is there and has the mode that the schedule names. -/
def ModeIn (p : ProjT) (s : SchT) (k : Nat) : Prop := k < p.2.1.length ∧ k < s.1.length ∧ k < s.2.length ∧ ∃ m : Nat, s.2.getD k 0 = m ∧ m < (p.2.1.getD k zAct).2.2.length
theorem formAt_in {p : ProjT} {s : SchT} {k : Nat} (h : schFormB p s = true) (hk : k < p.2.1.length) : ModeIn p s k ∧ 0 ≤ s.1.getD k 0 ∧ s.1.getD k 0 ≤ 60 := by
  unfold schFormB at h
  simp only [Bool.and_eq_true, decide_eq_true_eq] at h
  obtain ⟨_, h2, h3, h4⟩ := h
  have h5 := List.all_eq_true.1 h4 k (List.mem_range.2 hk)
  unfold formAt at h5
  simp only [inBv, Bool.and_eq_true, decide_eq_true_eq] at h5
  obtain ⟨⟨h6, h7⟩, h8, h9⟩ := h5
  obtain ⟨m, hm⟩ := Int.eq_ofNat_of_zero_le h8
  exact ⟨⟨hk, by omega, by omega, m, hm, by omega⟩, h6, h7⟩
theorem projOk_form {p : ProjT} {s : SchT} (h : schFormB p s = true) : projOk p = true := by
  unfold schFormB at h
  simp only [Bool.and_eq_true] at h
  exact h.1
theorem projOk_head {p : ProjT} (h : projOk p = true) : headOkB p = true := by
  unfold projOk at h
  simp only [Bool.and_eq_true] at h
  exact h.1
theorem projOk_bd {p : ProjT} (h : projOk p = true) : 1 ≤ p.2.1.length ∧ p.2.1.length ≤ 6 ∧ p.2.2.2.1.length ≤ 3 ∧ p.2.2.2.2.length ≤ 2 ∧ p.2.2.1.length ≤ 12 ∧ 1 ≤ p.1 ∧ p.1 ≤ 60 := by
  have h1 := projOk_head h
  unfold headOkB at h1
  simp only [inBv, Bool.and_eq_true, decide_eq_true_eq] at h1
  omega
theorem projOk_act {p : ProjT} (h : projOk p = true) {k : Nat} (hk : k < p.2.1.length) : actAtOk p k = true := by
  unfold projOk at h
  simp only [Bool.and_eq_true] at h
  exact List.all_eq_true.1 h.2.1 k (List.mem_range.2 hk)
theorem projOk_modes {p : ProjT} (h : projOk p = true) {k : Nat} (hk : k < p.2.1.length) : 1 ≤ (p.2.1.getD k zAct).2.2.length ∧ (p.2.1.getD k zAct).2.2.length ≤ 3 := by
  have h1 := projOk_act h hk
  unfold actAtOk actOkB at h1
  simp only [inBv, Bool.and_eq_true, decide_eq_true_eq] at h1
  omega
theorem projOk_mode {p : ProjT} (h : projOk p = true) {k m : Nat} (hk : k < p.2.1.length) (hm : m < (p.2.1.getD k zAct).2.2.length) : modeOkB ((p.2.1.getD k zAct).2.2.getD m zMode) p.2.2.2.1.length p.2.2.2.2.length = true := by
  have h1 := projOk_act h hk
  unfold actAtOk actOkB at h1
  simp only [Bool.and_eq_true] at h1
  exact List.all_eq_true.1 h1.1.1 m (List.mem_range.2 hm)
/-- A mode of a well formed project: durations, usages, consumptions. -/
theorem modeOk_bd {x : ModeT} {r s : Nat} (h : modeOkB x r s = true) : 1 ≤ x.1 ∧ x.1 ≤ 12 ∧ x.2.1.length = r ∧ x.2.2.length = s ∧ (∀ i, i < r → 0 ≤ x.2.1.getD i 0 ∧ x.2.1.getD i 0 ≤ 20) ∧ (∀ i, i < s → 0 ≤ x.2.2.getD i 0 ∧ x.2.2.getD i 0 ≤ 20) := by
  unfold modeOkB amountsB at h
  simp only [inBv, Bool.and_eq_true, decide_eq_true_eq, List.all_eq_true, List.mem_range] at h
  obtain ⟨⟨h1, h2⟩, ⟨h3, h4⟩, h5, h6⟩ := h
  have e4 : x.2.1.length = r := by omega
  have e6 : x.2.2.length = s := by omega
  rw [e4] at h3
  rw [e6] at h5
  exact ⟨h1, h2, e4, e6, h3, h5⟩
theorem modeOf_ok {p : ProjT} {s : SchT} {k : Nat} (h : schFormB p s = true) (hk : k < p.2.1.length) : modeOkB (modeOf p s k) p.2.2.2.1.length p.2.2.2.2.length = true := by
  obtain ⟨⟨_, _, _, m, hm, hm'⟩, _, _⟩ := formAt_in h hk
  unfold modeOf
  rw [hm]
  exact projOk_mode (projOk_form h) hk hm'
theorem endOf_bd {p : ProjT} {s : SchT} {k : Nat} (h : schFormB p s = true) (hk : k < p.2.1.length) : 1 ≤ endOf p s k ∧ endOf p s k ≤ 72 := by
  have h1 := modeOk_bd (modeOf_ok h hk)
  have h2 := (formAt_in h hk).2
  unfold endOf
  omega

theorem cell_away {w : World} {a : Addr} {v u : Value} {g j : Nat} (h : w.cell? a = some v) (hne : a.block ≠ g) : (w.setCell ⟨g, j, none⟩ u).cell? a = some v := by
  rw [World.cell?_of_block (w := w) (Below.heap_setCell _ _ _ _ hne)]
  exact h

theorem modeField0 (d : Int) (u0 : Option Addr) (ul un : Nat) (c0 : Option Addr) (cl cn : Nat) (w : World) : (Instr.field 149 (.agg #[.int .i64 d, .slice u0 ul un, .slice c0 cl cn]) 0).run Tryz.prog w = .ok (.int .i64 d) w := by kernel_rfl
theorem modeField1 (d : Int) (u0 : Option Addr) (ul un : Nat) (c0 : Option Addr) (cl cn : Nat) (w : World) : (Instr.field 149 (.agg #[.int .i64 d, .slice u0 ul un, .slice c0 cl cn]) 1).run Tryz.prog w = .ok (.slice u0 ul un) w := by kernel_rfl
theorem modeField2 (d : Int) (u0 : Option Addr) (ul un : Nat) (c0 : Option Addr) (cl cn : Nat) (w : World) : (Instr.field 149 (.agg #[.int .i64 d, .slice u0 ul un, .slice c0 cl cn]) 2).run Tryz.prog w = .ok (.slice c0 cl cn) w := by kernel_rfl





end Go.Proofs.YtkfpciggolkjeaaGreatDoor
