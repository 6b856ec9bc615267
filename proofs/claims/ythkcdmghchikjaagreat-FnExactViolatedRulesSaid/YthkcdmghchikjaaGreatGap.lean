/- Contracts of the gap of a link, LinkGap. -/
import Derived.Test.YthkcdmghchikjaaGreatMinDur
import Derived.Test.YthkcdmghchikjaaGreatMode
import Derived.Test.YthkcdmghchikjaaGreatHolds
namespace Go.Proofs.YthkcdmghchikjaaGreat
open Go.ChangeShapes Go.WideShapes Go.ChangeAt Go.RowKit
set_option linter.unusedVariables false

def gapV (p : ProjT) (k : LinkT) (sel : List Int) : Int := if k.2.2.1 = true then k.2.2.2 + minDur (p.2.1.getD k.1.toNat zAct).2.2 sel else k.2.2.2
def linkGapV (p : ProjT) (k : Int) (sel : List Int) : Int := if projOk p && inBv k 0 ((p.2.2.1.length : Int) - 1) then gapV p (p.2.2.1.getD k.toNat zLink) sel else 0
theorem projOk_link {p : ProjT} (h : projOk p = true) {j : Nat} (hj : j < p.2.2.1.length) : linkOkB p.2.1.length (p.2.2.1.getD j zLink) = true := by
  unfold projOk at h
  simp only [Bool.and_eq_true] at h
  exact List.all_eq_true.1 h.2.2.2.2 j (List.mem_range.2 hj)
theorem linkOk_bd {n : Nat} {k : LinkT} (h : linkOkB n k = true) : (∃ a : Nat, k.1 = a ∧ a < n) ∧ (∃ b : Nat, k.2.1 = b ∧ b < n) ∧ k.1 ≠ k.2.1 ∧ -60 ≤ k.2.2.2 ∧ k.2.2.2 ≤ 60 := by
  unfold linkOkB at h
  simp only [inBv, Bool.and_eq_true, decide_eq_true_eq, Bool.not_eq_true', decide_eq_false_iff_not] at h
  obtain ⟨⟨h1, h2⟩, ⟨h3, h4⟩, h5, h6, h7⟩ := h
  obtain ⟨a, ha⟩ := Int.eq_ofNat_of_zero_le h1
  obtain ⟨b, hb⟩ := Int.eq_ofNat_of_zero_le h3
  exact ⟨⟨a, ha, by omega⟩, ⟨b, hb, by omega⟩, h5, h6, h7⟩
theorem getD_at {α : Type} {l : List α} {i : Nat} (d : α) (h : i < l.length) : l.getD i d = l[i] := by simp [List.getD, h]
theorem projOk_durs {p : ProjT} (h : projOk p = true) {a : Nat} (ha : a < p.2.1.length) : ∀ m, m ∈ (p.2.1.getD a zAct).2.2 → 1 ≤ m.1 ∧ m.1 ≤ 12 := by
  intro m hm
  obtain ⟨i, hi, rfl⟩ := List.mem_iff_getElem.1 hm
  have h1 := modeOk_bd (projOk_mode h ha hi)
  rw [getD_at zMode hi] at h1
  exact ⟨h1.1, h1.2.1⟩
theorem projOk_mindur {p : ProjT} (h : projOk p = true) {a : Nat} (ha : a < p.2.1.length) (sel : List Int) : 0 ≤ minDur (p.2.1.getD a zAct).2.2 sel ∧ minDur (p.2.1.getD a zAct).2.2 sel ≤ 12 := minDur_bd (projOk_durs h ha)
theorem gapV_bd {p : ProjT} (h : projOk p = true) {k : LinkT} (hk : linkOkB p.2.1.length k = true) (sel : List Int) : -60 ≤ gapV p k sel ∧ gapV p k sel ≤ 72 := by
  obtain ⟨⟨a, ha, ha'⟩, _, _, h6, h7⟩ := linkOk_bd hk
  have h1 := projOk_mindur h ha' sel
  unfold gapV
  rw [ha, show ((a : Nat) : Int).toNat = a from rfl]
  split <;> omega





end Go.Proofs.YthkcdmghchikjaaGreat
