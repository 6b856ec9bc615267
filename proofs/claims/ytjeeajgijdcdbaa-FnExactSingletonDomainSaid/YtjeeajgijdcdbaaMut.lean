/- Writes into blocks of a set (Mut); rows of ints in one block. No program. -/
import Derived.Test.YtjeeajgijdcdbaaBlk
import Derived.Test.YtjeeajgijdcdbaaShape
namespace Go.Proofs.Ytjeeajgijdcdbaa
open Go.RowKit
set_option linter.unusedVariables false

/-- Between the two worlds only blocks of S have turned. -/
structure Mut (S : Nat → Prop) (w w' : World) : Prop where
  os : w'.os = w.os
  tape : w'.tape = w.tape
  output : w'.output = w.output
  size : w.heap.size ≤ w'.heap.size
  block : ∀ k, k < w.heap.size → ¬ S k → w'.heap[k]? = w.heap[k]?
theorem Mut.refl (S : Nat → Prop) (w : World) : Mut S w w := ⟨rfl, rfl, rfl, Nat.le_refl _, fun _ _ _ => rfl⟩
theorem Mut.trans {S : Nat → Prop} {a b c : World} (h : Mut S a b) (k : Mut S b c) : Mut S a c :=
  ⟨k.os.trans h.os, k.tape.trans h.tape, k.output.trans h.output, Nat.le_trans h.size k.size, fun i hi hn => (k.block i (by have := h.size; omega) hn).trans (h.block i hi hn)⟩
theorem Mut.mono {S T : Nat → Prop} {a b : World} (h : Mut S a b) (hs : ∀ k, S k → T k) : Mut T a b := ⟨h.os, h.tape, h.output, h.size, fun k hk hn => h.block k hk fun hh => hn (hs k hh)⟩
theorem Mut.set {S : Nat → Prop} {a b : World} (h : Mut S a b) (q j : Nat) (u : Value) (hq : S q) : Mut S a (b.setCell ⟨q, j, none⟩ u) :=
  h.trans ⟨rfl, rfl, rfl, by simp [World.setCell], fun k hk hn => Below.heap_setCell _ _ _ _ fun e => hn (e ▸ hq)⟩
theorem Mut.ofBel {S : Nat → Prop} {a b : World} (h : Bel a b) : Mut S a b := by
  obtain ⟨h1, h2, h3, h4, h5⟩ := h
  exact ⟨h1, h2, h3, h4, fun k hk _ => h5 k hk⟩
theorem Mut.bel {S : Nat → Prop} {w a b : World} (h : Bel w a) (hm : Mut S a b) (hs : ∀ k, S k → w.heap.size ≤ k) : Bel w b := by
  obtain ⟨h1, h2, h3, h4, h5⟩ := h
  exact ⟨hm.os.trans h1, hm.tape.trans h2, hm.output.trans h3, Nat.le_trans h4 hm.size, fun k hk => (hm.block k (by omega) fun hh => by have := hs k hh; omega).trans (h5 k hk)⟩
theorem Mut.keep {α : Type} {R : RepT α} (gd : Good R) {S T : Nat → Prop} {a b : World} {cs : List Value} {x : α} (hm : Mut S a b) (h : R T a cs x) (hT : ∀ k, T k → k < a.heap.size ∧ ¬ S k) : R T b cs x :=
  gd.stay h fun k hk => hm.block k (hT k hk).1 (hT k hk).2
theorem Mut.cell {S : Nat → Prop} {a b : World} {q j : Nat} {v : Value} (hm : Mut S a b) (h : a.cell? ⟨q, j, none⟩ = some v) (hq : ¬ S q) : b.cell? ⟨q, j, none⟩ = some v := by
  rw [World.cell?_of_block (w := a) (a := ⟨q, j, none⟩) (hm.block q (lt_of_cell h) hq)]
  exact h

/-- N cells from (b, off) on hold the ints f and may be written. -/
def IntCells (w : World) (b off : Nat) (f : Nat → Int) (N : Nat) : Prop := ∀ m, m < N → w.cell? ⟨b, off + m, none⟩ = some (.int .i64 (f m)) ∧ w.frozen? ⟨b, off + m, none⟩ = false
def upd (f : Nat → Int) (m : Nat) (x : Int) : Nat → Int := fun j => if j = m then x else f j
theorem IntCells.set {w : World} {b off N : Nat} {f : Nat → Int} (h : IntCells w b off f N) {q m : Nat} (hm : m < N) (hq : q = off + m) (x : Int) : IntCells (w.setCell ⟨b, q, none⟩ (.int .i64 x)) b off (upd f m x) N := by
  subst hq
  intro j hj
  refine ⟨?_, ?_⟩
  · by_cases e : j = m
    · subst e
      have h1 := (h j hj).1
      simp only [World.cell?] at h1 ⊢
      split at h1
      · next c t fr hh =>
        simp only [World.setCell, Array.getElem?_modify, hh]
        simp only [if_true, Option.map_some, Option.isSome_none, Bool.false_eq_true, if_false, Array.getElem?_setIfInBounds] at h1 ⊢
        have hlt : off + j < c.size := (Array.getElem?_eq_some_iff.1 h1).1
        simp [hlt, upd]
      · simp at h1
    · have h1 := (h j hj).1
      have hne : off + j ≠ off + m := by omega
      simp only [World.cell?] at h1 ⊢
      split at h1
      · next c t fr hh =>
        simp only [World.setCell, Array.getElem?_modify, hh]
        simp only [if_true, Option.map_some, Option.isSome_none, Bool.false_eq_true, if_false, Array.getElem?_setIfInBounds] at h1 ⊢
        rw [if_neg (Ne.symm hne), h1]
        simp [upd, e]
      · simp at h1
  · have h1 := (h j hj).2
    simp only [World.frozen?] at h1 ⊢
    cases hh : w.heap[b]? with
    | none => simp [World.setCell, Array.getElem?_modify, hh] at h1 ⊢
    | some ob =>
      cases ob <;> simp_all [World.setCell, Array.getElem?_modify]
theorem intCells_of {α : Type} {n : Nat} {R : RepT α} {S : Nat → Prop} {w : World} {b off len : Nat} {f : Nat → Int} (h : IntCells w b off f (len * n)) {k : Nat} (hk : k < len) (m : Nat) (hm : m < n) :
    w.cell? ⟨b, off + (k * n + m), none⟩ = some (.int .i64 (f (k * n + m))) ∧ w.frozen? ⟨b, off + (k * n + m), none⟩ = false := by
  refine h _ ?_
  have h5 : (k + 1) * n ≤ len * n := Nat.mul_le_mul_right _ (by omega)
  rw [Nat.succ_mul] at h5
  omega

/-- What markIntS writes from k on. -/
def mkIntS (k : Int) (len : Nat) : List (Int) := (List.range len).map fun i => k + (i : Nat)
theorem mkIntS_length (k : Int) (len : Nat) : (mkIntS k len).length = len := by simp [mkIntS]
theorem mkIntS_at (k : Int) (len i : Nat) (h : i < (mkIntS k len).length) : (mkIntS k len)[i] = k + (i : Nat) := by simp [mkIntS]
theorem intsR_cells {S : Nat → Prop} {w : World} {p : Option Addr} {len cap : Nat} {xs : List (Int)} (h : intsR S w [.slice p len cap] xs) : len = xs.length ∧ len ≤ cap ∧ cap ≤ maxLen ∧ (xs.length = 0 ∨ ∃ b off f, p = some ⟨b, off, none⟩ ∧ S b ∧ IntCells w b off f (xs.length * 1)) := by
  obtain ⟨p', cap', e0, l1, l2, h4⟩ := sliceR_open h
  obtain ⟨rfl, rfl, rfl⟩ : p = p' ∧ len = xs.length ∧ cap = cap' := by simpa using e0
  refine ⟨rfl, l1, l2, ?_⟩
  by_cases hz : xs.length = 0
  · exact Or.inl hz
  · right
    obtain ⟨b, off, _, rfl, hS, _⟩ := h4 0 (by omega)
    have key : ∀ j, j < xs.length * 1 → ∃ x : Int, w.cell? ⟨b, off + j, none⟩ = some (.int .i64 x) ∧ w.frozen? ⟨b, off + j, none⟩ = false := by
      intro j hj
      have hi : j / 1 < xs.length := by omega
      obtain ⟨b', off', ecs, e1, _, e3, e4, e5⟩ := h4 (j / 1) hi
      obtain ⟨rfl, rfl⟩ : b = b' ∧ off = off' := by simpa using e1
      obtain ⟨rfl, _⟩ := e5
      have h6 := e4 0 (by simp)
      rw [show off + j / 1 * 1 + 0 = off + j from by omega] at h6
      exact ⟨_, h6.1, h6.2⟩
    obtain ⟨f, hf⟩ := Go.Deep.choose_lt (α := Int) key
    exact ⟨b, off, f, rfl, hS, fun m hm => hf m hm⟩
theorem intsR_marked {S : Nat → Prop} {w : World} {b off len cap : Nat} {f : Nat → Int} {k : Int} (h : IntCells w b off f (len * 1)) (hf : ∀ m, m < len * 1 → f m = k + m) (hS : S b) (hl : len ≤ cap) (hc : cap ≤ maxLen) (h0 : 0 ≤ k) (h1 : k + (len * 1 : Nat) ≤ 9223372036854775807) :
    intsR S w [.slice (some ⟨b, off, none⟩) len cap] (mkIntS k len) := by
  refine ⟨_, cap, by rw [mkIntS_length], by rw [mkIntS_length]; exact hl, hc, fun i hi => ?_⟩
  rw [mkIntS_at]
  rw [mkIntS_length] at hi
  have cellm : ∀ m, m < 1 → w.cell? ⟨b, off + i * 1 + m, none⟩ = some (.int .i64 (k + ((1 * i + m : Nat) : Int))) ∧ w.frozen? ⟨b, off + i * 1 + m, none⟩ = false := by
    intro m hm
    have h5 : i * 1 + m < len * 1 := by omega
    have h6 := h _ h5
    rw [hf _ h5, ← Nat.add_assoc] at h6
    rw [Nat.mul_comm 1 i]
    exact h6
  refine ⟨b, off, [.int .i64 (k + (i : Nat))], rfl, hS, rfl, fun m hm => ?_, ⟨rfl, (show I64 (k + (i : Nat)) from by unfold I64; omega)⟩⟩
  match m, hm with
    | 0, _ =>
      have h7 := cellm 0 (by omega)
      exact ⟨by rw [h7.1]; simp only [List.getElem_cons_zero]; first | rfl | (congr 2; omega) | congr 2, h7.2⟩

/-- What markLiteralS writes from k on. -/
def mkLiteralS (k : Int) (len : Nat) : List (LitT) := (List.range len).map fun i => (k + (3 * i : Nat), k + (3 * i : Nat) + 1, k + (3 * i : Nat) + 2)
theorem mkLiteralS_length (k : Int) (len : Nat) : (mkLiteralS k len).length = len := by simp [mkLiteralS]
theorem mkLiteralS_at (k : Int) (len i : Nat) (h : i < (mkLiteralS k len).length) : (mkLiteralS k len)[i] = (k + (3 * i : Nat), k + (3 * i : Nat) + 1, k + (3 * i : Nat) + 2) := by simp [mkLiteralS]
theorem litsR_cells {S : Nat → Prop} {w : World} {p : Option Addr} {len cap : Nat} {xs : List (LitT)} (h : litsR S w [.slice p len cap] xs) : len = xs.length ∧ len ≤ cap ∧ cap ≤ maxLen ∧ (xs.length = 0 ∨ ∃ b off f, p = some ⟨b, off, none⟩ ∧ S b ∧ IntCells w b off f (xs.length * 3)) := by
  obtain ⟨p', cap', e0, l1, l2, h4⟩ := sliceR_open h
  obtain ⟨rfl, rfl, rfl⟩ : p = p' ∧ len = xs.length ∧ cap = cap' := by simpa using e0
  refine ⟨rfl, l1, l2, ?_⟩
  by_cases hz : xs.length = 0
  · exact Or.inl hz
  · right
    obtain ⟨b, off, _, rfl, hS, _⟩ := h4 0 (by omega)
    have key : ∀ j, j < xs.length * 3 → ∃ x : Int, w.cell? ⟨b, off + j, none⟩ = some (.int .i64 x) ∧ w.frozen? ⟨b, off + j, none⟩ = false := by
      intro j hj
      have hi : j / 3 < xs.length := by omega
      obtain ⟨b', off', ecs, e1, _, e3, e4, e5⟩ := h4 (j / 3) hi
      obtain ⟨rfl, rfl⟩ : b = b' ∧ off = off' := by simpa using e1
      obtain ⟨rfl, _⟩ := litR_open e5
      have hc : j % 3 = 0 ∨ j % 3 = 1 ∨ j % 3 = 2 := by omega
      rcases hc with hc | hc | hc
      · have h6 := e4 0 (by simp)
        rw [show off + j / 3 * 3 + 0 = off + j from by omega] at h6
        exact ⟨_, h6.1, h6.2⟩
      · have h6 := e4 1 (by simp)
        rw [show off + j / 3 * 3 + 1 = off + j from by omega] at h6
        exact ⟨_, h6.1, h6.2⟩
      · have h6 := e4 2 (by simp)
        rw [show off + j / 3 * 3 + 2 = off + j from by omega] at h6
        exact ⟨_, h6.1, h6.2⟩
    obtain ⟨f, hf⟩ := Go.Deep.choose_lt (α := Int) key
    exact ⟨b, off, f, rfl, hS, fun m hm => hf m hm⟩
theorem litsR_marked {S : Nat → Prop} {w : World} {b off len cap : Nat} {f : Nat → Int} {k : Int} (h : IntCells w b off f (len * 3)) (hf : ∀ m, m < len * 3 → f m = k + m) (hS : S b) (hl : len ≤ cap) (hc : cap ≤ maxLen) (h0 : 0 ≤ k) (h1 : k + (len * 3 : Nat) ≤ 9223372036854775807) :
    litsR S w [.slice (some ⟨b, off, none⟩) len cap] (mkLiteralS k len) := by
  refine ⟨_, cap, by rw [mkLiteralS_length], by rw [mkLiteralS_length]; exact hl, hc, fun i hi => ?_⟩
  rw [mkLiteralS_at]
  rw [mkLiteralS_length] at hi
  have cellm : ∀ m, m < 3 → w.cell? ⟨b, off + i * 3 + m, none⟩ = some (.int .i64 (k + ((3 * i + m : Nat) : Int))) ∧ w.frozen? ⟨b, off + i * 3 + m, none⟩ = false := by
    intro m hm
    have h5 : i * 3 + m < len * 3 := by omega
    have h6 := h _ h5
    rw [hf _ h5, ← Nat.add_assoc] at h6
    rw [Nat.mul_comm 3 i]
    exact h6
  refine ⟨b, off, [.int .i64 (k + (3 * i : Nat)), .int .i64 (k + (3 * i : Nat) + 1), .int .i64 (k + (3 * i : Nat) + 2)], rfl, hS, rfl, fun m hm => ?_, litR_shut (show I64 (k + (3 * i : Nat)) from by unfold I64; omega) (show I64 (k + (3 * i : Nat) + 1) from by unfold I64; omega) (show I64 (k + (3 * i : Nat) + 2) from by unfold I64; omega)⟩
  match m, hm with
    | 0, _ =>
      have h7 := cellm 0 (by omega)
      exact ⟨by rw [h7.1]; simp only [List.getElem_cons_zero]; first | rfl | (congr 2; omega) | congr 2, h7.2⟩
    | 1, _ =>
      have h7 := cellm 1 (by omega)
      exact ⟨by rw [h7.1]; simp only [List.getElem_cons_zero, List.getElem_cons_succ]; first | rfl | (congr 2; omega) | congr 2, h7.2⟩
    | 2, _ =>
      have h7 := cellm 2 (by omega)
      exact ⟨by rw [h7.1]; simp only [List.getElem_cons_zero, List.getElem_cons_succ]; first | rfl | (congr 2; omega) | congr 2, h7.2⟩

/-- What markRuleS writes from k on. -/
def mkRuleS (k : Int) (len : Nat) : List (RuleT) := (List.range len).map fun i => (k + (4 * i : Nat), k + (4 * i : Nat) + 1, k + (4 * i : Nat) + 2, k + (4 * i : Nat) + 3)
theorem mkRuleS_length (k : Int) (len : Nat) : (mkRuleS k len).length = len := by simp [mkRuleS]
theorem mkRuleS_at (k : Int) (len i : Nat) (h : i < (mkRuleS k len).length) : (mkRuleS k len)[i] = (k + (4 * i : Nat), k + (4 * i : Nat) + 1, k + (4 * i : Nat) + 2, k + (4 * i : Nat) + 3) := by simp [mkRuleS]
theorem rulesR_cells {S : Nat → Prop} {w : World} {p : Option Addr} {len cap : Nat} {xs : List (RuleT)} (h : rulesR S w [.slice p len cap] xs) : len = xs.length ∧ len ≤ cap ∧ cap ≤ maxLen ∧ (xs.length = 0 ∨ ∃ b off f, p = some ⟨b, off, none⟩ ∧ S b ∧ IntCells w b off f (xs.length * 4)) := by
  obtain ⟨p', cap', e0, l1, l2, h4⟩ := sliceR_open h
  obtain ⟨rfl, rfl, rfl⟩ : p = p' ∧ len = xs.length ∧ cap = cap' := by simpa using e0
  refine ⟨rfl, l1, l2, ?_⟩
  by_cases hz : xs.length = 0
  · exact Or.inl hz
  · right
    obtain ⟨b, off, _, rfl, hS, _⟩ := h4 0 (by omega)
    have key : ∀ j, j < xs.length * 4 → ∃ x : Int, w.cell? ⟨b, off + j, none⟩ = some (.int .i64 x) ∧ w.frozen? ⟨b, off + j, none⟩ = false := by
      intro j hj
      have hi : j / 4 < xs.length := by omega
      obtain ⟨b', off', ecs, e1, _, e3, e4, e5⟩ := h4 (j / 4) hi
      obtain ⟨rfl, rfl⟩ : b = b' ∧ off = off' := by simpa using e1
      obtain ⟨rfl, _⟩ := ruleR_open e5
      have hc : j % 4 = 0 ∨ j % 4 = 1 ∨ j % 4 = 2 ∨ j % 4 = 3 := by omega
      rcases hc with hc | hc | hc | hc
      · have h6 := e4 0 (by simp)
        rw [show off + j / 4 * 4 + 0 = off + j from by omega] at h6
        exact ⟨_, h6.1, h6.2⟩
      · have h6 := e4 1 (by simp)
        rw [show off + j / 4 * 4 + 1 = off + j from by omega] at h6
        exact ⟨_, h6.1, h6.2⟩
      · have h6 := e4 2 (by simp)
        rw [show off + j / 4 * 4 + 2 = off + j from by omega] at h6
        exact ⟨_, h6.1, h6.2⟩
      · have h6 := e4 3 (by simp)
        rw [show off + j / 4 * 4 + 3 = off + j from by omega] at h6
        exact ⟨_, h6.1, h6.2⟩
    obtain ⟨f, hf⟩ := Go.Deep.choose_lt (α := Int) key
    exact ⟨b, off, f, rfl, hS, fun m hm => hf m hm⟩
theorem rulesR_marked {S : Nat → Prop} {w : World} {b off len cap : Nat} {f : Nat → Int} {k : Int} (h : IntCells w b off f (len * 4)) (hf : ∀ m, m < len * 4 → f m = k + m) (hS : S b) (hl : len ≤ cap) (hc : cap ≤ maxLen) (h0 : 0 ≤ k) (h1 : k + (len * 4 : Nat) ≤ 9223372036854775807) :
    rulesR S w [.slice (some ⟨b, off, none⟩) len cap] (mkRuleS k len) := by
  refine ⟨_, cap, by rw [mkRuleS_length], by rw [mkRuleS_length]; exact hl, hc, fun i hi => ?_⟩
  rw [mkRuleS_at]
  rw [mkRuleS_length] at hi
  have cellm : ∀ m, m < 4 → w.cell? ⟨b, off + i * 4 + m, none⟩ = some (.int .i64 (k + ((4 * i + m : Nat) : Int))) ∧ w.frozen? ⟨b, off + i * 4 + m, none⟩ = false := by
    intro m hm
    have h5 : i * 4 + m < len * 4 := by omega
    have h6 := h _ h5
    rw [hf _ h5, ← Nat.add_assoc] at h6
    rw [Nat.mul_comm 4 i]
    exact h6
  refine ⟨b, off, [.int .i64 (k + (4 * i : Nat)), .int .i64 (k + (4 * i : Nat) + 1), .int .i64 (k + (4 * i : Nat) + 2), .int .i64 (k + (4 * i : Nat) + 3)], rfl, hS, rfl, fun m hm => ?_, ruleR_shut (show I64 (k + (4 * i : Nat)) from by unfold I64; omega) (show I64 (k + (4 * i : Nat) + 1) from by unfold I64; omega) (show I64 (k + (4 * i : Nat) + 2) from by unfold I64; omega) (show I64 (k + (4 * i : Nat) + 3) from by unfold I64; omega)⟩
  match m, hm with
    | 0, _ =>
      have h7 := cellm 0 (by omega)
      exact ⟨by rw [h7.1]; simp only [List.getElem_cons_zero]; first | rfl | (congr 2; omega) | congr 2, h7.2⟩
    | 1, _ =>
      have h7 := cellm 1 (by omega)
      exact ⟨by rw [h7.1]; simp only [List.getElem_cons_zero, List.getElem_cons_succ]; first | rfl | (congr 2; omega) | congr 2, h7.2⟩
    | 2, _ =>
      have h7 := cellm 2 (by omega)
      exact ⟨by rw [h7.1]; simp only [List.getElem_cons_zero, List.getElem_cons_succ]; first | rfl | (congr 2; omega) | congr 2, h7.2⟩
    | 3, _ =>
      have h7 := cellm 3 (by omega)
      exact ⟨by rw [h7.1]; simp only [List.getElem_cons_zero, List.getElem_cons_succ]; first | rfl | (congr 2; omega) | congr 2, h7.2⟩

/-- What markStepS writes from k on. -/
def mkStepS (k : Int) (len : Nat) : List (StepT) := (List.range len).map fun i => (k + (2 * i : Nat), k + (2 * i : Nat) + 1)
theorem mkStepS_length (k : Int) (len : Nat) : (mkStepS k len).length = len := by simp [mkStepS]
theorem mkStepS_at (k : Int) (len i : Nat) (h : i < (mkStepS k len).length) : (mkStepS k len)[i] = (k + (2 * i : Nat), k + (2 * i : Nat) + 1) := by simp [mkStepS]
theorem stepsR_cells {S : Nat → Prop} {w : World} {p : Option Addr} {len cap : Nat} {xs : List (StepT)} (h : stepsR S w [.slice p len cap] xs) : len = xs.length ∧ len ≤ cap ∧ cap ≤ maxLen ∧ (xs.length = 0 ∨ ∃ b off f, p = some ⟨b, off, none⟩ ∧ S b ∧ IntCells w b off f (xs.length * 2)) := by
  obtain ⟨p', cap', e0, l1, l2, h4⟩ := sliceR_open h
  obtain ⟨rfl, rfl, rfl⟩ : p = p' ∧ len = xs.length ∧ cap = cap' := by simpa using e0
  refine ⟨rfl, l1, l2, ?_⟩
  by_cases hz : xs.length = 0
  · exact Or.inl hz
  · right
    obtain ⟨b, off, _, rfl, hS, _⟩ := h4 0 (by omega)
    have key : ∀ j, j < xs.length * 2 → ∃ x : Int, w.cell? ⟨b, off + j, none⟩ = some (.int .i64 x) ∧ w.frozen? ⟨b, off + j, none⟩ = false := by
      intro j hj
      have hi : j / 2 < xs.length := by omega
      obtain ⟨b', off', ecs, e1, _, e3, e4, e5⟩ := h4 (j / 2) hi
      obtain ⟨rfl, rfl⟩ : b = b' ∧ off = off' := by simpa using e1
      obtain ⟨rfl, _⟩ := stepR_open e5
      have hc : j % 2 = 0 ∨ j % 2 = 1 := by omega
      rcases hc with hc | hc
      · have h6 := e4 0 (by simp)
        rw [show off + j / 2 * 2 + 0 = off + j from by omega] at h6
        exact ⟨_, h6.1, h6.2⟩
      · have h6 := e4 1 (by simp)
        rw [show off + j / 2 * 2 + 1 = off + j from by omega] at h6
        exact ⟨_, h6.1, h6.2⟩
    obtain ⟨f, hf⟩ := Go.Deep.choose_lt (α := Int) key
    exact ⟨b, off, f, rfl, hS, fun m hm => hf m hm⟩
theorem stepsR_marked {S : Nat → Prop} {w : World} {b off len cap : Nat} {f : Nat → Int} {k : Int} (h : IntCells w b off f (len * 2)) (hf : ∀ m, m < len * 2 → f m = k + m) (hS : S b) (hl : len ≤ cap) (hc : cap ≤ maxLen) (h0 : 0 ≤ k) (h1 : k + (len * 2 : Nat) ≤ 9223372036854775807) :
    stepsR S w [.slice (some ⟨b, off, none⟩) len cap] (mkStepS k len) := by
  refine ⟨_, cap, by rw [mkStepS_length], by rw [mkStepS_length]; exact hl, hc, fun i hi => ?_⟩
  rw [mkStepS_at]
  rw [mkStepS_length] at hi
  have cellm : ∀ m, m < 2 → w.cell? ⟨b, off + i * 2 + m, none⟩ = some (.int .i64 (k + ((2 * i + m : Nat) : Int))) ∧ w.frozen? ⟨b, off + i * 2 + m, none⟩ = false := by
    intro m hm
    have h5 : i * 2 + m < len * 2 := by omega
    have h6 := h _ h5
    rw [hf _ h5, ← Nat.add_assoc] at h6
    rw [Nat.mul_comm 2 i]
    exact h6
  refine ⟨b, off, [.int .i64 (k + (2 * i : Nat)), .int .i64 (k + (2 * i : Nat) + 1)], rfl, hS, rfl, fun m hm => ?_, stepR_shut (show I64 (k + (2 * i : Nat)) from by unfold I64; omega) (show I64 (k + (2 * i : Nat) + 1) from by unfold I64; omega)⟩
  match m, hm with
    | 0, _ =>
      have h7 := cellm 0 (by omega)
      exact ⟨by rw [h7.1]; simp only [List.getElem_cons_zero]; first | rfl | (congr 2; omega) | congr 2, h7.2⟩
    | 1, _ =>
      have h7 := cellm 1 (by omega)
      exact ⟨by rw [h7.1]; simp only [List.getElem_cons_zero, List.getElem_cons_succ]; first | rfl | (congr 2; omega) | congr 2, h7.2⟩

end Go.Proofs.Ytjeeajgijdcdbaa
