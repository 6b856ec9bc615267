/- Rows of cells, each in a block of its own, behind the slots of one block. No program. -/
import Derived.Test.YtiaamddhocdhaaaApps
import Derived.Test.YtiaamddhocdhaaaOwn
import Derived.Test.YtiaamddhocdhaaaKin
import Derived.Deep.OwnRows
namespace Go.Proofs.Ytiaamddhocdhaaa
open Go.RowKit
set_option linter.unusedVariables false

/-- N rows of n cells, each in a block of its own, behind the slots of block o; all from B on. -/
structure Grid (B : Nat) (w : World) (o N n : Nat) (rb cp : Nat → Nat) (V : Nat → Nat → Value) : Prop where
  top : B ≤ o ∧ o < w.heap.size
  slot : ∀ i, i < N → w.cell? ⟨o, i, none⟩ = some (.slice (some ⟨rb i, 0, none⟩) n (cp i)) ∧ w.frozen? ⟨o, i, none⟩ = false
  fits : ∀ i, i < N → n ≤ cp i ∧ cp i ≤ maxLen
  cell : ∀ i k, i < N → k < n → w.cell? ⟨rb i, k, none⟩ = some (V i k) ∧ w.frozen? ⟨rb i, k, none⟩ = false
  base : ∀ i, i < N → B ≤ rb i ∧ rb i < w.heap.size ∧ rb i ≠ o
  apart : ∀ i j, i < N → j < N → i ≠ j → rb i ≠ rb j
/-- The blocks of a grid. -/
def GridB (o N : Nat) (rb : Nat → Nat) (b : Nat) : Prop := b = o ∨ ∃ i, i < N ∧ b = rb i

variable {B o N n : Nat} {rb cp : Nat → Nat} {V : Nat → Nat → Value}
theorem cell_keep {w w' : World} {b k : Nat} {v : Value} (h : w.cell? ⟨b, k, none⟩ = some v ∧ w.frozen? ⟨b, k, none⟩ = false) (hb : w'.heap[b]? = w.heap[b]?) : w'.cell? ⟨b, k, none⟩ = some v ∧ w'.frozen? ⟨b, k, none⟩ = false := by
  rw [World.cell?_of_block (w := w) (a := ⟨b, k, none⟩) hb, World.frozen?_of_block (w := w) (a := ⟨b, k, none⟩) hb]
  exact h
theorem Grid.stay {w w' : World} (h : Grid B w o N n rb cp V) (hs : w.heap.size ≤ w'.heap.size) (hb : ∀ b, GridB o N rb b → w'.heap[b]? = w.heap[b]?) : Grid B w' o N n rb cp V where
  top := ⟨h.top.1, Nat.lt_of_lt_of_le h.top.2 hs⟩
  slot := fun i hi => cell_keep (h.slot i hi) (hb o (.inl rfl))
  fits := h.fits
  cell := fun i k hi hk => cell_keep (h.cell i k hi hk) (hb _ (.inr ⟨i, hi, rfl⟩))
  base := fun i hi => ⟨(h.base i hi).1, Nat.lt_of_lt_of_le (h.base i hi).2.1 hs, (h.base i hi).2.2⟩
  apart := h.apart
theorem Grid.lt {w : World} (h : Grid B w o N n rb cp V) {b : Nat} (hb : GridB o N rb b) : B ≤ b ∧ b < w.heap.size := by
  rcases hb with rfl | ⟨i, hi, rfl⟩
  · exact h.top
  · exact ⟨(h.base i hi).1, (h.base i hi).2.1⟩
theorem Grid.bel {w w' : World} (h : Grid B w o N n rb cp V) (hb : Bel w w') : Grid B w' o N n rb cp V := h.stay hb.size fun b hb' => hb.block (h.lt hb').2
theorem Grid.congr {w : World} (h : Grid B w o N n rb cp V) {V' : Nat → Nat → Value} (e : ∀ i k, i < N → k < n → V i k = V' i k) : Grid B w o N n rb cp V' where
  top := h.top
  slot := h.slot
  fits := h.fits
  cell := fun i k hi hk => by rw [← e i k hi hk]; exact h.cell i k hi hk
  base := h.base
  apart := h.apart
theorem Grid.low {w : World} (h : Grid B w o N n rb cp V) {B' : Nat} (hB : B' ≤ B) : Grid B' w o N n rb cp V where
  top := ⟨Nat.le_trans hB h.top.1, h.top.2⟩
  slot := h.slot
  fits := h.fits
  cell := h.cell
  base := fun i hi => ⟨Nat.le_trans hB (h.base i hi).1, (h.base i hi).2⟩
  apart := h.apart
theorem size_setCell (w : World) (p : Addr) (u : Value) : (w.setCell p u).heap.size = w.heap.size := by simp [World.setCell]
theorem setCell_same {w : World} {b k : Nat} {v : Value} (h : w.cell? ⟨b, k, none⟩ = some v) (u : Value) : (w.setCell ⟨b, k, none⟩ u).cell? ⟨b, k, none⟩ = some u := by
  exact World.cell?_setCell_same _ _ _ h
theorem setCell_other {w : World} {b k b' k' : Nat} {v : Value} (h : w.cell? ⟨b, k, none⟩ = some v ∧ w.frozen? ⟨b, k, none⟩ = false) (hne : b ≠ b' ∨ k ≠ k') (u : Value) : (w.setCell ⟨b', k', none⟩ u).cell? ⟨b, k, none⟩ = some v ∧ (w.setCell ⟨b', k', none⟩ u).frozen? ⟨b, k, none⟩ = false := by
  refine ⟨?_, by rw [frozen_set]; exact h.2⟩
  rw [World.cell?_setCell_other _ _ _ _ (by
    rintro e
    have e1 : b = b' := (congrArg Addr.block e).symm
    have e2 : k = k' := (congrArg Addr.off e).symm
    rcases hne with hh | hh
    · exact hh e1
    · exact hh e2)]
  exact h.1
/-- A cell of the grid is written. -/
theorem Grid.set {w : World} (h : Grid B w o N n rb cp V) {i k : Nat} (hi : i < N) (hk : k < n) (u : Value) : Grid B (w.setCell ⟨rb i, k, none⟩ u) o N n rb cp (fun a b => if a = i ∧ b = k then u else V a b) where
  top := by rw [size_setCell]; exact h.top
  slot := fun a ha => setCell_other (h.slot a ha) (.inl fun e => (h.base i hi).2.2 e.symm) u
  fits := h.fits
  cell := fun a b ha hb => by
    by_cases e : a = i ∧ b = k
    · obtain ⟨rfl, rfl⟩ := e
      rw [if_pos ⟨rfl, rfl⟩]
      exact ⟨setCell_same (h.cell a b hi hk).1 u, by rw [frozen_set]; exact (h.cell a b hi hk).2⟩
    · rw [if_neg e]
      refine setCell_other (h.cell a b ha hb) ?_ u
      by_cases ea : a = i
      · exact .inr fun eb => e ⟨ea, eb⟩
      · exact .inl (h.apart a i ha hi ea)
  base := fun a ha => by rw [size_setCell]; exact h.base a ha
  apart := h.apart
/-- A cell elsewhere is written. -/
theorem Grid.far {w : World} (h : Grid B w o N n rb cp V) {q k : Nat} (hq : ¬ GridB o N rb q) (u : Value) : Grid B (w.setCell ⟨q, k, none⟩ u) o N n rb cp V :=
  h.stay (Nat.le_of_eq (size_setCell _ _ _).symm) fun b hb => Below.heap_setCell _ _ _ _ (fun e => hq (by have e' : b = q := e; rw [← e']; exact hb))
/-- One row more. -/
theorem Grid.snoc {w : World} (h : Grid B w o N n rb cp V) {r c : Nat} {f : Nat → Value} (hslot : w.cell? ⟨o, N, none⟩ = some (.slice (some ⟨r, 0, none⟩) n c) ∧ w.frozen? ⟨o, N, none⟩ = false) (hc : n ≤ c ∧ c ≤ maxLen)
    (hrow : ∀ k, k < n → w.cell? ⟨r, k, none⟩ = some (f k) ∧ w.frozen? ⟨r, k, none⟩ = false) (hr : B ≤ r ∧ r < w.heap.size) (hnew : ¬ GridB o N rb r) :
    Grid B w o (N + 1) n (fun i => if i = N then r else rb i) (fun i => if i = N then c else cp i) (fun i k => if i = N then f k else V i k) where
  top := h.top
  slot := fun i hi => by
    by_cases e : i = N
    · subst e; simp only [if_true]; exact hslot
    · simp only [if_neg e]; exact h.slot i (by omega)
  fits := fun i hi => by
    by_cases e : i = N
    · simp only [if_pos e]; exact hc
    · simp only [if_neg e]; exact h.fits i (by omega)
  cell := fun i k hi hk => by
    by_cases e : i = N
    · simp only [if_pos e]; exact hrow k hk
    · simp only [if_neg e]; exact h.cell i k (by omega) hk
  base := fun i hi => by
    by_cases e : i = N
    · simp only [if_pos e]; exact ⟨hr.1, hr.2, fun e => hnew (.inl e)⟩
    · simp only [if_neg e]; exact h.base i (by omega)
  apart := fun i j hi hj hij => by
    by_cases e : i = N
    · have e2 : ¬ j = N := fun e' => hij (e.trans e'.symm)
      simp only [if_pos e, if_neg e2]
      exact fun e3 => hnew (.inr ⟨j, by omega, e3⟩)
    · simp only [if_neg e]
      by_cases e2 : j = N
      · simp only [if_pos e2]
        exact fun e3 => hnew (.inr ⟨i, by omega, e3.symm⟩)
      · simp only [if_neg e2]
        exact h.apart i j (by omega) (by omega) hij
theorem Grid.nil {w : World} (hB : B ≤ o ∧ o < w.heap.size) : Grid B w o 0 n rb cp V where
  top := hB
  slot := fun i hi => absurd hi (Nat.not_lt_zero _)
  fits := fun i hi => absurd hi (Nat.not_lt_zero _)
  cell := fun i k hi => absurd hi (Nat.not_lt_zero _)
  base := fun i hi => absurd hi (Nat.not_lt_zero _)
  apart := fun i j hi => absurd hi (Nat.not_lt_zero _)

/-- A matrix as a list of rows. -/
def rowsOf (N n : Nat) (D : Nat → Nat → Int) : List (List Int) := (List.range N).map fun i => (List.range n).map fun k => D i k
theorem rowsOf_length (N n : Nat) (D : Nat → Nat → Int) : (rowsOf N n D).length = N := by simp [rowsOf]
theorem rowsOf_at (N n : Nat) (D : Nat → Nat → Int) (i : Nat) (h : i < (rowsOf N n D).length) : (rowsOf N n D)[i] = (List.range n).map fun k => D i k := by simp [rowsOf]
def intsV (D : Nat → Nat → Int) : Nat → Nat → Value := fun i k => .int .i64 (D i k)
theorem Grid.row {w : World} {D : Nat → Nat → Int} (h : Grid B w o N n rb cp (intsV D)) (hD : ∀ i k, i < N → k < n → I64 (D i k)) {i : Nat} (hi : i < N) : intsR (fun b => b = rb i) w [.slice (some ⟨rb i, 0, none⟩) n (cp i)] ((List.range n).map fun k => D i k) := by
  refine ⟨some ⟨rb i, 0, none⟩, cp i, by simp, by simpa using (h.fits i hi).1, (h.fits i hi).2, fun k hk => ?_⟩
  have hk' : k < n := by simpa using hk
  refine ⟨rb i, 0, [.int .i64 (D i k)], rfl, rfl, rfl, fun j hj => ?_, by simp, by simpa using hD i k hi hk'⟩
  obtain rfl : j = 0 := by simpa using hj
  simpa [intsV] using h.cell i k hi hk'
theorem Grid.rows {w : World} {D : Nat → Nat → Int} (h : Grid B w o N n rb cp (intsV D)) (hD : ∀ i k, i < N → k < n → I64 (D i k)) {c : Nat} (hc : N ≤ c ∧ c ≤ maxLen) {T : Nat → Prop} (hT : ∀ b, GridB o N rb b → T b) : rowsR T w [.slice (some ⟨o, 0, none⟩) N c] (rowsOf N n D) := by
  refine ⟨some ⟨o, 0, none⟩, c, by rw [rowsOf_length], by rw [rowsOf_length]; exact hc.1, hc.2, fun i hi => ?_⟩
  have hi' : i < N := by rw [rowsOf_length] at hi; exact hi
  refine ⟨o, 0, [.slice (some ⟨rb i, 0, none⟩) n (cp i)], rfl, hT _ (.inl rfl), rfl, fun j hj => ?_, ?_⟩
  · obtain rfl : j = 0 := by simpa using hj
    simpa using h.slot i hi'
  · rw [rowsOf_at]
    exact intsR_good.mono (h.row hD hi') fun b hb => hT b (by rw [hb]; exact .inr ⟨i, hi', rfl⟩)

/-- A row and the block it lies in. -/
def brow : RepT (Nat × List Int) := fun T w cs x => ∃ c, cs = [.slice (some ⟨x.1, 0, none⟩) x.2.length c] ∧ T x.1 ∧ x.2.length ≤ c ∧ c ≤ maxLen ∧ ∀ k (h : k < x.2.length), w.cell? ⟨x.1, k, none⟩ = some (.int .i64 x.2[k]) ∧ w.frozen? ⟨x.1, k, none⟩ = false
theorem brow_good : Good brow := by
  constructor
  · rintro S w w' cs x ⟨c, h1, h2, h3, h4, h5⟩ hb
    exact ⟨c, h1, h2, h3, h4, fun k hk => cell_keep (h5 k hk) (hb _ h2)⟩
  · rintro S T w cs x ⟨c, h1, h2, h3, h4, h5⟩ hb
    exact ⟨c, h1, hb _ h2, h3, h4, h5⟩
theorem brow_of_own {e : TypeId} {w : World} {p : Option Addr} {cap : Nat} {xs : List Int} (h : Own (fun _ => False) 1 intR e B w p cap xs) (hx : xs ≠ []) {T : Nat → Prop} (hT : ∀ b, B ≤ b → b < w.heap.size → T b) : ∃ g, p = some ⟨g, 0, none⟩ ∧ B ≤ g ∧ g < w.heap.size ∧ brow T w [.slice p xs.length cap] (g, xs) := by
  rcases h.cases with ⟨h1, _, h3⟩ | ⟨g, cur, h1, h2, h3, h4, h5, h6⟩
  · exact absurd h3 hx
  refine ⟨g, h1, h2, h4, cap, by rw [h1], hT g h2 h4, h5, h6, fun k hk => ?_⟩
  obtain ⟨p', cap', e1, e2, e3, e4⟩ := h.done intR_good (T := fun _ => True) (fun _ _ _ => trivial) (fun _ _ _ => trivial)
  obtain ⟨b, off, ecs, f1, f2, f3, f4, f5⟩ := e4 k hk
  have e5 : p = p' := by simp at e1; exact e1.1
  rw [← e5, h1] at f1
  obtain ⟨rfl, rfl⟩ : g = b ∧ off = 0 := by simpa [eq_comm] using f1
  obtain rfl : ecs = [.int .i64 xs[k]] := f5.1
  simpa using f4 0 (by simp)
/-- Rows grown by append make a grid. -/
theorem grid_of_own {e : TypeId} {w : World} {p : Option Addr} {cap : Nat} {rows : List (Nat × List Int)} (h : Own (fun b => B ≤ b) 1 brow e B w p cap rows) (hne : rows ≠ []) (hn : ∀ x ∈ rows, x.2.length = n) (hd : ∀ i j (hi : i < rows.length) (hj : j < rows.length), i ≠ j → (rows[i]).1 ≠ (rows[j]).1) :
    ∃ o cp, p = some ⟨o, 0, none⟩ ∧ rows.length ≤ cap ∧ cap ≤ maxLen ∧ Grid B w o rows.length n (fun i => (rows.getD i (0, [])).1) cp (intsV fun i k => (rows.getD i (0, [])).2.getD k 0) := by
  rcases h.cases with ⟨h1, _, h3⟩ | ⟨o, cur, h1, h2, h3, h4, h5, h6⟩
  · exact absurd h3 hne
  have key : ∀ i (hi : i < rows.length), ∃ c, (w.cell? ⟨o, i, none⟩ = some (.slice (some ⟨(rows[i]).1, 0, none⟩) n c) ∧ w.frozen? ⟨o, i, none⟩ = false) ∧ (n ≤ c ∧ c ≤ maxLen) ∧ (B ≤ (rows[i]).1 ∧ (rows[i]).1 < w.heap.size ∧ (rows[i]).1 ≠ o) ∧ ∀ k, k < n → w.cell? ⟨(rows[i]).1, k, none⟩ = some (.int .i64 ((rows[i]).2.getD k 0)) ∧ w.frozen? ⟨(rows[i]).1, k, none⟩ = false := by
    intro i hi
    obtain ⟨p', cap', e1, e2, e3, e4⟩ := h.done brow_good (T := fun b => B ≤ b) (fun _ h _ => h) (fun _ h _ => h)
    obtain ⟨b, off, ecs, f1, f2, f3, f4, f5⟩ := e4 i hi
    have e5 : p = p' := by simp at e1; exact e1.1
    rw [← e5, h1] at f1
    obtain ⟨rfl, rfl⟩ : o = b ∧ off = 0 := by simpa [eq_comm] using f1
    obtain ⟨c, g1, g2, g3, g4, g5⟩ := f5
    subst g1
    have hl := hn _ (List.getElem_mem hi)
    have hs := f4 0 (by simp)
    simp only [Nat.zero_add, Nat.mul_one, Nat.add_zero, List.getElem_cons_zero] at hs
    rw [hl] at hs g3
    obtain ⟨cells, ⟨k1, k2⟩, k3⟩ := h
    obtain ⟨ecs', m1, m2, c', m3, m4, m5, m6, m7⟩ := k3 i hi
    refine ⟨c, hs, ⟨g3, g4⟩, ⟨m4.1, m4.2.1, fun e => m4.2.2 _ h1 e⟩, fun k hk => ?_⟩
    have := g5 k (by omega)
    rw [List.getD_eq_getElem?_getD, List.getElem?_eq_getElem (by omega), Option.getD_some]
    exact this
  have at_ : ∀ i (hi : i < rows.length), rows.getD i (0, []) = rows[i] := fun i hi => by rw [List.getD_eq_getElem?_getD, List.getElem?_eq_getElem hi, Option.getD_some]
  refine ⟨o, fun i => if hi : i < rows.length then (key i hi).choose else 0, h1, h5, h6, ⟨h2, h4⟩, fun i hi => ?_, fun i hi => ?_, fun i k hi hk => ?_, fun i hi => ?_, fun i j hi hj hij => ?_⟩
  · simp only [at_ i hi, dif_pos hi]; exact (key i hi).choose_spec.1
  · simp only [dif_pos hi]; exact (key i hi).choose_spec.2.1
  · simp only [intsV, at_ i hi]; exact (key i hi).choose_spec.2.2.2 k hk
  · simp only [at_ i hi]; exact (key i hi).choose_spec.2.2.1
  · simp only [at_ i hi, at_ j hj]; exact hd i j hi hj hij
end Go.Proofs.Ytiaamddhocdhaaa
