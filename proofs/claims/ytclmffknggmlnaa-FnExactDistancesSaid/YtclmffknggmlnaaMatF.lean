/- Rows of ints, each in blocks of its own. No program. -/
import Derived.Test.YtclmffknggmlnaaKin
import Derived.Test.YtclmffknggmlnaaMut
namespace Go.Proofs.Ytclmffknggmlnaa
open Go.RowKit
set_option linter.unusedVariables false

/-- N rows behind the slots of block o; row i lies in blocks of G i, apart from the others and from o. -/
structure MatF (T : Nat → Prop) (w : World) (o N : Nat) (V : Nat → Value) (G : Nat → Nat → Prop) (X : Nat → List Int) : Prop where
  slot : ∀ i, i < N → w.cell? ⟨o, i, none⟩ = some (V i) ∧ w.frozen? ⟨o, i, none⟩ = false
  sub : ∀ i, i < N → ∀ b, G i b → T b ∧ b ≠ o
  row : ∀ i, i < N → intsR (G i) w [V i] (X i)
  apart : ∀ i j, i < N → j < N → i ≠ j → ∀ b, G i b → ¬ G j b
theorem matCell_keep {w w' : World} {b k : Nat} {v : Value} (h : w.cell? ⟨b, k, none⟩ = some v ∧ w.frozen? ⟨b, k, none⟩ = false) (hb : w'.heap[b]? = w.heap[b]?) : w'.cell? ⟨b, k, none⟩ = some v ∧ w'.frozen? ⟨b, k, none⟩ = false := by
  rw [World.cell?_of_block (w := w) (a := ⟨b, k, none⟩) hb, World.frozen?_of_block (w := w) (a := ⟨b, k, none⟩) hb]
  exact h
variable {T : Nat → Prop} {o N : Nat} {V : Nat → Value} {G : Nat → Nat → Prop} {X : Nat → List Int}
theorem MatF.congr {w : World} (h : MatF T w o N V G X) {X' : Nat → List Int} (e : ∀ i, i < N → X i = X' i) : MatF T w o N V G X' := ⟨h.slot, h.sub, fun i hi => by rw [← e i hi]; exact h.row i hi, h.apart⟩
theorem MatF.stay {w w' : World} (h : MatF T w o N V G X) (ho : w'.heap[o]? = w.heap[o]?) (hb : ∀ b, T b → w'.heap[b]? = w.heap[b]?) : MatF T w' o N V G X :=
  ⟨fun i hi => matCell_keep (h.slot i hi) ho, h.sub, fun i hi => intsR_good.stay (h.row i hi) fun b hb' => hb b (h.sub i hi b hb').1, h.apart⟩
theorem MatF.mono {w : World} (h : MatF T w o N V G X) {T' : Nat → Prop} (ht : ∀ b, T b → T' b) : MatF T' w o N V G X := ⟨h.slot, fun i hi b hb => ⟨ht b (h.sub i hi b hb).1, (h.sub i hi b hb).2⟩, h.row, h.apart⟩
/-- One row is written over. -/
theorem MatF.step {w w' : World} (h : MatF T w o N V G X) (hT : ∀ b, T b → b < w.heap.size) (ho : o < w.heap.size) {i : Nat} (hi : i < N) {y : List Int} (hm : Mut (G i) w w') (hy : intsR (G i) w' [V i] y) : MatF T w' o N V G (fun j => if j = i then y else X j) where
  slot := fun j hj => matCell_keep (h.slot j hj) (hm.block o ho fun hg => (h.sub i hi o hg).2 rfl)
  sub := h.sub
  row := fun j hj => by
    by_cases e : j = i
    · subst e; rw [if_pos rfl]; exact hy
    · rw [if_neg e]
      exact intsR_good.stay (h.row j hj) fun b hb => hm.block b (hT b (h.sub j hj b hb).1) fun hg => h.apart j i hj hi e b hb hg
  apart := h.apart
/-- A slice of rows, apart. -/
def matR : RepT (List (List Int)) := fun T w cs xs => ∃ p c, cs = [.slice p xs.length c] ∧ xs.length ≤ c ∧ c ≤ maxLen ∧ (xs.length = 0 ∨ ∃ o V G, p = some ⟨o, 0, none⟩ ∧ T o ∧ MatF T w o xs.length V G (fun i => xs.getD i []))
theorem matR_good : Good matR := by
  constructor
  · rintro S w w' cs xs ⟨p, c, h1, h2, h3, h4⟩ hb
    refine ⟨p, c, h1, h2, h3, ?_⟩
    rcases h4 with h4 | ⟨o, V, G, e1, e2, e3⟩
    · exact .inl h4
    · exact .inr ⟨o, V, G, e1, e2, e3.stay (hb o e2) hb⟩
  · rintro S T w cs xs ⟨p, c, h1, h2, h3, h4⟩ hb
    refine ⟨p, c, h1, h2, h3, ?_⟩
    rcases h4 with h4 | ⟨o, V, G, e1, e2, e3⟩
    · exact .inl h4
    · exact .inr ⟨o, V, G, e1, hb o e2, e3.mono hb⟩
theorem getD_get {α : Type} (xs : List α) (d : α) {i : Nat} (h : i < xs.length) : xs.getD i d = xs[i] := by rw [List.getD_eq_getElem?_getD, List.getElem?_eq_getElem h, Option.getD_some]
theorem matR_rows {T : Nat → Prop} {w : World} {cs : List Value} {xs : List (List Int)} (h : matR T w cs xs) : rowsR T w cs xs := by
  obtain ⟨p, c, h1, h2, h3, h4⟩ := h
  refine ⟨p, c, h1, h2, h3, fun i hi => ?_⟩
  rcases h4 with h4 | ⟨o, V, G, e1, e2, e3⟩
  · omega
  · refine ⟨o, 0, [V i], e1, e2, rfl, fun k hk => ?_, ?_⟩
    · obtain rfl : k = 0 := by simpa using hk
      simpa using e3.slot i hi
    · have := e3.row i hi
      rw [getD_get xs [] hi] at this
      exact intsR_good.mono this fun b hb => (e3.sub i hi b hb).1
theorem matR_nil (T : Nat → Prop) (w : World) : matR T w [.slice none 0 0] [] := ⟨none, 0, rfl, Nat.le_refl _, Nat.zero_le _, .inl rfl⟩
/-- What marks leave. -/
def mkIntSS (k : Int) (L : List Nat) : List (List Int) := (List.range L.length).map fun i => mkIntS (k + (sumL (L.take i) : Nat)) (L.getD i 0)
theorem mkIntSS_length (k : Int) (L : List Nat) : (mkIntSS k L).length = L.length := by simp [mkIntSS]
theorem mkIntSS_at (k : Int) (L : List Nat) {i : Nat} (h : i < L.length) : (mkIntSS k L).getD i [] = mkIntS (k + (sumL (L.take i) : Nat)) (L.getD i 0) := by simp [mkIntSS, h]
theorem sumL_at (L : List Nat) {i : Nat} (h : i < L.length) : L.getD i 0 = L[i] := getD_get L 0 h
end Go.Proofs.Ytclmffknggmlnaa
