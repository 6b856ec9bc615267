/- Rows of literals by their cells; clear of elements of several cells alike; a list without one element. No program. -/
import Derived.Test.YthkcdmghchikjaaSort
namespace Go.Proofs.Ythkcdmghchikjaa
open Go.RowKit
set_option linter.unusedVariables false

section
variable {P : Program}
theorem run_clear_zeros (w : World) (t e ty : TypeId) (z zc : Value) (k : Nat) (hk : 0 < k) (ht : P.underlying t = some (.slice e)) (hv : ∀ w, (zeroValue e).run P w = .ok z w) (hz : z.cells = (List.replicate k zc).toArray) (h1 : zc.oneCell' = true) (b o n c : Nat) (hn : 0 < n)
    (hc : ∀ j, j < n * k → (w.cell? ⟨b, o + j, none⟩).isSome = true) (hf : ∀ j, j < n * k → w.frozen? ⟨b, o + j, none⟩ = false) :
    (Builtin.clear_ #[t] ty #[.slice (some ⟨b, o, none⟩) n c]).run P w = .ok (.tuple #[]) (w.setCells b o (List.replicate (n * k) zc)) := by
  have hzc : (Builtin.zeroCells z.cells n).toList = List.replicate (n * k) zc := by
    rw [hz]
    simp only [Builtin.zeroCells]
    apply List.ext_getElem
    · simp
    · intro i h1 h2
      have : i % k < k := Nat.mod_lt _ hk
      simp [this]
  have hst := run_storeCells_cells (P := P) b o (List.replicate (n * k) zc) 0 w (by simpa using hc) (by simpa using hf) (by intro v hv'; rw [List.eq_of_mem_replicate hv']; exact h1)
  simp only [Nat.add_zero] at hst
  obtain ⟨m, rfl⟩ : ∃ m, n = m + 1 := ⟨n - 1, by omega⟩
  simp [Builtin.clear_, run_underlying ht, hv, hzc, hst]
end
/-- The m-th cell of a literal. -/
def litCell (l : LitT) (m : Nat) : Value := if m = 0 then .int .i64 l.1 else if m = 1 then .int .i64 l.2.1 else .int .i64 l.2.2
def litOk (l : LitT) : Prop := I64 l.1 ∧ I64 l.2.1 ∧ I64 l.2.2
/-- Block g begins with these literals. -/
def LitRow (w : World) (g : Nat) (t : TypeId) (N : Nat) (xs : List LitT) : Prop := ∃ F, w.rowIs g t N F ∧ xs.length * 3 ≤ N ∧ (∀ j (h : j < xs.length) m, m < 3 → F (j * 3 + m) = litCell xs[j] m) ∧ ∀ x, x ∈ xs → litOk x
theorem LitRow.lits {w : World} {g N c : Nat} {t : TypeId} {xs : List LitT} {T : Nat → Prop} (h : LitRow w g t N xs) (hT : T g) (hc : xs.length ≤ c ∧ c ≤ maxLen) : litsR T w [.slice (some ⟨g, 0, none⟩) xs.length c] xs := by
  obtain ⟨F, h1, h2, h3, h4⟩ := h
  refine ⟨_, c, rfl, hc.1, hc.2, fun k hk => ⟨g, 0, [litCell xs[k] 0, litCell xs[k] 1, litCell xs[k] 2], rfl, hT, rfl, fun m hm => ?_, ?_⟩⟩
  · have hm' : m < 3 := hm
    have h5 := h1.cell (i := k * 3 + m) (by omega)
    have h6 := h1.frozen (k * 3 + m)
    rw [h3 k hk m hm'] at h5
    rw [show 0 + k * 3 + m = k * 3 + m from by omega]
    refine ⟨h5.trans ?_, h6⟩
    have : m = 0 ∨ m = 1 ∨ m = 2 := by omega
    rcases this with rfl | rfl | rfl <;> rfl
  · obtain ⟨i1, i2, i3⟩ := h4 _ (List.getElem_mem hk)
    exact ⟨_, [_, _], rfl, ⟨rfl, i1⟩, _, [_], rfl, ⟨rfl, i2⟩, rfl, i3⟩
theorem lits_mem {T : Nat → Prop} {w : World} {v : Value} {xs : List LitT} (h : litsR T w [v] xs) : ∀ x, x ∈ xs → litOk x := by
  intro x hx
  obtain ⟨i, hi, rfl⟩ := List.getElem_of_mem hx
  obtain ⟨p', c0, hv, h1, h2, h3⟩ := h
  obtain ⟨b', off', ecs, e1, e2, e3, e4, e5⟩ := h3 i hi
  exact (litR_open e5).2
/-- The cells of a list of literals. -/
def litCells (xs : List LitT) : List Value := xs.flatMap fun l => [litCell l 0, litCell l 1, litCell l 2]
theorem litCells_length (xs : List LitT) : (litCells xs).length = xs.length * 3 := by
  induction xs with
  | nil => rfl
  | cons x xs ih => simp only [litCells, List.flatMap_cons, List.length_append, List.length_cons, List.length_nil] at ih ⊢; omega
theorem litCells_at (xs : List LitT) : ∀ (j : Nat) (h : j < xs.length) (m : Nat), m < 3 → (litCells xs)[j * 3 + m]? = some (litCell xs[j] m) := by
  induction xs with
  | nil => intro j h; cases h
  | cons x xs ih =>
    intro j h m hm
    have e : litCells (x :: xs) = [litCell x 0, litCell x 1, litCell x 2] ++ litCells xs := by simp [litCells]
    rw [e]
    cases j with
    | zero =>
      have : m = 0 ∨ m = 1 ∨ m = 2 := by omega
      rcases this with rfl | rfl | rfl <;> rfl
    | succ j =>
      rw [List.getElem?_append_right (by simp; omega)]
      have := ih j (by simpa using h) m hm
      simp only [List.length_cons, List.length_nil, List.getElem_cons_succ] at *
      rw [← this]
      congr 1
      omega
theorem litCells_one (xs : List LitT) : ∀ u ∈ litCells xs, u.oneCell' = true := by
  intro u hu
  simp only [litCells, List.mem_flatMap] at hu
  obtain ⟨l, -, hl⟩ := hu
  simp only [List.mem_cons, List.not_mem_nil, or_false, litCell] at hl
  rcases hl with rfl | rfl | rfl <;> rfl
theorem litCells_read {T : Nat → Prop} {w : World} {ad : Addr} {n c : Nat} {xs : List LitT} (h : litsR T w [.slice (some ad) n c] xs) : ∀ j u, (litCells xs)[j]? = some u → w.cell? (ad.add j) = some u := by
  intro q u hu
  have hq : q < xs.length * 3 := by
    rcases Nat.lt_or_ge q (xs.length * 3) with h | h
    · exact h
    · rw [List.getElem?_eq_none (by rw [litCells_length]; omega)] at hu; cases hu
  obtain ⟨p', c0, hv, h1, h2, h3⟩ := h
  obtain ⟨b, off, ecs, e1, e2, e3, e4, e5⟩ := h3 (q / 3) (by omega)
  obtain rfl : ad = ⟨b, off, none⟩ := by
    have h0 : some ad = p' := by simp at hv; exact hv.1
    rw [e1] at h0
    simpa using h0
  have hadd : (⟨b, off, none⟩ : Addr).add q = ⟨b, off + q, none⟩ := by unfold Addr.add; split <;> simp_all
  rw [hadd]
  have h5 := (e4 (q % 3) (by rw [e3]; omega)).1
  rw [show off + q / 3 * 3 + q % 3 = off + q from by omega] at h5
  rw [h5]
  have h6 := litCells_at xs (q / 3) (by omega) (q % 3) (by omega)
  rw [show q / 3 * 3 + q % 3 = q from by omega, hu] at h6
  rw [h6]
  obtain ⟨rfl, -⟩ := litR_open e5
  have : q % 3 = 0 ∨ q % 3 = 1 ∨ q % 3 = 2 := by omega
  rcases this with h | h | h <;> simp [h, litCell]
theorem LitRow.ofOwns {w : World} {B : Nat} {t : TypeId} {g c : Nat} {xs : List LitT} (h : w.ownsRow B t 3 (.slice (some ⟨g, 0, none⟩) xs.length c) xs.length (litCells xs)) (hi : ∀ x, x ∈ xs → litOk x) : B ≤ g ∧ xs.length ≤ c ∧ c ≤ maxLen ∧ LitRow w g t (c * 3) xs := by
  obtain ⟨h1, h2⟩ := h
  rcases h2 with ⟨h4, _⟩ | ⟨g', cap', cur, h4, h5, h6, h7, h8, h9, h10⟩
  · cases h4
  · obtain ⟨rfl, rfl⟩ : g = g' ∧ c = cap' := by simpa using h4
    refine ⟨h5, h7, h8, fun a => (cur[a]?).getD default, ⟨cur, h6, h9, fun i hi => ?_⟩, by omega, fun j hj m hm => ?_, hi⟩
    · show cur[i]? = some ((cur[i]?).getD default)
      rw [Array.getElem?_eq_getElem (by omega)]; rfl
    · have h11 := litCells_at xs j hj m hm
      rw [← h10, List.getElem?_take, if_pos (by omega), Array.getElem?_toList] at h11
      show (cur[j * 3 + m]?).getD default = _
      rw [h11]; rfl
/-- xs without the element at place k, of its first j. -/
def woTo (xs : List LitT) (k : Int) : Nat → List LitT
  | 0 => []
  | j + 1 => if (j : Int) = k then woTo xs k j else woTo xs k j ++ [xs.getD j (0, 0, 0)]
def woV (xs : List LitT) (k : Int) : List LitT := woTo xs k xs.length
theorem woTo_le (xs : List LitT) (k : Int) : ∀ j, (woTo xs k j).length ≤ j := by
  intro j
  induction j with
  | zero => simp [woTo]
  | succ j ih =>
    simp only [woTo]
    split
    · omega
    · simp; omega
theorem woTo_front (xs : List LitT) (k : Int) : ∀ j, j ≤ xs.length → (∀ i : Nat, i < j → (i : Int) ≠ k) → woTo xs k j = xs.take j := by
  intro j
  induction j with
  | zero => intro _ _; simp [woTo]
  | succ j ih =>
    intro hj h
    simp only [woTo]
    rw [if_neg (h j (by omega)), ih (by omega) (fun i hi => h i (by omega)), List.take_succ_eq_append_getElem (by omega)]
    simp [List.getElem?_eq_getElem (show j < xs.length by omega)]
theorem woTo_back (xs : List LitT) (k : Nat) : ∀ d, k + 1 + d ≤ xs.length → woTo xs k (k + 1 + d) = xs.take k ++ (xs.drop (k + 1)).take d := by
  intro d
  induction d with
  | zero =>
    intro h
    have e : woTo xs k (k + 1 + 0) = if (k : Int) = (k : Int) then woTo xs k k else woTo xs k k ++ [xs.getD k (0, 0, 0)] := rfl
    rw [e, if_pos rfl, List.take_zero, List.append_nil]
    exact woTo_front xs k k (by omega) (fun i hi => by omega)
  | succ d ih =>
    intro h
    show woTo xs k (k + 1 + d + 1) = _
    simp only [woTo]
    rw [if_neg (by omega), ih (by omega), List.take_succ_eq_append_getElem (l := xs.drop (k + 1)) (by rw [List.length_drop]; omega), List.append_assoc]
    simp [List.getElem?_eq_getElem (show k + 1 + d < xs.length by omega)]
theorem woV_in {xs : List LitT} {k : Nat} (h : k < xs.length) : woV xs k = xs.take k ++ xs.drop (k + 1) := by
  have h1 := woTo_back xs k (xs.length - (k + 1)) (by omega)
  rw [show k + 1 + (xs.length - (k + 1)) = xs.length from by omega] at h1
  unfold woV
  rw [h1, List.take_of_length_le (l := xs.drop (k + 1)) (by rw [List.length_drop]; omega)]
theorem woV_out {xs : List LitT} {k : Int} (h : ¬ (0 ≤ k ∧ k ≤ (xs.length : Int) - 1)) : woV xs k = xs := by
  unfold woV
  rw [woTo_front xs k _ (Nat.le_refl _) (fun i hi e => h (by omega)), List.take_length]
theorem woV_len' (xs : List LitT) (k : Int) : (woV xs k).length ≤ xs.length := woTo_le xs k _
/-- The answer, for lists that a law lets by. -/
def woR (xs : List LitT) (k : Int) : List LitT := if xs.length ≤ 1048576 then woV xs k else []
theorem woR_len (xs : List LitT) (k : Int) : (woR xs k).length ≤ 1048576 := by
  unfold woR
  split
  · have := woV_len' xs k; omega
  · simp
end Go.Proofs.Ythkcdmghchikjaa
