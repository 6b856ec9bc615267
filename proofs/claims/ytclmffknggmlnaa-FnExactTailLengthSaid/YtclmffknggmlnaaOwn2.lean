/- Slices grown by append, whose variable lies in a box of its own. No program. -/
import Derived.Test.YtclmffknggmlnaaOwn
namespace Go.Proofs.Ytclmffknggmlnaa
open Go.RowKit
set_option linter.unusedVariables false

section
variable {P : Program} {α : Type} {S : Nat → Prop} {n : Nat} {R : RepT α} {e : TypeId} {B : Nat}
/-- append of one element, for the walk; what lies in other blocks stays. -/
theorem wpList_app2 (gd : Good R) (w : World) {ops : Array Oper} {rest : List Oper} {o : Oper} {a : Act} {Q : Exit → Act → World → Prop} (hgd : o.guard = none) (s x : Operand) (t : TypeId)
    (ho : o.op = .call { callee := .builtin .append, args := #[s, x], argTypes := #[t, t] })
    (z : Value) (bytes : Nat) (ht : P.underlying t = some (.slice e)) (hinfo : (P.info? e).map (fun i => (i.zero, i.size, i.bytes)) = some (some z, n, bytes)) (hzs : z.cells.size = n) (hn : 0 < n) (hby : bytes ≤ 100)
    (p : Option Addr) (cap : Nat) (xs : List α) (x0 : α) (hs : a.eval s = .slice p xs.length cap) (hown : Own S n R e B w p cap xs)
    (g : Nat) (c : Nat) (ecs : List Value) (hx : a.eval x = .slice (some ⟨g, 0, none⟩) 1 c) (hel : ecs.length = n) (hcell : ∀ j u, ecs[j]? = some u → w.cell? ((⟨g, 0, none⟩ : Addr).add j) = some u) (h1 : ∀ u ∈ ecs, u.oneCell' = true)
    (hrep : R (fun b => S b ∧ b < w.heap.size ∧ ∀ a, p = some a → b ≠ a.block) w ecs x0) (hlen : xs.length ≤ 1000000000) (hbase : B ≤ w.heap.size)
    (h : ∀ p' cap' w', Own S n R e B w' p' cap' (xs ++ [x0]) → (∀ W, Bel W w → W.heap.size ≤ B → Bel W w') → w.heap.size ≤ w'.heap.size →
      (∀ b, b < w.heap.size → (∀ a, p = some a → b ≠ a.block) → w'.heap[b]? = w.heap[b]? ∧ ∀ a, p' = some a → b ≠ a.block) →
      wpList P ops Q rest (a.put o.dst (.slice p' (xs.length + 1) cap')) w') : wpList P ops Q (o :: rest) a w := by
  obtain ⟨i, hi, hz, hsize, hbytes⟩ := info_parts hinfo
  have hown0 := hown
  obtain ⟨cells, hc, hels⟩ := hown
  refine wpList_append_own_at w hgd s x t ho B e i z n bytes ht hi hz hsize hbytes hzs hn _ _ cells hs hc ⟨g, 0, none⟩ 1 c ecs hx (by omega) hcell h1 (by unfold maxLen; omega) ?_ hbase ?_
  · have : (xs.length + 1) * bytes ≤ 1000000001 * 100 := Nat.mul_le_mul (by omega) hby
    omega
  · intro v' w' h2 h3 h4 h5
    obtain ⟨g', cap', rfl, _, _⟩ := h2.form (by omega)
    refine h _ _ _ (Own.append gd hc hels hel hrep h2 h3 h5) (fun W hW hWB => bel_append hown0 hW hWB h3) h3.size (fun b hb hp => ⟨h3.block b hb ?_, ?_⟩)
    · intro hh
      cases p with
      | none => simp [Value.ownBlock] at hh
      | some a => exact hp a rfl (by simpa [Value.ownBlock] using hh)
    · rintro a ha hh
      obtain rfl : (⟨g', 0, none⟩ : Addr) = a := by simpa using ha
      rcases h5 with h6 | h6
      · cases p with
        | none => simp [Value.ownBlock] at h6
        | some a' =>
          have h7 : g' = a'.block := by simpa [Value.ownBlock] using h6
          exact hp a' rfl (hh.trans h7)
      · have h7 : g' = w.heap.size := by simpa [Value.ownBlock] using h6
        have h8 : b = g' := hh
        omega
end
/-- A store into another block. -/
theorem Own.setAt {α : Type} {n : Nat} {R : RepT α} {e : TypeId} {B : Nat} (gd : Good R) {w : World} {p : Option Addr} {cap : Nat} {xs : List α} (h : Own (fun _ => False) n R e B w p cap xs) {q : Nat} (hq : ∀ a, p = some a → q ≠ a.block) (j : Nat) (u : Value) : Own (fun _ => False) n R e B (w.setCell ⟨q, j, none⟩ u) p cap xs := by
  obtain ⟨cells, ⟨h1, h2⟩, h3⟩ := h
  refine ⟨cells, ⟨h1, ?_⟩, fun i hi => ?_⟩
  · rcases h2 with h2 | ⟨g, cap', cur, h4, h5, h6, h7⟩
    · exact .inl h2
    · obtain ⟨rfl, _, rfl⟩ : p = some ⟨g, 0, none⟩ ∧ xs.length = xs.length ∧ cap = cap' := by simpa using h4
      exact .inr ⟨g, _, cur, h4, h5, by rw [Below.heap_setCell _ _ _ _ (fun e => hq _ rfl e.symm)]; exact h6, h7⟩
  · obtain ⟨ecs, e1, e2, e3⟩ := h3 i hi
    exact ⟨ecs, e1, e2, gd.mono (gd.stay e3 fun b hb' => hb'.1.elim) fun b hb' => hb'.1.elim⟩
theorem Blk.of {w w' : World} {g : Nat} {e : TypeId} {arr : List Value} (h : Blk w g e arr) (hh : w'.heap[g]? = w.heap[g]?) : Blk w' g e arr := by
  unfold Blk at h ⊢
  rw [hh]
  exact h
end Go.Proofs.Ytclmffknggmlnaa
