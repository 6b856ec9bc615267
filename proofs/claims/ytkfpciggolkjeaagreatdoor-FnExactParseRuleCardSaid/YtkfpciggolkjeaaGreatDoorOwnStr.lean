/- Rows of strings that the call owns, grown by several at once. No program. -/
import Derived.Test.YtkfpciggolkjeaaGreatDoorGrow
namespace Go.Proofs.YtkfpciggolkjeaaGreatDoor
open Go.ChangeShapes Go.WideShapes Go.ChangeAt Go.RowKit
set_option linter.unusedVariables false

theorem own_strs {e : TypeId} {B : Nat} {w : World} {p : Option Addr} {cap : Nat} {xs : List ByteArray} (h : Own (fun _ => False) 1 strR e B w p cap xs) : w.ownsRow B e 1 (.slice p xs.length cap) xs.length (xs.map Value.string) ∧ ∀ x ∈ xs, x.size ≤ maxLen := by
  obtain ⟨cells, hc, hels⟩ := h
  have hl := hc.1
  have e1 : cells = xs.map Value.string := by
    apply List.ext_getElem?
    intro i
    by_cases hi : i < xs.length
    · obtain ⟨ecs, h1, h2, h3⟩ := hels i hi
      have h4 := h2 0 (by omega)
      rw [Nat.mul_one, Nat.add_zero, h3.1] at h4
      rw [h4]
      simp [hi]
    · rw [List.getElem?_eq_none (by omega), List.getElem?_eq_none (by simp; omega)]
  refine ⟨e1 ▸ hc, fun x hx => ?_⟩
  obtain ⟨i, hi, rfl⟩ := List.getElem_of_mem hx
  obtain ⟨ecs, h1, h2, h3⟩ := hels i hi
  exact h3.2
theorem strs_own {e : TypeId} {B : Nat} {w : World} {p : Option Addr} {cap : Nat} {xs : List ByteArray} (h : w.ownsRow B e 1 (.slice p xs.length cap) xs.length (xs.map Value.string)) (hx : ∀ x ∈ xs, x.size ≤ maxLen) : Own (fun _ => False) 1 strR e B w p cap xs :=
  ⟨_, h, fun i hi => ⟨[.string xs[i]], rfl, fun m hm => by
    obtain rfl : m = 0 := by omega
    simp [hi], rfl, hx _ (List.getElem_mem _)⟩⟩
section
variable {P : Program} {e : TypeId} {B : Nat}
/-- append of several strings. -/
theorem wp_strsO (w : World) {o : Oper} {a : Act} {K : Act → World → Prop} {Q : Exit → Act → World → Prop} (s x : Operand) (t : TypeId)
    (ho : o.op = .call { callee := .builtin .append, args := #[s, x], argTypes := #[t, t] })
    (ht : P.underlying t = some (.slice e)) (hinfo : (P.info? e).map (fun i => (i.zero, i.size, i.bytes)) = some (some (.string ⟨#[]⟩), 1, 16))
    (p : Option Addr) (cap : Nat) (xs : List ByteArray) (hs : a.eval s = .slice p xs.length cap) (hown : Own (fun _ => False) 1 strR e B w p cap xs)
    (g : Nat) (T : TypeId) (ys : List ByteArray) (hx : a.eval x = .slice (some ⟨g, 0, none⟩) ys.length ys.length) (hb : Blk w g T (ys.map Value.string)) (hy : 1 ≤ ys.length) (hsz : ∀ y ∈ ys, y.size ≤ maxLen) (hlen : xs.length + ys.length ≤ 1000000000) (hbase : B ≤ w.heap.size)
    (h : ∀ p' cap' w', Own (fun _ => False) 1 strR e B w' p' cap' (xs ++ ys) → (∀ W, Bel W w → W.heap.size ≤ B → Bel W w') → K (a.put o.dst (.slice p' (xs ++ ys).length cap')) w') : o.wp P a w K Q := by
  obtain ⟨i, hi, hz, hsize, hbytes⟩ := info_parts hinfo
  obtain ⟨hc, hsx⟩ := own_strs hown
  obtain ⟨v', w', hr, h2, h3, h4, h5⟩ := run_append_own_at (P := P) w B t o.type e i (.string ⟨#[]⟩) 1 16 ht hi hz hsize hbytes rfl (by omega) _ _ _ hc ⟨g, 0, none⟩ ys.length ys.length (ys.map Value.string) (by simp) (blk_cells hb) (by intro u hu; obtain ⟨z, -, rfl⟩ := List.mem_map.1 hu; rfl) (by unfold maxLen; omega) (by omega) hbase
  unfold Oper.wp execOp
  simp only [ho, resolve, invoke, builtin, Sem.run_bind, Sem.run_pure, Result.andThen_ok, List.map_toArray, List.map_cons, List.map_nil, hs, hx, hr]
  rw [← List.map_append, ← List.length_append] at h2
  obtain ⟨g', cap', rfl, _, _⟩ := h2.form (by rw [List.length_append]; omega)
  exact h _ _ _ (strs_own h2 (by intro y hy'; rcases List.mem_append.1 hy' with h | h; exact hsx y h; exact hsz y h)) (fun W hW hWB => bel_append hown hW hWB h3)
theorem wpList_strsO (w : World) {ops : Array Oper} {rest : List Oper} {o : Oper} {a : Act} {Q : Exit → Act → World → Prop} (hgd : o.guard = none) (s x : Operand) (t : TypeId)
    (ho : o.op = .call { callee := .builtin .append, args := #[s, x], argTypes := #[t, t] })
    (ht : P.underlying t = some (.slice e)) (hinfo : (P.info? e).map (fun i => (i.zero, i.size, i.bytes)) = some (some (.string ⟨#[]⟩), 1, 16))
    (p : Option Addr) (cap : Nat) (xs : List ByteArray) (hs : a.eval s = .slice p xs.length cap) (hown : Own (fun _ => False) 1 strR e B w p cap xs)
    (g : Nat) (T : TypeId) (ys : List ByteArray) (hx : a.eval x = .slice (some ⟨g, 0, none⟩) ys.length ys.length) (hb : Blk w g T (ys.map Value.string)) (hy : 1 ≤ ys.length) (hsz : ∀ y ∈ ys, y.size ≤ maxLen) (hlen : xs.length + ys.length ≤ 1000000000) (hbase : B ≤ w.heap.size)
    (h : ∀ p' cap' w', Own (fun _ => False) 1 strR e B w' p' cap' (xs ++ ys) → (∀ W, Bel W w → W.heap.size ≤ B → Bel W w') → wpList P ops Q rest (a.put o.dst (.slice p' (xs ++ ys).length cap')) w') : wpList P ops Q (o :: rest) a w :=
  wpList_plain hgd fun _ hK => wp_strsO w s x t ho ht hinfo p cap xs hs hown g T ys hx hb hy hsz hlen hbase fun p' cap' w' k1 k2 => hK _ _ (h p' cap' w' k1 k2)
theorem step_strsO (w : World) {ops : Array Oper} {o : Oper} {a : Act} {K : Act → World → Prop} {Q : Exit → Act → World → Prop} {E : Prop} (hgd : o.guard = none) (s x : Operand) (t : TypeId)
    (ho : o.op = .call { callee := .builtin .append, args := #[s, x], argTypes := #[t, t] })
    (ht : P.underlying t = some (.slice e)) (hinfo : (P.info? e).map (fun i => (i.zero, i.size, i.bytes)) = some (some (.string ⟨#[]⟩), 1, 16))
    (p : Option Addr) (cap : Nat) (xs : List ByteArray) (hs : a.eval s = .slice p xs.length cap) (hown : Own (fun _ => False) 1 strR e B w p cap xs)
    (g : Nat) (T : TypeId) (ys : List ByteArray) (hx : a.eval x = .slice (some ⟨g, 0, none⟩) ys.length ys.length) (hb : Blk w g T (ys.map Value.string)) (hy : 1 ≤ ys.length) (hsz : ∀ y ∈ ys, y.size ≤ maxLen) (hlen : xs.length + ys.length ≤ 1000000000) (hbase : B ≤ w.heap.size)
    (h : ∀ p' cap' w', Own (fun _ => False) 1 strR e B w' p' cap' (xs ++ ys) → (∀ W, Bel W w → W.heap.size ≤ B → Bel W w') → K (a.put o.dst (.slice p' (xs ++ ys).length cap')) w') :
    if Region.wanted o (yielded ops a.tmps) = true then Oper.wp P o a w K Q else E := by
  have hw : Region.wanted o (yielded ops a.tmps) = true := by simp [Region.wanted, hgd]
  rw [if_pos hw]
  exact wp_strsO w s x t ho ht hinfo p cap xs hs hown g T ys hx hb hy hsz hlen hbase h
end
theorem strs_at {T : Nat → Prop} {w : World} {q : Option Addr} {n cap : Nat} {xs : List ByteArray} (h : strsR T w [.slice q n cap] xs) (hl : 1 ≤ xs.length) : ∃ b o, q = some ⟨b, o, none⟩ ∧ T b ∧ ∀ i, i < xs.length → w.cell? ⟨b, o + i, none⟩ = some (.string (xs.getD i ⟨#[]⟩)) := by
  obtain ⟨p, c, e, h1, h2, h3⟩ := h
  obtain ⟨rfl, _, _⟩ : q = p ∧ n = xs.length ∧ cap = c := by simpa using e
  obtain ⟨b, o, ecs, e1, e2, -, -, -⟩ := h3 0 (by omega)
  refine ⟨b, o, e1, e2, fun i hi => ?_⟩
  obtain ⟨b', o', ecs', f1, f2, f3, f4, f5⟩ := h3 i hi
  rw [e1] at f1
  obtain ⟨rfl, rfl⟩ : b = b' ∧ o = o' := by simpa using f1
  have h5 := (f4 0 (by omega)).1
  simp only [Nat.mul_one, Nat.add_zero] at h5
  rw [h5]
  obtain ⟨rfl, -⟩ := f5
  simp [hi]
theorem getD_pad {ws : List ByteArray} (n i : Nat) : (ws ++ List.replicate n (⟨#[]⟩ : ByteArray)).getD i ⟨#[]⟩ = ws.getD i ⟨#[]⟩ := by
  rw [List.getD_eq_getElem?_getD, List.getD_eq_getElem?_getD]
  by_cases h : i < ws.length
  · rw [List.getElem?_append_left h]
  · rw [List.getElem?_append_right (by omega), List.getElem?_eq_none (l := ws) (by omega), List.getElem?_replicate]
    split <;> rfl
end Go.Proofs.YtkfpciggolkjeaaGreatDoor
