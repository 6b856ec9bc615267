/- Rows of strings: laid by a composite literal, grown past their end. -/
import Derived.Test.YtkfpciggolkjeaaGreatDoorJoin
import Derived.Test.YtkfpciggolkjeaaGreatDoorOwnS
import Derived.ArgAppend
import Derived.Deep.RegionLawGrows
namespace Go.Proofs.YtkfpciggolkjeaaGreatDoor
open Go.ChangeShapes Go.WideShapes Go.ChangeAt Go.RowKit
set_option linter.unusedVariables false

theorem strs_blk {S : Nat → Prop} {w : World} {g : Nat} {T : TypeId} {xs : List ByteArray} (h : Blk w g T (xs.map Value.string)) (hS : S g) (hx : ∀ x ∈ xs, x.size ≤ maxLen) (hl : xs.length ≤ maxLen) : strsR S w [.slice (some ⟨g, 0, none⟩) xs.length xs.length] xs := by
  refine ⟨_, _, rfl, Nat.le_refl _, hl, fun i hi => ⟨g, 0, [.string xs[i]], rfl, hS, rfl, ?_, rfl, hx _ (List.getElem_mem _)⟩⟩
  intro k hk
  obtain rfl : k = 0 := by simpa using hk
  refine ⟨?_, h.frozen _⟩
  rw [h.cell]
  simp [hi]
theorem strs_grown {w w' : World} {e : TypeId} {v' : Value} {xs : List ByteArray} (h2 : w'.ownsRow w.heap.size e 1 v' xs.length (xs.map Value.string)) (h3 : w.grownBy w' none) (hl : 1 ≤ xs.length) (hx : ∀ x ∈ xs, x.size ≤ maxLen) :
    ∃ p cap, v' = .slice p xs.length cap ∧ strsR (New w w') w' [.slice p xs.length cap] xs ∧ Bel w w' := by
  obtain ⟨g', cap', rfl, _, _⟩ := h2.form (by omega)
  have hO : Own (fun _ => False) 1 strR e w.heap.size w' (some ⟨g', 0, none⟩) cap' xs := ⟨_, h2, fun i hi => ⟨[.string xs[i]], rfl, fun m hm => by
    obtain rfl : m = 0 := by omega
    simp [hi], rfl, hx _ (List.getElem_mem _)⟩⟩
  exact ⟨_, _, rfl, hO.done strR_goodJ (fun b h _ => h.elim) (fun b h1 h2 => ⟨h1, h2⟩), Below.grown (Bel.refl w) h3 (Nat.le_refl _) fun k hk => by cases hk⟩
theorem wp_name {P : Program} {c : Code} {a : Act} {w : World} {Q : Exit → Act → World → Prop} (h : ∀ W, W = w → Code.wp P c Q a W) : Code.wp P c Q a w := h w rfl
section
variable {P : Program} {e : TypeId}
theorem blk_cells {w : World} {g : Nat} {T : TypeId} {cs : List Value} (h : Blk w g T cs) : ∀ j u, cs[j]? = some u → w.cell? ((⟨g, 0, none⟩ : Addr).add j) = some u := by
  intro j u hj
  have := h.cell j
  rw [hj] at this
  rcases j with _ | j <;> simpa [Addr.add] using this
theorem step_strs {ops : Array Oper} {o : Oper} {a : Act} {w : World} {K : Act → World → Prop} {Q : Exit → Act → World → Prop} {E : Prop} (hgd : o.guard = none) (s x : Operand) (t : TypeId)
    (ho : o.op = .call { callee := .builtin .append, args := #[s, x], argTypes := #[t, t] }) (ht : P.underlying t = some (.slice e)) (hinfo : (P.info? e).map (fun i => (i.zero, i.size, i.bytes)) = some (some (.string ⟨#[]⟩), 1, 16))
    (g : Nat) (T : TypeId) (xs ys zs : List ByteArray) (n : Nat) (hzs : xs ++ ys = zs) (hn : zs.length = n) (hs : a.eval s = .slice (some ⟨g, 0, none⟩) xs.length xs.length) (hb : Blk w g T (xs.map Value.string))
    (g' : Nat) (T' : TypeId) (hx : a.eval x = .slice (some ⟨g', 0, none⟩) ys.length ys.length) (hb' : Blk w g' T' (ys.map Value.string)) (hy : 1 ≤ ys.length) (hl : xs.length + ys.length ≤ 1000) (hsz : ∀ x ∈ zs, x.size ≤ maxLen)
    (h : ∀ p cap w', strsR (New w w') w' [.slice p n cap] zs → Bel w w' → K (a.put o.dst (.slice p n cap)) w') : if Region.wanted o (yielded ops a.tmps) = true then Oper.wp P o a w K Q else E := by
  obtain ⟨i, hi, hz, hsize, hbytes⟩ := info_parts hinfo
  subst hzs
  subst hn
  refine step_append_grows hgd s x t ho e i (.string ⟨#[]⟩) 1 16 ht hi hz hsize hbytes rfl (by omega) (some ⟨g, 0, none⟩) xs.length xs.length (xs.map Value.string) hs (fun h => by cases h) (by simp) (fun b hb2 => by cases hb2; exact blk_cells hb) ⟨g', 0, none⟩ ys.length ys.length (ys.map Value.string) hx (by simp) (blk_cells hb') (by intro u hu; obtain ⟨z, -, rfl⟩ := List.mem_map.1 hu; rfl) (by omega) (by unfold maxLen; omega) (by omega) ?_
  intro v' w' h2 h3
  rw [← List.map_append, ← List.length_append] at h2
  obtain ⟨p, cap, rfl, h4, h5⟩ := strs_grown h2 h3 (by rw [List.length_append]; omega) hsz
  exact h p cap w' h4 h5
theorem wpList_strs {ops : Array Oper} {rest : List Oper} {o : Oper} {a : Act} {w : World} {Q : Exit → Act → World → Prop} (hgd : o.guard = none) (s x : Operand) (t : TypeId)
    (ho : o.op = .call { callee := .builtin .append, args := #[s, x], argTypes := #[t, t] }) (ht : P.underlying t = some (.slice e)) (hinfo : (P.info? e).map (fun i => (i.zero, i.size, i.bytes)) = some (some (.string ⟨#[]⟩), 1, 16))
    (g : Nat) (T : TypeId) (xs ys zs : List ByteArray) (n : Nat) (hzs : xs ++ ys = zs) (hn : zs.length = n) (hs : a.eval s = .slice (some ⟨g, 0, none⟩) xs.length xs.length) (hb : Blk w g T (xs.map Value.string))
    (g' : Nat) (T' : TypeId) (hx : a.eval x = .slice (some ⟨g', 0, none⟩) ys.length ys.length) (hb' : Blk w g' T' (ys.map Value.string)) (hy : 1 ≤ ys.length) (hl : xs.length + ys.length ≤ 1000) (hsz : ∀ x ∈ zs, x.size ≤ maxLen)
    (h : ∀ p cap w', strsR (New w w') w' [.slice p n cap] zs → Bel w w' → wpList P ops Q rest (a.put o.dst (.slice p n cap)) w') : wpList P ops Q (o :: rest) a w := by
  obtain ⟨i, hi, hz, hsize, hbytes⟩ := info_parts hinfo
  subst hzs
  subst hn
  refine wpList_append_grows w hgd s x t ho e i (.string ⟨#[]⟩) 1 16 ht hi hz hsize hbytes rfl (by omega) (some ⟨g, 0, none⟩) xs.length xs.length (xs.map Value.string) hs (fun h => by cases h) (by simp) (fun b hb2 => by cases hb2; exact blk_cells hb) ⟨g', 0, none⟩ ys.length ys.length (ys.map Value.string) hx (by simp) (blk_cells hb') (by intro u hu; obtain ⟨z, -, rfl⟩ := List.mem_map.1 hu; rfl) (by omega) (by unfold maxLen; omega) (by omega) ?_
  intro v' w' h2 h3
  rw [← List.map_append, ← List.length_append] at h2
  obtain ⟨p, cap, rfl, h4, h5⟩ := strs_grown h2 h3 (by rw [List.length_append]; omega) hsz
  exact h p cap w' h4 h5
end
end Go.Proofs.YtkfpciggolkjeaaGreatDoor
