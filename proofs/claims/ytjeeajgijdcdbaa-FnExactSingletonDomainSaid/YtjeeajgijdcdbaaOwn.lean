/- Slices that a call grows by append: what they hold (Own), behind other calls, behind append, and at the end. No program. -/
import Derived.Test.YtjeeajgijdcdbaaBlk
import Derived.Test.YtjeeajgijdcdbaaShape
import Derived.Maps.AppendAt
import Derived.Deep.AppendLies
import Derived.ArgAppend
namespace Go.Proofs.Ytjeeajgijdcdbaa
open Go.RowKit
set_option linter.unusedVariables false

/-- The slice '.slice p (length of xs) cap' owns its row, in blocks from B on; its elements read as xs, what they lead to lies in blocks of S, apart from that row. -/
def Own {α : Type} (S : Nat → Prop) (n : Nat) (R : RepT α) (e : TypeId) (B : Nat) (w : World) (p : Option Addr) (cap : Nat) (xs : List α) : Prop :=
  ∃ cells, w.ownsRow B e n (.slice p xs.length cap) xs.length cells ∧ ∀ i (h : i < xs.length), ∃ ecs, ecs.length = n ∧ (∀ m, m < n → cells[i * n + m]? = ecs[m]?) ∧ R (fun b => S b ∧ b < w.heap.size ∧ ∀ a, p = some a → b ≠ a.block) w ecs xs[i]

section
variable {α : Type} {S : Nat → Prop} {n : Nat} {R : RepT α} {e : TypeId} {B : Nat}

theorem Own.nil (w : World) : Own S n R e B w none 0 [] :=
  ⟨[], ⟨by simp, .inl ⟨rfl, rfl⟩⟩, fun i h => by simp at h⟩
/-- The slice that '[]T{}' lays. -/
theorem Own.empty {w : World} {g : Nat} (h : w.heap[g]? = some (.cells #[] e (0, 0))) (hB : B ≤ g) : Own S n R e B w (some ⟨g, 0, none⟩) 0 [] :=
  ⟨[], ⟨by simp, .inr ⟨g, 0, #[], rfl, hB, h, Nat.le_refl _, Nat.zero_le _, by simp, by simp⟩⟩, fun i h => by simp at h⟩
theorem Own.cases {w : World} {p : Option Addr} {cap : Nat} {xs : List α} (h : Own S n R e B w p cap xs) :
    (p = none ∧ cap = 0 ∧ xs = []) ∨ ∃ g cur, p = some ⟨g, 0, none⟩ ∧ B ≤ g ∧ w.heap[g]? = some (.cells cur e (0, 0)) ∧ g < w.heap.size ∧ xs.length ≤ cap ∧ cap ≤ maxLen := by
  obtain ⟨cells, ⟨h1, h2⟩, h3⟩ := h
  rcases h2 with ⟨h4, h5⟩ | ⟨g, cap', cur, h4, h5, h6, h7, h8, h9, h10⟩
  · left
    obtain ⟨rfl, _, rfl⟩ : p = none ∧ xs.length = 0 ∧ cap = 0 := by simpa using h4
    exact ⟨rfl, rfl, List.eq_nil_of_length_eq_zero h5⟩
  · right
    obtain ⟨rfl, rfl⟩ : p = some ⟨g, 0, none⟩ ∧ cap = cap' := by simpa using h4
    exact ⟨g, cur, rfl, h5, h6, (Array.getElem?_eq_some_iff.1 h6).1, h7, h8⟩
theorem Own.le {w : World} {p : Option Addr} {cap : Nat} {xs : List α} (h : Own S n R e B w p cap xs) : xs.length ≤ cap ∧ cap ≤ maxLen := by
  rcases h.cases with ⟨_, rfl, rfl⟩ | ⟨g, cur, _, _, _, _, h1, h2⟩
  · exact ⟨by simp, Nat.zero_le _⟩
  · exact ⟨h1, h2⟩
theorem Own.bel (gd : Good R) {w w' : World} {p : Option Addr} {cap : Nat} {xs : List α} (h : Own S n R e B w p cap xs) (hb : Bel w w') : Own S n R e B w' p cap xs := by
  obtain ⟨cells, ⟨h1, h2⟩, h3⟩ := h
  refine ⟨cells, ⟨h1, ?_⟩, fun i hi => ?_⟩
  · rcases h2 with h2 | ⟨g, cap', cur, h4, h5, h6, h7⟩
    · exact .inl h2
    · exact .inr ⟨g, cap', cur, h4, h5, by rw [hb.block (Array.getElem?_eq_some_iff.1 h6).1]; exact h6, h7⟩
  · obtain ⟨ecs, e1, e2, e3⟩ := h3 i hi
    exact ⟨ecs, e1, e2, gd.mono (gd.stay e3 fun b hb' => hb.block hb'.2.1) fun b hb' => ⟨hb'.1, Nat.lt_of_lt_of_le hb'.2.1 hb.size, hb'.2.2⟩⟩
theorem Own.drew {w : World} {p : Option Addr} {cap : Nat} {xs : List α} (gd : Good R) (h : Own S n R e B w p cap xs) : Own S n R e B w.drew p cap xs := h.bel gd ((Bel.refl w).drew)

/-- What was there before the row began stays behind an append. -/
theorem bel_append {W w w' : World} {p : Option Addr} {cap : Nat} {xs : List α} (h : Own S n R e B w p cap xs) (hW : Bel W w) (hB : W.heap.size ≤ B) (hg : w.grownBy w' (Value.ownBlock (.slice p xs.length cap))) : Bel W w' := by
  refine Below.grown hW hg hW.size fun k hk => ?_
  rcases h.cases with ⟨rfl, _, _⟩ | ⟨g, cur, rfl, h1, _⟩
  · simp [Value.ownBlock] at hk
  · have : k = g := by simpa [Value.ownBlock] using hk.symm
    omega

/-- One element more. -/
theorem Own.append (gd : Good R) {w w' : World} {p p' : Option Addr} {cap cap' : Nat} {xs : List α} {x : α} {cells ecs : List Value}
    (hc : w.ownsRow B e n (.slice p xs.length cap) xs.length cells) (h : ∀ i (h : i < xs.length), ∃ ecs, ecs.length = n ∧ (∀ m, m < n → cells[i * n + m]? = ecs[m]?) ∧ R (fun b => S b ∧ b < w.heap.size ∧ ∀ a, p = some a → b ≠ a.block) w ecs xs[i])
    (hl : ecs.length = n) (hx : R (fun b => S b ∧ b < w.heap.size ∧ ∀ a, p = some a → b ≠ a.block) w ecs x)
    (ho : w'.ownsRow B e n (.slice p' (xs.length + 1) cap') (xs.length + 1) (cells ++ ecs)) (hg : w.grownBy w' (Value.ownBlock (.slice p xs.length cap)))
    (hat : Value.ownBlock (.slice p' (xs.length + 1) cap') = Value.ownBlock (.slice p xs.length cap) ∨ Value.ownBlock (.slice p' (xs.length + 1) cap') = some w.heap.size) : Own S n R e B w' p' cap' (xs ++ [x]) := by
  have key : ∀ {ecs' : List Value} {x' : α}, R (fun b => S b ∧ b < w.heap.size ∧ ∀ a, p = some a → b ≠ a.block) w ecs' x' → R (fun b => S b ∧ b < w'.heap.size ∧ ∀ a, p' = some a → b ≠ a.block) w' ecs' x' := by
    intro ecs' x' hr
    refine gd.mono (gd.stay hr fun b hb => hg.block b hb.2.1 ?_) fun b hb => ⟨hb.1, Nat.lt_of_lt_of_le hb.2.1 hg.size, ?_⟩
    · intro hh
      cases p with
      | none => simp [Value.ownBlock] at hh
      | some a => exact hb.2.2 a rfl (by simpa [Value.ownBlock] using hh)
    · rintro a rfl hh
      rcases hat with hat | hat
      · cases p with
        | none => simp [Value.ownBlock] at hat
        | some a' => exact hb.2.2 a' rfl (by rw [hh]; simpa [Value.ownBlock] using hat)
      · have : a.block = w.heap.size := by simpa [Value.ownBlock] using hat
        have := hb.2.1
        omega
  refine ⟨cells ++ ecs, by rw [List.length_append]; exact ho, fun i hi => ?_⟩
  have hcl := hc.1
  by_cases hlt : i < xs.length
  · obtain ⟨ecs', e1, e2, e3⟩ := h i hlt
    refine ⟨ecs', e1, fun m hm => ?_, ?_⟩
    · rw [List.getElem?_append_left ?_]
      · exact e2 m hm
      · have h5 : (i + 1) * n ≤ xs.length * n := Nat.mul_le_mul_right _ (by omega)
        rw [Nat.succ_mul] at h5
        omega
    · rw [List.getElem_append_left hlt]
      exact key e3
  · have e' : i = xs.length := by simp at hi; omega
    subst e'
    refine ⟨ecs, hl, fun m hm => ?_, ?_⟩
    · rw [List.getElem?_append_right (by omega)]
      congr 1
      omega
    · rw [List.getElem_append_right (Nat.le_refl _)]
      simp only [Nat.sub_self, List.getElem_cons_zero]
      exact key hx

/-- The slice, read. -/
theorem Own.done (gd : Good R) {w : World} {p : Option Addr} {cap : Nat} {xs : List α} {T : Nat → Prop} (h : Own S n R e B w p cap xs) (hS : ∀ b, S b → b < w.heap.size → T b) (hT : ∀ b, B ≤ b → b < w.heap.size → T b) : sliceR n R T w [.slice p xs.length cap] xs := by
  have hle := h.le
  obtain ⟨cells, ⟨h1, h2⟩, h3⟩ := h
  refine ⟨p, cap, rfl, hle.1, hle.2, fun i hi => ?_⟩
  rcases h2 with ⟨h4, h5⟩ | ⟨g, cap', cur, h4, h5, h6, h7, h8, h9, h10⟩
  · omega
  · obtain ⟨rfl, rfl⟩ : p = some ⟨g, 0, none⟩ ∧ cap = cap' := by simpa using h4
    obtain ⟨ecs, e1, e2, e3⟩ := h3 i hi
    refine ⟨g, 0, ecs, rfl, hT g h5 (Array.getElem?_eq_some_iff.1 h6).1, e1, fun m hm => ?_, gd.mono e3 fun b hb => hS b hb.1 hb.2.1⟩
    have hi1 : (i + 1) * n ≤ xs.length * n := Nat.mul_le_mul_right _ (by omega)
    rw [Nat.succ_mul] at hi1
    have hlt : i * n + m < cells.length := by rw [h1]; omega
    have hcell : cur[i * n + m]? = some ecs[m] := by
      have h11 := e2 m (by omega)
      rw [← h10, List.getElem?_take, if_pos (by omega), List.getElem?_eq_getElem hm] at h11
      simpa using h11
    refine ⟨?_, ?_⟩
    · simp only [World.cell?, h6, Nat.zero_add]
      simp [hcell]
    · simp [World.frozen?, h6]
end

section
variable {P : Program} {α : Type} {S : Nat → Prop} {n : Nat} {R : RepT α} {e : TypeId} {B : Nat}
/-- append of one element, for the walk. -/
theorem wpList_app (gd : Good R) (w : World) {ops : Array Oper} {rest : List Oper} {o : Oper} {a : Act} {Q : Exit → Act → World → Prop} (hgd : o.guard = none) (s x : Operand) (t : TypeId)
    (ho : o.op = .call { callee := .builtin .append, args := #[s, x], argTypes := #[t, t] })
    (z : Value) (bytes : Nat) (ht : P.underlying t = some (.slice e)) (hinfo : (P.info? e).map (fun i => (i.zero, i.size, i.bytes)) = some (some z, n, bytes)) (hzs : z.cells.size = n) (hn : 0 < n) (hby : bytes ≤ 100)
    (p : Option Addr) (cap : Nat) (xs : List α) (x0 : α) (hs : a.eval s = .slice p xs.length cap) (hown : Own S n R e B w p cap xs)
    (g : Nat) (c : Nat) (ecs : List Value) (hx : a.eval x = .slice (some ⟨g, 0, none⟩) 1 c) (hel : ecs.length = n) (hcell : ∀ j u, ecs[j]? = some u → w.cell? ((⟨g, 0, none⟩ : Addr).add j) = some u) (h1 : ∀ u ∈ ecs, u.oneCell' = true)
    (hrep : R (fun b => S b ∧ b < w.heap.size ∧ ∀ a, p = some a → b ≠ a.block) w ecs x0) (hlen : xs.length ≤ 1000000000) (hbase : B ≤ w.heap.size)
    (h : ∀ p' cap' w', Own S n R e B w' p' cap' (xs ++ [x0]) → (∀ W, Bel W w → W.heap.size ≤ B → Bel W w') → w.heap.size ≤ w'.heap.size → wpList P ops Q rest (a.put o.dst (.slice p' (xs.length + 1) cap')) w') : wpList P ops Q (o :: rest) a w := by
  obtain ⟨i, hi, hz, hsize, hbytes⟩ := info_parts hinfo
  have hown0 := hown
  obtain ⟨cells, hc, hels⟩ := hown
  refine wpList_append_own_at w hgd s x t ho B e i z n bytes ht hi hz hsize hbytes hzs hn _ _ cells hs hc ⟨g, 0, none⟩ 1 c ecs hx (by omega) hcell h1 (by unfold maxLen; omega) ?_ hbase ?_
  · have : (xs.length + 1) * bytes ≤ 1000000001 * 100 := Nat.mul_le_mul (by omega) hby
    omega
  · intro v' w' h2 h3 h4 h5
    obtain ⟨g', cap', rfl, _, _⟩ := h2.form (by omega)
    exact h _ _ _ (Own.append gd hc hels hel hrep h2 h3 h5) (fun W hW hWB => bel_append hown0 hW hWB h3) h3.size
end

/-- What was laid just now. -/
theorem alloc_at {w : World} {o : Obj} {g : Nat} (hg : g = w.heap.size) : (w.alloc o).heap[g]? = some o := by subst hg; exact heap_alloc_new _ _
/-- Ints. -/
theorem intRep {T : Nat → Prop} {w : World} {k : Int} (h : I64 k) : intR T w [.int .i64 k] k := ⟨rfl, h⟩
end Go.Proofs.Ytjeeajgijdcdbaa

/- Slices grown by append, whose variable lies in a box of its own. No program. -/
namespace Go.Proofs.Ytjeeajgijdcdbaa
open Go.RowKit
set_option linter.unusedVariables false

section
variable {P : Program} {α : Type} {S : Nat → Prop} {n : Nat} {R : RepT α} {e : TypeId} {B : Nat}
/-- append of one element, for the walk; what lies in other blocks stays. -/
theorem wpList_app2 (gd : Good R) (w : World) {ops : Array Oper} {rest : List Oper} {o : Oper} {a : Act} {Q : Exit → Act → World → Prop} (hgd : o.guard = none) (s x : Operand) (t : TypeId)
    (ho : o.op = .call { callee := .builtin .append, args := #[s, x], argTypes := #[t, t] })
    (z : Value) (bytes : Nat) (ht : P.underlying t = some (.slice e)) (hinfo : (P.info? e).map (fun i => (i.zero, i.size, i.bytes)) = some (some z, n, bytes)) (hzs : z.cells.size = n) (hn : 0 < n) (hby : bytes ≤ 100)
    (p : Option Addr) (cap : Nat) (xs : List α) (x0 : α) (hs : a.eval s = .slice p xs.length cap) (hown : Own S n R e B w p cap xs)
    (g : Nat) (c : Nat) (ecs : List Value) (hx : a.eval x = .slice (some ⟨g, 0, none⟩) 1 c) (hel : ecs.length = n) (hcell : ∀ j u, ecs[j]? = some u → w.cell? ((⟨g, 0, none⟩ : Addr).add j) = some u) (h1 : ∀ u ∈ ecs, u.oneCell' = true)
    (hrep : R (fun b => S b ∧ b < w.heap.size ∧ ∀ a, p = some a → b ≠ a.block) w ecs x0) (hlen : xs.length ≤ 1000000000) (hbase : B ≤ w.heap.size)
    (h : ∀ p' cap' w', Own S n R e B w' p' cap' (xs ++ [x0]) → (∀ W, Bel W w → W.heap.size ≤ B → Bel W w') → w.heap.size ≤ w'.heap.size →
      (∀ b, b < w.heap.size → (∀ a, p = some a → b ≠ a.block) → w'.heap[b]? = w.heap[b]? ∧ ∀ a, p' = some a → b ≠ a.block) →
      wpList P ops Q rest (a.put o.dst (.slice p' (xs.length + 1) cap')) w') : wpList P ops Q (o :: rest) a w := by
  obtain ⟨i, hi, hz, hsize, hbytes⟩ := info_parts hinfo
  have hown0 := hown
  obtain ⟨cells, hc, hels⟩ := hown
  refine wpList_append_own_at w hgd s x t ho B e i z n bytes ht hi hz hsize hbytes hzs hn _ _ cells hs hc ⟨g, 0, none⟩ 1 c ecs hx (by omega) hcell h1 (by unfold maxLen; omega) ?_ hbase ?_
  · have : (xs.length + 1) * bytes ≤ 1000000001 * 100 := Nat.mul_le_mul (by omega) hby
    omega
  · intro v' w' h2 h3 h4 h5
    obtain ⟨g', cap', rfl, _, _⟩ := h2.form (by omega)
    refine h _ _ _ (Own.append gd hc hels hel hrep h2 h3 h5) (fun W hW hWB => bel_append hown0 hW hWB h3) h3.size (fun b hb hp => ⟨h3.block b hb ?_, ?_⟩)
    · intro hh
      cases p with
      | none => simp [Value.ownBlock] at hh
      | some a => exact hp a rfl (by simpa [Value.ownBlock] using hh)
    · rintro a ha hh
      obtain rfl : (⟨g', 0, none⟩ : Addr) = a := by simpa using ha
      rcases h5 with h6 | h6
      · cases p with
        | none => simp [Value.ownBlock] at h6
        | some a' =>
          have h7 : g' = a'.block := by simpa [Value.ownBlock] using h6
          exact hp a' rfl (hh.trans h7)
      · have h7 : g' = w.heap.size := by simpa [Value.ownBlock] using h6
        have h8 : b = g' := hh
        omega
end
/-- A store into another block. -/
theorem Own.setAt {α : Type} {n : Nat} {R : RepT α} {e : TypeId} {B : Nat} (gd : Good R) {w : World} {p : Option Addr} {cap : Nat} {xs : List α} (h : Own (fun _ => False) n R e B w p cap xs) {q : Nat} (hq : ∀ a, p = some a → q ≠ a.block) (j : Nat) (u : Value) : Own (fun _ => False) n R e B (w.setCell ⟨q, j, none⟩ u) p cap xs := by
  obtain ⟨cells, ⟨h1, h2⟩, h3⟩ := h
  refine ⟨cells, ⟨h1, ?_⟩, fun i hi => ?_⟩
  · rcases h2 with h2 | ⟨g, cap', cur, h4, h5, h6, h7⟩
    · exact .inl h2
    · obtain ⟨rfl, _, rfl⟩ : p = some ⟨g, 0, none⟩ ∧ xs.length = xs.length ∧ cap = cap' := by simpa using h4
      exact .inr ⟨g, _, cur, h4, h5, by rw [Below.heap_setCell _ _ _ _ (fun e => hq _ rfl e.symm)]; exact h6, h7⟩
  · obtain ⟨ecs, e1, e2, e3⟩ := h3 i hi
    exact ⟨ecs, e1, e2, gd.mono (gd.stay e3 fun b hb' => hb'.1.elim) fun b hb' => hb'.1.elim⟩
theorem Blk.of {w w' : World} {g : Nat} {e : TypeId} {arr : List Value} (h : Blk w g e arr) (hh : w'.heap[g]? = w.heap[g]?) : Blk w' g e arr := by
  unfold Blk at h ⊢
  rw [hh]
  exact h
end Go.Proofs.Ytjeeajgijdcdbaa

/- Slices grown by append behind other calls: the row of a slice that is still empty may lie before the base. No program. -/
namespace Go.Proofs.Ytjeeajgijdcdbaa
open Go.RowKit
set_option linter.unusedVariables false

/-- As Own; or the slice is empty and full. -/
def OwnE {α : Type} (S : Nat → Prop) (n : Nat) (R : RepT α) (e : TypeId) (B : Nat) (w : World) (p : Option Addr) (cap : Nat) (xs : List α) : Prop :=
  Own S n R e B w p cap xs ∨ (xs = [] ∧ cap = 0)
section
variable {α : Type} {S : Nat → Prop} {n : Nat} {R : RepT α} {e : TypeId} {B : Nat}
theorem OwnE.empty (w : World) (p : Option Addr) : OwnE S n R e B w p 0 [] := .inr ⟨rfl, rfl⟩
theorem OwnE.bel (gd : Good R) {w w' : World} {p : Option Addr} {cap : Nat} {xs : List α} (h : OwnE S n R e B w p cap xs) (hb : Bel w w') : OwnE S n R e B w' p cap xs := by
  rcases h with h | h
  · exact .inl (h.bel gd hb)
  · exact .inr h
theorem OwnE.done (gd : Good R) {w : World} {p : Option Addr} {cap : Nat} {xs : List α} {T : Nat → Prop} (h : OwnE S n R e B w p cap xs) (hS : ∀ b, S b → b < w.heap.size → T b) (hT : ∀ b, B ≤ b → b < w.heap.size → T b) : sliceR n R T w [.slice p xs.length cap] xs := by
  rcases h with h | ⟨rfl, rfl⟩
  · exact h.done gd hS hT
  · exact ⟨p, 0, rfl, Nat.le_refl _, Nat.zero_le _, fun i hi => absurd hi (Nat.not_lt_zero _)⟩
end
section
variable {P : Program} {α : Type} {S : Nat → Prop} {n : Nat} {R : RepT α} {e : TypeId} {B : Nat}
/-- append of one element, for the walk. -/
theorem wpList_appE (gd : Good R) (w : World) {ops : Array Oper} {rest : List Oper} {o : Oper} {a : Act} {Q : Exit → Act → World → Prop} (hgd : o.guard = none) (s x : Operand) (t : TypeId)
    (ho : o.op = .call { callee := .builtin .append, args := #[s, x], argTypes := #[t, t] })
    (z : Value) (bytes : Nat) (ht : P.underlying t = some (.slice e)) (hinfo : (P.info? e).map (fun i => (i.zero, i.size, i.bytes)) = some (some z, n, bytes)) (hzs : z.cells.size = n) (hn : 0 < n) (hby : bytes ≤ 100)
    (p : Option Addr) (cap : Nat) (xs : List α) (x0 : α) (hs : a.eval s = .slice p xs.length cap) (hown : OwnE S n R e B w p cap xs)
    (g : Nat) (c : Nat) (ecs : List Value) (hx : a.eval x = .slice (some ⟨g, 0, none⟩) 1 c) (hel : ecs.length = n) (hcell : ∀ j u, ecs[j]? = some u → w.cell? ((⟨g, 0, none⟩ : Addr).add j) = some u) (h1 : ∀ u ∈ ecs, u.oneCell' = true)
    (hrep : R (fun b => S b ∧ b < w.heap.size ∧ ∀ a, p = some a → b ≠ a.block) w ecs x0) (hlen : xs.length ≤ 1000000000) (hbase : B ≤ w.heap.size)
    (h : ∀ p' cap' w', OwnE S n R e B w' p' cap' (xs ++ [x0]) → (∀ W, Bel W w → W.heap.size ≤ B → Bel W w') → w.heap.size ≤ w'.heap.size → wpList P ops Q rest (a.put o.dst (.slice p' (xs.length + 1) cap')) w') : wpList P ops Q (o :: rest) a w := by
  rcases hown with hown | ⟨rfl, rfl⟩
  · exact wpList_app gd w hgd s x t ho z bytes ht hinfo hzs hn hby p cap xs x0 hs hown g c ecs hx hel hcell h1 hrep hlen hbase fun p' cap' w' k1 k2 k3 => h p' cap' w' (.inl k1) k2 k3
  · obtain ⟨i, hi, hz, hsize, hbytes⟩ := info_parts hinfo
    refine wpList_append_grows w hgd s x t ho e i z n bytes ht hi hz hsize hbytes hzs hn p 0 0 [] hs (fun _ => ⟨rfl, rfl⟩) (by simp) (fun b _ j u hj => by simp at hj) ⟨g, 0, none⟩ 1 c ecs hx (by omega) hcell h1 (by omega) (by unfold maxLen; omega) (by omega) ?_
    intro v' w' h2 h3
    obtain ⟨g', cap', rfl, _, _⟩ := h2.form (by omega)
    have hb : ∀ W, Bel W w → Bel W w' := fun W hW => Below.grown hW h3 hW.size fun k hk => by cases hk
    have h20 := h2
    obtain ⟨h21, h22⟩ := h2
    rcases h22 with ⟨h4, _⟩ | ⟨g2, cap2, cur, h4, h5, h6, h7, h8, h9, h10⟩
    · simp at h4
    · obtain ⟨rfl, rfl⟩ : g' = g2 ∧ cap' = cap2 := by simpa using h4
      refine h _ _ _ (.inl ⟨ecs, ⟨by simpa using h21, .inr ⟨g', cap', cur, rfl, Nat.le_trans hbase h5, h6, by simpa using h7, h8, h9, by simpa using h10⟩⟩, fun k hk => ?_⟩) (fun W hW _ => hb W hW) h3.size
      obtain rfl : k = 0 := by simpa using hk
      refine ⟨ecs, hel, fun m _ => by simp, ?_⟩
      show R _ w' ecs x0
      refine gd.mono (gd.stay hrep fun b hb' => h3.block b hb'.2.1 (by simp)) fun b hb' => ⟨hb'.1, Nat.lt_of_lt_of_le hb'.2.1 h3.size, ?_⟩
      rintro a ha hh
      have : a.block = g' := by cases ha; rfl
      have := hb'.2.1
      omega
end
end Go.Proofs.Ytjeeajgijdcdbaa
