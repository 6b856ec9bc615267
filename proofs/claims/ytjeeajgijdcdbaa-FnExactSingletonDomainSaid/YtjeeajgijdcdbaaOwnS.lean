/- Slices grown by append beside calls that turn the cursor alone. No program. -/
import Derived.Test.YtjeeajgijdcdbaaCur
import Derived.Test.YtjeeajgijdcdbaaOwn
import Derived.Deep.RegionHeld3
import Derived.Deep.RegionLaw
namespace Go.Proofs.Ytjeeajgijdcdbaa
open Go.RowKit
set_option linter.unusedVariables false

/-- The blocks from B on that were there stand as they stood. -/
def Hi (B : Nat) (w w' : World) : Prop := w.heap.size ≤ w'.heap.size ∧ ∀ k, B ≤ k → k < w.heap.size → w'.heap[k]? = w.heap[k]?
theorem Hi.refl (B : Nat) (w : World) : Hi B w w := ⟨Nat.le_refl _, fun _ _ _ => rfl⟩
theorem Hi.trans {B : Nat} {a b c : World} (h : Hi B a b) (k : Hi B b c) : Hi B a c := ⟨Nat.le_trans h.1 k.1, fun i hi hlt => (k.2 i hi (Nat.lt_of_lt_of_le hlt h.1)).trans (h.2 i hi hlt)⟩
theorem Hi.ofBel {B : Nat} {a b : World} (h : Bel a b) : Hi B a b := ⟨h.size, fun k _ hk => h.block hk⟩
theorem Hi.ofDr {B cb : Nat} {a b : World} (h : Dr cb a b) (hc : cb < B) : Hi B a b := ⟨h.size, fun k hB hk => h.block hk (by omega)⟩
theorem Hi.drew {B : Nat} {a b : World} (h : Hi B a b) : Hi B a b.drew := h
theorem Hi.alloc {B : Nat} {a b : World} (h : Hi B a b) (o : Obj) : Hi B a (b.alloc o) := h.trans (Hi.ofBel ((Bel.refl b).alloc o))
theorem Hi.set {B : Nat} {a b : World} (h : Hi B a b) {q j : Nat} (u : Value) (hq : q < B ∨ a.heap.size ≤ q) : Hi B a (b.setCell ⟨q, j, none⟩ u) :=
  ⟨by have := h.1; simp [World.setCell]; omega, fun k hB hk => (Below.heap_setCell _ _ _ _ (show k ≠ q by omega)).trans (h.2 k hB hk)⟩
theorem Own.hi {α : Type} {S : Nat → Prop} {n : Nat} {R : RepT α} {e : TypeId} {B : Nat} (gd : Good R) {w w' : World} {p : Option Addr} {cap : Nat} {xs : List α} (h : Own S n R e B w p cap xs) (hb : Hi B w w') (hS : ∀ b, S b → B ≤ b) : Own S n R e B w' p cap xs := by
  obtain ⟨cells, ⟨h1, h2⟩, h3⟩ := h
  refine ⟨cells, ⟨h1, ?_⟩, fun i hi => ?_⟩
  · rcases h2 with h2 | ⟨g, cap', cur, h4, h5, h6, h7⟩
    · exact .inl h2
    · exact .inr ⟨g, cap', cur, h4, h5, by rw [hb.2 g h5 (Array.getElem?_eq_some_iff.1 h6).1]; exact h6, h7⟩
  · obtain ⟨ecs, e1, e2, e3⟩ := h3 i hi
    exact ⟨ecs, e1, e2, gd.mono (gd.stay e3 fun b hb' => hb.2 b (hS b hb'.1) hb'.2.1) fun b hb' => ⟨hb'.1, Nat.lt_of_lt_of_le hb'.2.1 hb.1, hb'.2.2⟩⟩
theorem Own.lt {α : Type} {S : Nat → Prop} {n : Nat} {R : RepT α} {e : TypeId} {B : Nat} {w : World} {p : Option Addr} {cap : Nat} {xs : List α} (h : Own S n R e B w p cap xs) {a : Addr} (ha : p = some a) : B ≤ a.block ∧ a.block < w.heap.size := by
  rcases h.cases with ⟨h1, _⟩ | ⟨g, cur, h1, h2, _, h4, _⟩
  · rw [h1] at ha; cases ha
  · rw [h1] at ha; cases ha; exact ⟨h2, h4⟩

section
variable {P : Program} {α : Type} {S : Nat → Prop} {n : Nat} {R : RepT α} {e : TypeId} {B : Nat}
/-- append of one element, in whatever world. -/
theorem wp_appG (gd : Good R) (w : World) {o : Oper} {a : Act} {K : Act → World → Prop} {Q : Exit → Act → World → Prop} (s x : Operand) (t : TypeId)
    (ho : o.op = .call { callee := .builtin .append, args := #[s, x], argTypes := #[t, t] })
    (z : Value) (bytes : Nat) (ht : P.underlying t = some (.slice e)) (hinfo : (P.info? e).map (fun i => (i.zero, i.size, i.bytes)) = some (some z, n, bytes)) (hzs : z.cells.size = n) (hn : 0 < n) (hby : bytes ≤ 100)
    (p : Option Addr) (cap : Nat) (xs : List α) (x0 : α) (hs : a.eval s = .slice p xs.length cap) (hown : Own S n R e B w p cap xs)
    (g : Nat) (c : Nat) (ecs : List Value) (hx : a.eval x = .slice (some ⟨g, 0, none⟩) 1 c) (hel : ecs.length = n) (hcell : ∀ j u, ecs[j]? = some u → w.cell? ((⟨g, 0, none⟩ : Addr).add j) = some u) (h1 : ∀ u ∈ ecs, u.oneCell' = true)
    (hrep : R (fun b => S b ∧ b < w.heap.size ∧ ∀ a, p = some a → b ≠ a.block) w ecs x0) (hlen : xs.length ≤ 1000000000) (hbase : B ≤ w.heap.size)
    (h : ∀ p' cap' w', Own S n R e B w' p' cap' (xs ++ [x0]) → Below B w w' →
      (∀ b, b < w.heap.size → (∀ a, p = some a → b ≠ a.block) → w'.heap[b]? = w.heap[b]? ∧ ∀ a, p' = some a → b ≠ a.block) →
      K (a.put o.dst (.slice p' (xs.length + 1) cap')) w') : o.wp P a w K Q := by
  obtain ⟨i, hi, hz, hsize, hbytes⟩ := info_parts hinfo
  have hown0 := hown
  obtain ⟨cells, hc, hels⟩ := hown
  obtain ⟨v', w', hr, h2, h3, h4, h5⟩ := run_append_own_at (P := P) w B t o.type e i z n bytes ht hi hz hsize hbytes hzs hn _ _ cells hc ⟨g, 0, none⟩ 1 c ecs (by omega) hcell h1 (by unfold maxLen; omega) (by
    have : (xs.length + 1) * bytes ≤ 1000000001 * 100 := Nat.mul_le_mul (by omega) hby
    omega) hbase
  unfold Oper.wp execOp
  simp only [ho, resolve, invoke, builtin, Sem.run_bind, Sem.run_pure, Result.andThen_ok, List.map_toArray, List.map_cons, List.map_nil, hs, hx, hr]
  obtain ⟨g', cap', rfl, _, _⟩ := h2.form (by omega)
  refine h _ _ _ (Own.append gd hc hels hel hrep h2 h3 h5) ⟨h3.os, h3.tape, h3.output, h3.size, fun k hk => h3.block k (by omega) ?_⟩ (fun b hb hp => ⟨h3.block b hb ?_, ?_⟩)
  · intro hh
    cases p with
    | none => simp [Value.ownBlock] at hh
    | some ad =>
      have := (hown0.lt (a := ad) rfl).1
      have h9 : k = ad.block := by simpa [Value.ownBlock] using hh
      omega
  · intro hh
    cases p with
    | none => simp [Value.ownBlock] at hh
    | some a => exact hp a rfl (by simpa [Value.ownBlock] using hh)
  · rintro a ha hh
    obtain rfl : (⟨g', 0, none⟩ : Addr) = a := by simpa using ha
    rcases h5 with h6 | h6
    · cases p with
      | none => simp [Value.ownBlock] at h6
      | some a' =>
        have h7 : g' = a'.block := by simpa [Value.ownBlock] using h6
        exact hp a' rfl (hh.trans h7)
    · have h7 : g' = w.heap.size := by simpa [Value.ownBlock] using h6
      have h8 : b = g' := hh
      omega
theorem wpList_appG (gd : Good R) (w : World) {ops : Array Oper} {rest : List Oper} {o : Oper} {a : Act} {Q : Exit → Act → World → Prop} (hgd : o.guard = none) (s x : Operand) (t : TypeId)
    (ho : o.op = .call { callee := .builtin .append, args := #[s, x], argTypes := #[t, t] })
    (z : Value) (bytes : Nat) (ht : P.underlying t = some (.slice e)) (hinfo : (P.info? e).map (fun i => (i.zero, i.size, i.bytes)) = some (some z, n, bytes)) (hzs : z.cells.size = n) (hn : 0 < n) (hby : bytes ≤ 100)
    (p : Option Addr) (cap : Nat) (xs : List α) (x0 : α) (hs : a.eval s = .slice p xs.length cap) (hown : Own S n R e B w p cap xs)
    (g : Nat) (c : Nat) (ecs : List Value) (hx : a.eval x = .slice (some ⟨g, 0, none⟩) 1 c) (hel : ecs.length = n) (hcell : ∀ j u, ecs[j]? = some u → w.cell? ((⟨g, 0, none⟩ : Addr).add j) = some u) (h1 : ∀ u ∈ ecs, u.oneCell' = true)
    (hrep : R (fun b => S b ∧ b < w.heap.size ∧ ∀ a, p = some a → b ≠ a.block) w ecs x0) (hlen : xs.length ≤ 1000000000) (hbase : B ≤ w.heap.size)
    (h : ∀ p' cap' w', Own S n R e B w' p' cap' (xs ++ [x0]) → Below B w w' →
      (∀ b, b < w.heap.size → (∀ a, p = some a → b ≠ a.block) → w'.heap[b]? = w.heap[b]? ∧ ∀ a, p' = some a → b ≠ a.block) →
      wpList P ops Q rest (a.put o.dst (.slice p' (xs.length + 1) cap')) w') : wpList P ops Q (o :: rest) a w :=
  wpList_plain hgd fun _ hK => wp_appG gd w s x t ho z bytes ht hinfo hzs hn hby p cap xs x0 hs hown g c ecs hx hel hcell h1 hrep hlen hbase fun p' cap' w' k1 k2 k3 => hK _ _ (h p' cap' w' k1 k2 k3)
theorem step_appG (gd : Good R) (w : World) {ops : Array Oper} {o : Oper} {a : Act} {K : Act → World → Prop} {Q : Exit → Act → World → Prop} {E : Prop} (hgd : o.guard = none) (s x : Operand) (t : TypeId)
    (ho : o.op = .call { callee := .builtin .append, args := #[s, x], argTypes := #[t, t] })
    (z : Value) (bytes : Nat) (ht : P.underlying t = some (.slice e)) (hinfo : (P.info? e).map (fun i => (i.zero, i.size, i.bytes)) = some (some z, n, bytes)) (hzs : z.cells.size = n) (hn : 0 < n) (hby : bytes ≤ 100)
    (p : Option Addr) (cap : Nat) (xs : List α) (x0 : α) (hs : a.eval s = .slice p xs.length cap) (hown : Own S n R e B w p cap xs)
    (g : Nat) (c : Nat) (ecs : List Value) (hx : a.eval x = .slice (some ⟨g, 0, none⟩) 1 c) (hel : ecs.length = n) (hcell : ∀ j u, ecs[j]? = some u → w.cell? ((⟨g, 0, none⟩ : Addr).add j) = some u) (h1 : ∀ u ∈ ecs, u.oneCell' = true)
    (hrep : R (fun b => S b ∧ b < w.heap.size ∧ ∀ a, p = some a → b ≠ a.block) w ecs x0) (hlen : xs.length ≤ 1000000000) (hbase : B ≤ w.heap.size)
    (h : ∀ p' cap' w', Own S n R e B w' p' cap' (xs ++ [x0]) → Below B w w' →
      (∀ b, b < w.heap.size → (∀ a, p = some a → b ≠ a.block) → w'.heap[b]? = w.heap[b]? ∧ ∀ a, p' = some a → b ≠ a.block) →
      K (a.put o.dst (.slice p' (xs.length + 1) cap')) w') :
    if Region.wanted o (yielded ops a.tmps) = true then Oper.wp P o a w K Q else E := by
  have hw : Region.wanted o (yielded ops a.tmps) = true := by simp [Region.wanted, hgd]
  rw [if_pos hw]
  exact wp_appG gd w s x t ho z bytes ht hinfo hzs hn hby p cap xs x0 hs hown g c ecs hx hel hcell h1 hrep hlen hbase h
end
end Go.Proofs.Ytjeeajgijdcdbaa
