/- Blocks that the call made: what a block of cells holds, stores into it, a row of elements filled one by one. No program. -/
import Derived.Test.YtjeeajgijdcdbaaReps
import Derived.OwnWalk
namespace Go.Proofs.Ytjeeajgijdcdbaa
open Go.RowKit
set_option linter.unusedVariables false

/-- Block g is a row of cells that may be written: arr. -/
def Blk (w : World) (g : Nat) (e : TypeId) (arr : List Value) : Prop := w.heap[g]? = some (.cells arr.toArray e (0, 0))
theorem Blk.lt {w : World} {g : Nat} {e : TypeId} {arr : List Value} (h : Blk w g e arr) : g < w.heap.size := (Array.getElem?_eq_some_iff.1 h).1
theorem Blk.cell {w : World} {g : Nat} {e : TypeId} {arr : List Value} (h : Blk w g e arr) (j : Nat) : w.cell? ⟨g, j, none⟩ = arr[j]? := by
  unfold Blk at h
  simp [World.cell?, h]
theorem Blk.cellv {w : World} {g : Nat} {e : TypeId} {arr : List Value} (h : Blk w g e arr) {j : Nat} (hj : j < arr.length) : w.cell? ⟨g, j, none⟩ = some arr[j] := by
  rw [h.cell, List.getElem?_eq_getElem hj]
theorem Blk.frozen {w : World} {g : Nat} {e : TypeId} {arr : List Value} (h : Blk w g e arr) (j : Nat) : w.frozen? ⟨g, j, none⟩ = false := by
  unfold Blk at h
  simp [World.frozen?, h]
theorem Blk.set {w : World} {g : Nat} {e : TypeId} {arr : List Value} (h : Blk w g e arr) (j : Nat) (u : Value) : Blk (w.setCell ⟨g, j, none⟩ u) g e (arr.set j u) := by
  unfold Blk at h ⊢
  simp only [World.setCell, Array.getElem?_modify, h]
  simp
theorem Blk.new' {w : World} {g : Nat} {e : TypeId} (arr : List Value) (hg : g = w.heap.size) : Blk (w.alloc (.cells arr.toArray e)) g e arr := by
  subst hg
  unfold Blk
  show (w.heap.push _)[w.heap.size]? = _
  simp
theorem cell_setAt {w : World} {g i q j : Nat} {v : Value} (h : w.cell? ⟨g, i, none⟩ = some v) (hq : g ≠ q) (u : Value) : (w.setCell ⟨q, j, none⟩ u).cell? ⟨g, i, none⟩ = some v := by
  rw [World.cell?_of_block (w := w) (a := ⟨g, i, none⟩) (Below.heap_setCell _ _ _ _ hq)]
  exact h
/-- A store into another block. -/
theorem Blk.setAt {w : World} {g : Nat} {e : TypeId} {arr : List Value} (h : Blk w g e arr) {q : Nat} (hq : g ≠ q) (j : Nat) (u : Value) : Blk (w.setCell ⟨q, j, none⟩ u) g e arr := by
  unfold Blk at h ⊢
  rw [Below.heap_setCell _ _ _ _ hq]
  exact h
theorem Blk.drew {w : World} {g : Nat} {e : TypeId} {arr : List Value} (h : Blk w g e arr) : Blk w.drew g e arr := h
theorem Blk.bel {w w' : World} {g : Nat} {e : TypeId} {arr : List Value} (h : Blk w g e arr) (hb : Bel w w') : Blk w' g e arr := by
  unfold Blk
  rw [hb.block h.lt]
  exact h
theorem Blk.alloc {w : World} {g : Nat} {e : TypeId} {arr : List Value} (h : Blk w g e arr) (o : Obj) : Blk (w.alloc o) g e arr := h.bel ((Bel.refl w).alloc o)

/-- What lies in blocks behind g is as it was. -/
def But (g : Nat) (a b : World) : Prop := a.heap.size ≤ b.heap.size ∧ ∀ k, g < k → k < a.heap.size → b.heap[k]? = a.heap[k]?
theorem But.refl (g : Nat) (w : World) : But g w w := ⟨Nat.le_refl _, fun _ _ _ => rfl⟩
theorem But.set {g : Nat} {a b : World} (h : But g a b) {p : Addr} (hp : p.block ≤ g) (u : Value) : But g a (b.setCell p u) := by
  refine ⟨by simpa [World.setCell] using h.1, fun k hk hlt => ?_⟩
  rw [Below.heap_setCell _ _ _ _ (by omega)]
  exact h.2 k hk hlt
theorem But.put {g : Nat} {a b : World} (h : But g a b) (j : Nat) (u : Value) : But g a (b.setCell ⟨g, j, none⟩ u) := h.set (Nat.le_refl _) u
theorem Bel.put {a b : World} (h : Bel a b) (j : Nat) (u : Value) : Bel a (b.setCell ⟨a.heap.size, j, none⟩ u) := h.set (Nat.le_refl _) u
theorem But.at {g : Nat} {a b : World} (h : But g a b) (q j : Nat) (u : Value) (hq : q ≤ g) : But g a (b.setCell ⟨q, j, none⟩ u) := h.set hq u
theorem But.bel {g : Nat} {a b c : World} (h : But g a b) (hb : Bel b c) : But g a c := ⟨Nat.le_trans h.1 hb.size, fun k hk hlt => by rw [hb.block (by have := h.1; omega)]; exact h.2 k hk hlt⟩
theorem But.ofBel {g : Nat} {a b : World} (hb : Bel a b) : But g a b := (But.refl g a).bel hb
theorem But.drew {g : Nat} {a b : World} (h : But g a b) : But g a b.drew := h
theorem But.alloc {g : Nat} {a b : World} (h : But g a b) (o : Obj) : But g a (b.alloc o) := h.bel ((Bel.refl b).alloc o)
theorem But.trans {g : Nat} {a b c : World} (h : But g a b) (k : But g b c) : But g a c := ⟨Nat.le_trans h.1 k.1, fun i hi hlt => by rw [k.2 i hi (by have := h.1; omega)]; exact h.2 i hi hlt⟩

/-- A datum that a contract left in new memory. -/
def FreshV {α : Type} (R : RepT α) (w : World) (x : α) (e : Ending) (w' : World) : Prop := ∃ v, e = .returned v ∧ R (New w w') w' [v] x ∧ Bel w w'
def FreshA {α : Type} (R : RepT α) (w : World) (x : α) (e : Ending) (w' : World) : Prop := ∃ cs : List Value, e = .returned (.agg cs.toArray) ∧ R (New w w') w' cs x ∧ Bel w w'

/-- What lay behind block g in wi lies in w' still. -/
theorem Good.but {α : Type} {R : RepT α} (gd : Good R) {g : Nat} {w wi w' : World} {cs : List Value} {x : α} (h : R (fun b => g < b ∧ b < wi.heap.size) wi cs x) (hw : w.heap.size ≤ g + 1) (hb : But g wi w') : R (New w w') w' cs x :=
  gd.mono (gd.stay h fun b hb' => hb.2 b hb'.1 hb'.2) fun b hb' => ⟨by have := hb'.1; omega, Nat.lt_of_lt_of_le hb'.2 hb.1⟩

/-- What a contract left in new memory stays there. -/
theorem stays_one {α : Type} {R : RepT α} (gd : Good R) {a b : World} {v : Value} {x : α} (h : R (New a b) b [v] x) : ∀ W, Bel b W → R (New a b) W [v] x ∧ (∀ k, New a b k → k < W.heap.size) :=
  fun W hW => ⟨gd.bel h hW (fun k hk => hk.2), fun k hk => Nat.lt_of_lt_of_le hk.2 hW.size⟩
theorem stays_agg {α : Type} {R : RepT α} (gd : Good R) {a b : World} {cs : List Value} {x : α} (h : R (New a b) b cs x) : ∀ W, Bel b W → aggR R (New a b) W (.agg cs.toArray) x ∧ (∀ k, New a b k → k < W.heap.size) :=
  fun W hW => ⟨aggR_mk (gd.bel h hW (fun k hk => hk.2)), fun k hk => Nat.lt_of_lt_of_le hk.2 hW.size⟩

/-- What make leaves, as Blk. -/
theorem blk_of_own {w : World} {base : Nat} {e : TypeId} {size g n : Nat} {xs : List Value} (h : w.ownsRow base e size (.slice (some ⟨g, 0, none⟩) n n) n xs) : Blk w g e xs := by
  obtain ⟨h1, h2⟩ := h
  rcases h2 with ⟨h2, _⟩ | ⟨g', cap, cur, hv, _, hg, _, _, hs, ht⟩
  · simp at h2
  · simp only [Value.slice.injEq, Option.some.injEq, Addr.mk.injEq, and_true, true_and] at hv
    obtain ⟨rfl, rfl⟩ := hv
    have : cur.toList = xs := by rw [← ht, List.take_of_length_le (by simp [hs])]
    unfold Blk
    rw [hg, ← this]
theorem bel_of_grown {w w' : World} (h : w.grownBy w' none) : Bel w w' := ⟨h.os, h.tape, h.output, h.size, fun k hk => h.block k hk (by simp)⟩

/-- A row of cells put at a place of a list. -/
def putRow : List Value → Nat → List Value → List Value
  | arr, _, [] => arr
  | arr, off, c :: cs => putRow (arr.set off c) (off + 1) cs
theorem putRow_length : ∀ (cs arr : List Value) (off : Nat), (putRow arr off cs).length = arr.length := by
  intro cs
  induction cs with
  | nil => intro arr off; rfl
  | cons c cs ih => intro arr off; rw [putRow, ih]; simp
theorem putRow_out : ∀ (cs arr : List Value) (off j : Nat), j < off ∨ off + cs.length ≤ j → (putRow arr off cs)[j]? = arr[j]? := by
  intro cs
  induction cs with
  | nil => intro arr off j _; rfl
  | cons c cs ih =>
    intro arr off j h
    simp only [List.length_cons] at h
    rw [putRow, ih _ _ _ (by omega), List.getElem?_set_ne (by omega)]
theorem putRow_in : ∀ (cs arr : List Value) (off m : Nat), off + cs.length ≤ arr.length → m < cs.length → (putRow arr off cs)[off + m]? = cs[m]? := by
  intro cs
  induction cs with
  | nil => intro arr off m _ h; simp at h
  | cons c cs ih =>
    intro arr off m hl hm
    simp only [List.length_cons] at hl hm
    rw [putRow]
    cases m with
    | zero =>
      rw [putRow_out _ _ _ _ (by omega)]
      simp [List.getElem?_set_self (show off < arr.length by omega)]
    | succ m =>
      have := ih (arr.set off c) (off + 1) m (by simp; omega) (by omega)
      rw [show off + (m + 1) = off + 1 + m from by omega, this]
      simp

/-- The first k elements of a row in block g have been filled with representations of xs. -/
def Filled {α : Type} (n : Nat) (R : RepT α) (g : Nat) (w : World) (arr : List Value) (xs : List α) (k : Nat) : Prop :=
  ∀ j (hj : j < xs.length), j < k → ∃ ecs, ecs.length = n ∧ (∀ m, m < n → arr[j * n + m]? = ecs[m]?) ∧ R (fun b => g < b ∧ b < w.heap.size) w ecs xs[j]

theorem Filled.zero {α : Type} {n : Nat} {R : RepT α} {g : Nat} {w : World} {arr : List Value} {xs : List α} : Filled n R g w arr xs 0 := fun j _ h => by omega

/-- One element more: w to w1 nothing old is written but block g. -/
theorem Filled.step {α : Type} {n : Nat} {R : RepT α} (gd : Good R) {g : Nat} {w w1 : World} {arr : List Value} {xs : List α} {k : Nat} (h : Filled n R g w arr xs k) (hk : k < xs.length) (hb : But g w w1)
    (hl : arr.length = xs.length * n) {ecs : List Value} (he : ecs.length = n) (hr : R (fun b => g < b ∧ b < w1.heap.size) w1 ecs xs[k]) : Filled n R g w1 (putRow arr (k * n) ecs) xs (k + 1) := by
  intro j hj hjk
  by_cases e : j < k
  · obtain ⟨ecs', e1, e2, e3⟩ := h j hj e
    refine ⟨ecs', e1, fun m hm => ?_, ?_⟩
    · have h5 : (j + 1) * n ≤ k * n := Nat.mul_le_mul_right _ (by omega)
      rw [Nat.succ_mul] at h5
      rw [putRow_out _ _ _ _ (by omega)]
      exact e2 m hm
    · refine gd.mono (gd.stay e3 fun b hb' => hb.2 b hb'.1 hb'.2) fun b hb' => ⟨hb'.1, by have := hb.1; omega⟩
  · obtain rfl : j = k := by omega
    refine ⟨ecs, he, fun m hm => ?_, hr⟩
    have h5 : (j + 1) * n ≤ xs.length * n := Nat.mul_le_mul_right _ (by omega)
    rw [Nat.succ_mul] at h5
    exact putRow_in _ _ _ _ (by omega) (by omega)

/-- As step, in the form of a loop's round: the element is made between w and w1, then block g alone is written. -/
theorem Filled.put {α : Type} {n : Nat} {R : RepT α} (gd : Good R) {g : Nat} {w w1 w2 : World} {arr : List Value} {xs : List α} {k : Nat} (h : Filled n R g w arr xs k) (hk : k < xs.length) (hg : g < w.heap.size) (hb : Bel w w1) (hbut : But g w1 w2)
    (hl : arr.length = xs.length * n) {ecs : List Value} (he : ecs.length = n) (hr : R (New w w1) w1 ecs xs[k]) : Filled n R g w2 (putRow arr (k * n) ecs) xs (k + 1) :=
  h.step gd hk ((But.ofBel hb).trans hbut) hl he
    (gd.mono (gd.stay hr fun b hb' => hbut.2 b (Nat.lt_of_lt_of_le hg hb'.1) hb'.2) fun b hb' => ⟨Nat.lt_of_lt_of_le hg hb'.1, Nat.lt_of_lt_of_le hb'.2 hbut.1⟩)

theorem Filled.put1 {α : Type} {R : RepT α} (gd : Good R) {g : Nat} {w w1 w2 : World} {arr : List Value} {xs : List α} {k : Nat} (h : Filled 1 R g w arr xs k) (hk : k < xs.length) (hg : g < w.heap.size) (hb : Bel w w1) (hbut : But g w1 w2)
    (hl : arr.length = xs.length * 1) {ecs : List Value} (he : ecs.length = 1) (hr : R (New w w1) w1 ecs xs[k]) : Filled 1 R g w2 (putRow arr k ecs) xs (k + 1) := by
  have h9 := h.put gd hk hg hb hbut hl he hr
  rw [Nat.mul_one] at h9
  exact h9

theorem Filled.done {α : Type} {n : Nat} {R : RepT α} (gd : Good R) {g : Nat} {w0 w : World} {e : TypeId} {arr : List Value} {xs : List α} (h : Filled n R g w arr xs xs.length) (hB : Blk w g e arr) (hg : w0.heap.size ≤ g) (hl : arr.length = xs.length * n) (hm : xs.length ≤ maxLen) :
    sliceR n R (New w0 w) w [.slice (some ⟨g, 0, none⟩) xs.length xs.length] xs := by
  refine ⟨_, _, rfl, Nat.le_refl _, hm, fun i hi => ?_⟩
  obtain ⟨ecs, e1, e2, e3⟩ := h i hi hi
  refine ⟨g, 0, ecs, rfl, ⟨hg, hB.lt⟩, e1, fun m hm' => ⟨?_, hB.frozen _⟩, gd.mono e3 fun b hb => ⟨by omega, hb.2⟩⟩
  have h5 : (i + 1) * n ≤ xs.length * n := Nat.mul_le_mul_right _ (by omega)
  rw [Nat.succ_mul] at h5
  rw [hB.cell, Nat.zero_add, e2 m (by omega), List.getElem?_eq_getElem hm']
end Go.Proofs.Ytjeeajgijdcdbaa
