/- The cursor of the draws, as it lies in memory; worlds in which nothing old but the cursor has turned. No program. -/
import Derived.Test.YtjeeajgijdcdbaaDrawF
import Derived.Test.YtjeeajgijdcdbaaOwn
import Derived.Test.YtjeeajgijdcdbaaHas
namespace Go.Proofs.Ytjeeajgijdcdbaa
open Go.RowKit
set_option linter.unusedVariables false

def u8R : RepT Int := fun _ _ cs n => cs = [.int .u8 n] ∧ 0 ≤ n ∧ n ≤ 255
theorem u8R_good : Good u8R := ⟨fun h _ => h, fun h _ => h⟩
def bytesR : RepT (List Int) := sliceR 1 u8R
theorem bytesR_good : Good bytesR := sliceR_good u8R_good
theorem bytesR_at {S : Nat → Prop} {w : World} {v : Value} {xs : List Int} (h : bytesR S w [v] xs) {i : Nat} (hi : i < xs.length) :
    ∃ b off, sliceAddr v = some ⟨b, off, none⟩ ∧ w.cell? ⟨b, off + i, none⟩ = some (.int .u8 (xs.getD i 0)) ∧ 0 ≤ xs.getD i 0 ∧ xs.getD i 0 ≤ 255 := by
  obtain ⟨p', cap', rfl, _, _, h4⟩ := sliceR_open h
  obtain ⟨b, off, ecs, e1, e2, e3, e4, e5, e6⟩ := h4 i hi
  subst e5
  have := (e4 0 (by simp)).1
  simp only [List.getElem_cons_zero, Nat.mul_one, Nat.add_zero] at this
  have e7 : xs.getD i 0 = xs[i] := by simp [List.getD, hi]
  rw [e7]
  exact ⟨b, off, e1, this, e6⟩

/-- Nothing old has turned but block cb. -/
def Dr (cb : Nat) (w w' : World) : Prop := w'.os = w.os ∧ w'.tape = w.tape ∧ w'.output = w.output ∧ w.heap.size ≤ w'.heap.size ∧ ∀ k, k < w.heap.size → k ≠ cb → w'.heap[k]? = w.heap[k]?
section
variable {cb : Nat} {a b c : World}
theorem Dr.refl (cb : Nat) (w : World) : Dr cb w w := ⟨rfl, rfl, rfl, Nat.le_refl _, fun _ _ _ => rfl⟩
theorem Dr.size (h : Dr cb a b) : a.heap.size ≤ b.heap.size := h.2.2.2.1
theorem Dr.block (h : Dr cb a b) {k : Nat} (hk : k < a.heap.size) (hn : k ≠ cb) : b.heap[k]? = a.heap[k]? := h.2.2.2.2 k hk hn
theorem Dr.trans (h : Dr cb a b) (k : Dr cb b c) : Dr cb a c :=
  ⟨k.1.trans h.1, k.2.1.trans h.2.1, k.2.2.1.trans h.2.2.1, Nat.le_trans h.size k.size, fun i hi hn => (k.block (Nat.lt_of_lt_of_le hi h.size) hn).trans (h.block hi hn)⟩
theorem Dr.ofBel (h : Bel a b) : Dr cb a b := by
  obtain ⟨h1, h2, h3, h4, h5⟩ := h
  exact ⟨h1, h2, h3, h4, fun k hk _ => h5 k hk⟩
/-- What follows touches nothing that was there when the draw began. -/
theorem Dr.below (h : Dr cb a b) (k : Below a.heap.size b c) : Dr cb a c := by
  obtain ⟨h1, h2, h3, h4, h5⟩ := k
  exact ⟨h1.trans h.1, h2.trans h.2.1, h3.trans h.2.2.1, Nat.le_trans h.size h4, fun i hi hn => (h5 i hi).trans (h.block hi hn)⟩
theorem Dr.drew (h : Dr cb a b) : Dr cb a b.drew := ⟨h.1, h.2.1, h.2.2.1, h.2.2.2.1, h.2.2.2.2⟩
theorem Dr.drewN (h : Dr cb a b) (n : Nat) : Dr cb a (b.drewN n) := ⟨h.1, h.2.1, h.2.2.1, h.2.2.2.1, h.2.2.2.2⟩
theorem Dr.alloc (h : Dr cb a b) (o : Obj) : Dr cb a (b.alloc o) := h.trans (Dr.ofBel ((Bel.refl b).alloc o))
theorem Dr.put (h : Dr cb a b) (j : Nat) (u : Value) : Dr cb a (b.setCell ⟨cb, j, none⟩ u) :=
  h.trans ⟨rfl, rfl, rfl, by simp [World.setCell], fun k hk hn => Below.heap_setCell _ _ _ _ hn⟩
/-- A store into a block that the draw made. -/
theorem Dr.set (h : Dr cb a b) {q j : Nat} (u : Value) (hq : a.heap.size ≤ q) : Dr cb a (b.setCell ⟨q, j, none⟩ u) :=
  ⟨h.1, h.2.1, h.2.2.1, by have := h.size; simp [World.setCell]; omega, fun k hk hn => (Below.heap_setCell _ _ _ _ (show k ≠ q by omega)).trans (h.block hk hn)⟩
theorem Dr.cell (h : Dr cb a b) {q j : Nat} {v : Value} (hc : a.cell? ⟨q, j, none⟩ = some v) (hq : q ≠ cb) : b.cell? ⟨q, j, none⟩ = some v := by
  rw [World.cell?_of_block (w := a) (a := ⟨q, j, none⟩) (h.block (lt_of_cell hc) hq)]
  exact hc
/-- The cursor is new: nothing old has turned. -/
theorem Dr.bel {w : World} (h : Dr cb a b) (hw : Bel w a) (hc : w.heap.size ≤ cb) : Bel w b := by
  obtain ⟨h1, h2, h3, h4, h5⟩ := hw
  exact ⟨h.1.trans h1, h.2.1.trans h2, h.2.2.1.trans h3, Nat.le_trans h4 h.size, fun k hk => (h.block (by omega) (by omega)).trans (h5 k hk)⟩
theorem Good.dr {α : Type} {R : RepT α} (g : Good R) {S : Nat → Prop} {cs : List Value} {x : α} (h : R S a cs x) (hd : Dr cb a b) (hS : ∀ k, S k → k < a.heap.size ∧ k ≠ cb) : R S b cs x :=
  g.stay h fun k hk => hd.block (hS k hk).1 (hS k hk).2
end
/-- What is known of any older world is known below B. -/
theorem below_of {B : Nat} {w w' : World} (h : ∀ W, Bel W w → W.heap.size ≤ B → Bel W w') (hB : B ≤ w.heap.size) (hs : w.heap.size ≤ w'.heap.size) : Below B w w' := by
  have hsz : (w.heap.extract 0 B).size = B := by simp; omega
  have h1 := h { w with heap := w.heap.extract 0 B } ⟨rfl, rfl, rfl, by rw [hsz]; exact hB, fun k hk => by
    have hk' : k < B := by rw [← hsz]; exact hk
    show w.heap[k]? = (w.heap.extract 0 B)[k]?
    simp [hk', Nat.min_eq_left hB]⟩ (by rw [hsz]; exact Nat.le_refl _)
  obtain ⟨e1, e2, e3, e4, e5⟩ := h1
  refine ⟨e1, e2, e3, hs, fun k hk => ?_⟩
  have := e5 k (by rw [hsz]; exact hk)
  rw [this]
  show (w.heap.extract 0 B)[k]? = w.heap[k]?
  simp [hk, Nat.min_eq_left hB]

/-- The cursor: block cb holds the code, the bytes taken, the hash. -/
structure Cur (w : World) (cb : Nat) (C : List Int) (s : StT) : Prop where
  ex : ∃ p cap K, w.cell? ⟨cb, 0, none⟩ = some (.slice p C.length cap) ∧ w.cell? ⟨cb, 1, none⟩ = some (.int .i64 s.1) ∧ w.cell? ⟨cb, 2, none⟩ = some (.int .i64 s.2) ∧ (∀ j, w.frozen? ⟨cb, j, none⟩ = false) ∧ bytesR K w [.slice p C.length cap] C ∧ ∀ b, K b → b < cb
  le : s.1 ≤ C.length
  i64 : I64 s.2
  len : C.length ≤ 1048576
theorem Cur.lt {w : World} {cb : Nat} {C : List Int} {s : StT} (h : Cur w cb C s) : cb < w.heap.size := by
  obtain ⟨p, cap, K, h1, _⟩ := h.ex
  exact lt_of_cell h1
theorem Cur.stay {w w' : World} {cb : Nat} {C : List Int} {s : StT} (h : Cur w cb C s) (hb : ∀ k, k ≤ cb → w'.heap[k]? = w.heap[k]?) : Cur w' cb C s := by
  obtain ⟨p, cap, K, h1, h2, h3, h4, h5, h6⟩ := h.ex
  have e := fun j => World.cell?_of_block (w := w) (w' := w') (a := ⟨cb, j, none⟩) (hb cb (Nat.le_refl _))
  have e' := fun j => World.frozen?_of_block (w := w) (w' := w') (a := ⟨cb, j, none⟩) (hb cb (Nat.le_refl _))
  exact ⟨⟨p, cap, K, by rw [e]; exact h1, by rw [e]; exact h2, by rw [e]; exact h3, fun j => by rw [e']; exact h4 j, bytesR_good.stay h5 fun b hb' => hb b (Nat.le_of_lt (h6 b hb')), h6⟩, h.le, h.i64, h.len⟩
theorem Cur.bel {w w' : World} {cb : Nat} {C : List Int} {s : StT} (h : Cur w cb C s) (hb : Bel w w') : Cur w' cb C s := h.stay fun k hk => hb.block (Nat.lt_of_le_of_lt hk h.lt)
theorem Cur.below {w w' : World} {cb B : Nat} {C : List Int} {s : StT} (h : Cur w cb C s) (hb : Below B w w') (hB : cb < B) : Cur w' cb C s := h.stay fun k hk => Below.block hb k (by omega)
end Go.Proofs.Ytjeeajgijdcdbaa
