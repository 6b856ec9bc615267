/- What every text of this seat leans on: worlds that keep what was there (Bel), data as it lies in memory (RepT), their small laws. No program. -/
import Derived.Below
import Derived.Carry
import Derived.WalkKit
import Derived.Lib.Hide
import Derived.Deep.QuietTactic
import Derived.BigQuiet
namespace Go.Proofs.Ytjeeajgijdcdbaa
open Go.RowKit
set_option linter.unusedVariables false

/-- What was there is as it was. -/
def Bel (w w' : World) : Prop := Below w.heap.size w w'
theorem Bel.refl (w : World) : Bel w w := Below.refl _ _
theorem Bel.size {w w' : World} (h : Bel w w') : w.heap.size ≤ w'.heap.size := Below.size h
theorem Bel.trans {a b c : World} (h : Bel a b) (k : Bel b c) : Bel a c := Below.trans h (Below.mono k h.size)
theorem Bel.drew {a b : World} (h : Bel a b) : Bel a b.drew := Below.drew h
theorem Bel.drewN {a b : World} (h : Bel a b) (n : Nat) : Bel a (b.drewN n) := by
  obtain ⟨h1, h2, h3, h4, h5⟩ := h
  exact ⟨h1, h2, h3, h4, h5⟩
theorem Bel.alloc {a b : World} (h : Bel a b) (o : Obj) : Bel a (b.alloc o) := Below.alloc h h.size o
theorem Bel.set {a b : World} (h : Bel a b) {p : Addr} (hp : a.heap.size ≤ p.block) (u : Value) : Bel a (b.setCell p u) := Below.setCell h hp u
theorem Bel.block {a b : World} (h : Bel a b) {k : Nat} (hk : k < a.heap.size) : b.heap[k]? = a.heap[k]? := Below.block h k hk
theorem Bel.cell {a b : World} (h : Bel a b) {p : Addr} {v : Value} (hp : a.cell? p = some v) : b.cell? p = some v := by
  have hlt : p.block < a.heap.size := by
    cases hh : a.heap[p.block]? with
    | none => simp [World.cell?, hh] at hp
    | some o => exact (Array.getElem?_eq_some_iff.1 hh).1
  rw [Below.cell h hlt]; exact hp
theorem lt_of_cell {a : World} {p : Addr} {v : Value} (hp : a.cell? p = some v) : p.block < a.heap.size := by
  cases hh : a.heap[p.block]? with
  | none => simp [World.cell?, hh] at hp
  | some o => exact (Array.getElem?_eq_some_iff.1 hh).1

/-- The two rules that the walk uses behind a contract that ends in Bel. -/
theorem Bel.rules {W w1 : World} (hb : Bel W w1) : (∀ b o, b < W.heap.size → w1.cell? ⟨b, o, none⟩ = W.cell? ⟨b, o, none⟩) ∧ (∀ b o, b < W.heap.size → w1.frozen? ⟨b, o, none⟩ = W.frozen? ⟨b, o, none⟩) :=
  ⟨fun b o h => Below.cell (p := ⟨b, o, none⟩) hb h, fun b o h => Below.frozen (p := ⟨b, o, none⟩) hb h⟩

/-- A callee that leaves the world alone, inside a region that has drawn (n), or behind another such region (a). -/
theorem quiet_one {P : Program} {f : FuncId} {args : Array Value} {w : World} {n : Nat} {v : Value} (h : Calls P f args (w.drewN n) fun e w' => e = .returned v ∧ w.drewN n = w') :
    Calls P f args (w.drewN n) fun e w'' => e = .returned v ∧ ∃ m, w'' = w.drewN m := h.mono fun _ _ hh => ⟨hh.1, n, hh.2.symm⟩
theorem quiet_more {P : Program} {f : FuncId} {args : Array Value} {w : World} {a n : Nat} {v : Value} (h : Calls P f args (w.drewN (a + n)) fun e w' => e = .returned v ∧ w.drewN (a + n) = w') :
    Calls P f args (w.drewN (a + n)) fun e w'' => e = .returned v ∧ ∃ m, w'' = w.drewN (a + m) := h.mono fun _ _ hh => ⟨hh.1, n, hh.2.symm⟩

/-- n fits an int. -/
def I64 (n : Int) : Prop := -9223372036854775808 ≤ n ∧ n ≤ 9223372036854775807

/-- Data as it lies in cells; every block that is led to is in S. -/
abbrev RepT (α : Type) := (Nat → Prop) → World → List Value → α → Prop

def intR : RepT Int := fun _ _ cs n => cs = [.int .i64 n] ∧ I64 n
def boolR : RepT Bool := fun _ _ cs b => cs = [.bool b]
def strR : RepT ByteArray := fun _ _ cs s => cs = [.string s] ∧ s.size ≤ maxLen

/-- n cells of w from (b, off) on hold cs and may be written. -/
def RowAt (w : World) (b off : Nat) (cs : List Value) : Prop :=
  ∀ k (h : k < cs.length), w.cell? ⟨b, off + k, none⟩ = some cs[k] ∧ w.frozen? ⟨b, off + k, none⟩ = false

def sliceR {α : Type} (n : Nat) (R : RepT α) : RepT (List α) := fun S w cs xs =>
  ∃ p cap, cs = [.slice p xs.length cap] ∧ xs.length ≤ cap ∧ cap ≤ maxLen ∧
    ∀ i (h : i < xs.length), ∃ b off ecs, p = some ⟨b, off, none⟩ ∧ S b ∧ ecs.length = n ∧ RowAt w b (off + i * n) ecs ∧ R S w ecs xs[i]

/-- A representation hangs on the blocks in S alone, and S may grow. -/
structure Good {α : Type} (R : RepT α) : Prop where
  stay : ∀ {S : Nat → Prop} {w w' : World} {cs : List Value} {x : α}, R S w cs x → (∀ b, S b → w'.heap[b]? = w.heap[b]?) → R S w' cs x
  mono : ∀ {S T : Nat → Prop} {w : World} {cs : List Value} {x : α}, R S w cs x → (∀ b, S b → T b) → R T w cs x

theorem RowAt.stay {w w' : World} {b off : Nat} {cs : List Value} (h : RowAt w b off cs) (hb : w'.heap[b]? = w.heap[b]?) : RowAt w' b off cs := by
  intro k hk
  rw [World.cell?_of_block (w := w) (a := ⟨b, off + k, none⟩) hb, World.frozen?_of_block (w := w) (a := ⟨b, off + k, none⟩) hb]
  exact h k hk

theorem intR_good : Good intR := ⟨fun h _ => h, fun h _ => h⟩
theorem boolR_good : Good boolR := ⟨fun h _ => h, fun h _ => h⟩
theorem strR_good : Good strR := ⟨fun h _ => h, fun h _ => h⟩
theorem sliceR_good {α : Type} {n : Nat} {R : RepT α} (g : Good R) : Good (sliceR n R) := by
  constructor
  · rintro S w w' cs xs ⟨p, cap, h1, h2, h3, h4⟩ hb
    refine ⟨p, cap, h1, h2, h3, fun i hi => ?_⟩
    obtain ⟨b, off, ecs, e1, e2, e3, e4, e5⟩ := h4 i hi
    exact ⟨b, off, ecs, e1, e2, e3, e4.stay (hb b e2), g.stay e5 hb⟩
  · rintro S T w cs xs ⟨p, cap, h1, h2, h3, h4⟩ hb
    refine ⟨p, cap, h1, h2, h3, fun i hi => ?_⟩
    obtain ⟨b, off, ecs, e1, e2, e3, e4, e5⟩ := h4 i hi
    exact ⟨b, off, ecs, e1, hb b e2, e3, e4, g.mono e5 hb⟩

/-- Blocks that were there when the world was w. -/
def Old (w : World) : Nat → Prop := fun b => b < w.heap.size
/-- Blocks made between w and w'. -/
def New (w w' : World) : Nat → Prop := fun b => w.heap.size ≤ b ∧ b < w'.heap.size

theorem Good.old {α : Type} {R : RepT α} (g : Good R) {w0 w w' : World} {cs : List Value} {x : α} (h : R (Old w0) w cs x) (hb : Bel w w') (h0 : w0.heap.size ≤ w.heap.size) : R (Old w0) w' cs x :=
  g.stay h fun b hb' => hb.block (by unfold Old at hb'; omega)

/-- What lies in blocks below the heap's size stays, behind Bel. -/
theorem Good.bel {α : Type} {R : RepT α} (g : Good R) {S : Nat → Prop} {w w' : World} {cs : List Value} {x : α} (h : R S w cs x) (hb : Bel w w') (hS : ∀ b, S b → b < w.heap.size) : R S w' cs x :=
  g.stay h fun b hb' => hb.block (hS b hb')
end Go.Proofs.Ytjeeajgijdcdbaa
