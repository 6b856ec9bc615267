/- Contract of slices.Clone of ints. -/
import Derived.Test.YtclmffknggmlnaaApps
import Derived.WalkSpells
namespace Go.Proofs.Ytclmffknggmlnaa
open Go.ChangeShapes Go.WideShapes Go.ChangeAt Go.RowKit
set_option linter.unusedVariables false

/-- What a clone leaves. -/
def CloneI (w : World) (p : Option Addr) (xs : List Int) (e : Ending) (w' : World) : Prop := ∃ q c, e = .returned (.slice q xs.length c) ∧ OwnI 3 w.heap.size w' q c xs ∧ Bel w w' ∧ (q = none ↔ p = none) ∧ (q = none → c = 0)

set_option maxRecDepth 100000 in
set_option maxHeartbeats 400000 in
theorem cloneInts_any (p : Option Addr) (n k : Nat) (xs : List Int) (T : Nat → Prop) (w : World) (hn : xs.length = n) (hx : intsR T w [.slice p n k] xs) (hT : ∀ b, T b → b < w.heap.size) (hp : p = none → k = 0) (hl : xs.length ≤ 1000000) :
    Calls Try.prog 66 #[.slice p n k] w (CloneI w p xs) := by
  subst hn
  have hnil := fun (W : World) (a : Option Addr) (n c : Nat) => Lib.run_eql_slice_nil (P := Try.prog) W 25 3 a n c 0 0 Try.underlying25
  have HX := Lib.hid hx
  have HT := Lib.hid hT
  cases p with
  | none =>
    obtain rfl := hp rfl
    have hxs : xs = [] := by
      cases xs with
      | nil => rfl
      | cons y ys =>
        obtain ⟨_, _, e0, _, _, h4⟩ := hx
        obtain ⟨b, off, ecs, e1, _⟩ := h4 0 (by simp)
        rw [e1] at e0
        simp at e0
    clear hx hT hp hl
    subst hxs
    show Calls Try.prog 66 #[.slice none 0 0] w _
    go_enter Try.func66, Try.ntmps66
    go_wp2
    go_ret
    exact ⟨none, 0, rfl, OwnI.null _, Bel.refl _, ⟨fun _ => rfl, fun _ => rfl⟩, fun _ => rfl⟩
  | some ad =>
    clear hx hT hp
    go_enter Try.func66, Try.ntmps66
    go_wp2_with (at_builtin; refine wpList_apps _ rfl _ _ 25 rfl (.int .i64 0) 8 Try.underlying25 (by kernel_rfl) rfl (by decide) (some ⟨w.heap.size, 0, none⟩) 0 0 [] rfl (OwnI.empty (alloc_at rfl) (Nat.le_refl _)) rfl _ _ _ xs T rfl (intsR_good.bel HX.out (by (repeat (first | assumption | exact Bel.refl _ | apply Bel.drewN | apply Bel.drew | apply Bel.alloc | refine Bel.trans ?_ (by assumption)))) HT.out) rfl (fun h => by cases h) (by omega) (by simp) ?_; intro q' cap' w' hO' hG' hN')
    have HB := hG'.bel w (by (repeat (first | assumption | exact Bel.refl _ | apply Bel.drewN | apply Bel.drew | apply Bel.alloc | refine Bel.trans ?_ (by assumption)))) (Nat.le_refl _)
    have HN := Lib.hid hN'
    have HO := Lib.hid hO'
    clear hG' hN' hO'
    go_wp2
    go_ret
    exact ⟨q', cap', by simp, by simpa using HO.out, HB, ⟨fun h => (by have := (HN.out h).1; cases this), fun h => (by cases h)⟩, fun h => (by have := (HN.out h).1; cases this)⟩

end Go.Proofs.Ytclmffknggmlnaa
