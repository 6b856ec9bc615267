/- Distances: rows apart in new memory. -/
import Derived.Test.YtclmffknggmlnaaDistI
import Derived.Test.YtclmffknggmlnaaMat
namespace Go.Proofs.Ytclmffknggmlnaa
open Go.ChangeShapes Go.WideShapes Go.ChangeAt Go.RowKit
set_option linter.unusedVariables false

theorem matR_open {T : Nat → Prop} {w : World} {v : Value} {xs : List (List Int)} (h : matR T w [v] xs) : ∃ p c, v = .slice p xs.length c ∧ xs.length ≤ c := by
  obtain ⟨p, c, h1, h2, _, _⟩ := h
  exact ⟨p, c, by simpa using h1, h2⟩
theorem sumL_same (n c : Nat) : sumL ((List.range n).map fun _ => c) = n * c := by
  rw [sumL_const]; simp [Nat.mul_comm]
theorem distV_len (p : ProjT) : sumL ((distV p).map List.length) ≤ 1048576 := by
  unfold distV
  split
  · next h =>
    have h1 := (projOk_bd h.1).2.1
    have e : (rowsOf p.2.1.length p.2.1.length (distM (netOf p) p.2.1.length)).map List.length = (List.range p.2.1.length).map fun _ => p.2.1.length := by
      unfold rowsOf; rw [List.map_map]; congr 1; funext i; simp
    rw [e, sumL_same]
    have : p.2.1.length * p.2.1.length ≤ 6 * 6 := Nat.mul_le_mul h1 h1
    omega
  · simp [sumL]
theorem dist_i64 {p : ProjT} (hp : projOk p = true) (hpos : (netOf p).posF = []) (i k : Nat) (hi : i < p.2.1.length) (hk : k < p.2.1.length) : I64 (distM (netOf p) p.2.1.length i k) := by
  have h := distM_bd (netOf_fine hp) ((netOf p).posF_none (netOf_fine hp) hpos) (m := p.2.1.length) (Nat.le_refl _) hi hk
  unfold I64
  omega
theorem dist_fresh {p : ProjT} {w : World} {e : Ending} {w' : World} (h : DistRes p w e w') : FreshV matR w (distV p) e w' := by
  rcases h with ⟨h1, rfl, h3⟩ | ⟨hp, hpos, o, c, rb, cp, rfl, h1, h2, hG, hB⟩
  · have e0 : distV p = [] := by unfold distV; rw [if_neg h1]
    exact ⟨_, rfl, by rw [e0]; exact matR_nil _ _, h3⟩
  · have e0 : distV p = rowsOf p.2.1.length p.2.1.length (distM (netOf p) p.2.1.length) := by unfold distV; rw [if_pos ⟨hp, hpos⟩]
    have hD := dist_i64 hp hpos
    refine ⟨_, rfl, ?_, hB⟩
    rw [e0]
    refine ⟨some ⟨o, 0, none⟩, c, by rw [rowsOf_length], by rw [rowsOf_length]; exact h1, h2, .inr ⟨o, fun i => .slice (some ⟨rb i, 0, none⟩) p.2.1.length (cp i), fun i b => b = rb i, rfl, ⟨hG.top.1, hG.top.2⟩, ?_⟩⟩
    rw [rowsOf_length]
    refine ⟨fun i hi => hG.slot i hi, fun i hi b hb => ?_, fun i hi => ?_, fun i j hi hj hij b hb hb' => ?_⟩
    · subst hb
      exact ⟨⟨(hG.base i hi).1, (hG.base i hi).2.1⟩, (hG.base i hi).2.2⟩
    · rw [getD_get _ [] (by rw [rowsOf_length]; exact hi), rowsOf_at]
      exact hG.row hD hi
    · subst hb
      exact hG.apart i j hi hj hij hb'
theorem sDistances_mat (v : Value) (p : ProjT) (S : Nat → Prop) (w : World) (hx : aggR projR S w v p) (hS : ∀ b, S b → b < w.heap.size) (_hn : bulkProject p ≤ 1048576) : Calls Try.prog 39 #[v] w (FreshV matR w (distV p)) := (sDistances_any v p S w hx hS _hn).mono fun _ _ h => dist_fresh h

theorem iDistances_mat (v : Value) (p : ProjT) (S : Nat → Prop) (w : World) (hx : aggR projR S w v p) (hS : ∀ b, S b → b < w.heap.size) (_hn : bulkProject p ≤ 1048576) : Calls Try.prog 40 #[v] w (FreshV matR w (distV p)) := (iDistances_any v p S w hx hS _hn).mono fun _ _ h => dist_fresh h

end Go.Proofs.Ytclmffknggmlnaa
