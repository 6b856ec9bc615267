/- A domain whose parts lie apart: its marks. -/
import Derived.Test.YtjeeajgijdcdbaaMat
import Derived.Test.YtjeeajgijdcdbaaEq
import Derived.Test.YtjeeajgijdcdbaaMark
namespace Go.Proofs.Ytjeeajgijdcdbaa
open Go.ChangeShapes Go.WideShapes Go.ChangeAt Go.RowKit
set_option linter.unusedVariables false

/-- Its parts lie in sets of blocks of their own. -/
def domM : RepT DomT := fun T w cs x => ∃ (v0 v1 v2 : Value) (S0 S1 S2 : Nat → Prop), cs = [v0, v1, v2] ∧ intsR S0 w [v0] x.1 ∧ intsR S1 w [v1] x.2.1 ∧ matR S2 w [v2] x.2.2 ∧ (∀ b, S0 b → T b ∧ ¬ S1 b ∧ ¬ S2 b) ∧ (∀ b, S1 b → T b ∧ ¬ S2 b) ∧ (∀ b, S2 b → T b)
theorem domM_good : Good domM := by
  constructor
  · rintro S w w' cs x ⟨v0, v1, v2, S0, S1, S2, rfl, h0, h1, h2, a0, a1, a2⟩ hb
    exact ⟨v0, v1, v2, S0, S1, S2, rfl, intsR_good.stay h0 (fun b h => hb b (a0 b h).1), intsR_good.stay h1 (fun b h => hb b (a1 b h).1), matR_good.stay h2 (fun b h => hb b (a2 b h)), a0, a1, a2⟩
  · rintro S T w cs x ⟨v0, v1, v2, S0, S1, S2, rfl, h0, h1, h2, a0, a1, a2⟩ hb
    exact ⟨v0, v1, v2, S0, S1, S2, rfl, h0, h1, h2, fun b h => ⟨hb b (a0 b h).1, (a0 b h).2⟩, fun b h => ⟨hb b (a1 b h).1, (a1 b h).2⟩, fun b h => hb b (a2 b h)⟩
theorem domM_rep {T : Nat → Prop} {w : World} {cs : List Value} {x : DomT} (h : domM T w cs x) : domR T w cs x := by
  obtain ⟨v0, v1, v2, S0, S1, S2, rfl, h0, h1, h2, a0, a1, a2⟩ := h
  exact ⟨v0, _, rfl, intsR_good.mono h0 (fun b h => (a0 b h).1), ⟨v1, _, rfl, intsR_good.mono h1 (fun b h => (a1 b h).1), rowsR_good.mono (matR_rows h2) (fun b h => (a2 b h))⟩⟩
def domN (x : DomT) : Nat × Nat × List Nat := (x.1.length, x.2.1.length, x.2.2.map List.length)
def domC (L : Nat × Nat × List Nat) : Nat := L.1 + L.2.1 + sumL L.2.2
/-- What marks leave. -/
def mkdom (k : Int) (L : Nat × Nat × List Nat) : DomT := (mkIntS (k) L.1, mkIntS (k + (L.1 : Nat)) L.2.1, mkIntSS (k + (L.1 : Nat) + (L.2.1 : Nat)) L.2.2)
set_option maxHeartbeats 1000000 in
theorem markDomain_m (v : Value) (x : DomT) (S : Nat → Prop) (k : Int) (w : World) (hx : aggR domM S w v x) (hS : ∀ b, S b → b < w.heap.size) (h0 : 0 ≤ k) (h1 : k + (domC (domN x) : Nat) ≤ 1099511627776) :
    Calls Try.prog 11 #[v, .int .i64 k] w fun e w' => e = .returned (.int .i64 (k + (domC (domN x) : Nat))) ∧ aggR domM S w' v (mkdom k (domN x)) ∧ Mut S w w' := by
  obtain ⟨cs, rfl, v0, v1, v2, S0, S1, S2, rfl, h0, h1, h2, a0, a1, a2⟩ := hx
  obtain ⟨p0, c0, rfl, -⟩ := sliceR_open h0
  obtain ⟨p1, c1, rfl, -⟩ := sliceR_open h1
  obtain ⟨p2, c2, rfl, -⟩ := matR_open h2
  obtain ⟨x0, x1, x2⟩ := x
  simp only [domN, domC] at *
  obtain ⟨W0, hW0⟩ : ∃ W, W = w.alloc (.cells #[.slice p0 x0.length c0, .slice p1 x1.length c1, .slice p2 x2.length c2] 28) := ⟨_, rfl⟩
  have hB0 : Bel w W0 := by rw [hW0]; (repeat (first | assumption | exact Bel.refl _ | apply Bel.drewN | apply Bel.drew | apply Bel.alloc | refine Bel.trans ?_ (by assumption)))
  have hz0 : w.heap.size < W0.heap.size := by rw [hW0]; simp
  have q0 : W0.cell? ⟨w.heap.size, 0, none⟩ = some (.slice p0 x0.length c0) := by rw [hW0]; simp [go_sem]
  have q1 : W0.cell? ⟨w.heap.size, 1, none⟩ = some (.slice p1 x1.length c1) := by rw [hW0]; simp [go_sem]
  have q2 : W0.cell? ⟨w.heap.size, 2, none⟩ = some (.slice p2 x2.length c2) := by rw [hW0]; simp [go_sem]
  have h0 := intsR_good.bel h0 hB0 (fun b h => hS b (a0 b h).1)
  have h1 := intsR_good.bel h1 hB0 (fun b h => hS b (a1 b h).1)
  have h2 := matR_good.bel h2 hB0 (fun b h => hS b (a2 b h))
  have A0 := Lib.hid a0
  have H0 := Lib.hid h0
  have A1 := Lib.hid a1
  have H1 := Lib.hid h1
  have A2 := Lib.hid a2
  have H2 := Lib.hid h2
  have HS := Lib.hid hS
  have HW0 := Lib.hid hW0
  clear hW0 hS a0 h0 a1 h1 a2 h2
  go_enter Try.func11, Try.ntmps11
  have M0 : Mut S w W0 := Mut.ofBel hB0
  go_wp2_with fail
  rw [← HW0.out]
  refine (markIntS_any _ x0 S0 _ _ H0.out (by omega) (by omega) (by omega)).mono ?_
  rintro e w1 ⟨rfl, R0, m0⟩
  obtain ⟨k1, hk1⟩ : ∃ z : Int, k + ((1 * x0.length : Nat) : Int) = z := ⟨_, rfl⟩
  rw [hk1]
  have Z0 := Lib.hid R0
  clear R0
  have hz1 : w.heap.size < w1.heap.size := by have := m0.size; omega
  have q1 := m0.cell q1 (fun hh => by have := HS.out _ (A0.out _ hh).1; omega)
  have q2 := m0.cell q2 (fun hh => by have := HS.out _ (A0.out _ hh).1; omega)
  have H1 := Lib.hid (m0.keep intsR_good H1.out (fun b h => ⟨by have := HS.out b (A1.out b h).1; omega, (fun hh => (A0.out b hh).2.1 h)⟩))
  have H2 := Lib.hid (m0.keep matR_good H2.out (fun b h => ⟨by have := HS.out b (A2.out b h); omega, (fun hh => (A0.out b hh).2.2 h)⟩))
  have M1 := M0.trans (m0.mono (fun b h => (A0.out b h).1))
  clear m0 q0
  go_wp2_with fail
  refine (markIntS_any _ x1 S1 _ _ H1.out (by omega) (by omega) (by omega)).mono ?_
  rintro e w2 ⟨rfl, R1, m1⟩
  obtain ⟨k2, hk2⟩ : ∃ z : Int, k1 + ((1 * x1.length : Nat) : Int) = z := ⟨_, rfl⟩
  rw [hk2]
  have Z1 := Lib.hid R1
  clear R1
  have hz2 : w.heap.size < w2.heap.size := by have := m1.size; omega
  have q2 := m1.cell q2 (fun hh => by have := HS.out _ (A1.out _ hh).1; omega)
  have Z0 := Lib.hid (m1.keep intsR_good Z0.out (fun b h => ⟨by have := HS.out b (A0.out b h).1; omega, (fun hh => (A0.out b h).2.1 hh)⟩))
  have H2 := Lib.hid (m1.keep matR_good H2.out (fun b h => ⟨by have := HS.out b (A2.out b h); omega, (fun hh => (A1.out b hh).2 h)⟩))
  have M2 := M1.trans (m1.mono (fun b h => (A1.out b h).1))
  clear m1 q1
  go_wp2_with fail
  refine (markIntSS_mat _ x2 S2 _ _ H2.out (fun b h => by have := HS.out b (A2.out b h); omega) (by omega) (by omega)).mono ?_
  rintro e w3 ⟨rfl, R2, m2⟩
  obtain ⟨k3, hk3⟩ : ∃ z : Int, k2 + ((sumL (x2.map List.length) : Nat) : Int) = z := ⟨_, rfl⟩
  rw [hk3]
  have Z2 := Lib.hid R2
  clear R2
  have hz3 : w.heap.size < w3.heap.size := by have := m2.size; omega
  have Z0 := Lib.hid (m2.keep intsR_good Z0.out (fun b h => ⟨by have := HS.out b (A0.out b h).1; omega, (fun hh => (A0.out b h).2.2 hh)⟩))
  have Z1 := Lib.hid (m2.keep intsR_good Z1.out (fun b h => ⟨by have := HS.out b (A1.out b h).1; omega, (fun hh => (A1.out b h).2 hh)⟩))
  have M3 := M2.trans (m2.mono (fun b h => A2.out b h))
  clear m2 q2
  go_wp2_with fail
  go_ret
  refine ⟨ret_int' (by omega), ⟨[.slice p0 x0.length c0, .slice p1 x1.length c1, .slice p2 x2.length c2], rfl, _, _, _, S0, S1, S2, rfl, ?_, ?_, ?_, A0.out, A1.out, A2.out⟩, M3⟩
  · simpa [mkdom] using Z0.out
  · have := Z1.out; rw [← hk1] at this; simpa [mkdom, Int.add_assoc] using this
  · have := Z2.out; rw [← hk2, ← hk1] at this; simpa [mkdom, Int.add_assoc] using this

set_option maxHeartbeats 1000000 in
theorem heldDomain_m (v : Value) (L : Nat × Nat × List Nat) (S : Nat → Prop) (k : Int) (w : World) (hx : aggR domM S w v (mkdom k L)) (hS : ∀ b, S b → b < w.heap.size) (h0 : 0 ≤ k) (h1 : k + (domC L : Nat) ≤ 1099511627776) :
    Calls Try.prog 12 #[v, .int .i64 k] w fun e w' => e = .returned (.int .i64 (k + (domC L : Nat))) ∧ Bel w w' := by
  obtain ⟨cs, rfl, v0, v1, v2, S0, S1, S2, rfl, h0, h1, h2, a0, a1, a2⟩ := hx
  obtain ⟨p0, c0, rfl, -⟩ := sliceR_open h0
  obtain ⟨p1, c1, rfl, -⟩ := sliceR_open h1
  obtain ⟨p2, c2, rfl, -⟩ := matR_open h2
  obtain ⟨l0, l1, l2⟩ := L
  simp only [domC, mkdom] at *
  simp only [mkIntS_length, mkIntSS_length] at *
  obtain ⟨W0, hW0⟩ : ∃ W, W = w.alloc (.cells #[.slice p0 l0 c0, .slice p1 l1 c1, .slice p2 l2.length c2] 28) := ⟨_, rfl⟩
  have hB0 : Bel w W0 := by rw [hW0]; (repeat (first | assumption | exact Bel.refl _ | apply Bel.drewN | apply Bel.drew | apply Bel.alloc | refine Bel.trans ?_ (by assumption)))
  have q0 : W0.cell? ⟨w.heap.size, 0, none⟩ = some (.slice p0 l0 c0) := by rw [hW0]; simp [go_sem]
  have q1 : W0.cell? ⟨w.heap.size, 1, none⟩ = some (.slice p1 l1 c1) := by rw [hW0]; simp [go_sem]
  have q2 : W0.cell? ⟨w.heap.size, 2, none⟩ = some (.slice p2 l2.length c2) := by rw [hW0]; simp [go_sem]
  have H0 := Lib.hid (intsR_good.bel h0 hB0 (fun b h => hS b (a0 b h).1))
  have H1 := Lib.hid (intsR_good.bel h1 hB0 (fun b h => hS b (a1 b h).1))
  have H2 := Lib.hid (matR_good.bel h2 hB0 (fun b h => hS b (a2 b h)))
  have HW0 := Lib.hid hW0
  clear hW0 hS a0 h0 a1 h1 a2 h2
  go_enter Try.func12, Try.ntmps12
  go_wp2_with fail
  rw [← HW0.out]
  obtain ⟨k1, hk1⟩ : ∃ z : Int, k + ((1 * l0 : Nat) : Int) = z := ⟨_, rfl⟩
  refine (heldIntS_any _ l0 S0 _ _ H0.out (by omega) (by omega) (by omega)).mono ?_
  rintro e w1 ⟨rfl, rfl⟩
  rw [hk1]
  have hn1 : ¬ k1 < 0 := by omega
  go_wp2_with fail
  obtain ⟨k2, hk2⟩ : ∃ z : Int, k1 + ((1 * l1 : Nat) : Int) = z := ⟨_, rfl⟩
  refine (heldIntS_any _ l1 S1 _ _ (by have := H1.out; rw [show (k + (l0 : Nat)) = k1 from by omega] at this; exact this) (by omega) (by omega) (by omega)).mono ?_
  rintro e w2 ⟨rfl, rfl⟩
  rw [hk2]
  have hn2 : ¬ k2 < 0 := by omega
  go_wp2_with fail
  obtain ⟨k3, hk3⟩ : ∃ z : Int, k2 + ((sumL l2 : Nat) : Int) = z := ⟨_, rfl⟩
  refine (heldIntSS_mat _ l2 S2 _ _ (by have := H2.out; rw [show (k + (l0 : Nat) + (l1 : Nat)) = k2 from by omega] at this; exact this) (by omega) (by omega)).mono ?_
  rintro e w3 ⟨rfl, rfl⟩
  rw [hk3]
  have hn3 : ¬ k3 < 0 := by omega
  go_wp2_with fail
  go_ret
  exact ⟨ret_int' (by omega), by (repeat (first | assumption | exact Bel.refl _ | apply Bel.drewN | apply Bel.drew | apply Bel.alloc | refine Bel.trans ?_ (by assumption)))⟩

theorem eqDomain_m (v v' : Value) (x y : DomT) (S S' : Nat → Prop) (w : World) (hx : aggR domM S w v x) (hy : aggR domM S' w v' y) (hS : ∀ b, S b → b < w.heap.size) (hS' : ∀ b, S' b → b < w.heap.size) :
    Calls Try.prog 8 #[v, v'] w fun e w' => e = .returned (.bool (decide (x = y))) ∧ Bel w w' := by
  obtain ⟨cs, rfl, hx⟩ := hx
  obtain ⟨cs', rfl, hy⟩ := hy
  exact eqDomain_rep _ _ x y S S' w ⟨cs, rfl, domM_rep hx⟩ ⟨cs', rfl, domM_rep hy⟩ hS hS'
end Go.Proofs.Ytjeeajgijdcdbaa
