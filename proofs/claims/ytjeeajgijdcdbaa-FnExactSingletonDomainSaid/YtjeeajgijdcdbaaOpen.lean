/- How arguments that came in are opened: from the form's own reading (DataW.trod) to RepT. No program. -/
import Derived.Test.YtjeeajgijdcdbaaBase
import Derived.ProofKit
import Derived.ChangeArms
import Derived.Deep.Slices
namespace Go.Proofs.Ytjeeajgijdcdbaa
open Go.RowKit Go.Deep
set_option linter.unusedVariables false

/-- R0 of the first cell, R1 of the rest. -/
def consR {α β : Type} (R0 : RepT α) (R1 : RepT β) : RepT (α × β) := fun S w cs x => ∃ c rest, cs = c :: rest ∧ R0 S w [c] x.1 ∧ R1 S w rest x.2
theorem consR_good {α β : Type} {R0 : RepT α} {R1 : RepT β} (g0 : Good R0) (g1 : Good R1) : Good (consR R0 R1) := by
  constructor
  · rintro S w w' cs x ⟨c, rest, h1, h2, h3⟩ hb
    exact ⟨c, rest, h1, g0.stay h2 hb, g1.stay h3 hb⟩
  · rintro S T w cs x ⟨c, rest, h1, h2, h3⟩ hb
    exact ⟨c, rest, h1, g0.mono h2 hb, g1.mono h3 hb⟩

/-- A struct's value (aggregate) that reads as x. -/
def aggR {α : Type} (R : RepT α) (S : Nat → Prop) (w : World) (v : Value) (x : α) : Prop := ∃ cs : List Value, v = .agg cs.toArray ∧ R S w cs x

theorem aggR_mk {α : Type} {R : RepT α} {S : Nat → Prop} {w : World} {cs : List Value} {x : α} (h : R S w cs x) : aggR R S w (.agg cs.toArray) x := ⟨cs, rfl, h⟩

section
variable {H : Type} {enc : TypeId × Value → H} {P : Program}

def Opens {α : Type} (enc : TypeId × Value → H) (P : Program) (w : World) (t : TypeId) (R : RepT α) : Prop :=
  ∀ (fuel : Nat) (cs : List Value) (y : DataW H × List MemPlace), DataW.trod enc P w 0 (fun _ => true) true fuel t cs = some y → w.noneFrozen y.2 → ∃ x, R (Old w) w cs x

theorem noneFrozen_sub {w : World} {a b : List MemPlace} (h : w.noneFrozen b) (hs : ∀ x ∈ a, x ∈ b) : w.noneFrozen a := fun k off hk => h k off (hs _ hk)

theorem opens_int {w : World} {t : TypeId} (ht : P.underlying t = some (.int .i64)) : Opens enc P w t intR := by
  intro fuel cs y h hn
  obtain ⟨n, h1, _, h3⟩ := DataW.trod_int ht h
  exact ⟨n, h1, by simpa [I64, Lit.wf, IntKind.min, IntKind.max, IntKind.signed, IntKind.bits] using h3⟩
theorem opens_bool {w : World} {t : TypeId} (ht : P.underlying t = some .bool) : Opens enc P w t boolR := by
  intro fuel cs y h hn
  obtain ⟨b, h1, _⟩ := DataW.trod_bool ht h
  exact ⟨b, h1⟩
theorem opens_string {w : World} {t : TypeId} (ht : P.underlying t = some .string) : Opens enc P w t strR := by
  intro fuel cs y h hn
  obtain ⟨s, h1, _, h3⟩ := DataW.trod_string ht h
  exact ⟨s, h1, h3⟩

theorem add_zero' (a : Addr) : a.add 0 = a := by simp [Addr.add]
theorem add_none {a : Addr} (h : a.spot = none) (n : Nat) : a.add n = ⟨a.block, a.off + n, none⟩ := by
  cases a with
  | mk b o s =>
    simp only at h
    subst h
    unfold Addr.add
    split
    · next h0 => subst h0; rfl
    · rfl
theorem spot_of_cell {w : World} {a : Addr} {v : Value} (h : w.cell? a = some v) : a.spot = none := by
  cases hs : a.spot with
  | none => rfl
  | some s =>
    unfold World.cell? at h
    split at h
    · simp [hs] at h
    · cases h
theorem choose_list {α : Type} {p : Nat → α → Prop} : ∀ (n : Nat), (∀ i, i < n → ∃ x, p i x) → ∃ xs : List α, xs.length = n ∧ ∀ i (h : i < xs.length), p i xs[i] := by
  intro n
  induction n with
  | zero => intro _; exact ⟨[], rfl, fun i h => by simp at h⟩
  | succ n ih =>
    intro h
    obtain ⟨xs, hl, hx⟩ := ih fun i hi => h i (by omega)
    obtain ⟨x, hp⟩ := h n (by omega)
    refine ⟨xs ++ [x], by simp [hl], fun i hi => ?_⟩
    by_cases e : i < xs.length
    · rw [List.getElem_append_left e]; exact hx i e
    · have e' : i = n := by simp [hl] at hi; omega
      subst e'
      rw [List.getElem_append_right (by omega)]
      simpa using hp

theorem opens_slice {α : Type} {R : RepT α} {w : World} {t e : TypeId} {n : Nat} (ht : P.underlying t = some (.slice e)) (hc : P.cellsOf e = n) (hn0 : 0 < n) (o : Opens enc P w e R) : Opens enc P w t (sliceR n R) := by
  intro fuel cs y h hn
  rcases open_slice ht h with ⟨h1, _⟩ | ⟨a, len, cap, m, k, D, Pl, h1, hb, hl, hm, hmm, h2, h3⟩
  · exact ⟨[], none, 0, h1, by simp, by simp, fun i hi => by simp at hi⟩
  · simp only [ite_true] at hmm
    subst hmm
    subst hc
    have key : ∀ i, i < len → ∃ x : α, ∃ ecs, (a.spot = none ∧ a.block < w.heap.size) ∧ ecs.length = P.cellsOf e ∧ RowAt w a.block (a.off + i * P.cellsOf e) ecs ∧ R (Old w) w ecs x := by
      intro i hi
      obtain ⟨cs', e1, e2⟩ := h3 i (by omega)
      obtain ⟨_, hlen, hcell⟩ := World.cells?_some e1
      have hsub : w.noneFrozen (Pl i) := noneFrozen_sub hn (by
        intro x hx
        rw [h2]
        simp only [List.mem_append, List.mem_flatMap, List.mem_range]
        exact Or.inr ⟨i, by omega, hx⟩)
      obtain ⟨x, hx⟩ := o _ _ _ e2 hsub
      have hsp : a.spot = none := by
        obtain ⟨cs0, q1, _⟩ := h3 0 (by omega)
        obtain ⟨_, ql, qc⟩ := World.cells?_some q1
        have h0 := qc 0 (by omega)
        rw [Nat.zero_mul, add_zero', add_zero'] at h0
        have h0' : w.cell? a = some (cs0[0]'(by omega)) := by rw [h0]; simp
        exact spot_of_cell h0'
      have hrow : ∀ k (hk : k < cs'.length), w.cell? ⟨a.block, a.off + i * P.cellsOf e + k, none⟩ = some cs'[k] := fun k hk => by
        have := hcell k (by omega)
        rw [add_none hsp, add_none rfl] at this
        rw [this]
        simp [hk]
      have hblk : a.block < w.heap.size := by
        have h0 := lt_of_cell (hrow 0 (by omega))
        exact h0
      refine ⟨x, cs', ⟨hsp, hblk⟩, hlen, fun k hk => ⟨?_, ?_⟩, hx⟩
      · exact hrow k hk
      · refine hn _ _ ?_
        rw [h2]
        simp only [List.mem_append]
        refine Or.inl ?_
        simp only [MemPlace.row, List.mem_map, List.mem_range]
        refine ⟨i * P.cellsOf e + k, ?_, by rw [Nat.add_assoc]⟩
        have h5 : (i + 1) * P.cellsOf e ≤ m * P.cellsOf e := Nat.mul_le_mul_right _ (by omega)
        rw [Nat.succ_mul] at h5
        omega
    obtain ⟨xs, hlx, hx⟩ := choose_list len key
    subst hlx
    refine ⟨xs, some a, m, h1, hl, hm, fun i hi => ?_⟩
    obtain ⟨ecs, ⟨hsp, hblk⟩, e1, e2, e3⟩ := hx i hi
    refine ⟨a.block, a.off, ecs, ?_, hblk, e1, e2, e3⟩
    cases a with
    | mk b o s => simp at hsp; simp [hsp]

theorem opens_struct2 {α0 α1 : Type} {R0 : RepT α0} {R1 : RepT α1} {w : World} {t : TypeId} {f0 f1 : Field}
    (ht : P.underlying t = some (.struct #[f0, f1])) (hc : P.cellsOf t = 2) (k0 : f0.offset = 0 ∧ P.cellsOf f0.type = 1) (k1 : f1.offset = 1 ∧ P.cellsOf f1.type = 1)
    (o0 : Opens enc P w f0.type R0) (o1 : Opens enc P w f1.type R1) : Opens enc P w t (consR R0 R1) := by
  intro fuel cs y h hn
  obtain ⟨xs, n, _, he, hl, hlen, hf⟩ := DataW.trod_struct ht h
  rw [hc] at hl
  match cs, hl, xs, hlen with
  | [c0, c1], _, [y0, y1], _ =>
    have hs : ∀ y' ∈ [y0, y1], w.noneFrozen y'.2 := fun y' hy' => noneFrozen_sub hn (by
      intro x hx
      rw [he]
      exact List.mem_flatMap.2 ⟨y', hy', hx⟩)
    have h0 := hf 0 f0 rfl
    rw [k0.1, k0.2] at h0
    obtain ⟨x0, e0⟩ := o0 n [c0] y0 (by simpa using h0) (hs _ (by simp))
    have h1 := hf 1 f1 rfl
    rw [k1.1, k1.2] at h1
    obtain ⟨x1, e1⟩ := o1 n [c1] y1 (by simpa using h1) (hs _ (by simp))
    exact ⟨(x0, x1), ⟨c0, [c1], rfl, e0, e1⟩⟩

theorem opens_struct3 {α0 α1 α2 : Type} {R0 : RepT α0} {R1 : RepT α1} {R2 : RepT α2} {w : World} {t : TypeId} {f0 f1 f2 : Field}
    (ht : P.underlying t = some (.struct #[f0, f1, f2])) (hc : P.cellsOf t = 3) (k0 : f0.offset = 0 ∧ P.cellsOf f0.type = 1) (k1 : f1.offset = 1 ∧ P.cellsOf f1.type = 1) (k2 : f2.offset = 2 ∧ P.cellsOf f2.type = 1)
    (o0 : Opens enc P w f0.type R0) (o1 : Opens enc P w f1.type R1) (o2 : Opens enc P w f2.type R2) : Opens enc P w t (consR R0 (consR R1 R2)) := by
  intro fuel cs y h hn
  obtain ⟨xs, n, _, he, hl, hlen, hf⟩ := DataW.trod_struct ht h
  rw [hc] at hl
  match cs, hl, xs, hlen with
  | [c0, c1, c2], _, [y0, y1, y2], _ =>
    have hs : ∀ y' ∈ [y0, y1, y2], w.noneFrozen y'.2 := fun y' hy' => noneFrozen_sub hn (by
      intro x hx
      rw [he]
      exact List.mem_flatMap.2 ⟨y', hy', hx⟩)
    have h0 := hf 0 f0 rfl
    rw [k0.1, k0.2] at h0
    obtain ⟨x0, e0⟩ := o0 n [c0] y0 (by simpa using h0) (hs _ (by simp))
    have h1 := hf 1 f1 rfl
    rw [k1.1, k1.2] at h1
    obtain ⟨x1, e1⟩ := o1 n [c1] y1 (by simpa using h1) (hs _ (by simp))
    have h2 := hf 2 f2 rfl
    rw [k2.1, k2.2] at h2
    obtain ⟨x2, e2⟩ := o2 n [c2] y2 (by simpa using h2) (hs _ (by simp))
    exact ⟨(x0, x1, x2), ⟨c0, _, rfl, e0, ⟨c1, [c2], rfl, e1, e2⟩⟩⟩

theorem opens_struct4 {α0 α1 α2 α3 : Type} {R0 : RepT α0} {R1 : RepT α1} {R2 : RepT α2} {R3 : RepT α3} {w : World} {t : TypeId} {f0 f1 f2 f3 : Field}
    (ht : P.underlying t = some (.struct #[f0, f1, f2, f3])) (hc : P.cellsOf t = 4) (k0 : f0.offset = 0 ∧ P.cellsOf f0.type = 1) (k1 : f1.offset = 1 ∧ P.cellsOf f1.type = 1) (k2 : f2.offset = 2 ∧ P.cellsOf f2.type = 1) (k3 : f3.offset = 3 ∧ P.cellsOf f3.type = 1)
    (o0 : Opens enc P w f0.type R0) (o1 : Opens enc P w f1.type R1) (o2 : Opens enc P w f2.type R2) (o3 : Opens enc P w f3.type R3) : Opens enc P w t (consR R0 (consR R1 (consR R2 R3))) := by
  intro fuel cs y h hn
  obtain ⟨xs, n, _, he, hl, hlen, hf⟩ := DataW.trod_struct ht h
  rw [hc] at hl
  match cs, hl, xs, hlen with
  | [c0, c1, c2, c3], _, [y0, y1, y2, y3], _ =>
    have hs : ∀ y' ∈ [y0, y1, y2, y3], w.noneFrozen y'.2 := fun y' hy' => noneFrozen_sub hn (by
      intro x hx
      rw [he]
      exact List.mem_flatMap.2 ⟨y', hy', hx⟩)
    have h0 := hf 0 f0 rfl
    rw [k0.1, k0.2] at h0
    obtain ⟨x0, e0⟩ := o0 n [c0] y0 (by simpa using h0) (hs _ (by simp))
    have h1 := hf 1 f1 rfl
    rw [k1.1, k1.2] at h1
    obtain ⟨x1, e1⟩ := o1 n [c1] y1 (by simpa using h1) (hs _ (by simp))
    have h2 := hf 2 f2 rfl
    rw [k2.1, k2.2] at h2
    obtain ⟨x2, e2⟩ := o2 n [c2] y2 (by simpa using h2) (hs _ (by simp))
    have h3 := hf 3 f3 rfl
    rw [k3.1, k3.2] at h3
    obtain ⟨x3, e3⟩ := o3 n [c3] y3 (by simpa using h3) (hs _ (by simp))
    exact ⟨(x0, x1, x2, x3), ⟨c0, _, rfl, e0, ⟨c1, _, rfl, e1, ⟨c2, [c3], rfl, e2, e3⟩⟩⟩⟩

theorem opens_struct5 {α0 α1 α2 α3 α4 : Type} {R0 : RepT α0} {R1 : RepT α1} {R2 : RepT α2} {R3 : RepT α3} {R4 : RepT α4} {w : World} {t : TypeId} {f0 f1 f2 f3 f4 : Field}
    (ht : P.underlying t = some (.struct #[f0, f1, f2, f3, f4])) (hc : P.cellsOf t = 5) (k0 : f0.offset = 0 ∧ P.cellsOf f0.type = 1) (k1 : f1.offset = 1 ∧ P.cellsOf f1.type = 1) (k2 : f2.offset = 2 ∧ P.cellsOf f2.type = 1) (k3 : f3.offset = 3 ∧ P.cellsOf f3.type = 1) (k4 : f4.offset = 4 ∧ P.cellsOf f4.type = 1)
    (o0 : Opens enc P w f0.type R0) (o1 : Opens enc P w f1.type R1) (o2 : Opens enc P w f2.type R2) (o3 : Opens enc P w f3.type R3) (o4 : Opens enc P w f4.type R4) : Opens enc P w t (consR R0 (consR R1 (consR R2 (consR R3 R4)))) := by
  intro fuel cs y h hn
  obtain ⟨xs, n, _, he, hl, hlen, hf⟩ := DataW.trod_struct ht h
  rw [hc] at hl
  match cs, hl, xs, hlen with
  | [c0, c1, c2, c3, c4], _, [y0, y1, y2, y3, y4], _ =>
    have hs : ∀ y' ∈ [y0, y1, y2, y3, y4], w.noneFrozen y'.2 := fun y' hy' => noneFrozen_sub hn (by
      intro x hx
      rw [he]
      exact List.mem_flatMap.2 ⟨y', hy', hx⟩)
    have h0 := hf 0 f0 rfl
    rw [k0.1, k0.2] at h0
    obtain ⟨x0, e0⟩ := o0 n [c0] y0 (by simpa using h0) (hs _ (by simp))
    have h1 := hf 1 f1 rfl
    rw [k1.1, k1.2] at h1
    obtain ⟨x1, e1⟩ := o1 n [c1] y1 (by simpa using h1) (hs _ (by simp))
    have h2 := hf 2 f2 rfl
    rw [k2.1, k2.2] at h2
    obtain ⟨x2, e2⟩ := o2 n [c2] y2 (by simpa using h2) (hs _ (by simp))
    have h3 := hf 3 f3 rfl
    rw [k3.1, k3.2] at h3
    obtain ⟨x3, e3⟩ := o3 n [c3] y3 (by simpa using h3) (hs _ (by simp))
    have h4 := hf 4 f4 rfl
    rw [k4.1, k4.2] at h4
    obtain ⟨x4, e4⟩ := o4 n [c4] y4 (by simpa using h4) (hs _ (by simp))
    exact ⟨(x0, x1, x2, x3, x4), ⟨c0, _, rfl, e0, ⟨c1, _, rfl, e1, ⟨c2, _, rfl, e2, ⟨c3, [c4], rfl, e3, e4⟩⟩⟩⟩⟩

/-- One argument that lies in one cell. -/
theorem Opens.one {α : Type} {R : RepT α} {w : World} {t : TypeId} {v : Value} {d : DataW H} {ps : List MemPlace} (o : Opens enc P w t R)
    (h : DataW.Trod enc P w 0 (fun _ => true) true t v d ps) (hn : w.noneFrozen ps) (hv : v.cells = #[v]) : ∃ x, R (Old w) w [v] x := by
  obtain ⟨fuel, hf⟩ := h
  rw [hv] at hf
  exact o _ _ _ hf hn
/-- One argument that is a struct. -/
theorem Opens.agg {α : Type} {R : RepT α} {w : World} {t : TypeId} {v : Value} {d : DataW H} {ps : List MemPlace} (o : Opens enc P w t R)
    (h : DataW.Trod enc P w 0 (fun _ => true) true t v d ps) (hn : w.noneFrozen ps) (hv : ∃ cs, v = .agg cs) : ∃ x, aggR R (Old w) w v x := by
  obtain ⟨fuel, hf⟩ := h
  obtain ⟨cs, rfl⟩ := hv
  obtain ⟨x, hx⟩ := o _ _ _ hf hn
  exact ⟨x, cs.toList, by simp, hx⟩
end
end Go.Proofs.Ytjeeajgijdcdbaa
