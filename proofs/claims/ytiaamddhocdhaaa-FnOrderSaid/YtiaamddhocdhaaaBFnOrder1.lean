/- Texts laid together: FullGap TopoF ReachF OrderF Topo Topo2 Topo3 Side Nbr Que Reach. -/
import Derived.Test.YtiaamddhocdhaaaGap
import Derived.Test.YtiaamddhocdhaaaRange
import Derived.Test.YtiaamddhocdhaaaKeep
import Derived.Test.YtiaamddhocdhaaaSideF
import Derived.Test.YtiaamddhocdhaaaSetW
import Derived.Test.YtiaamddhocdhaaaOwn
import Derived.Test.YtiaamddhocdhaaaHas
import Derived.Test.YtiaamddhocdhaaaApps
import Derived.Test.YtiaamddhocdhaaaSchFn
import Derived.Test.YtiaamddhocdhaaaMut
import Derived.ArgAppend
import Derived.Deep.Cut
import Derived.Deep.RegionHeld3
import Derived.Deep.RegionLaw

/- FullGap -/
section
namespace Go.Proofs.Ytiaamddhocdhaaa
open Go.ChangeShapes Go.WideShapes Go.ChangeAt Go.RowKit
set_option linter.unusedVariables false

/-- The gap of a link for all modes. -/
def fullGapV (p : ProjT) (k : LinkT) : Int := gapV p k (rangeL (p.2.1.getD k.1.toNat zAct).2.2.length)
theorem fullGapV_bd {p : ProjT} (h : projOk p = true) {k : LinkT} (hk : linkOkB p.2.1.length k = true) : -60 ≤ fullGapV p k ∧ fullGapV p k ≤ 72 := gapV_bd h hk _

set_option maxHeartbeats 1000000 in
theorem fullGap_any (v : Value) (p : ProjT) (S : Nat → Prop) (k : LinkT) (w : World) (hx : aggR projR S w v p) (hS : ∀ b, S b → b < w.heap.size) (hp : projOk p = true) (hk : linkOkB p.2.1.length k = true) :
    Calls Try.prog 97 #[v, .agg #[.int .i64 k.1, .int .i64 k.2.1, .bool k.2.2.1, .int .i64 k.2.2.2]] w fun e w' => e = .returned (.int .i64 (fullGapV p k)) ∧ Bel w w' := by
  obtain ⟨cs, rfl, hx⟩ := hx
  obtain ⟨c1, c2, c3, c4, rfl, q0, q1, q2, q3, q4⟩ := projR_open hx
  have Q1 := Lib.hid q1
  have Q2 := Lib.hid q2
  have Q3 := Lib.hid q3
  have Q4 := Lib.hid q4
  have HP := Lib.hid hx
  obtain ⟨p1, k1, rfl, l1, l1', -⟩ := sliceR_open q1
  obtain ⟨p2, k2, rfl, l2, l2', -⟩ := sliceR_open q2
  obtain ⟨p3, k3, rfl, l3, l3', -⟩ := sliceR_open q3
  obtain ⟨p4, k4, rfl, l4, l4', -⟩ := sliceR_open q4
  unfold maxLen at l1' l2' l3' l4'
  clear hx q0 q1 q2 q3 q4
  have HS := Lib.hid hS
  have HPO := Lib.hid hp
  clear hS
  have HP1 := Lib.hid (show ∀ W, Bel w W → aggR projR S W (.agg #[.int .i64 p.1, .slice p1 p.2.1.length k1, .slice p2 p.2.2.1.length k2, .slice p3 p.2.2.2.1.length k3, .slice p4 p.2.2.2.2.length k4]) p from fun W hW => aggR_mk (projR_good.bel HP.out hW HS.out))
  have HK := Lib.hid hk
  obtain ⟨⟨a, haa, ha⟩, -, -, hl0, hl1⟩ := linkOk_bd hk
  have hml := (projOk_modes hp ha).2
  clear hk hp
  obtain ⟨fa, tb, fe, lag⟩ := k
  obtain rfl : fa = (a : Int) := haa
  have HV := Lib.hid (show fullGapV p ((a : Int), tb, fe, lag) = gapV p ((a : Int), tb, fe, lag) (rangeL (p.2.1.getD a zAct).2.2.length) from rfl)
  show Calls Try.prog 97 #[.agg #[.int .i64 p.1, .slice p1 p.2.1.length k1, .slice p2 p.2.2.1.length k2, .slice p3 p.2.2.2.1.length k3, .slice p4 p.2.2.2.2.length k4], .agg #[.int .i64 (a : Int), .int .i64 tb, .bool fe, .int .i64 lag]] w _
  obtain ⟨ab, ao, acs, aea, arow, ael⟩ := sliceR_at zAct Q1.out ha
  obtain rfl : p1 = some ⟨ab, ao, none⟩ := aea
  generalize p.2.1.getD a zAct = X at *
  obtain ⟨ac2, rfl, aq0, aq1, aq2⟩ := actR_open ael
  have HEL := Lib.hid ael
  obtain ⟨am, amk, rfl, aml, aml', -⟩ := sliceR_open aq2
  unfold maxLen at aml'
  have ea0 := (arow 0 (by simp)).1
  have ea1 := (arow 1 (by simp)).1
  have ea2 := (arow 2 (by simp)).1
  simp only [List.getElem_cons_zero, List.getElem_cons_succ, Nat.add_zero] at ea0 ea1 ea2
  have hai : (a : Int) < (p.2.1.length : Int) := by omega
  clear arow ael aq0 aq1 aq2 ha
  have ea0 := fun o0 o1 => (((Bel.refl w).alloc o0).alloc o1).cell ea0
  have ea1 := fun o0 o1 => (((Bel.refl w).alloc o0).alloc o1).cell ea1
  have ea2 := fun o0 o1 => (((Bel.refl w).alloc o0).alloc o1).cell ea2
  go_enter Try.func97, Try.ntmps97
  go_wp2_with fail
  go_region_held3 (fun W => W.cell? ⟨w.heap.size, 0, none⟩ = some (.int .i64 p.1) ∧ W.cell? ⟨w.heap.size, 1, none⟩ = some (.slice (some ⟨ab, ao, none⟩) p.2.1.length k1) ∧ W.cell? ⟨w.heap.size, 2, none⟩ = some (.slice p2 p.2.2.1.length k2) ∧ W.cell? ⟨w.heap.size, 3, none⟩ = some (.slice p3 p.2.2.2.1.length k3) ∧ W.cell? ⟨w.heap.size, 4, none⟩ = some (.slice p4 p.2.2.2.2.length k4) ∧ W.cell? ⟨w.heap.size + 1, 0, none⟩ = some (.int .i64 (a : Int)) ∧ W.cell? ⟨w.heap.size + 1, 1, none⟩ = some (.int .i64 tb) ∧ W.cell? ⟨w.heap.size + 1, 2, none⟩ = some (.bool fe) ∧ W.cell? ⟨w.heap.size + 1, 3, none⟩ = some (.int .i64 lag) ∧ W.cell? ⟨ab, ao + a * 3, none⟩ = some (.string X.1) ∧ W.cell? ⟨ab, ao + a * 3 + 1, none⟩ = some (.int .i64 X.2.1) ∧ W.cell? ⟨ab, ao + a * 3 + 2, none⟩ = some (.slice am X.2.2.length amk)) (first | exact keep12 (by assumption) (by assumption) | go_keep)
    (first | (go_at_call 37; (with_reducible refine (iModeIndexes_any _ X S _ (aggR_mk (actR_good.bel HEL.out (by (repeat (first | assumption | exact Bel.refl _ | apply Bel.drewN | apply Bel.drew | apply Bel.alloc | refine Bel.trans ?_ (by assumption)))) HS.out)) (by omega)).mono ?_); rintro e wt ⟨vm, rfl, hr, gt⟩; have HRG := Lib.hid (stays_one intsR_good hr); obtain ⟨rp, rk, rfl, -⟩ := sliceR_open hr; clear hr) | (go_at_call 103; (with_reducible refine (gap_any _ p S _ _ (rangeL X.2.2.length) _ _ (HP1.out _ (by (repeat (first | assumption | exact Bel.refl _ | apply Bel.drewN | apply Bel.drew | apply Bel.alloc | refine Bel.trans ?_ (by assumption))))) (fun b hb => Nat.lt_of_lt_of_le (HS.out b hb) (Bel.size (by (repeat (first | assumption | exact Bel.refl _ | apply Bel.drewN | apply Bel.drew | apply Bel.alloc | refine Bel.trans ?_ (by assumption)))))) HPO.out HK.out (HRG.out _ (by (repeat (first | assumption | exact Bel.refl _ | apply Bel.drewN | apply Bel.drew | apply Bel.alloc | refine Bel.trans ?_ (by assumption))))).1 (HRG.out _ (by (repeat (first | assumption | exact Bel.refl _ | apply Bel.drewN | apply Bel.drew | apply Bel.alloc | refine Bel.trans ?_ (by assumption))))).2).mono ?_); rintro e wt ⟨rfl, gt⟩))
  go_wp2
  go_ret
  exact ⟨ret_int HV.out.symm, by (repeat (first | assumption | exact Bel.refl _ | apply Bel.drewN | apply Bel.drew | apply Bel.alloc | refine Bel.trans ?_ (by assumption)))⟩


end Go.Proofs.Ytiaamddhocdhaaa
end

/- TopoF -/
section
namespace Go.Proofs.Ytiaamddhocdhaaa
open Go.RowKit
set_option linter.unusedVariables false

/-- The first index below n that c takes, or -1. -/
def idxV (c : Nat → Bool) (n : Nat) : Int := match (List.range n).find? c with | some k => (k : Int) | none => -1
theorem idxV_hit {c : Nat → Bool} {n k : Nat} (hk : k < n) (hc : c k = true) (h : ∀ j, j < k → c j = false) : (List.range n).find? c = some k := by
  rw [List.find?_range_eq_some]
  exact ⟨hc, List.mem_range.2 hk, fun j hj => by rw [h j hj]; rfl⟩
theorem idxV_miss {c : Nat → Bool} {n : Nat} (h : ∀ j, j < n → c j = false) : (List.range n).find? c = none := by
  rw [List.find?_eq_none]
  intro j hj
  rw [h j (List.mem_range.1 hj)]
  exact Bool.false_ne_true
theorem any_hit {c : Nat → Bool} {n k : Nat} (hk : k < n) (hc : c k = true) : (List.range n).any c = true := List.any_eq_true.2 ⟨k, List.mem_range.2 hk, hc⟩
theorem any_miss {c : Nat → Bool} {n : Nat} (h : ∀ j, j < n → c j = false) : (List.range n).any c = false := by
  rw [List.any_eq_false]
  intro j hj
  rw [h j (List.mem_range.1 hj)]
  exact Bool.false_ne_true

/-- Whether a link bars a. -/
def barsB (p : ProjT) (done : List Int) (a : Int) (k : LinkT) : Bool := decide (k.2.1 = a) && (decide (0 < fullGapV p k) && !hasB k.1 done)
def readyB (p : ProjT) (done : List Int) (a : Int) : Bool := !(List.range p.2.2.1.length).any fun j => barsB p done a (p.2.2.1.getD j zLink)
def freeB (p : ProjT) (done : List Int) (a : Nat) : Bool := !hasB (a : Int) done && readyB p done a
def topoR (p : ProjT) : Nat → List Int
  | 0 => []
  | k + 1 => match (List.range p.2.1.length).find? (freeB p (topoR p k)) with
    | none => topoR p k
    | some a => topoR p k ++ [(a : Int)]
def topoB (p : ProjT) : Bool := projOk p && decide ((topoR p p.2.1.length).length = p.2.1.length)
def topoV (p : ProjT) : List Int := if topoB p then topoR p p.2.1.length else []
theorem topoR_le (p : ProjT) : ∀ k, (topoR p k).length ≤ k := by
  intro k
  induction k with
  | zero => simp [topoR]
  | succ k ih =>
    simp only [topoR]
    split
    · omega
    · rw [List.length_append, List.length_singleton]; omega
theorem topoR_no {p : ProjT} {k : Nat} (h : (List.range p.2.1.length).find? (freeB p (topoR p k)) = none) : topoR p (k + 1) = topoR p k := by
  simp only [topoR, h]
theorem topoR_yes {p : ProjT} {k a : Nat} (h : (List.range p.2.1.length).find? (freeB p (topoR p k)) = some a) : topoR p (k + 1) = topoR p k ++ [(a : Int)] := by
  simp only [topoR, h]
theorem topoR_stuck {p : ProjT} {k : Nat} (h : (List.range p.2.1.length).find? (freeB p (topoR p k)) = none) : ∀ j, topoR p (k + j) = topoR p k := by
  intro j
  induction j with
  | zero => rfl
  | succ j ih => rw [show k + (j + 1) = (k + j) + 1 from by omega, topoR_no (by rw [ih]; exact h), ih]
theorem topoV_len (p : ProjT) : (topoV p).length ≤ 1048576 := by
  unfold topoV
  split
  · rename_i h
    unfold topoB at h
    simp only [Bool.and_eq_true] at h
    have h1 := topoR_le p p.2.1.length
    have h2 := (projOk_bd h.1).2.1
    omega
  · simp
theorem topo_no {p : ProjT} (h : projOk p = false) : topoB p = false ∧ topoV p = [] := by
  have h1 : topoB p = false := by unfold topoB; rw [h]; rfl
  exact ⟨h1, by unfold topoV; rw [h1]; rfl⟩
theorem topo_short {p : ProjT} (h : (topoR p p.2.1.length).length ≠ p.2.1.length) : topoB p = false ∧ topoV p = [] := by
  have h1 : topoB p = false := by unfold topoB; rw [decide_eq_false h]; simp
  exact ⟨h1, by unfold topoV; rw [h1]; rfl⟩
theorem topo_full {p : ProjT} (hp : projOk p = true) (h : (topoR p p.2.1.length).length = p.2.1.length) : topoB p = true ∧ topoV p = topoR p p.2.1.length := by
  have h1 : topoB p = true := by unfold topoB; rw [decide_eq_true h, hp]; rfl
  exact ⟨h1, by unfold topoV; rw [h1]; rfl⟩
theorem topo_stop {p : ProjT} {k : Nat} (hk : k < p.2.1.length) (h : (List.range p.2.1.length).find? (freeB p (topoR p k)) = none) : topoB p = false ∧ topoV p = [] := by
  have h1 := topoR_stuck h (p.2.1.length - k)
  rw [show k + (p.2.1.length - k) = p.2.1.length from by omega] at h1
  have h2 := topoR_le p k
  exact topo_short (by rw [h1]; omega)
theorem projOk_name {p : ProjT} (h : projOk p = true) {k : Nat} (hk : k < p.2.1.length) : actIndex p.2.1 (p.2.1.getD k zAct).1 = k := by
  have h1 := projOk_act h hk
  unfold actAtOk at h1
  simp only [Bool.and_eq_true, decide_eq_true_eq] at h1
  exact h1.2
/-- Two results: a datum in new memory and a mark. -/
def FreshP {α : Type} (R : RepT α) (w : World) (x : α) (b : Bool) (e : Ending) (w' : World) : Prop := ∃ v, e = .returned (.tuple #[v, .bool b]) ∧ R (New w w') w' [v] x ∧ Bel w w'
end Go.Proofs.Ytiaamddhocdhaaa
end

/- ReachF -/
section
namespace Go.Proofs.Ytiaamddhocdhaaa
open Go.RowKit
set_option linter.unusedVariables false

/-- All numbers of the list are activities. -/
def InR (p : ProjT) (l : List Int) : Prop := ∀ x, x ∈ l → 0 ≤ x ∧ x < (p.2.1.length : Int)
theorem side_in {p : ProjT} (h : projOk p = true) (a : Int) : InR p (sideV p a false) := by
  intro x hx
  have h1 := (setL_mem _ _).1 hx
  obtain ⟨i, hi, rfl⟩ := sideTo_mem _ _ _ _ (Nat.le_refl _) x h1
  obtain ⟨-, ⟨b, hb, hb'⟩, -⟩ := linkOk_bd (projOk_link h hi)
  unfold sideE
  rw [if_neg (by decide)]
  omega
theorem inc_len : ∀ (l : List Int) (lo n : Int), Inc l → (∀ x, x ∈ l → lo ≤ x ∧ x < n) → lo ≤ n → (l.length : Int) ≤ n - lo := by
  intro l
  induction l with
  | nil => intro lo n _ _ h; simp; omega
  | cons x l ih =>
    intro lo n h hr hlo
    have h' := List.pairwise_cons.1 h
    have hx := hr x List.mem_cons_self
    have := ih (x + 1) n h'.2 (fun y hy => ⟨by have := h'.1 y hy; omega, (hr y (List.mem_cons_of_mem _ hy)).2⟩) (by omega)
    simp only [List.length_cons]
    omega
theorem inr_len {p : ProjT} {l : List Int} (h : Inc l) (hr : InR p l) : l.length ≤ p.2.1.length := by
  have := inc_len l 0 p.2.1.length h hr (by omega)
  omega
/-- One union of a round. -/
def unS (p : ProjT) (s : List Int) (x : Int) : List Int := setL (s ++ sideV p x false)
def stepS (p : ProjT) (s : List Int) : List Int := s.foldl (unS p) s
def reachS (p : ProjT) (a : Int) : Nat → List Int
  | 0 => sucV p a
  | n + 1 => stepS p (reachS p a n)
def fldS (p : ProjT) (s : List Int) (j : Nat) : List Int := (s.take j).foldl (unS p) s
theorem fldS_zero (p : ProjT) (s : List Int) : fldS p s 0 = s := by simp [fldS]
theorem fldS_next {p : ProjT} {s : List Int} {j : Nat} (h : j < s.length) : fldS p s (j + 1) = unS p (fldS p s j) (s.getD j 0) := by
  unfold fldS
  rw [List.take_succ_eq_append_getElem h, List.foldl_append, List.getD_eq_getElem?_getD, List.getElem?_eq_getElem h]
  rfl
theorem fldS_all (p : ProjT) (s : List Int) : fldS p s s.length = stepS p s := by unfold fldS stepS; rw [List.take_length]
theorem unS_mem (p : ProjT) (s : List Int) (x y : Int) : y ∈ unS p s x ↔ y ∈ s ∨ y ∈ sideV p x false := by unfold unS; rw [setL_mem, List.mem_append]
theorem fold_un (p : ProjT) (l : List Int) : ∀ (s : List Int) (y : Int), y ∈ l.foldl (unS p) s ↔ y ∈ s ∨ ∃ x, x ∈ l ∧ y ∈ sideV p x false := by
  induction l with
  | nil => intro s y; simp
  | cons z l ih =>
    intro s y
    rw [List.foldl_cons, ih, unS_mem]
    constructor
    · rintro ((h | h) | ⟨x, hx, h⟩)
      · exact .inl h
      · exact .inr ⟨z, List.mem_cons_self, h⟩
      · exact .inr ⟨x, List.mem_cons_of_mem _ hx, h⟩
    · rintro (h | ⟨x, hx, h⟩)
      · exact .inl (.inl h)
      · rcases List.mem_cons.1 hx with e | hx
        · subst e; exact .inl (.inr h)
        · exact .inr ⟨x, hx, h⟩
theorem stepS_mem (p : ProjT) (s : List Int) (y : Int) : y ∈ stepS p s ↔ y ∈ s ∨ ∃ x, x ∈ s ∧ y ∈ sideV p x false := fold_un p s s y
/-- Sets of activities. -/
def SetA (p : ProjT) (l : List Int) : Prop := Inc l ∧ InR p l
theorem fldS_set {p : ProjT} (hp : projOk p = true) {s : List Int} (h : SetA p s) : ∀ j, j ≤ s.length → SetA p (fldS p s j) := by
  intro j
  induction j with
  | zero => intro _; rw [fldS_zero]; exact h
  | succ j ih =>
    intro hj
    rw [fldS_next (by omega)]
    refine ⟨setL_inc _, fun x hx => ?_⟩
    rcases (unS_mem _ _ _ _).1 hx with h1 | h1
    · exact (ih (by omega)).2 x h1
    · exact side_in hp _ x h1
theorem suc_set {p : ProjT} (hp : projOk p = true) (a : Int) : SetA p (sucV p a) := by
  unfold sucV nbrV
  split
  · exact ⟨setL_inc _, side_in hp a⟩
  · exact ⟨List.Pairwise.nil, fun x hx => by cases hx⟩
theorem reachS_set {p : ProjT} (hp : projOk p = true) (a : Int) : ∀ n, SetA p (reachS p a n) := by
  intro n
  induction n with
  | zero => exact suc_set hp a
  | succ n ih =>
    show SetA p (stepS p (reachS p a n))
    rw [← fldS_all]
    exact fldS_set hp ih _ (Nat.le_refl _)
theorem reachS_up {p : ProjT} {a : Int} {n : Nat} {x : Int} (h : x ∈ reachS p a n) : x ∈ reachS p a (n + 1) := (stepS_mem _ _ _).2 (.inl h)
theorem reachS_le {p : ProjT} {a : Int} {n m : Nat} (h : n ≤ m) {x : Int} (hx : x ∈ reachS p a n) : x ∈ reachS p a m := by
  obtain ⟨d, rfl⟩ := Nat.le.dest h
  clear h
  induction d with
  | zero => exact hx
  | succ d ih => exact reachS_up ih
/-- Nothing can be added. -/
def ClosedA (p : ProjT) (s : List Int) : Prop := ∀ x, x ∈ s → ∀ y, y ∈ sideV p x false → y ∈ s
theorem closed_step {p : ProjT} {s : List Int} (h : ClosedA p s) (x : Int) : x ∈ stepS p s ↔ x ∈ s := by
  rw [stepS_mem]
  exact ⟨fun h' => h'.elim id fun ⟨z, hz, hx⟩ => h z hz x hx, .inl⟩
theorem closed_up {p : ProjT} {a : Int} {n : Nat} (h : ClosedA p (reachS p a n)) : ∀ d x, x ∈ reachS p a (n + d) → x ∈ reachS p a n := by
  intro d
  induction d with
  | zero => intro x hx; exact hx
  | succ d ih =>
    intro x hx
    rcases (stepS_mem _ _ _).1 hx with h1 | ⟨z, hz, h1⟩
    · exact ih x h1
    · exact h z (ih z hz) x h1
theorem inc_lt_len : ∀ {a b : List Int}, Inc a → Inc b → (∀ x, x ∈ a → x ∈ b) → (∃ y, y ∈ b ∧ ¬ y ∈ a) → a.length < b.length := by
  intro a
  induction a with
  | nil =>
    intro b _ _ _ h
    obtain ⟨y, hy, _⟩ := h
    exact List.length_pos_of_mem hy
  | cons x a ih =>
    intro b ha hb hs hex
    cases b with
    | nil => exact absurd (hs x List.mem_cons_self) (by simp)
    | cons y b =>
      have ha' := List.pairwise_cons.1 ha
      have hb' := List.pairwise_cons.1 hb
      by_cases e : x = y
      · subst e
        obtain ⟨z, hz, hz'⟩ := hex
        have := ih ha'.2 hb'.2 (fun w hw => by
          rcases List.mem_cons.1 (hs w (List.mem_cons_of_mem _ hw)) with e | h
          · subst e; exact absurd (ha'.1 _ hw) (by omega)
          · exact h) ⟨z, by
            rcases List.mem_cons.1 hz with e | h
            · subst e; exact absurd List.mem_cons_self hz'
            · exact h, fun h => hz' (List.mem_cons_of_mem _ h)⟩
        simp only [List.length_cons]; omega
      · have hxb : x ∈ b := by
          rcases List.mem_cons.1 (hs x List.mem_cons_self) with h | h
          · exact absurd h e
          · exact h
        have hyx := hb'.1 x hxb
        have hsub : ∀ w, w ∈ x :: a → w ∈ b := fun w hw => by
          rcases List.mem_cons.1 (hs w hw) with h | h
          · subst h
            rcases List.mem_cons.1 hw with h | h
            · exact absurd h.symm e
            · have := ha'.1 w h; omega
          · exact h
        by_cases hall : ∃ z, z ∈ b ∧ ¬ z ∈ x :: a
        · have h1 : a.length < b.length := ih ha'.2 hb'.2 (fun w hw => hsub w (List.mem_cons_of_mem _ hw)) ⟨x, hxb, fun h => by have := ha'.1 x h; omega⟩
          simp only [List.length_cons]; omega
        · have h1 : a.length < b.length := ih ha'.2 hb'.2 (fun w hw => hsub w (List.mem_cons_of_mem _ hw)) ⟨x, hxb, fun h => by have := ha'.1 x h; omega⟩
          simp only [List.length_cons]; omega
theorem reach_grow {p : ProjT} (hp : projOk p = true) (a : Int) : ∀ n, (∃ k, k ≤ n ∧ ClosedA p (reachS p a k)) ∨ n + 1 ≤ (reachS p a n).length := by
  intro n
  induction n with
  | zero =>
    by_cases h : (reachS p a 0).length = 0
    · left
      refine ⟨0, Nat.le_refl _, fun x hx => ?_⟩
      rw [List.eq_nil_of_length_eq_zero h] at hx
      cases hx
    · right; omega
  | succ n ih =>
    rcases ih with ⟨k, hk, h⟩ | ih
    · exact .inl ⟨k, by omega, h⟩
    · by_cases hc : ClosedA p (reachS p a n)
      · exact .inl ⟨n, by omega, hc⟩
      · right
        have hex : ∃ y, y ∈ reachS p a (n + 1) ∧ ¬ y ∈ reachS p a n := by
          unfold ClosedA at hc
          simp only [Classical.not_forall] at hc
          obtain ⟨x, hx, y, hy, hny⟩ := hc
          exact ⟨y, (stepS_mem _ _ _).2 (.inr ⟨x, hx, hy⟩), hny⟩
        have := inc_lt_len (reachS_set hp a n).1 (reachS_set hp a (n + 1)).1 (fun x hx => reachS_up hx) hex
        omega
/-- The rounds reach all. -/
theorem reach_all {p : ProjT} (hp : projOk p = true) (a : Int) (n : Nat) (x : Int) (h : x ∈ reachS p a n) : x ∈ reachS p a p.2.1.length := by
  rcases reach_grow hp a p.2.1.length with ⟨k, hk, hc⟩ | hg
  · rcases Nat.lt_or_ge n k with hn | hn
    · exact reachS_le (by omega) h
    · obtain ⟨d, rfl⟩ := Nat.le.dest hn
      exact reachS_le hk (closed_up hc d x h)
  · have := inr_len (reachS_set hp a p.2.1.length).1 (reachS_set hp a p.2.1.length).2
    omega
def reachB (p : ProjT) (a b : Int) : Bool := projOk p && hasB b (reachS p a p.2.1.length)
/-- One element of the program's inner loop. -/
def bfs (s : List Int × List Int) (x : Int) : List Int × List Int := if hasB x s.1 = true then s else (s.1 ++ [x], s.2 ++ [x])
def bfsTo (seen opn D : List Int) (j : Nat) : List Int × List Int := (D.take j).foldl bfs (seen, opn)
theorem bfsTo_zero (seen opn D : List Int) : bfsTo seen opn D 0 = (seen, opn) := by simp [bfsTo]
theorem bfsTo_next {seen opn D : List Int} {j : Nat} (h : j < D.length) : bfsTo seen opn D (j + 1) = bfs (bfsTo seen opn D j) (D.getD j 0) := by
  unfold bfsTo
  rw [List.take_succ_eq_append_getElem h, List.foldl_append, List.getD_eq_getElem?_getD, List.getElem?_eq_getElem h]
  rfl
theorem bfs_mem (l : List Int) : ∀ (s : List Int × List Int) (y : Int), (y ∈ (l.foldl bfs s).1 ↔ y ∈ s.1 ∨ y ∈ l) ∧ (y ∈ (l.foldl bfs s).2 → y ∈ s.2 ∨ y ∈ l) ∧ (y ∈ s.2 → y ∈ (l.foldl bfs s).2) ∧ (y ∈ (l.foldl bfs s).1 → y ∈ s.1 ∨ y ∈ (l.foldl bfs s).2) := by
  induction l with
  | nil => intro s y; simp; exact Or.inl
  | cons z l ih =>
    intro s y
    rw [List.foldl_cons]
    obtain ⟨h1, h2, h3, h4⟩ := ih (bfs s z) y
    by_cases hz : hasB z s.1 = true
    · have e : bfs s z = s := if_pos hz
      rw [e] at h1 h2 h3 h4 ⊢
      have hz' := (hasB_iff z s.1).1 hz
      refine ⟨h1.trans ⟨fun h => h.elim .inl fun h => .inr (List.mem_cons_of_mem _ h), fun h => h.elim .inl fun h => ?_⟩, fun h => (h2 h).elim .inl fun h => .inr (List.mem_cons_of_mem _ h), h3, h4⟩
      rcases List.mem_cons.1 h with e | h
      · subst e; exact .inl hz'
      · exact .inr h
    · have e : bfs s z = (s.1 ++ [z], s.2 ++ [z]) := if_neg hz
      rw [e] at h1 h2 h3 h4 ⊢
      simp only [List.mem_append, List.mem_singleton] at h1 h2 h3 h4
      refine ⟨h1.trans ?_, fun h => ?_, fun h => h3 (.inl h), fun h => ?_⟩
      · rw [List.mem_cons, or_assoc]
      · rw [List.mem_cons]
        rcases h2 h with (h | h) | h
        · exact .inl h
        · exact .inr (.inl h)
        · exact .inr (.inr h)
      · rcases h4 h with (h5 | h5) | h5
        · exact .inl h5
        · exact .inr ((ih (s.1 ++ [z], s.2 ++ [z]) y).2.2.1 (by simp [h5]))
        · exact .inr h5
/-- No number twice, told by the set's length. -/
def Once (l : List Int) : Prop := (setL l).length = l.length
theorem once_snoc {l : List Int} {x : Int} (h : Once l) (hx : ¬ x ∈ l) : Once (l ++ [x]) := by
  unfold Once at h ⊢
  rw [setL_snoc]
  unfold putL
  rw [if_neg (by rw [hasB_iff, setL_mem]; exact hx)]
  have := cntL_le x (setL l)
  simp [List.length_take, List.length_drop]
  omega
theorem once_bfs (l : List Int) : ∀ (s : List Int × List Int), Once s.1 → Once (l.foldl bfs s).1 := by
  induction l with
  | nil => intro s h; exact h
  | cons z l ih =>
    intro s h
    rw [List.foldl_cons]
    refine ih _ ?_
    unfold bfs
    split
    · exact h
    · next hz => exact once_snoc h fun hm => hz ((hasB_iff z s.1).2 hm)
theorem once_len {p : ProjT} {l : List Int} (h : Once l) (hr : InR p l) : l.length ≤ p.2.1.length := by
  have h1 := inr_len (setL_inc l) (fun x hx => hr x ((setL_mem l x).1 hx))
  unfold Once at h
  omega
/-- What the search has so far. -/
structure Bfs (p : ProjT) (a : Int) (seen opn : List Int) : Prop where
  reach : ∀ x, x ∈ seen → ∃ n, x ∈ reachS p a n
  once : Once seen
  done : ∀ u, (u = a ∨ u ∈ seen) → u ∈ opn ∨ ∀ y, y ∈ sideV p u false → y ∈ seen
  left : ∀ x, x ∈ opn → x = a ∨ x ∈ seen
theorem Bfs.start (p : ProjT) (a : Int) : Bfs p a [] [a] := by
  refine ⟨fun x h => absurd h (by simp), rfl, fun u h => ?_, fun x h => .inl (by simpa using h)⟩
  rcases h with h | h
  · exact .inl (by simp [h])
  · cases h
theorem Bfs.inr {p : ProjT} {a : Int} {seen opn : List Int} (hp : projOk p = true) (h : Bfs p a seen opn) : InR p seen := fun x hx => by
  obtain ⟨n, hn⟩ := h.reach x hx
  exact (reachS_set hp a n).2 x hn
theorem Bfs.next {p : ProjT} {a u : Int} {seen rest : List Int} (hp : projOk p = true) (ha : inB a 0 ((p.2.1.length : Int) - 1) = true) (h : Bfs p a seen (u :: rest)) : Bfs p a (bfsTo seen (u :: rest) (sideV p u false) (sideV p u false).length).1 (bfsTo seen (u :: rest) (sideV p u false) (sideV p u false).length).2.tail := by
  unfold bfsTo
  rw [List.take_length]
  generalize hD : sideV p u false = D
  have hm := fun y => bfs_mem D (seen, u :: rest) y
  have hsuc : ∀ y, y ∈ sideV p u false → ∃ n, y ∈ reachS p a n := fun y hy => by
    rcases h.left u List.mem_cons_self with e | hu
    · subst e; exact ⟨0, by show y ∈ sucV p u; unfold sucV nbrV; rw [if_pos ⟨hp, ha⟩]; exact hy⟩
    · obtain ⟨n, hn⟩ := h.reach u hu
      exact ⟨n + 1, (stepS_mem _ _ _).2 (.inr ⟨u, hn, hy⟩)⟩
  have hhead : ∃ r, (D.foldl bfs (seen, u :: rest)).2 = u :: r := by
    clear hm hD
    have : ∀ (l : List Int) (s : List Int × List Int) r, s.2 = u :: r → ∃ r', (l.foldl bfs s).2 = u :: r' := by
      intro l
      induction l with
      | nil => intro s r h; exact ⟨r, h⟩
      | cons z l ih =>
        intro s r h
        rw [List.foldl_cons]
        unfold bfs
        split
        · exact ih s r h
        · exact ih _ (r ++ [z]) (by simp [h])
    exact this D (seen, u :: rest) rest rfl
  obtain ⟨r, hr⟩ := hhead
  refine ⟨fun x hx => ?_, once_bfs D (seen, u :: rest) h.once, fun v hv => ?_, fun x hx => ?_⟩
  · rcases (hm x).1.1 hx with h1 | h1
    · exact h.reach x h1
    · rw [← hD] at h1; exact hsuc x h1
  · by_cases e : v = u
    · right
      subst e
      intro y hy
      rw [hD] at hy
      exact (hm y).1.2 (.inr hy)
    · have hin : v ∈ u :: r → v ∈ r := fun h => by
        rcases List.mem_cons.1 h with h | h
        · exact absurd h e
        · exact h
      rcases hv with hv | hv
      · rcases h.done v (.inl hv) with h1 | h1
        · left
          have := (hm v).2.2.1 h1
          rw [hr] at this ⊢
          exact hin this
        · right
          intro y hy
          exact (hm y).1.2 (.inl (h1 y hy))
      · rcases (hm v).2.2.2 hv with h1 | h1
        · rcases h.done v (.inr h1) with h2 | h2
          · left
            have := (hm v).2.2.1 h2
            rw [hr] at this ⊢
            exact hin this
          · right
            intro y hy
            exact (hm y).1.2 (.inl (h2 y hy))
        · left
          rw [hr] at h1 ⊢
          exact hin h1
  · have hx' : x ∈ (D.foldl bfs (seen, u :: rest)).2 := by rw [hr] at hx ⊢; exact List.mem_cons_of_mem _ hx
    rcases (hm x).2.1 hx' with h1 | h1
    · rcases h.left x h1 with h2 | h2
      · exact .inl h2
      · exact .inr ((hm x).1.2 (.inl h2))
    · exact .inr ((hm x).1.2 (.inr h1))
/-- At the end the search has all. -/
theorem Bfs.fin {p : ProjT} {a b : Int} {seen : List Int} (hp : projOk p = true) (ha : inB a 0 ((p.2.1.length : Int) - 1) = true) (h : Bfs p a seen []) : hasB b seen = reachB p a b := by
  have hall : ∀ n x, x ∈ reachS p a n → x ∈ seen := by
    intro n
    induction n with
    | zero =>
      intro x hx
      have hx' : x ∈ sideV p a false := by
        have : sucV p a = sideV p a false := if_pos ⟨hp, ha⟩
        rw [← this]; exact hx
      rcases h.done a (.inl rfl) with h1 | h1
      · cases h1
      · exact h1 x hx'
    | succ n ih =>
      intro x hx
      rcases (stepS_mem _ _ _).1 hx with h1 | ⟨z, hz, h1⟩
      · exact ih x h1
      · rcases h.done z (.inr (ih z hz)) with h2 | h2
        · cases h2
        · exact h2 x h1
  unfold reachB
  rw [hp, Bool.true_and]
  rw [Bool.eq_iff_iff, hasB_iff, hasB_iff]
  exact ⟨fun hb => by obtain ⟨n, hn⟩ := h.reach b hb; exact reach_all hp a n b hn, hall _ b⟩
/-- Out of range: nothing. -/
theorem reach_out {p : ProjT} {a : Int} (ha : inB a 0 ((p.2.1.length : Int) - 1) = false) : ∀ n, reachS p a n = [] := by
  intro n
  induction n with
  | zero => exact if_neg (by rw [ha]; simp)
  | succ n ih => show stepS p (reachS p a n) = []; rw [ih]; rfl
theorem reachB_a {p : ProjT} {a b : Int} (ha : inB a 0 ((p.2.1.length : Int) - 1) = false) : reachB p a b = false := by
  unfold reachB; rw [reach_out ha]; simp [hasB]
theorem reachB_b {p : ProjT} {a b : Int} (hb : inB b 0 ((p.2.1.length : Int) - 1) = false) : reachB p a b = false := by
  unfold reachB
  cases hp : projOk p
  · rfl
  · rw [Bool.true_and, hasB_iff']
    intro hm
    have := (reachS_set hp a _).2 b hm
    unfold inB at hb
    rw [decide_eq_true this.1, decide_eq_true (show b ≤ (p.2.1.length : Int) - 1 from by omega)] at hb
    cases hb
theorem reachB_p {p : ProjT} {a b : Int} (hp : projOk p = false) : reachB p a b = false := by unfold reachB; rw [hp]; rfl
end Go.Proofs.Ytiaamddhocdhaaa
end

/- OrderF -/
section
namespace Go.Proofs.Ytiaamddhocdhaaa
open Go.RowKit
set_option linter.unusedVariables false

theorem topoR_empty {p : ProjT} (h : p.2.2.1.length = 0) : ∀ k, k ≤ p.2.1.length → topoR p k = rangeL k := by
  intro k
  induction k with
  | zero => intro _; rfl
  | succ k ih =>
    intro hk
    have h1 := ih (by omega)
    rw [topoR_yes (a := k) (idxV_hit (by omega) ?_ ?_), h1, rangeL_succ]
    · unfold freeB readyB
      rw [h1, h, (hasB_iff' _ _).2 (fun hm => by have := rangeL_has.1 hm; omega)]
      rfl
    · intro j hj
      unfold freeB
      rw [h1, (hasB_iff _ _).2 (rangeL_has.2 ⟨by omega, by omega⟩)]
      rfl
theorem order_links {p : ProjT} (hp : projOk p = true) (h : topoB p = false) : 0 < p.2.2.1.length := by
  rcases Nat.eq_zero_or_pos p.2.2.1.length with h0 | h0
  · exfalso
    have h1 := topoR_empty h0 p.2.1.length (Nat.le_refl _)
    have := (topo_full hp (by rw [h1, rangeL_length])).1
    rw [h] at this
    cases this
  · exact h0
theorem getD_sn_lt {l : List Int} {a : Int} {i : Nat} (h : i < l.length) : (l ++ [a]).getD i 0 = l.getD i 0 := by
  simp only [List.getD_eq_getElem?_getD]
  rw [List.getElem?_append_left h]
theorem getD_sn_at (l : List Int) (a : Int) : (l ++ [a]).getD l.length 0 = a := by simp [List.getD_eq_getElem?_getD]
theorem ordD_in {l : List Int} {i : Nat} (h : i < l.length) : l.getD i 0 ∈ l := by
  rw [List.getD_eq_getElem?_getD, List.getElem?_eq_getElem h]
  exact List.getElem_mem h
theorem ordD_at {l : List Int} {x : Int} (h : x ∈ l) : ∃ i, i < l.length ∧ l.getD i 0 = x := by
  obtain ⟨i, hi, rfl⟩ := List.getElem_of_mem h
  exact ⟨i, hi, by rw [List.getD_eq_getElem?_getD, List.getElem?_eq_getElem hi]; rfl⟩
/-- The order so far: no number twice, each behind those that its links ask for. -/
structure OrdR (p : ProjT) (l : List Int) : Prop where
  inr : InR p l
  onc : Once l
  dif : ∀ i j, i < j → j < l.length → l.getD i 0 ≠ l.getD j 0
  pre : ∀ j, j < l.length → readyB p (l.take j) (l.getD j 0) = true
theorem OrdR.snoc {p : ProjT} {l : List Int} {a : Nat} (h : OrdR p l) (ha : a < p.2.1.length) (hf : freeB p l a = true) : OrdR p (l ++ [(a : Int)]) := by
  unfold freeB at hf
  simp only [Bool.and_eq_true, Bool.not_eq_true'] at hf
  have hn : ¬ (a : Int) ∈ l := (hasB_iff' _ _).1 hf.1
  refine ⟨fun x hx => ?_, once_snoc h.onc hn, fun i j hij hj => ?_, fun j hj => ?_⟩
  · rcases List.mem_append.1 hx with hx | hx
    · exact h.inr x hx
    · rw [List.mem_singleton.1 hx]; omega
  · simp at hj
    by_cases e : j < l.length
    · rw [getD_sn_lt e, getD_sn_lt (by omega)]; exact h.dif i j hij e
    · obtain rfl : j = l.length := by omega
      rw [getD_sn_at, getD_sn_lt hij]
      exact fun he => hn (he ▸ ordD_in hij)
  · simp at hj
    by_cases e : j < l.length
    · rw [getD_sn_lt e, List.take_append_of_le_length (by omega)]; exact h.pre j e
    · obtain rfl : j = l.length := by omega
      rw [getD_sn_at, List.take_left']
      · exact hf.2
      · rfl
theorem topoR_ord (p : ProjT) : ∀ k, OrdR p (topoR p k) := by
  intro k
  induction k with
  | zero =>
    show OrdR p []
    exact { inr := fun x hx => (by cases hx), onc := rfl, dif := fun i j _ hj => absurd hj (Nat.not_lt_zero _), pre := fun j hj => absurd hj (Nat.not_lt_zero _) }
  | succ k ih =>
    cases hf : (List.range p.2.1.length).find? (freeB p (topoR p k)) with
    | none => rw [topoR_no hf]; exact ih
    | some a =>
      rw [topoR_yes hf]
      exact ih.snoc (List.mem_range.1 (List.mem_of_find?_eq_some hf)) (List.find?_some hf)
theorem rangeL_inc (n : Nat) : Inc (rangeL n) := by
  unfold Inc rangeL
  rw [List.pairwise_map]
  exact List.pairwise_lt_range.imp (fun h => by omega)
theorem OrdR.set {p : ProjT} {l : List Int} (h : OrdR p l) (hl : l.length = p.2.1.length) : setL l = rangeL p.2.1.length := by
  refine inc_ext (setL_inc l) (rangeL_inc _) fun x => ⟨fun hx => rangeL_has.2 (h.inr x ((setL_mem l x).1 hx)), fun hx => ?_⟩
  refine Classical.byContradiction fun hn => ?_
  have h1 := inc_lt_len (setL_inc l) (rangeL_inc p.2.1.length) (fun y hy => rangeL_has.2 (h.inr y ((setL_mem l y).1 hy))) ⟨x, hx, hn⟩
  have h2 : (setL l).length = l.length := h.onc
  rw [rangeL_length] at h1
  omega
/-- The places of the first k of the order. -/
def atV (n : Nat) (o : List Int) : Nat → List Int
  | 0 => List.replicate n 0
  | k + 1 => (atV n o k).set (o.getD k 0).toNat (k : Int)
theorem atV_length (n : Nat) (o : List Int) : ∀ k, (atV n o k).length = n := by
  intro k
  induction k with
  | zero => simp [atV]
  | succ k ih => simp [atV, ih]
theorem atV_at {p : ProjT} {l : List Int} (h : OrdR p l) : ∀ k, k ≤ l.length → ∀ i, i < k → (atV p.2.1.length l k).getD (l.getD i 0).toNat 0 = i := by
  intro k
  induction k with
  | zero => intro _ i hi; cases hi
  | succ k ih =>
    intro hk i hi
    have hb := h.inr _ (ordD_in (show k < l.length by omega))
    have hbi := h.inr _ (ordD_in (show i < l.length by omega))
    simp only [atV, List.getD_eq_getElem?_getD]
    by_cases e : i = k
    · subst e
      rw [List.getElem?_set_self (by rw [atV_length]; simp only [List.getD_eq_getElem?_getD] at hb; omega)]
      rfl
    · have hd := h.dif i k (by omega) (by omega)
      rw [List.getElem?_set_ne (by simp only [List.getD_eq_getElem?_getD] at hb hbi hd; omega)]
      have := ih (by omega) i (by omega)
      simpa only [List.getD_eq_getElem?_getD] using this
theorem OrdR.after {p : ProjT} {l : List Int} (h : OrdR p l) (hl : l.length = p.2.1.length) {j : Nat} (hj : j < p.2.2.1.length) (hb : 0 ≤ (p.2.2.1.getD j zLink).2.1 ∧ (p.2.2.1.getD j zLink).2.1 < (p.2.1.length : Int)) (hg : 0 < fullGapV p (p.2.2.1.getD j zLink)) :
    (atV p.2.1.length l l.length).getD (p.2.2.1.getD j zLink).1.toNat 0 ≤ (atV p.2.1.length l l.length).getD (p.2.2.1.getD j zLink).2.1.toNat 0 := by
  have hm : (p.2.2.1.getD j zLink).2.1 ∈ l := (setL_mem l _).1 (by rw [h.set hl]; exact rangeL_has.2 hb)
  obtain ⟨jb, hjb, e⟩ := ordD_at hm
  have hr := h.pre jb hjb
  unfold readyB at hr
  simp only [Bool.not_eq_true', List.any_eq_false] at hr
  have h1 := hr j (List.mem_range.2 hj)
  unfold barsB at h1
  rw [e, decide_eq_true rfl, decide_eq_true hg] at h1
  simp only [Bool.true_and, Bool.not_eq_true', Bool.not_eq_false] at h1
  have h2 := (hasB_iff _ _).1 h1
  obtain ⟨ia, hia, e2⟩ := ordD_at h2
  have hlt : ia < jb := by simp at hia; omega
  have e3 : l.getD ia 0 = (p.2.2.1.getD j zLink).1 := by
    rw [← e2]
    simp only [List.getD_eq_getElem?_getD]
    rw [List.getElem?_take_of_lt hlt]
  rw [← e, ← e3, atV_at h _ (Nat.le_refl _) ia (by omega), atV_at h _ (Nat.le_refl _) jb hjb]
  omega
theorem sideTo_has {ls : List LinkT} {a : Int} {back : Bool} {i : Nat} (h : sideB a back (ls.getD i zLink) = true) : ∀ j, i < j → sideE back (ls.getD i zLink) ∈ sideTo ls a back j := by
  intro j
  induction j with
  | zero => intro hj; cases hj
  | succ j ih =>
    intro hj
    by_cases e : i = j
    · subst e
      rw [sideTo_yes h]
      exact List.mem_append_right _ (List.mem_singleton.2 rfl)
    · have := ih (by omega)
      simp only [sideTo]
      split
      · exact List.mem_append_left _ this
      · exact this
theorem order_in {n : Nat} {a : Int} (h : 0 ≤ a ∧ a < (n : Int)) : inB a 0 ((n : Int) - 1) = true := by simp only [inB, Bool.and_eq_true, decide_eq_true_eq]; omega
theorem order_suc {p : ProjT} (hp : projOk p = true) {j : Nat} (hj : j < p.2.2.1.length) : hasB (p.2.2.1.getD j zLink).2.1 (sucV p (p.2.2.1.getD j zLink).1) = true := by
  obtain ⟨⟨a1, e1, h1⟩, ⟨a2, e2, h2⟩, -⟩ := linkOk_bd (projOk_link hp hj)
  rw [hasB_iff]
  unfold sucV nbrV
  rw [if_pos ⟨hp, order_in (by rw [e1]; omega)⟩]
  unfold sideV
  rw [setL_mem]
  exact sideTo_has (ls := p.2.2.1) (back := false) (i := j) (by unfold sideB; simp) _ hj
theorem order_pre {p : ProjT} (hp : projOk p = true) {j : Nat} (hj : j < p.2.2.1.length) : hasB (p.2.2.1.getD j zLink).1 (preV p (p.2.2.1.getD j zLink).2.1) = true := by
  obtain ⟨⟨a1, e1, h1⟩, ⟨a2, e2, h2⟩, -⟩ := linkOk_bd (projOk_link hp hj)
  rw [hasB_iff]
  unfold preV nbrV
  rw [if_pos ⟨hp, order_in (by rw [e2]; omega)⟩]
  unfold sideV
  rw [setL_mem]
  exact sideTo_has (ls := p.2.2.1) (back := true) (i := j) (by unfold sideB; simp) _ hj
theorem order_reach {p : ProjT} (hp : projOk p = true) {j : Nat} (hj : j < p.2.2.1.length) : reachB p (p.2.2.1.getD j zLink).1 (p.2.2.1.getD j zLink).2.1 = true := by
  unfold reachB
  rw [hp, (hasB_iff _ _).2 (reachS_le (Nat.zero_le _) (show _ ∈ reachS p _ 0 from (hasB_iff _ _).1 (order_suc hp hj)))]
  rfl
theorem order_roots {p : ProjT} (hp : projOk p = true) : (rootV p).length ≤ p.2.1.length := by
  unfold rootV
  rw [if_pos hp]
  exact rootTo_le _ _
/-- A full order's facts. -/
theorem order_full {p : ProjT} (hp : projOk p = true) (h : topoB p = true) : OrdR p (topoV p) ∧ (topoV p).length = p.2.1.length := by
  have e : topoV p = topoR p p.2.1.length := by unfold topoV; rw [if_pos h]
  unfold topoB at h
  simp only [Bool.and_eq_true, decide_eq_true_eq] at h
  rw [e]
  exact ⟨topoR_ord p _, h.2⟩
end Go.Proofs.Ytiaamddhocdhaaa
end

/- Topo -/
section
namespace Go.Proofs.Ytiaamddhocdhaaa
open Go.ChangeShapes Go.WideShapes Go.ChangeAt Go.RowKit
set_option linter.unusedVariables false

set_option maxHeartbeats 400000 in
theorem closBar_any (p : ProjT) (S : Nat → Prop) (p1 : Option Addr) (k1 : Nat) (p2 : Option Addr) (k2 : Nat) (p3 : Option Addr) (k3 : Nat) (p4 : Option Addr) (k4 : Nat) (done : List Int) (q : Option Addr) (cap : Nat) (V : Nat → Prop) (BP BO BI : Nat) (i : Int) (k : LinkT) (w : World) (hx : projR S w [.int .i64 p.1, .slice p1 p.2.1.length k1, .slice p2 p.2.2.1.length k2, .slice p3 p.2.2.2.1.length k3, .slice p4 p.2.2.2.2.length k4] p) (hS : ∀ b, S b → b < w.heap.size) (hp : projOk p = true) (hd : intsR V w [.slice q done.length cap] done) (hV : ∀ b, V b → b < w.heap.size) (hb : w.cell? ⟨BP, 0, none⟩ = some (.int .i64 p.1) ∧ w.cell? ⟨BP, 1, none⟩ = some (.slice p1 p.2.1.length k1) ∧ w.cell? ⟨BP, 2, none⟩ = some (.slice p2 p.2.2.1.length k2) ∧ w.cell? ⟨BP, 3, none⟩ = some (.slice p3 p.2.2.2.1.length k3) ∧ w.cell? ⟨BP, 4, none⟩ = some (.slice p4 p.2.2.2.2.length k4) ∧ w.cell? ⟨BO, 0, none⟩ = some (.slice q done.length cap) ∧ w.cell? ⟨BI, 0, none⟩ = some (.int .i64 i)) (hk : linkOkB p.2.1.length k = true) :
    Calls Try.prog 102 #[.agg #[.int .i64 k.1, .int .i64 k.2.1, .bool k.2.2.1, .int .i64 k.2.2.2], .pointer (some ⟨BI, 0, none⟩), .pointer (some ⟨BP, 0, none⟩), .pointer (some ⟨BO, 0, none⟩)] w fun e w' => e = .returned (.bool (barsB p done i k)) ∧ Bel w w' := by
  have HP := Lib.hid hx
  have HS := Lib.hid hS
  have HPO := Lib.hid hp
  have HD := Lib.hid hd
  have HV := Lib.hid hV
  have HK := Lib.hid hk
  obtain ⟨b0, b1, b2, b3, b4, bo, bi⟩ := hb
  have ab0 := fun o => ((Bel.refl w).alloc o).cell b0
  have ab1 := fun o => ((Bel.refl w).alloc o).cell b1
  have ab2 := fun o => ((Bel.refl w).alloc o).cell b2
  have ab3 := fun o => ((Bel.refl w).alloc o).cell b3
  have ab4 := fun o => ((Bel.refl w).alloc o).cell b4
  have abo := fun o => ((Bel.refl w).alloc o).cell bo
  have abi := fun o => ((Bel.refl w).alloc o).cell bi
  clear hx hS hp hd hV hk
  go_enter Try.func102, Try.ntmps102
  by_cases h1 : k.2.1 = i
  rotate_left
  · have z1 : (k.2.1 == i) = false := by simpa using h1
    have HF := Lib.hid (show barsB p done i k = false from by unfold barsB; rw [decide_eq_false h1]; rfl)
    clear h1
    go_wp2
    go_ret
    exact ⟨ret_bool HF.out.symm, by (repeat (first | assumption | exact Bel.refl _ | apply Bel.drewN | apply Bel.drew | apply Bel.alloc | refine Bel.trans ?_ (by assumption)))⟩
  have z1 : (k.2.1 == i) = true := by simpa using h1
  have HF1 := Lib.hid (show barsB p done i k = (decide (0 < fullGapV p k) && !hasB k.1 done) from by unfold barsB; rw [decide_eq_true h1]; rfl)
  clear h1
  go_wp2_with fail
  refine (fullGap_any _ p S k _ (aggR_mk (projR_good.bel HP.out (by (repeat (first | assumption | exact Bel.refl _ | apply Bel.drewN | apply Bel.drew | apply Bel.alloc | refine Bel.trans ?_ (by assumption)))) HS.out)) (fun b hb => Nat.lt_of_lt_of_le (HS.out b hb) (Bel.size (by (repeat (first | assumption | exact Bel.refl _ | apply Bel.drewN | apply Bel.drew | apply Bel.alloc | refine Bel.trans ?_ (by assumption)))))) HPO.out HK.out).mono ?_
  rintro e w1 ⟨rfl, g1⟩
  have bo := g1.cell (abo _)
  have kc0 := g1.cell (p := ⟨w.heap.size, 0, none⟩) (v := .int .i64 k.1) (by simp [go_sem])
  have kc1 := g1.cell (p := ⟨w.heap.size, 1, none⟩) (v := .int .i64 k.2.1) (by simp [go_sem])
  have kc2 := g1.cell (p := ⟨w.heap.size, 2, none⟩) (v := .bool k.2.2.1) (by simp [go_sem])
  have kc3 := g1.cell (p := ⟨w.heap.size, 3, none⟩) (v := .int .i64 k.2.2.2) (by simp [go_sem])
  have G1 : Bel w w1 := by (repeat (first | assumption | exact Bel.refl _ | apply Bel.drewN | apply Bel.drew | apply Bel.alloc | refine Bel.trans ?_ (by assumption)))
  clear ab0 ab1 ab2 ab3 ab4 abo abi b0 b1 b2 b3 b4 bi
  by_cases h2 : 0 < fullGapV p k
  rotate_left
  · have HF := Lib.hid (show barsB p done i k = false from by rw [HF1.out, decide_eq_false h2]; rfl)
    generalize fullGapV p k = G at *
    go_wp2
    go_ret
    exact ⟨ret_bool HF.out.symm, by (repeat (first | assumption | exact Bel.refl _ | apply Bel.drewN | apply Bel.drew | apply Bel.alloc | refine Bel.trans ?_ (by assumption)))⟩
  have HF := Lib.hid (show barsB p done i k = !hasB k.1 done from by rw [HF1.out, decide_eq_true h2]; rfl)
  clear HF1
  generalize fullGapV p k = G at *
  go_wp2_with fail
  refine (containsInts_any _ done _ V _ (intsR_good.bel HD.out (by (repeat (first | assumption | exact Bel.refl _ | apply Bel.drewN | apply Bel.drew | apply Bel.alloc | refine Bel.trans ?_ (by assumption)))) HV.out)).mono ?_
  rintro e w2 ⟨rfl, rfl⟩
  go_wp2
  go_ret
  exact ⟨ret_bool HF.out.symm, by (repeat (first | assumption | exact Bel.refl _ | apply Bel.drewN | apply Bel.drew | apply Bel.alloc | refine Bel.trans ?_ (by assumption)))⟩

set_option maxHeartbeats 400000 in
theorem indexBar_any (c : Nat → Bool) (B0 B1 B2 : Nat) (v : Value) (xs : List LinkT) (S : Nat → Prop) (w : World) (hx : linksR S w [v] xs) (hS : ∀ b, S b → b < w.heap.size)
    (hcl : ∀ W, Bel w W → ∀ j, j < xs.length → Calls Try.prog 102 #[.agg #[.int .i64 (xs.getD j zLink).1, .int .i64 (xs.getD j zLink).2.1, .bool (xs.getD j zLink).2.2.1, .int .i64 (xs.getD j zLink).2.2.2], .pointer (some ⟨B0, 0, none⟩), .pointer (some ⟨B1, 0, none⟩), .pointer (some ⟨B2, 0, none⟩)] W fun e w' => e = .returned (.bool (c j)) ∧ Bel W w') :
    Calls Try.prog 156 #[v, .func (.func 102) #[] #[.pointer (some ⟨B0, 0, none⟩), .pointer (some ⟨B1, 0, none⟩), .pointer (some ⟨B2, 0, none⟩)]] w fun e w' => e = .returned (.int .i64 (idxV c xs.length)) ∧ Bel w w' := by
  have HM := Lib.hid hx
  have HS := Lib.hid hS
  have HCL := Lib.hid hcl
  obtain ⟨p2, k2, hv, l2, l2', hr⟩ := sliceR_open hx
  clear hr
  subst hv
  unfold maxLen at l2'
  clear hx hS hcl
  go_enter Try.func156, Try.ntmps156
  go_wp2_with fail
  go_loopw [8] (fun i wr => ∃ (k : Nat), k ≤ xs.length ∧ i = .int .i64 k ∧ (∀ j, j < k → c j = false) ∧ Bel w wr) (fun i _ => xs.length - (intOf i).toNat)
  case atStart => exact ⟨0, Nat.zero_le _, rfl, fun j hj => by omega, by (repeat (first | assumption | exact Bel.refl _ | apply Bel.drewN | apply Bel.drew | apply Bel.alloc | refine Bel.trans ?_ (by assumption)))⟩
  case round =>
    obtain ⟨k, hk, rfl, hall, hB⟩ := hrel
    have HA := Lib.hid hall; clear hall
    by_cases hlt : k < xs.length
    · obtain ⟨b, off, ecs, ea, hrow, hel⟩ := sliceR_at zLink HM.out hlt
      obtain rfl : p2 = some ⟨b, off, none⟩ := ea
      have HC := Lib.hid (HCL.out wr hB k hlt)
      generalize xs.getD k zLink = X at *
      obtain ⟨rfl, eq0, eq1, eq3⟩ := linkR_open hel
      have ed := fun i hi => hB.cell (hrow i hi).1
      have ed0 := ed 0 (by simp)
      have ed1 := ed 1 (by simp)
      have ed2 := ed 2 (by simp)
      have ed3 := ed 3 (by simp)
      simp only [List.getElem_cons_zero, List.getElem_cons_succ, Nat.add_zero] at ed0 ed1 ed2 ed3
      clear hrow hel eq0 eq1 eq3 ed
      go_wp2_with fail
      refine (HC.out).mono ?_
      rintro e w1 ⟨rfl, g1⟩
      have G : Bel w w1 := by (repeat (first | assumption | exact Bel.refl _ | apply Bel.drewN | apply Bel.drew | apply Bel.alloc | refine Bel.trans ?_ (by assumption)))
      cases hb : c k
      · have HBk := Lib.hid hb; clear hb
        go_wp2
        go_roundw
        case rel =>
          refine ⟨k + 1, by omega, by go_num, fun j hj => ?_, G⟩
          by_cases e : j < k
          · exact HA.out j e
          · obtain rfl : j = k := by omega
            exact HBk.out
        case measure => simp [intOf]; omega
      · have HE := Lib.hid (show idxV c xs.length = k from by unfold idxV; rw [idxV_hit hlt hb HA.out])
        clear hb
        go_wp2
        go_ret
        exact ⟨ret_int HE.out.symm, G⟩
    · have HE := Lib.hid (show idxV c xs.length = -1 from by unfold idxV; rw [idxV_miss fun j hj => HA.out j (by omega)])
      go_wp2
      go_ret
      exact ⟨ret_int HE.out.symm, hB⟩

theorem containsBar_any (c : Nat → Bool) (B0 B1 B2 : Nat) (v : Value) (xs : List LinkT) (S : Nat → Prop) (w : World) (hx : linksR S w [v] xs) (hS : ∀ b, S b → b < w.heap.size)
    (hcl : ∀ W, Bel w W → ∀ j, j < xs.length → Calls Try.prog 102 #[.agg #[.int .i64 (xs.getD j zLink).1, .int .i64 (xs.getD j zLink).2.1, .bool (xs.getD j zLink).2.2.1, .int .i64 (xs.getD j zLink).2.2.2], .pointer (some ⟨B0, 0, none⟩), .pointer (some ⟨B1, 0, none⟩), .pointer (some ⟨B2, 0, none⟩)] W fun e w' => e = .returned (.bool (c j)) ∧ Bel W w') :
    Calls Try.prog 101 #[v, .func (.func 102) #[] #[.pointer (some ⟨B0, 0, none⟩), .pointer (some ⟨B1, 0, none⟩), .pointer (some ⟨B2, 0, none⟩)]] w fun e w' => e = .returned (.bool ((List.range xs.length).any c)) ∧ Bel w w' := by
  have HM := Lib.hid hx
  have HS := Lib.hid hS
  have HCL := Lib.hid hcl
  clear hx hS hcl
  have HF : (idxV c xs.length = -1 ∧ (List.range xs.length).any c = false) ∨ (0 ≤ idxV c xs.length ∧ (List.range xs.length).any c = true) := by
    unfold idxV
    cases h : (List.range xs.length).find? c with
    | none => exact Or.inl ⟨rfl, any_miss fun j hj => by simpa using List.find?_eq_none.1 h j (List.mem_range.2 hj)⟩
    | some k => exact Or.inr ⟨Int.natCast_nonneg k, any_hit (List.mem_range.1 (List.mem_of_find?_eq_some h)) (List.find?_some h)⟩
  go_enter Try.func101, Try.ntmps101
  go_wp2_with fail
  refine (indexBar_any c B0 B1 B2 v xs S _ HM.out HS.out HCL.out).mono ?_
  rintro e w1 ⟨rfl, g1⟩
  generalize idxV c xs.length = r at *
  rcases HF with ⟨rfl, hf⟩ | ⟨hr, hf⟩
  · have H := Lib.hid hf; clear hf
    go_wp2
    go_ret
    exact ⟨ret_bool H.out.symm, g1⟩
  · have H := Lib.hid hf; clear hf
    go_wp2
    go_ret
    exact ⟨ret_bool (by rw [H.out]; first | done | simpa using hr), g1⟩

set_option maxHeartbeats 400000 in
theorem closFree_any (p : ProjT) (S : Nat → Prop) (p1 : Option Addr) (k1 : Nat) (p2 : Option Addr) (k2 : Nat) (p3 : Option Addr) (k3 : Nat) (p4 : Option Addr) (k4 : Nat) (done : List Int) (q : Option Addr) (cap : Nat) (V : Nat → Prop) (BP BO : Nat) (j : Nat) (ec : Value) (w : World) (hx : projR S w [.int .i64 p.1, .slice p1 p.2.1.length k1, .slice p2 p.2.2.1.length k2, .slice p3 p.2.2.2.1.length k3, .slice p4 p.2.2.2.2.length k4] p) (hS : ∀ b, S b → b < w.heap.size) (hp : projOk p = true) (hd : intsR V w [.slice q done.length cap] done) (hV : ∀ b, V b → b < w.heap.size) (hb : w.cell? ⟨BP, 0, none⟩ = some (.int .i64 p.1) ∧ w.cell? ⟨BP, 1, none⟩ = some (.slice p1 p.2.1.length k1) ∧ w.cell? ⟨BP, 2, none⟩ = some (.slice p2 p.2.2.1.length k2) ∧ w.cell? ⟨BP, 3, none⟩ = some (.slice p3 p.2.2.2.1.length k3) ∧ w.cell? ⟨BP, 4, none⟩ = some (.slice p4 p.2.2.2.2.length k4) ∧ w.cell? ⟨BO, 0, none⟩ = some (.slice q done.length cap)) (hj : j < p.2.1.length) :
    Calls Try.prog 99 #[.agg #[.string (p.2.1.getD j zAct).1, .int .i64 (p.2.1.getD j zAct).2.1, ec], .pointer (some ⟨BP, 0, none⟩), .pointer (some ⟨BO, 0, none⟩)] w fun e w' => e = .returned (.bool (freeB p done j)) ∧ Bel w w' := by
  have HP := Lib.hid hx
  have HS := Lib.hid hS
  have HPO := Lib.hid hp
  have HD := Lib.hid hd
  have HV := Lib.hid hV
  have HNM := Lib.hid (projOk_name hp hj)
  have HBX := Lib.hid hb
  obtain ⟨b0, b1, b2, b3, b4, bo⟩ := hb
  have HQ := Lib.hid (show linksR S w [.slice p2 p.2.2.1.length k2] p.2.2.1 from by
    obtain ⟨c1, c2, c3, c4, ez, q0, q1, q2, q3, q4⟩ := projR_open hx
    simp at ez
    obtain ⟨rfl, rfl, rfl, rfl⟩ := ez
    exact q2)
  have ab0 := fun o => ((Bel.refl w).alloc o).cell b0
  have ab1 := fun o => ((Bel.refl w).alloc o).cell b1
  have ab2 := fun o => ((Bel.refl w).alloc o).cell b2
  have ab3 := fun o => ((Bel.refl w).alloc o).cell b3
  have ab4 := fun o => ((Bel.refl w).alloc o).cell b4
  have abo := fun o => ((Bel.refl w).alloc o).cell bo
  clear hx hS hp hd hV hj
  generalize p.2.1.getD j zAct = X at *
  go_enter Try.func99, Try.ntmps99
  go_wp2_with fail
  refine (iActivityIndex_any _ p X.1 S _ (aggR_mk (projR_good.bel HP.out (by (repeat (first | assumption | exact Bel.refl _ | apply Bel.drewN | apply Bel.drew | apply Bel.alloc | refine Bel.trans ?_ (by assumption)))) HS.out)) (fun b hb => Nat.lt_of_lt_of_le (HS.out b hb) (Bel.size (by (repeat (first | assumption | exact Bel.refl _ | apply Bel.drewN | apply Bel.drew | apply Bel.alloc | refine Bel.trans ?_ (by assumption))))))).mono ?_
  rintro e w1 ⟨rfl, g1⟩
  rw [HNM.out]
  have b0 := g1.cell (ab0 _)
  have b1 := g1.cell (ab1 _)
  have b2 := g1.cell (ab2 _)
  have b3 := g1.cell (ab3 _)
  have b4 := g1.cell (ab4 _)
  have bo := g1.cell (abo _)
  have G1 : Bel w w1 := by (repeat (first | assumption | exact Bel.refl _ | apply Bel.drewN | apply Bel.drew | apply Bel.alloc | refine Bel.trans ?_ (by assumption)))
  clear ab0 ab1 ab2 ab3 ab4 abo
  have ab0 := fun o => ((Bel.refl w1).alloc o).cell b0
  have ab1 := fun o => ((Bel.refl w1).alloc o).cell b1
  have ab2 := fun o => ((Bel.refl w1).alloc o).cell b2
  have ab3 := fun o => ((Bel.refl w1).alloc o).cell b3
  have ab4 := fun o => ((Bel.refl w1).alloc o).cell b4
  have abo := fun o => ((Bel.refl w1).alloc o).cell bo
  go_wp2_with fail
  refine (containsInts_any _ done _ V _ (intsR_good.bel HD.out (by (repeat (first | assumption | exact Bel.refl _ | apply Bel.drewN | apply Bel.drew | apply Bel.alloc | refine Bel.trans ?_ (by assumption)))) HV.out)).mono ?_
  rintro e w2 ⟨rfl, rfl⟩
  cases hh : hasB (j : Int) done
  rotate_left
  · have HF := Lib.hid (show freeB p done j = false from by unfold freeB; rw [hh]; rfl)
    clear hh
    go_wp2
    go_ret
    exact ⟨ret_bool HF.out.symm, by (repeat (first | assumption | exact Bel.refl _ | apply Bel.drewN | apply Bel.drew | apply Bel.alloc | refine Bel.trans ?_ (by assumption)))⟩
  have HF := Lib.hid (show freeB p done j = !(List.range p.2.2.1.length).any (fun n => barsB p done (j : Int) (p.2.2.1.getD n zLink)) from by unfold freeB readyB; rw [hh]; rfl)
  clear hh
  go_wp2_with fail
  refine (containsBar_any (fun n => barsB p done (j : Int) (p.2.2.1.getD n zLink)) _ _ _ _ p.2.2.1 S _ (linksR_good.bel HQ.out (by (repeat (first | assumption | exact Bel.refl _ | apply Bel.drewN | apply Bel.drew | apply Bel.alloc | refine Bel.trans ?_ (by assumption)))) HS.out) (fun b hb => Nat.lt_of_lt_of_le (HS.out b hb) (Bel.size (by (repeat (first | assumption | exact Bel.refl _ | apply Bel.drewN | apply Bel.drew | apply Bel.alloc | refine Bel.trans ?_ (by assumption)))))) ?_).mono ?_
  · intro W hW n hn
    exact closBar_any p S p1 k1 p2 k2 p3 k3 p4 k4 done q cap V BP BO w1.heap.size (j : Int) (p.2.2.1.getD n zLink) W (projR_good.bel HP.out (by (repeat (first | assumption | exact Bel.refl _ | apply Bel.drewN | apply Bel.drew | apply Bel.alloc | refine Bel.trans ?_ (by assumption)))) HS.out) (fun b hb => Nat.lt_of_lt_of_le (HS.out b hb) (Bel.size (by (repeat (first | assumption | exact Bel.refl _ | apply Bel.drewN | apply Bel.drew | apply Bel.alloc | refine Bel.trans ?_ (by assumption)))))) HPO.out (intsR_good.bel HD.out (by (repeat (first | assumption | exact Bel.refl _ | apply Bel.drewN | apply Bel.drew | apply Bel.alloc | refine Bel.trans ?_ (by assumption)))) HV.out) (fun b hb => Nat.lt_of_lt_of_le (HV.out b hb) (Bel.size (by (repeat (first | assumption | exact Bel.refl _ | apply Bel.drewN | apply Bel.drew | apply Bel.alloc | refine Bel.trans ?_ (by assumption)))))) ⟨hW.cell (ab0 _), hW.cell (ab1 _), hW.cell (ab2 _), hW.cell (ab3 _), hW.cell (ab4 _), hW.cell (abo _), hW.cell (by simp [go_sem])⟩ (projOk_link HPO.out hn)
  rintro e w3 ⟨rfl, g3⟩
  generalize (List.range p.2.2.1.length).any (fun n => barsB p done (j : Int) (p.2.2.1.getD n zLink)) = z at *
  go_wp2
  go_ret
  exact ⟨ret_bool HF.out.symm, by (repeat (first | assumption | exact Bel.refl _ | apply Bel.drewN | apply Bel.drew | apply Bel.alloc | refine Bel.trans ?_ (by assumption)))⟩

set_option maxHeartbeats 400000 in
theorem indexFree_any (c : Nat → Bool) (B0 B1 : Nat) (v : Value) (xs : List ActT) (S : Nat → Prop) (w : World) (hx : actsR S w [v] xs) (hS : ∀ b, S b → b < w.heap.size)
    (hcl : ∀ W, Bel w W → ∀ j, j < xs.length → ∀ ec : Value, Calls Try.prog 99 #[.agg #[.string (xs.getD j zAct).1, .int .i64 (xs.getD j zAct).2.1, ec], .pointer (some ⟨B0, 0, none⟩), .pointer (some ⟨B1, 0, none⟩)] W fun e w' => e = .returned (.bool (c j)) ∧ Bel W w') :
    Calls Try.prog 98 #[v, .func (.func 99) #[] #[.pointer (some ⟨B0, 0, none⟩), .pointer (some ⟨B1, 0, none⟩)]] w fun e w' => e = .returned (.int .i64 (idxV c xs.length)) ∧ Bel w w' := by
  have HM := Lib.hid hx
  have HS := Lib.hid hS
  have HCL := Lib.hid hcl
  obtain ⟨p2, k2, hv, l2, l2', hr⟩ := sliceR_open hx
  clear hr
  subst hv
  unfold maxLen at l2'
  clear hx hS hcl
  go_enter Try.func98, Try.ntmps98
  go_wp2_with fail
  go_loopw [8] (fun i wr => ∃ (k : Nat), k ≤ xs.length ∧ i = .int .i64 k ∧ (∀ j, j < k → c j = false) ∧ Bel w wr) (fun i _ => xs.length - (intOf i).toNat)
  case atStart => exact ⟨0, Nat.zero_le _, rfl, fun j hj => by omega, by (repeat (first | assumption | exact Bel.refl _ | apply Bel.drewN | apply Bel.drew | apply Bel.alloc | refine Bel.trans ?_ (by assumption)))⟩
  case round =>
    obtain ⟨k, hk, rfl, hall, hB⟩ := hrel
    have HA := Lib.hid hall; clear hall
    by_cases hlt : k < xs.length
    · obtain ⟨b, off, ecs, ea, hrow, hel⟩ := sliceR_at zAct HM.out hlt
      obtain rfl : p2 = some ⟨b, off, none⟩ := ea
      have HC := Lib.hid (HCL.out wr hB k hlt)
      generalize xs.getD k zAct = X at *
      obtain ⟨ec2, rfl, eq0, eq1, eq2⟩ := actR_open hel
      have ed := fun i hi => hB.cell (hrow i hi).1
      have ed0 := ed 0 (by simp)
      have ed1 := ed 1 (by simp)
      have ed2 := ed 2 (by simp)
      simp only [List.getElem_cons_zero, List.getElem_cons_succ, Nat.add_zero] at ed0 ed1 ed2
      clear hrow hel eq0 eq1 eq2 ed
      go_wp2_with fail
      refine (HC.out _).mono ?_
      rintro e w1 ⟨rfl, g1⟩
      have G : Bel w w1 := by (repeat (first | assumption | exact Bel.refl _ | apply Bel.drewN | apply Bel.drew | apply Bel.alloc | refine Bel.trans ?_ (by assumption)))
      cases hb : c k
      · have HBk := Lib.hid hb; clear hb
        go_wp2
        go_roundw
        case rel =>
          refine ⟨k + 1, by omega, by go_num, fun j hj => ?_, G⟩
          by_cases e : j < k
          · exact HA.out j e
          · obtain rfl : j = k := by omega
            exact HBk.out
        case measure => simp [intOf]; omega
      · have HE := Lib.hid (show idxV c xs.length = k from by unfold idxV; rw [idxV_hit hlt hb HA.out])
        clear hb
        go_wp2
        go_ret
        exact ⟨ret_int HE.out.symm, G⟩
    · have HE := Lib.hid (show idxV c xs.length = -1 from by unfold idxV; rw [idxV_miss fun j hj => HA.out j (by omega)])
      go_wp2
      go_ret
      exact ⟨ret_int HE.out.symm, hB⟩

end Go.Proofs.Ytiaamddhocdhaaa
end

/- Topo2 -/
section
namespace Go.Proofs.Ytiaamddhocdhaaa
open Go.ChangeShapes Go.WideShapes Go.ChangeAt Go.RowKit
set_option linter.unusedVariables false



end Go.Proofs.Ytiaamddhocdhaaa
end

/- Topo3 -/
section
namespace Go.Proofs.Ytiaamddhocdhaaa
open Go.ChangeShapes Go.WideShapes Go.ChangeAt Go.RowKit
set_option linter.unusedVariables false

set_option maxHeartbeats 1000000 in
theorem iTopologicalOrder_any (v : Value) (p : ProjT) (S : Nat → Prop) (w : World) (hx : aggR projR S w v p) (hS : ∀ b, S b → b < w.heap.size) (_hn : bulkProject p ≤ 1048576) :
    Calls Try.prog 35 #[v] w (FreshP intsR w (topoV p) (topoB p)) := by
  obtain ⟨cs, rfl, hx⟩ := hx
  obtain ⟨c1, c2, c3, c4, rfl, q0, q1, q2, q3, q4⟩ := projR_open hx
  have Q1 := Lib.hid q1
  have Q2 := Lib.hid q2
  have Q3 := Lib.hid q3
  have Q4 := Lib.hid q4
  have HP := Lib.hid hx
  obtain ⟨p1, k1, rfl, l1, l1', -⟩ := sliceR_open q1
  obtain ⟨p2, k2, rfl, l2, l2', -⟩ := sliceR_open q2
  obtain ⟨p3, k3, rfl, l3, l3', -⟩ := sliceR_open q3
  obtain ⟨p4, k4, rfl, l4, l4', -⟩ := sliceR_open q4
  unfold maxLen at l1' l2' l3' l4'
  clear hx q0 q1 q2 q3 q4
  have HS := Lib.hid hS
  have HN := Lib.hid _hn
  clear hS _hn
  have HP1 := Lib.hid (show ∀ W, Bel w W → aggR projR S W (.agg #[.int .i64 p.1, .slice p1 p.2.1.length k1, .slice p2 p.2.2.1.length k2, .slice p3 p.2.2.2.1.length k3, .slice p4 p.2.2.2.2.length k4]) p from fun W hW => aggR_mk (projR_good.bel HP.out hW HS.out))
  show Calls Try.prog 35 #[.agg #[.int .i64 p.1, .slice p1 p.2.1.length k1, .slice p2 p.2.2.1.length k2, .slice p3 p.2.2.2.1.length k3, .slice p4 p.2.2.2.2.length k4]] w _
  go_enter Try.func35, Try.ntmps35
  go_wp2_with fail
  refine (iProjectOk_any _ p S _ (HP1.out _ (by (repeat (first | assumption | exact Bel.refl _ | apply Bel.drewN | apply Bel.drew | apply Bel.alloc | refine Bel.trans ?_ (by assumption))))) (fun b hb => Nat.lt_of_lt_of_le (HS.out b hb) (Bel.size (by (repeat (first | assumption | exact Bel.refl _ | apply Bel.drewN | apply Bel.drew | apply Bel.alloc | refine Bel.trans ?_ (by assumption))))))).mono ?_
  rintro e w1 ⟨rfl, g1⟩
  have b0 := g1.cell (p := ⟨w.heap.size, 0, none⟩) (v := .int .i64 p.1) (by simp [go_sem])
  have b1 := g1.cell (p := ⟨w.heap.size, 1, none⟩) (v := .slice p1 p.2.1.length k1) (by simp [go_sem])
  have b2 := g1.cell (p := ⟨w.heap.size, 2, none⟩) (v := .slice p2 p.2.2.1.length k2) (by simp [go_sem])
  have b3 := g1.cell (p := ⟨w.heap.size, 3, none⟩) (v := .slice p3 p.2.2.2.1.length k3) (by simp [go_sem])
  have b4 := g1.cell (p := ⟨w.heap.size, 4, none⟩) (v := .slice p4 p.2.2.2.2.length k4) (by simp [go_sem])
  have KX := Lib.hid (show ∀ W, Bel w1 W → W.cell? ⟨w.heap.size, 0, none⟩ = some (.int .i64 p.1) ∧ W.cell? ⟨w.heap.size, 1, none⟩ = some (.slice p1 p.2.1.length k1) ∧ W.cell? ⟨w.heap.size, 2, none⟩ = some (.slice p2 p.2.2.1.length k2) ∧ W.cell? ⟨w.heap.size, 3, none⟩ = some (.slice p3 p.2.2.2.1.length k3) ∧ W.cell? ⟨w.heap.size, 4, none⟩ = some (.slice p4 p.2.2.2.2.length k4) from fun W hW => ⟨hW.cell b0, hW.cell b1, hW.cell b2, hW.cell b3, hW.cell b4⟩)
  have G1 : Bel w w1 := by (repeat (first | assumption | exact Bel.refl _ | apply Bel.drewN | apply Bel.drew | apply Bel.alloc | refine Bel.trans ?_ (by assumption)))
  clear b0 b1 b2 b3 b4
  cases hp : projOk p
  · have HV := Lib.hid (topo_no hp).2
    have HTB := Lib.hid (topo_no hp).1
    clear hp
    go_wp2
    go_ret2
    exact ⟨.slice none 0 0, by rw [HTB.out]; rfl, by rw [HV.out]; exact ⟨none, 0, rfl, Nat.le_refl _, Nat.zero_le _, fun i hi => absurd hi (Nat.not_lt_zero _)⟩, by (repeat (first | assumption | exact Bel.refl _ | apply Bel.drewN | apply Bel.drew | apply Bel.alloc | refine Bel.trans ?_ (by assumption)))⟩
  have HPO := Lib.hid hp; clear hp
  have hpl := (projOk_bd HPO.out).2.1
  obtain ⟨b0, b1, b2, b3, b4⟩ := KX.out w1 (Bel.refl _)
  have hsz1 := G1.size
  have ab0 := fun o => ((Bel.refl w1).alloc o).cell b0
  have aab0 := fun o o' => (((Bel.refl w1).alloc o).alloc o').cell b0
  have ab1 := fun o => ((Bel.refl w1).alloc o).cell b1
  have aab1 := fun o o' => (((Bel.refl w1).alloc o).alloc o').cell b1
  have ab2 := fun o => ((Bel.refl w1).alloc o).cell b2
  have aab2 := fun o o' => (((Bel.refl w1).alloc o).alloc o').cell b2
  have ab3 := fun o => ((Bel.refl w1).alloc o).cell b3
  have aab3 := fun o o' => (((Bel.refl w1).alloc o).alloc o').cell b3
  have ab4 := fun o => ((Bel.refl w1).alloc o).cell b4
  have aab4 := fun o o' => (((Bel.refl w1).alloc o).alloc o').cell b4
  go_wp2_with fail
  clear b0 b1 b2 b3 b4 ab0 ab1 ab2 ab3 ab4 aab0 aab1 aab2 aab3 aab4
  go_loopw [13] (fun i wr => ∃ (k : Nat) (ys : List Int) (q : Option Addr) (cap : Nat), k ≤ p.2.1.length ∧ i = .int .i64 k ∧ ys = topoR p k ∧ ys.length = k ∧ Own (fun _ => False) 1 intR 3 w1.heap.size wr q cap ys ∧ Blk wr (w1.heap.size + 1) 25 [.slice q ys.length cap] ∧ (∀ a, q = some a → w1.heap.size + 1 ≠ a.block) ∧ Bel w1 wr) (fun i _ => p.2.1.length - (intOf i).toNat)
  case atStart => exact ⟨0, [], some ⟨w1.heap.size, 0, none⟩, 0, Nat.zero_le _, rfl, rfl, rfl, (Own.empty (alloc_at rfl) (Nat.le_refl _)).bel intR_good (by (repeat (first | assumption | exact Bel.refl _ | apply Bel.drewN | apply Bel.drew | apply Bel.alloc | refine Bel.trans ?_ (by assumption)))), Blk.new' _ (by simp), (fun a ha => by cases ha; exact Nat.succ_ne_self _), by (repeat (first | assumption | exact Bel.refl _ | apply Bel.drewN | apply Bel.drew | apply Bel.alloc | refine Bel.trans ?_ (by assumption)))⟩
  case round =>
    obtain ⟨k, ys, q, cap, hk, rfl, hys, hyl, hO, hBk, hne, hB⟩ := hrel
    obtain ⟨wo, hwo⟩ : ∃ W, W = wr := ⟨wr, rfl⟩
    subst hwo
    have HY := Lib.hid hys; clear hys
    have HYL := Lib.hid hyl
    have hyk : ys.length ≤ k := by omega
    clear hyl
    have HNE := Lib.hid hne; clear hne
    have hszr := hB.size
    have hltB := hBk.lt
    have HBK := Lib.hid hBk
    have hcO := hBk.cellv (j := 0) (by simp)
    simp only [List.getElem_cons_zero] at hcO
    clear hBk
    obtain ⟨b0, b1, b2, b3, b4⟩ := KX.out wo hB
    have hBw : Bel w wo := G1.trans hB
    have HD := Lib.hid (hO.done (T := New w1 wo) intR_good (fun b h _ => h.elim) (fun b h1 h2 => ⟨h1, h2⟩))
    by_cases hlt : k < p.2.1.length
    · go_wp2_with fail
      refine (indexFree_any (freeB p ys) w.heap.size (w1.heap.size + 1) _ p.2.1 S _ (actsR_good.bel Q1.out hBw HS.out) (fun b hb => Nat.lt_of_lt_of_le (HS.out b hb) hBw.size) ?_).mono ?_
      · intro W hW j hj ec
        exact closFree_any p S p1 k1 p2 k2 p3 k3 p4 k4 ys q cap (New w1 wo) w.heap.size (w1.heap.size + 1) j ec W (projR_good.bel HP.out (by (repeat (first | assumption | exact Bel.refl _ | apply Bel.drewN | apply Bel.drew | apply Bel.alloc | refine Bel.trans ?_ (by assumption)))) HS.out) (fun b hb => Nat.lt_of_lt_of_le (HS.out b hb) (Bel.size (by (repeat (first | assumption | exact Bel.refl _ | apply Bel.drewN | apply Bel.drew | apply Bel.alloc | refine Bel.trans ?_ (by assumption)))))) HPO.out (intsR_good.bel HD.out hW (fun b hb => hb.2)) (fun b hb => Nat.lt_of_lt_of_le hb.2 hW.size) ⟨hW.cell b0, hW.cell b1, hW.cell b2, hW.cell b3, hW.cell b4, hW.cell hcO⟩ hj
      rintro e w2 ⟨rfl, g2⟩
      have G2 : Bel w1 w2 := hB.trans g2
      cases hf : (List.range p.2.1.length).find? (freeB p ys) with
      | none =>
        have HT := Lib.hid (topo_stop hlt (by rw [← HY.out]; exact hf))
        have HI := Lib.hid (show idxV (freeB p ys) p.2.1.length = -1 from by unfold idxV; rw [hf])
        clear hf
        rw [HI.out]
        go_wp2
        go_ret2
        exact ⟨.slice none 0 0, by rw [HT.out.1]; rfl, by rw [HT.out.2]; exact ⟨none, 0, rfl, Nat.le_refl _, Nat.zero_le _, fun i hi => absurd hi (Nat.not_lt_zero _)⟩, by (repeat (first | assumption | exact Bel.refl _ | apply Bel.drewN | apply Bel.drew | apply Bel.alloc | refine Bel.trans ?_ (by assumption)))⟩
      | some a =>
        have hal : a < p.2.1.length := List.mem_range.1 (List.mem_of_find?_eq_some hf)
        have HN := Lib.hid (show topoR p (k + 1) = ys ++ [(a : Int)] from by rw [HY.out]; exact topoR_yes (by rw [← HY.out]; exact hf))
        have HI := Lib.hid (show idxV (freeB p ys) p.2.1.length = a from by unfold idxV; rw [hf])
        clear hf
        rw [HI.out]
        have hcO := g2.cell hcO
        have hsz2 := g2.size
        have hBk2 := Lib.hid (HBK.out.bel g2)
        have hcA := fun o => ((Bel.refl w2).alloc o).cell hcO
        go_wp2_with (at_builtin; refine wpList_app2 (n := 1) intR_good _ rfl _ _ 25 rfl (.int .i64 0) 8 Try.underlying25 (by kernel_rfl) rfl (by decide) (by decide) q cap ys ((a : Int)) rfl (hO.bel intR_good (by (repeat (first | assumption | exact Bel.refl _ | apply Bel.drewN | apply Bel.drew | apply Bel.alloc | refine Bel.trans ?_ (by assumption))))) _ 1 [.int .i64 (a : Int)] rfl rfl (World.news_of_block (alloc_at (by simp))) (by intro u hu; simp at hu; subst hu; rfl) (intRep (by unfold I64; omega)) (by omega) (by first | omega | (simp; omega)) ?_; intro q' cap' w' hO' hBW hsz' hOT'; obtain ⟨hh1, hh2⟩ := hOT' (w1.heap.size + 1) (by simp; omega) HNE.out; have hBk3 : Blk w' (w1.heap.size + 1) 25 [.slice q ys.length cap] := (hBk2.out.alloc _).of hh1; have hc3 := hBk3.cellv (j := 0) (by simp); simp only [List.getElem_cons_zero] at hc3; have hf3 := hBk3.frozen 0; have HB3 := Lib.hid hBk3; have HH2 := Lib.hid hh2; have HB := hBW w1 (by (repeat (first | assumption | exact Bel.refl _ | apply Bel.drewN | apply Bel.drew | apply Bel.alloc | refine Bel.trans ?_ (by assumption)))) (Nat.le_refl _); have HO' := Lib.hid hO'; clear hBW hsz' hOT' hh1 hBk3 hh2 hO')
        go_roundw
        case rel => exact ⟨k + 1, ys ++ [(a : Int)], q', cap', by omega, by go_num, HN.out.symm, by simp [HYL.out], HO'.out.setAt intR_good HH2.out _ _, by simpa using HB3.out.set 0 _, HH2.out, HB.set (Nat.le_succ _) _⟩
        case measure => simp [intOf]; omega
    · have hkn : k = p.2.1.length := by omega
      have HYF := Lib.hid (show ys = topoR p p.2.1.length from by rw [HY.out, hkn])
      have HT := Lib.hid (topo_full HPO.out (by rw [← HYF.out, HYL.out, hkn]))
      clear hkn
      go_wp2
      go_ret2
      exact ⟨.slice q ys.length cap, by rw [HT.out.1]; rfl, by rw [HT.out.2, ← HYF.out]; exact intsR_good.mono HD.out (fun b hb => ⟨Nat.le_trans hsz1 hb.1, hb.2⟩), by (repeat (first | assumption | exact Bel.refl _ | apply Bel.drewN | apply Bel.drew | apply Bel.alloc | refine Bel.trans ?_ (by assumption)))⟩

end Go.Proofs.Ytiaamddhocdhaaa
end

/- Side -/
section
namespace Go.Proofs.Ytiaamddhocdhaaa
open Go.ChangeShapes Go.WideShapes Go.ChangeAt Go.RowKit
set_option linter.unusedVariables false

theorem setR_mono {T : Nat → Prop} {w w1 w2 : World} (h1 : ∀ b, T b → w.heap.size ≤ b ∧ b < w1.heap.size) (g : w.heap.size ≤ w1.heap.size) (h2 : w1.heap.size ≤ w2.heap.size) : ∀ b, (T b ∨ New w1 w2 b) → New w w2 b := by
  intro b hb
  rcases hb with h | h
  · have := h1 b h; exact ⟨this.1, by omega⟩
  · exact ⟨by have := h.1; omega, h.2⟩
theorem take_next {xs : List Int} {k : Nat} (h : k < xs.length) : xs.take (k + 1) = xs.take k ++ [xs.getD k 0] := by
  rw [List.take_succ_eq_append_getElem h, List.getD_eq_getElem?_getD, List.getElem?_eq_getElem h, Option.getD_some]
set_option maxRecDepth 100000 in
set_option maxHeartbeats 1000000 in
theorem sSetOf_any (v : Value) (xs : List Int) (T : Nat → Prop) (w : World) (hx : intsR T w [v] xs) (hT : ∀ b, T b → b < w.heap.size) (hl : xs.length ≤ 1000) :
    Calls Try.prog 130 #[v] w (SetR (fun _ => False) w (setL xs)) := by
  have HX := Lib.hid hx
  have HI := Lib.hid (ints_mem hx)
  obtain ⟨p0, c0, rfl, l0, l0', -⟩ := sliceR_open hx
  unfold maxLen at l0'
  clear hx hT
  go_enter Try.func130, Try.ntmps130
  go_wp2_with fail
  go_loopw [3, 9] (fun o i wr => ∃ (k g off c : Nat) (ys : List Int), k ≤ xs.length ∧ i = .int .i64 k ∧ o = .slice (some ⟨g, off, none⟩) ys.length c ∧ ys = setL (xs.take k) ∧ intsR (New w wr) wr [.slice (some ⟨g, off, none⟩) ys.length c] ys ∧ Bel w wr) (fun _ i _ => xs.length - (intOf i).toNat)
  case atStart => exact ⟨0, w.heap.size, 0, 0, [], Nat.zero_le _, rfl, rfl, by simp [setL], ints_nil _ _ (Nat.zero_le _), by (repeat (first | assumption | exact Bel.refl _ | apply Bel.drewN | apply Bel.drew | apply Bel.alloc | refine Bel.trans ?_ (by assumption)))⟩
  case round =>
    obtain ⟨k, g, off, c, ys, hk, rfl, rfl, hys, hI, hB⟩ := hrel
    have HYS := Lib.hid hys
    have HIY := Lib.hid hI
    have hyl : ys.length ≤ k := by
      rw [hys]
      have h1 := setL_length (xs.take k)
      rw [List.length_take] at h1
      omega
    clear hys hI
    by_cases hlt : k < xs.length
    · obtain ⟨b, off', e1, e2⟩ := intsR_at' HX.out hlt
      obtain rfl : p0 = some ⟨b, off', none⟩ := e1
      have e2 := hB.cell e2
      have HXI := Lib.hid (show I64 (xs.getD k 0) from HI.out _ (by rw [List.getD_eq_getElem?_getD, List.getElem?_eq_getElem hlt, Option.getD_some]; exact List.getElem_mem hlt))
      have HSN := Lib.hid (show putL ys (xs.getD k 0) = setL (xs.take (k + 1)) from by rw [HYS.out, take_next hlt, setL_snoc])
      have hki : (k : Int) < (xs.length : Int) := by omega
      generalize xs.getD k 0 = X at *
      go_wp2_with fail
      refine (sPut_any g off _ c X ys (New w wr) wr rfl HIY.out (fun b hb => hb.2) HXI.out (by omega)).mono ?_
      rintro e w1 ⟨g1, off1, c1, rfl, hI1, gB⟩
      have HI1 := Lib.hid (show intsR (New w w1) w1 [.slice (some ⟨g1, off1, none⟩) (putL ys X).length c1] (putL ys X) from intsR_good.mono hI1 (setR_mono (fun b hb => hb) hB.size gB.size))
      clear hI1
      go_wp2_with fail
      go_roundw
      case rel => exact ⟨k + 1, g1, off1, c1, putL ys X, by omega, by go_num, rfl, HSN.out, HI1.out, hB.trans gB⟩
      case measure => simp [intOf]; omega
    · obtain rfl : k = xs.length := by omega
      have HE := Lib.hid (show ys = setL xs from by rw [HYS.out, List.take_length])
      go_wp2
      go_ret
      exact ⟨g, off, c, by rw [← HE.out]; rfl, by rw [← HE.out]; exact intsR_good.mono HIY.out (fun b hb => .inr hb), hB⟩

set_option maxRecDepth 100000 in
set_option maxHeartbeats 1000000 in
theorem sSetAdd_any (v : Value) (xs : List Int) (x : Int) (T : Nat → Prop) (w : World) (hx : intsR T w [v] xs) (hT : ∀ b, T b → b < w.heap.size) (hxi : I64 x) (hl : xs.length ≤ 1000) :
    Calls Try.prog 131 #[v, .int .i64 x] w (SetR (fun _ => False) w (putL (setL xs) x)) := by
  have HX := Lib.hid hx
  have HT := Lib.hid hT
  have HXI := Lib.hid hxi
  have hsl : (setL xs).length ≤ 1000 := Nat.le_trans (setL_length xs) hl
  obtain ⟨p0, c0, rfl, l0, l0', -⟩ := sliceR_open hx
  unfold maxLen at l0'
  clear hx hT hxi
  go_enter Try.func131, Try.ntmps131
  go_wp2_with fail
  refine (sSetOf_any _ xs T _ HX.out HT.out hl).mono ?_
  rintro e w1 ⟨g, off, c, rfl, hI, gB⟩
  have HIY := Lib.hid hI
  clear hI
  go_wp2_with fail
  refine (sPut_any g off _ c x (setL xs) _ w1 rfl HIY.out (fun b hb => (hb.resolve_left id).2) HXI.out hsl).mono ?_
  rintro e w2 ⟨g1, off1, c1, rfl, hI1, gB1⟩
  have HI1 := Lib.hid (show intsR (fun b => False ∨ New w w2 b) w2 [.slice (some ⟨g1, off1, none⟩) (putL (setL xs) x).length c1] (putL (setL xs) x) from intsR_good.mono hI1 (fun b hb => .inr (setR_mono (T := fun k => False ∨ New w w1 k) (fun b hb => hb.resolve_left id) gB.size gB1.size b hb)))
  clear hI1
  go_wp2
  go_ret
  exact ⟨g1, off1, c1, rfl, HI1.out, gB.trans gB1⟩

set_option maxRecDepth 100000 in
set_option maxHeartbeats 2000000 in
theorem sSide_any (v : Value) (p : ProjT) (S : Nat → Prop) (w : World) (hx : aggR projR S w v p) (hS : ∀ b, S b → b < w.heap.size) (_hn : bulkProject p ≤ 1048576) (a : Int) (back : Bool) (hp : projOk p = true) : Calls Try.prog 66 #[v, .int .i64 a, .bool back] w (SetR (fun _ => False) w (sideV p a back)) := by
  obtain ⟨cs, rfl, hx⟩ := hx
  obtain ⟨c1, c2, c3, c4, rfl, q0, q1, q2, q3, q4⟩ := projR_open hx
  have Q1 := Lib.hid q1
  have Q2 := Lib.hid q2
  have Q3 := Lib.hid q3
  have Q4 := Lib.hid q4
  have HP := Lib.hid hx
  obtain ⟨p1, k1, rfl, l1, l1', -⟩ := sliceR_open q1
  obtain ⟨p2, k2, rfl, l2, l2', -⟩ := sliceR_open q2
  obtain ⟨p3, k3, rfl, l3, l3', -⟩ := sliceR_open q3
  obtain ⟨p4, k4, rfl, l4, l4', -⟩ := sliceR_open q4
  unfold maxLen at l1' l2' l3' l4'
  clear hx q0 q1 q2 q3 q4
  have HS := Lib.hid hS
  have HNB := Lib.hid _hn
  have hbd := (projOk_bd hp).2.2.2.2.1
  clear hS _hn hp
  have HP1 := Lib.hid (show ∀ W, Bel w W → aggR projR S W (.agg #[.int .i64 p.1, .slice p1 p.2.1.length k1, .slice p2 p.2.2.1.length k2, .slice p3 p.2.2.2.1.length k3, .slice p4 p.2.2.2.2.length k4]) p from fun W hW => aggR_mk (projR_good.bel HP.out hW HS.out))
  show Calls Try.prog 66 #[.agg #[.int .i64 p.1, .slice p1 p.2.1.length k1, .slice p2 p.2.2.1.length k2, .slice p3 p.2.2.2.1.length k3, .slice p4 p.2.2.2.2.length k4], .int .i64 a, .bool back] w _
  go_enter Try.func66, Try.ntmps66
  obtain ⟨W0, hW0, hwW, hsz0, hbx⟩ : ∃ W0, W0 = w.alloc (.cells #[.int .i64 p.1, .slice p1 p.2.1.length k1, .slice p2 p.2.2.1.length k2, .slice p3 p.2.2.2.1.length k3, .slice p4 p.2.2.2.2.length k4] 34) ∧ Bel w W0 ∧ W0.heap.size = w.heap.size + 1 ∧ W0.cell? ⟨w.heap.size, 0, none⟩ = some (.int .i64 p.1) ∧ W0.cell? ⟨w.heap.size, 1, none⟩ = some (.slice p1 p.2.1.length k1) ∧ W0.cell? ⟨w.heap.size, 2, none⟩ = some (.slice p2 p.2.2.1.length k2) ∧ W0.cell? ⟨w.heap.size, 3, none⟩ = some (.slice p3 p.2.2.2.1.length k3) ∧ W0.cell? ⟨w.heap.size, 4, none⟩ = some (.slice p4 p.2.2.2.2.length k4) := ⟨_, rfl, by (repeat (first | assumption | exact Bel.refl _ | apply Bel.drewN | apply Bel.drew | apply Bel.alloc | refine Bel.trans ?_ (by assumption))), by simp, by simp [go_sem], by simp [go_sem], by simp [go_sem], by simp [go_sem], by simp [go_sem]⟩
  have HBX := Lib.hid (show ∀ W, Bel W0 W → W.cell? ⟨w.heap.size, 0, none⟩ = some (.int .i64 p.1) ∧ W.cell? ⟨w.heap.size, 1, none⟩ = some (.slice p1 p.2.1.length k1) ∧ W.cell? ⟨w.heap.size, 2, none⟩ = some (.slice p2 p.2.2.1.length k2) ∧ W.cell? ⟨w.heap.size, 3, none⟩ = some (.slice p3 p.2.2.2.1.length k3) ∧ W.cell? ⟨w.heap.size, 4, none⟩ = some (.slice p4 p.2.2.2.2.length k4) from fun W hW => keep5 hbx hW)
  clear hbx
  have HSZ0 := Lib.hid hsz0
  clear hsz0
  go_wp2_with fail
  rw [← hW0]
  clear hW0
  go_loopw [7, 14] (fun o i wr => ∃ (k g off c : Nat) (ys : List Int), k ≤ p.2.2.1.length ∧ i = .int .i64 k ∧ o = .slice (some ⟨g, off, none⟩) ys.length c ∧ ys = setL (sideTo p.2.2.1 a back k) ∧ intsR (New w wr) wr [.slice (some ⟨g, off, none⟩) ys.length c] ys ∧ Bel W0 wr) (fun _ i _ => p.2.2.1.length - (intOf i).toNat)
  case atStart => exact ⟨0, w.heap.size + 1, 0, 0, [], Nat.zero_le _, rfl, rfl, rfl, ints_nil _ _ (Nat.zero_le _), by (repeat (first | assumption | exact Bel.refl _ | apply Bel.drewN | apply Bel.drew | apply Bel.alloc | refine Bel.trans ?_ (by assumption)))⟩
  case round =>
    obtain ⟨k, g, off, c, ys, hk, rfl, rfl, hys, hI, hB⟩ := hrel
    have HYS := Lib.hid hys
    have HIY := Lib.hid hI
    have hyl : ys.length ≤ k := by
      rw [hys]
      exact Nat.le_trans (setL_length _) (sideTo_le _ _ _ _)
    clear hys hI
    by_cases hlt : k < p.2.2.1.length
    · obtain ⟨b, off', ecs, ea, hrow, hel⟩ := sliceR_at zLink Q2.out hlt
      obtain rfl : p2 = some ⟨b, off', none⟩ := ea
      have HY1 := Lib.hid (fun h => sideTo_yes (ls := p.2.2.1) (a := a) (back := back) (j := k) h)
      have HY2 := Lib.hid (fun h => sideTo_no (ls := p.2.2.1) (a := a) (back := back) (j := k) h)
      generalize p.2.2.1.getD k zLink = X at *
      obtain ⟨rfl, i0, i1, -⟩ := linkR_open hel
      have ed0 := (hwW.trans hB).cell (hrow 0 (by simp)).1
      have ed1 := (hwW.trans hB).cell (hrow 1 (by simp)).1
      have ed2 := (hwW.trans hB).cell (hrow 2 (by simp)).1
      have ed3 := (hwW.trans hB).cell (hrow 3 (by simp)).1
      simp only [List.getElem_cons_zero, List.getElem_cons_succ, Nat.add_zero] at ed0 ed1 ed2 ed3
      clear hrow hel
      have hki : (k : Int) < (p.2.2.1.length : Int) := by omega
      cases back
      · have HXI := Lib.hid (show I64 X.2.1 from i1)
        have HSN := Lib.hid (show (X.1 == a) = true → putL (setL ys) X.2.1 = setL (sideTo p.2.2.1 a false (k + 1)) from fun he => by rw [HY1.out (by unfold sideB; rw [if_neg (by decide)]; simpa using he), setL_snoc, ← HYS.out, HYS.out, setL_same (setL_inc _)]; rfl)
        have HSK := Lib.hid (show (X.1 == a) = false → ys = setL (sideTo p.2.2.1 a false (k + 1)) from fun he => by rw [HY2.out (by unfold sideB; rw [if_neg (by decide)]; simpa using he), HYS.out])
        clear i0 i1
        cases he : (X.1 == a)
        · go_wp2_with fail
          go_roundw
          case rel => exact ⟨k + 1, g, off, c, ys, by omega, by go_num, rfl, HSK.out he, intsR_good.mono (intsR_good.bel HIY.out (by (repeat (first | assumption | exact Bel.refl _ | apply Bel.drewN | apply Bel.drew | apply Bel.alloc | refine Bel.trans ?_ (by assumption)))) (fun b hb => hb.2)) (fun b hb => ⟨hb.1, Nat.lt_of_lt_of_le hb.2 (by first | omega | (simp; done) | (simp; omega))⟩), by (repeat (first | assumption | exact Bel.refl _ | apply Bel.drewN | apply Bel.drew | apply Bel.alloc | refine Bel.trans ?_ (by assumption)))⟩
          case measure => simp [intOf]; omega
        · have hIW := intsR_good.bel HIY.out (show Bel wr (wr.alloc (.cells #[.int .i64 X.1, .int .i64 X.2.1, .bool X.2.2.1, .int .i64 X.2.2.2] 70)) from by (repeat (first | assumption | exact Bel.refl _ | apply Bel.drewN | apply Bel.drew | apply Bel.alloc | refine Bel.trans ?_ (by assumption)))) (fun b hb => hb.2)
          have HIW := Lib.hid hIW
          clear hIW
          go_wp2_with fail
          refine (sSetAdd_any _ ys X.2.1 _ _ HIW.out (fun b hb => Nat.lt_of_lt_of_le hb.2 (by first | omega | (simp; done) | (simp; omega))) HXI.out (by omega)).mono ?_
          rintro e w1 ⟨g1, off1, c1, rfl, hI1, gB⟩
          have gB1 : Bel wr w1 := by (repeat (first | assumption | exact Bel.refl _ | apply Bel.drewN | apply Bel.drew | apply Bel.alloc | refine Bel.trans ?_ (by assumption)))
          have HI1 := Lib.hid (show intsR (New w w1) w1 [.slice (some ⟨g1, off1, none⟩) (putL (setL ys) X.2.1).length c1] (putL (setL ys) X.2.1) from intsR_good.mono hI1 (fun b hb => ⟨by have h1 := (hb.resolve_left id).1; simp at h1; have := hB.size; have := hwW.size; omega, (hb.resolve_left id).2⟩))
          clear hI1
          go_wp2_with fail
          go_roundw
          case rel => exact ⟨k + 1, g1, off1, c1, putL (setL ys) X.2.1, by omega, by go_num, rfl, HSN.out he, HI1.out, hB.trans gB1⟩
          case measure => simp [intOf]; omega
      · have HXI := Lib.hid (show I64 X.1 from i0)
        have HSN := Lib.hid (show (X.2.1 == a) = true → putL (setL ys) X.1 = setL (sideTo p.2.2.1 a true (k + 1)) from fun he => by rw [HY1.out (by unfold sideB; rw [if_pos rfl]; simpa using he), setL_snoc, ← HYS.out, HYS.out, setL_same (setL_inc _)]; rfl)
        have HSK := Lib.hid (show (X.2.1 == a) = false → ys = setL (sideTo p.2.2.1 a true (k + 1)) from fun he => by rw [HY2.out (by unfold sideB; rw [if_pos rfl]; simpa using he), HYS.out])
        clear i0 i1
        cases he : (X.2.1 == a)
        · go_wp2_with fail
          go_roundw
          case rel => exact ⟨k + 1, g, off, c, ys, by omega, by go_num, rfl, HSK.out he, intsR_good.mono (intsR_good.bel HIY.out (by (repeat (first | assumption | exact Bel.refl _ | apply Bel.drewN | apply Bel.drew | apply Bel.alloc | refine Bel.trans ?_ (by assumption)))) (fun b hb => hb.2)) (fun b hb => ⟨hb.1, Nat.lt_of_lt_of_le hb.2 (by first | omega | (simp; done) | (simp; omega))⟩), by (repeat (first | assumption | exact Bel.refl _ | apply Bel.drewN | apply Bel.drew | apply Bel.alloc | refine Bel.trans ?_ (by assumption)))⟩
          case measure => simp [intOf]; omega
        · have hIW := intsR_good.bel HIY.out (show Bel wr (wr.alloc (.cells #[.int .i64 X.1, .int .i64 X.2.1, .bool X.2.2.1, .int .i64 X.2.2.2] 70)) from by (repeat (first | assumption | exact Bel.refl _ | apply Bel.drewN | apply Bel.drew | apply Bel.alloc | refine Bel.trans ?_ (by assumption)))) (fun b hb => hb.2)
          have HIW := Lib.hid hIW
          clear hIW
          go_wp2_with fail
          refine (sSetAdd_any _ ys X.1 _ _ HIW.out (fun b hb => Nat.lt_of_lt_of_le hb.2 (by first | omega | (simp; done) | (simp; omega))) HXI.out (by omega)).mono ?_
          rintro e w1 ⟨g1, off1, c1, rfl, hI1, gB⟩
          have gB1 : Bel wr w1 := by (repeat (first | assumption | exact Bel.refl _ | apply Bel.drewN | apply Bel.drew | apply Bel.alloc | refine Bel.trans ?_ (by assumption)))
          have HI1 := Lib.hid (show intsR (New w w1) w1 [.slice (some ⟨g1, off1, none⟩) (putL (setL ys) X.1).length c1] (putL (setL ys) X.1) from intsR_good.mono hI1 (fun b hb => ⟨by have h1 := (hb.resolve_left id).1; simp at h1; have := hB.size; have := hwW.size; omega, (hb.resolve_left id).2⟩))
          clear hI1
          go_wp2_with fail
          go_roundw
          case rel => exact ⟨k + 1, g1, off1, c1, putL (setL ys) X.1, by omega, by go_num, rfl, HSN.out he, HI1.out, hB.trans gB1⟩
          case measure => simp [intOf]; omega
    · obtain rfl : k = p.2.2.1.length := by omega
      have HE := Lib.hid (show ys = sideV p a back from HYS.out)
      go_wp2
      go_ret
      exact ⟨g, off, c, by rw [← HE.out]; rfl, by rw [← HE.out]; exact intsR_good.mono HIY.out (fun b hb => .inr hb), hwW.trans hB⟩

set_option maxRecDepth 100000 in
set_option maxHeartbeats 2000000 in
theorem sSuccessors_any (v : Value) (p : ProjT) (S : Nat → Prop) (a : Int) (w : World) (hx : aggR projR S w v p) (hS : ∀ b, S b → b < w.heap.size) (_hn : bulkProject p ≤ 1048576) : Calls Try.prog 64 #[v, .int .i64 a] w (FreshV intsR w (sucV p a)) := by
  obtain ⟨cs, rfl, hx⟩ := hx
  obtain ⟨c1, c2, c3, c4, rfl, q0, q1, q2, q3, q4⟩ := projR_open hx
  have Q1 := Lib.hid q1
  have Q2 := Lib.hid q2
  have Q3 := Lib.hid q3
  have Q4 := Lib.hid q4
  have HP := Lib.hid hx
  obtain ⟨p1, k1, rfl, l1, l1', -⟩ := sliceR_open q1
  obtain ⟨p2, k2, rfl, l2, l2', -⟩ := sliceR_open q2
  obtain ⟨p3, k3, rfl, l3, l3', -⟩ := sliceR_open q3
  obtain ⟨p4, k4, rfl, l4, l4', -⟩ := sliceR_open q4
  unfold maxLen at l1' l2' l3' l4'
  clear hx q0 q1 q2 q3 q4
  have HS := Lib.hid hS
  have HNB := Lib.hid _hn
  clear hS _hn
  have HP1 := Lib.hid (show ∀ W, Bel w W → aggR projR S W (.agg #[.int .i64 p.1, .slice p1 p.2.1.length k1, .slice p2 p.2.2.1.length k2, .slice p3 p.2.2.2.1.length k3, .slice p4 p.2.2.2.2.length k4]) p from fun W hW => aggR_mk (projR_good.bel HP.out hW HS.out))
  show Calls Try.prog 64 #[.agg #[.int .i64 p.1, .slice p1 p.2.1.length k1, .slice p2 p.2.2.1.length k2, .slice p3 p.2.2.2.1.length k3, .slice p4 p.2.2.2.2.length k4], .int .i64 a] w _
  go_enter Try.func64, Try.ntmps64
  obtain ⟨W0, hW0, hwW, hsz0, hbx⟩ : ∃ W0, W0 = w.alloc (.cells #[.int .i64 p.1, .slice p1 p.2.1.length k1, .slice p2 p.2.2.1.length k2, .slice p3 p.2.2.2.1.length k3, .slice p4 p.2.2.2.2.length k4] 34) ∧ Bel w W0 ∧ W0.heap.size = w.heap.size + 1 ∧ W0.cell? ⟨w.heap.size, 0, none⟩ = some (.int .i64 p.1) ∧ W0.cell? ⟨w.heap.size, 1, none⟩ = some (.slice p1 p.2.1.length k1) ∧ W0.cell? ⟨w.heap.size, 2, none⟩ = some (.slice p2 p.2.2.1.length k2) ∧ W0.cell? ⟨w.heap.size, 3, none⟩ = some (.slice p3 p.2.2.2.1.length k3) ∧ W0.cell? ⟨w.heap.size, 4, none⟩ = some (.slice p4 p.2.2.2.2.length k4) := ⟨_, rfl, by (repeat (first | assumption | exact Bel.refl _ | apply Bel.drewN | apply Bel.drew | apply Bel.alloc | refine Bel.trans ?_ (by assumption))), by simp, by simp [go_sem], by simp [go_sem], by simp [go_sem], by simp [go_sem], by simp [go_sem]⟩
  have HBX := Lib.hid (show ∀ W, Bel W0 W → W.cell? ⟨w.heap.size, 0, none⟩ = some (.int .i64 p.1) ∧ W.cell? ⟨w.heap.size, 1, none⟩ = some (.slice p1 p.2.1.length k1) ∧ W.cell? ⟨w.heap.size, 2, none⟩ = some (.slice p2 p.2.2.1.length k2) ∧ W.cell? ⟨w.heap.size, 3, none⟩ = some (.slice p3 p.2.2.2.1.length k3) ∧ W.cell? ⟨w.heap.size, 4, none⟩ = some (.slice p4 p.2.2.2.2.length k4) from fun W hW => keep5 hbx hW)
  clear hbx
  have HSZ0 := Lib.hid hsz0
  clear hsz0
  go_wp2_with fail
  rw [← hW0]
  clear hW0
  refine (sProjectOk_any _ p S _ (HP1.out _ (by (repeat (first | assumption | exact Bel.refl _ | apply Bel.drewN | apply Bel.drew | apply Bel.alloc | refine Bel.trans ?_ (by assumption))))) (fun b hb => Nat.lt_of_lt_of_le (HS.out b hb) (Bel.size (by (repeat (first | assumption | exact Bel.refl _ | apply Bel.drewN | apply Bel.drew | apply Bel.alloc | refine Bel.trans ?_ (by assumption))))))).mono ?_
  rintro e w1 ⟨rfl, g1⟩
  have G1 : Bel W0 w1 := by (repeat (first | assumption | exact Bel.refl _ | apply Bel.drewN | apply Bel.drew | apply Bel.alloc | refine Bel.trans ?_ (by assumption)))
  have G2 : Bel w w1 := hwW.trans G1
  obtain ⟨b0, b1, b2, b3, b4⟩ := HBX.out w1 G1
  cases hp : projOk p
  · have HD := Lib.hid (show intsR (New w w1) w1 [.slice none 0 0] (sucV p a) from by unfold sucV nbrV; rw [if_neg (by rw [hp]; simp)]; exact ⟨none, 0, rfl, Nat.le_refl _, Nat.zero_le _, fun i h => by simp at h⟩)
    clear hp
    go_wp2
    go_ret
    exact ⟨_, rfl, HD.out, G2⟩
  have hbd := projOk_bd hp
  have HPO := Lib.hid hp
  have HVV := Lib.hid (fun (h : inB a 0 ((p.2.1.length : Int) - 1) = true) => show sucV p a = sideV p a false from if_pos ⟨hp, h⟩)
  have HVN := Lib.hid (fun (h : inB a 0 ((p.2.1.length : Int) - 1) = false) => show sucV p a = [] from if_neg (by rw [h]; simp))
  clear hp
  cases ha : inB a 0 ((p.2.1.length : Int) - 1)
  · have HD := Lib.hid (show intsR (New w w1) w1 [.slice none 0 0] (sucV p a) from by rw [HVN.out ha]; exact ⟨none, 0, rfl, Nat.le_refl _, Nat.zero_le _, fun i h => by simp at h⟩)
    clear HVV HVN
    go_wp2_with (go_at_call 126; refine (l01In_any _ _ _ _).mono ?_; rintro e w' ⟨rfl, rfl⟩; rw [ha])
    go_ret
    exact ⟨_, rfl, HD.out, G2⟩
  · have HVV := Lib.hid (HVV.out ha)
    clear HVN
    go_wp2_with (go_at_call 126; refine (l01In_any _ _ _ _).mono ?_; rintro e w' ⟨rfl, rfl⟩; rw [ha])
    refine (sSide_any _ p S _ (HP1.out _ (by (repeat (first | assumption | exact Bel.refl _ | apply Bel.drewN | apply Bel.drew | apply Bel.alloc | refine Bel.trans ?_ (by assumption))))) (fun b hb => Nat.lt_of_lt_of_le (HS.out b hb) (Bel.size (by (repeat (first | assumption | exact Bel.refl _ | apply Bel.drewN | apply Bel.drew | apply Bel.alloc | refine Bel.trans ?_ (by assumption)))))) HNB.out a false HPO.out).mono ?_
    rintro e w2 ⟨g, off, c, rfl, hI, gB⟩
    have HRES := Lib.hid (show intsR (New w w2) w2 [.slice (some ⟨g, off, none⟩) (sideV p a false).length c] (sucV p a) from by rw [HVV.out]; exact intsR_good.mono hI (fun b hb => ⟨by have := (hb.resolve_left id).1; have := G2.size; omega, (hb.resolve_left id).2⟩))
    clear hI
    go_wp2
    go_ret
    exact ⟨_, rfl, HRES.out, G2.trans gB⟩


end Go.Proofs.Ytiaamddhocdhaaa
end

/- Nbr -/
section
namespace Go.Proofs.Ytiaamddhocdhaaa
open Go.ChangeShapes Go.WideShapes Go.ChangeAt Go.RowKit
set_option linter.unusedVariables false

theorem own_some {α : Type} {S : Nat → Prop} {n : Nat} {R : RepT α} {e : TypeId} {B : Nat} {w : World} {p : Option Addr} {cap : Nat} {xs : List α} (h : Own S n R e B w p cap xs) (hx : xs ≠ []) : p ≠ none := by
  rcases h.cases with ⟨_, _, h1⟩ | ⟨g, cur, h1, _⟩
  · exact absurd h1 hx
  · rw [h1]; simp
set_option maxRecDepth 100000 in
set_option maxHeartbeats 2000000 in
theorem iSuccessors_any (v : Value) (p : ProjT) (S : Nat → Prop) (a : Int) (w : World) (hx : aggR projR S w v p) (hS : ∀ b, S b → b < w.heap.size) (_hn : bulkProject p ≤ 1048576) : Calls Try.prog 41 #[v, .int .i64 a] w (FreshV intsR w (sucV p a)) := by
  obtain ⟨cs, rfl, hx⟩ := hx
  obtain ⟨c1, c2, c3, c4, rfl, q0, q1, q2, q3, q4⟩ := projR_open hx
  have Q1 := Lib.hid q1
  have Q2 := Lib.hid q2
  have Q3 := Lib.hid q3
  have Q4 := Lib.hid q4
  have HP := Lib.hid hx
  obtain ⟨p1, k1, rfl, l1, l1', -⟩ := sliceR_open q1
  obtain ⟨p2, k2, rfl, l2, l2', -⟩ := sliceR_open q2
  obtain ⟨p3, k3, rfl, l3, l3', -⟩ := sliceR_open q3
  obtain ⟨p4, k4, rfl, l4, l4', -⟩ := sliceR_open q4
  unfold maxLen at l1' l2' l3' l4'
  clear hx q0 q1 q2 q3 q4
  have HS := Lib.hid hS
  have HNB := Lib.hid _hn
  clear hS _hn
  have HP1 := Lib.hid (show ∀ W, Bel w W → aggR projR S W (.agg #[.int .i64 p.1, .slice p1 p.2.1.length k1, .slice p2 p.2.2.1.length k2, .slice p3 p.2.2.2.1.length k3, .slice p4 p.2.2.2.2.length k4]) p from fun W hW => aggR_mk (projR_good.bel HP.out hW HS.out))
  show Calls Try.prog 41 #[.agg #[.int .i64 p.1, .slice p1 p.2.1.length k1, .slice p2 p.2.2.1.length k2, .slice p3 p.2.2.2.1.length k3, .slice p4 p.2.2.2.2.length k4], .int .i64 a] w _
  go_enter Try.func41, Try.ntmps41
  obtain ⟨W0, hW0, hwW, hsz0, hbx⟩ : ∃ W0, W0 = w.alloc (.cells #[.int .i64 p.1, .slice p1 p.2.1.length k1, .slice p2 p.2.2.1.length k2, .slice p3 p.2.2.2.1.length k3, .slice p4 p.2.2.2.2.length k4] 34) ∧ Bel w W0 ∧ W0.heap.size = w.heap.size + 1 ∧ W0.cell? ⟨w.heap.size, 0, none⟩ = some (.int .i64 p.1) ∧ W0.cell? ⟨w.heap.size, 1, none⟩ = some (.slice p1 p.2.1.length k1) ∧ W0.cell? ⟨w.heap.size, 2, none⟩ = some (.slice p2 p.2.2.1.length k2) ∧ W0.cell? ⟨w.heap.size, 3, none⟩ = some (.slice p3 p.2.2.2.1.length k3) ∧ W0.cell? ⟨w.heap.size, 4, none⟩ = some (.slice p4 p.2.2.2.2.length k4) := ⟨_, rfl, by (repeat (first | assumption | exact Bel.refl _ | apply Bel.drewN | apply Bel.drew | apply Bel.alloc | refine Bel.trans ?_ (by assumption))), by simp, by simp [go_sem], by simp [go_sem], by simp [go_sem], by simp [go_sem], by simp [go_sem]⟩
  have HBX := Lib.hid (show ∀ W, Bel W0 W → W.cell? ⟨w.heap.size, 0, none⟩ = some (.int .i64 p.1) ∧ W.cell? ⟨w.heap.size, 1, none⟩ = some (.slice p1 p.2.1.length k1) ∧ W.cell? ⟨w.heap.size, 2, none⟩ = some (.slice p2 p.2.2.1.length k2) ∧ W.cell? ⟨w.heap.size, 3, none⟩ = some (.slice p3 p.2.2.2.1.length k3) ∧ W.cell? ⟨w.heap.size, 4, none⟩ = some (.slice p4 p.2.2.2.2.length k4) from fun W hW => keep5 hbx hW)
  clear hbx
  have HSZ0 := Lib.hid hsz0
  clear hsz0
  go_wp2_with fail
  rw [← hW0]
  clear hW0
  refine (iProjectOk_any _ p S _ (HP1.out _ (by (repeat (first | assumption | exact Bel.refl _ | apply Bel.drewN | apply Bel.drew | apply Bel.alloc | refine Bel.trans ?_ (by assumption))))) (fun b hb => Nat.lt_of_lt_of_le (HS.out b hb) (Bel.size (by (repeat (first | assumption | exact Bel.refl _ | apply Bel.drewN | apply Bel.drew | apply Bel.alloc | refine Bel.trans ?_ (by assumption))))))).mono ?_
  rintro e w1 ⟨rfl, g1⟩
  have G1 : Bel W0 w1 := by (repeat (first | assumption | exact Bel.refl _ | apply Bel.drewN | apply Bel.drew | apply Bel.alloc | refine Bel.trans ?_ (by assumption)))
  have G2 : Bel w w1 := hwW.trans G1
  obtain ⟨b0, b1, b2, b3, b4⟩ := HBX.out w1 G1
  cases hp : projOk p
  · have HD := Lib.hid (show intsR (New w w1) w1 [.slice none 0 0] (sucV p a) from by unfold sucV nbrV; rw [if_neg (by rw [hp]; simp)]; exact ⟨none, 0, rfl, Nat.le_refl _, Nat.zero_le _, fun i h => by simp at h⟩)
    clear hp
    go_wp2
    go_ret
    exact ⟨_, rfl, HD.out, G2⟩
  have hbd := projOk_bd hp
  have HPO := Lib.hid hp
  have HVV := Lib.hid (fun (h : inB a 0 ((p.2.1.length : Int) - 1) = true) => show sucV p a = sideV p a false from if_pos ⟨hp, h⟩)
  have HVN := Lib.hid (fun (h : inB a 0 ((p.2.1.length : Int) - 1) = false) => show sucV p a = [] from if_neg (by rw [h]; simp))
  clear hp
  go_wp2_with fail
  refine (hasActivity_any _ _ _ _ _ _ _ (by omega) _ _).mono ?_
  rintro e w2 ⟨rfl, g2⟩
  have G3 : Bel w1 w2 := by (repeat (first | assumption | exact Bel.refl _ | apply Bel.drewN | apply Bel.drew | apply Bel.alloc | refine Bel.trans ?_ (by assumption)))
  have G4 := G1.trans G3
  have G5 := G2.trans G3
  clear b0 b1 b2 b3 b4
  obtain ⟨b0, b1, b2, b3, b4⟩ := HBX.out w2 G4
  cases ha : inB a 0 ((p.2.1.length : Int) - 1)
  · have HD := Lib.hid (show intsR (New w w2) w2 [.slice none 0 0] (sucV p a) from by rw [HVN.out ha]; exact ⟨none, 0, rfl, Nat.le_refl _, Nat.zero_le _, fun i h => by simp at h⟩)
    clear HVV HVN ha
    go_wp2
    go_ret
    exact ⟨_, rfl, HD.out, G5⟩
  have HVV := Lib.hid (HVV.out ha)
  clear HVN ha
  have hO0 : Own (fun _ => False) 1 intR 3 w2.heap.size (w2.alloc (.cells #[] 3)) (some ⟨w2.heap.size, 0, none⟩) 0 [] := Own.empty (alloc_at rfl) (Nat.le_refl _)
  have ab2 := fun o => ((Bel.refl w2).alloc o).cell b2
  go_wp2_with fail
  clear ab2 b0 b1 b2 b3 b4
  go_loopw [5, 21] (fun o i wr => ∃ (k : Nat) (ys : List Int) (q1 : Option Addr) (c1 : Nat), k ≤ p.2.2.1.length ∧ i = .int .i64 k ∧ o = .slice q1 ys.length c1 ∧ ys = sideTo p.2.2.1 a false k ∧ Own (fun _ => False) 1 intR 3 w2.heap.size wr q1 c1 ys ∧ q1 ≠ none ∧ Bel w2 wr) (fun _ i _ => p.2.2.1.length - (intOf i).toNat)
  case atStart => exact ⟨0, [], _, _, Nat.zero_le _, rfl, rfl, rfl, hO0, by simp, by (repeat (first | assumption | exact Bel.refl _ | apply Bel.drewN | apply Bel.drew | apply Bel.alloc | refine Bel.trans ?_ (by assumption)))⟩
  case round =>
    clear hO0
    obtain ⟨k, ys, q1, c1, hk, rfl, rfl, hys, hO, hqn, hB⟩ := hrel
    have HYS := Lib.hid hys
    have hyl : ys.length ≤ k := by rw [hys]; exact sideTo_le _ _ _ _
    have hwsz := hB.size
    clear hys
    by_cases hlt : k < p.2.2.1.length
    · obtain ⟨b, off', ecs, ea, hrow, hel⟩ := sliceR_at zLink Q2.out hlt
      obtain rfl : p2 = some ⟨b, off', none⟩ := ea
      have HY1 := Lib.hid (fun h => sideTo_yes (ls := p.2.2.1) (a := a) (back := false) (j := k) h)
      have HY2 := Lib.hid (fun h => sideTo_no (ls := p.2.2.1) (a := a) (back := false) (j := k) h)
      generalize p.2.2.1.getD k zLink = X at *
      obtain ⟨rfl, i0, i1, -⟩ := linkR_open hel
      have ed0 := (G5.trans hB).cell (hrow 0 (by simp)).1
      have ed1 := (G5.trans hB).cell (hrow 1 (by simp)).1
      have ed2 := (G5.trans hB).cell (hrow 2 (by simp)).1
      have ed3 := (G5.trans hB).cell (hrow 3 (by simp)).1
      simp only [List.getElem_cons_zero, List.getElem_cons_succ, Nat.add_zero] at ed0 ed1 ed2 ed3
      clear hrow hel
      have hki : (k : Int) < (p.2.2.1.length : Int) := by omega
      have HXI := Lib.hid (show I64 X.2.1 from i1)
      have HSN := Lib.hid (show (X.1 == a) = true → ys ++ [X.2.1] = sideTo p.2.2.1 a false (k + 1) from fun he => by rw [HY1.out (by unfold sideB; rw [if_neg (by decide)]; simpa using he), HYS.out]; rfl)
      have HSK := Lib.hid (show (X.1 == a) = false → ys = sideTo p.2.2.1 a false (k + 1) from fun he => by rw [HY2.out (by unfold sideB; rw [if_neg (by decide)]; simpa using he), HYS.out])
      clear i0 i1
      cases he : (X.1 == a)
      · have HSK := Lib.hid (HSK.out he)
        have HQN := Lib.hid hqn
        clear hqn
        go_wp2_with fail
        go_roundw
        case rel => exact ⟨k + 1, ys, q1, c1, by omega, by go_num, rfl, HSK.out, hO.bel intR_good (by (repeat (first | assumption | exact Bel.refl _ | apply Bel.drewN | apply Bel.drew | apply Bel.alloc | refine Bel.trans ?_ (by assumption)))), HQN.out, by (repeat (first | assumption | exact Bel.refl _ | apply Bel.drewN | apply Bel.drew | apply Bel.alloc | refine Bel.trans ?_ (by assumption)))⟩
        case measure => simp [intOf]; omega
      · have HSN := Lib.hid (HSN.out he)
        clear hqn
        go_wp2_with ((at_builtin; refine wpList_app (n := 1) intR_good _ rfl _ _ 25 rfl (.int .i64 0) 8 Try.underlying25 (by kernel_rfl) rfl (by decide) (by decide) q1 c1 ys (X.2.1) rfl (hO.bel intR_good (by (repeat (first | assumption | exact Bel.refl _ | apply Bel.drewN | apply Bel.drew | apply Bel.alloc | refine Bel.trans ?_ (by assumption))))) _ 1 [.int .i64 X.2.1] rfl rfl (World.news_of_block (alloc_at (by simp))) (by intro u hu; simp at hu; subst hu; rfl) (intRep HXI.out) (by omega) (by first | omega | (simp; omega)) ?_; intro q' cap' w' hO' hBW hsz'))
        have HB := Lib.hid (hBW w2 (by (repeat (first | assumption | exact Bel.refl _ | apply Bel.drewN | apply Bel.drew | apply Bel.alloc | refine Bel.trans ?_ (by assumption)))) (Nat.le_refl _))
        clear hBW hsz'
        go_roundw
        case rel => exact ⟨k + 1, ys ++ [X.2.1], q', cap', by omega, by go_num, by simp, HSN.out, hO', own_some hO' (by simp), HB.out⟩
        case measure => simp [intOf]; omega
    · obtain rfl : k = p.2.2.1.length := by omega
      obtain ⟨ad, rfl⟩ : ∃ ad, q1 = some ad := by
        cases q1 with
        | none => exact absurd rfl hqn
        | some ad => exact ⟨ad, rfl⟩
      clear hqn
      have HI := Lib.hid (show intsR (fun b => b < wr.heap.size) wr [.slice (some ad) ys.length c1] ys from hO.done intR_good (fun _ hf => hf.elim) (fun b h1 h2 => h2))
      clear hO
      go_wp2_with fail
      refine (iSetOf_any ad c1 ys _ _ HI.out (fun b hb => hb) (by omega)).mono ?_
      rintro e w3 ⟨g, off, c, rfl, hI3, gB⟩
      have HRES := Lib.hid (show intsR (New w w3) w3 [.slice (some ⟨g, off, none⟩) (setL ys).length c] (sucV p a) from by rw [HVV.out, show sideV p a false = setL ys from by rw [HYS.out]; rfl]; exact intsR_good.mono hI3 (fun b hb => ⟨by have := (hb.resolve_left id).1; have := G5.size; omega, (hb.resolve_left id).2⟩))
      clear hI3
      go_wp2
      go_ret
      exact ⟨_, rfl, HRES.out, (G5.trans hB).trans gB⟩

set_option maxRecDepth 100000 in
set_option maxHeartbeats 2000000 in
theorem iPredecessors_any (v : Value) (p : ProjT) (S : Nat → Prop) (a : Int) (w : World) (hx : aggR projR S w v p) (hS : ∀ b, S b → b < w.heap.size) (_hn : bulkProject p ≤ 1048576) : Calls Try.prog 42 #[v, .int .i64 a] w (FreshV intsR w (preV p a)) := by
  obtain ⟨cs, rfl, hx⟩ := hx
  obtain ⟨c1, c2, c3, c4, rfl, q0, q1, q2, q3, q4⟩ := projR_open hx
  have Q1 := Lib.hid q1
  have Q2 := Lib.hid q2
  have Q3 := Lib.hid q3
  have Q4 := Lib.hid q4
  have HP := Lib.hid hx
  obtain ⟨p1, k1, rfl, l1, l1', -⟩ := sliceR_open q1
  obtain ⟨p2, k2, rfl, l2, l2', -⟩ := sliceR_open q2
  obtain ⟨p3, k3, rfl, l3, l3', -⟩ := sliceR_open q3
  obtain ⟨p4, k4, rfl, l4, l4', -⟩ := sliceR_open q4
  unfold maxLen at l1' l2' l3' l4'
  clear hx q0 q1 q2 q3 q4
  have HS := Lib.hid hS
  have HNB := Lib.hid _hn
  clear hS _hn
  have HP1 := Lib.hid (show ∀ W, Bel w W → aggR projR S W (.agg #[.int .i64 p.1, .slice p1 p.2.1.length k1, .slice p2 p.2.2.1.length k2, .slice p3 p.2.2.2.1.length k3, .slice p4 p.2.2.2.2.length k4]) p from fun W hW => aggR_mk (projR_good.bel HP.out hW HS.out))
  show Calls Try.prog 42 #[.agg #[.int .i64 p.1, .slice p1 p.2.1.length k1, .slice p2 p.2.2.1.length k2, .slice p3 p.2.2.2.1.length k3, .slice p4 p.2.2.2.2.length k4], .int .i64 a] w _
  go_enter Try.func42, Try.ntmps42
  obtain ⟨W0, hW0, hwW, hsz0, hbx⟩ : ∃ W0, W0 = w.alloc (.cells #[.int .i64 p.1, .slice p1 p.2.1.length k1, .slice p2 p.2.2.1.length k2, .slice p3 p.2.2.2.1.length k3, .slice p4 p.2.2.2.2.length k4] 34) ∧ Bel w W0 ∧ W0.heap.size = w.heap.size + 1 ∧ W0.cell? ⟨w.heap.size, 0, none⟩ = some (.int .i64 p.1) ∧ W0.cell? ⟨w.heap.size, 1, none⟩ = some (.slice p1 p.2.1.length k1) ∧ W0.cell? ⟨w.heap.size, 2, none⟩ = some (.slice p2 p.2.2.1.length k2) ∧ W0.cell? ⟨w.heap.size, 3, none⟩ = some (.slice p3 p.2.2.2.1.length k3) ∧ W0.cell? ⟨w.heap.size, 4, none⟩ = some (.slice p4 p.2.2.2.2.length k4) := ⟨_, rfl, by (repeat (first | assumption | exact Bel.refl _ | apply Bel.drewN | apply Bel.drew | apply Bel.alloc | refine Bel.trans ?_ (by assumption))), by simp, by simp [go_sem], by simp [go_sem], by simp [go_sem], by simp [go_sem], by simp [go_sem]⟩
  have HBX := Lib.hid (show ∀ W, Bel W0 W → W.cell? ⟨w.heap.size, 0, none⟩ = some (.int .i64 p.1) ∧ W.cell? ⟨w.heap.size, 1, none⟩ = some (.slice p1 p.2.1.length k1) ∧ W.cell? ⟨w.heap.size, 2, none⟩ = some (.slice p2 p.2.2.1.length k2) ∧ W.cell? ⟨w.heap.size, 3, none⟩ = some (.slice p3 p.2.2.2.1.length k3) ∧ W.cell? ⟨w.heap.size, 4, none⟩ = some (.slice p4 p.2.2.2.2.length k4) from fun W hW => keep5 hbx hW)
  clear hbx
  have HSZ0 := Lib.hid hsz0
  clear hsz0
  go_wp2_with fail
  rw [← hW0]
  clear hW0
  refine (iProjectOk_any _ p S _ (HP1.out _ (by (repeat (first | assumption | exact Bel.refl _ | apply Bel.drewN | apply Bel.drew | apply Bel.alloc | refine Bel.trans ?_ (by assumption))))) (fun b hb => Nat.lt_of_lt_of_le (HS.out b hb) (Bel.size (by (repeat (first | assumption | exact Bel.refl _ | apply Bel.drewN | apply Bel.drew | apply Bel.alloc | refine Bel.trans ?_ (by assumption))))))).mono ?_
  rintro e w1 ⟨rfl, g1⟩
  have G1 : Bel W0 w1 := by (repeat (first | assumption | exact Bel.refl _ | apply Bel.drewN | apply Bel.drew | apply Bel.alloc | refine Bel.trans ?_ (by assumption)))
  have G2 : Bel w w1 := hwW.trans G1
  obtain ⟨b0, b1, b2, b3, b4⟩ := HBX.out w1 G1
  cases hp : projOk p
  · have HD := Lib.hid (show intsR (New w w1) w1 [.slice none 0 0] (preV p a) from by unfold preV nbrV; rw [if_neg (by rw [hp]; simp)]; exact ⟨none, 0, rfl, Nat.le_refl _, Nat.zero_le _, fun i h => by simp at h⟩)
    clear hp
    go_wp2
    go_ret
    exact ⟨_, rfl, HD.out, G2⟩
  have hbd := projOk_bd hp
  have HPO := Lib.hid hp
  have HVV := Lib.hid (fun (h : inB a 0 ((p.2.1.length : Int) - 1) = true) => show preV p a = sideV p a true from if_pos ⟨hp, h⟩)
  have HVN := Lib.hid (fun (h : inB a 0 ((p.2.1.length : Int) - 1) = false) => show preV p a = [] from if_neg (by rw [h]; simp))
  clear hp
  go_wp2_with fail
  refine (hasActivity_any _ _ _ _ _ _ _ (by omega) _ _).mono ?_
  rintro e w2 ⟨rfl, g2⟩
  have G3 : Bel w1 w2 := by (repeat (first | assumption | exact Bel.refl _ | apply Bel.drewN | apply Bel.drew | apply Bel.alloc | refine Bel.trans ?_ (by assumption)))
  have G4 := G1.trans G3
  have G5 := G2.trans G3
  clear b0 b1 b2 b3 b4
  obtain ⟨b0, b1, b2, b3, b4⟩ := HBX.out w2 G4
  cases ha : inB a 0 ((p.2.1.length : Int) - 1)
  · have HD := Lib.hid (show intsR (New w w2) w2 [.slice none 0 0] (preV p a) from by rw [HVN.out ha]; exact ⟨none, 0, rfl, Nat.le_refl _, Nat.zero_le _, fun i h => by simp at h⟩)
    clear HVV HVN ha
    go_wp2
    go_ret
    exact ⟨_, rfl, HD.out, G5⟩
  have HVV := Lib.hid (HVV.out ha)
  clear HVN ha
  have hO0 : Own (fun _ => False) 1 intR 3 w2.heap.size (w2.alloc (.cells #[] 3)) (some ⟨w2.heap.size, 0, none⟩) 0 [] := Own.empty (alloc_at rfl) (Nat.le_refl _)
  have ab2 := fun o => ((Bel.refl w2).alloc o).cell b2
  go_wp2_with fail
  clear ab2 b0 b1 b2 b3 b4
  go_loopw [5, 21] (fun o i wr => ∃ (k : Nat) (ys : List Int) (q1 : Option Addr) (c1 : Nat), k ≤ p.2.2.1.length ∧ i = .int .i64 k ∧ o = .slice q1 ys.length c1 ∧ ys = sideTo p.2.2.1 a true k ∧ Own (fun _ => False) 1 intR 3 w2.heap.size wr q1 c1 ys ∧ q1 ≠ none ∧ Bel w2 wr) (fun _ i _ => p.2.2.1.length - (intOf i).toNat)
  case atStart => exact ⟨0, [], _, _, Nat.zero_le _, rfl, rfl, rfl, hO0, by simp, by (repeat (first | assumption | exact Bel.refl _ | apply Bel.drewN | apply Bel.drew | apply Bel.alloc | refine Bel.trans ?_ (by assumption)))⟩
  case round =>
    clear hO0
    obtain ⟨k, ys, q1, c1, hk, rfl, rfl, hys, hO, hqn, hB⟩ := hrel
    have HYS := Lib.hid hys
    have hyl : ys.length ≤ k := by rw [hys]; exact sideTo_le _ _ _ _
    have hwsz := hB.size
    clear hys
    by_cases hlt : k < p.2.2.1.length
    · obtain ⟨b, off', ecs, ea, hrow, hel⟩ := sliceR_at zLink Q2.out hlt
      obtain rfl : p2 = some ⟨b, off', none⟩ := ea
      have HY1 := Lib.hid (fun h => sideTo_yes (ls := p.2.2.1) (a := a) (back := true) (j := k) h)
      have HY2 := Lib.hid (fun h => sideTo_no (ls := p.2.2.1) (a := a) (back := true) (j := k) h)
      generalize p.2.2.1.getD k zLink = X at *
      obtain ⟨rfl, i0, i1, -⟩ := linkR_open hel
      have ed0 := (G5.trans hB).cell (hrow 0 (by simp)).1
      have ed1 := (G5.trans hB).cell (hrow 1 (by simp)).1
      have ed2 := (G5.trans hB).cell (hrow 2 (by simp)).1
      have ed3 := (G5.trans hB).cell (hrow 3 (by simp)).1
      simp only [List.getElem_cons_zero, List.getElem_cons_succ, Nat.add_zero] at ed0 ed1 ed2 ed3
      clear hrow hel
      have hki : (k : Int) < (p.2.2.1.length : Int) := by omega
      have HXI := Lib.hid (show I64 X.1 from i0)
      have HSN := Lib.hid (show (X.2.1 == a) = true → ys ++ [X.1] = sideTo p.2.2.1 a true (k + 1) from fun he => by rw [HY1.out (by unfold sideB; rw [if_pos rfl]; simpa using he), HYS.out]; rfl)
      have HSK := Lib.hid (show (X.2.1 == a) = false → ys = sideTo p.2.2.1 a true (k + 1) from fun he => by rw [HY2.out (by unfold sideB; rw [if_pos rfl]; simpa using he), HYS.out])
      clear i0 i1
      cases he : (X.2.1 == a)
      · have HSK := Lib.hid (HSK.out he)
        have HQN := Lib.hid hqn
        clear hqn
        go_wp2_with fail
        go_roundw
        case rel => exact ⟨k + 1, ys, q1, c1, by omega, by go_num, rfl, HSK.out, hO.bel intR_good (by (repeat (first | assumption | exact Bel.refl _ | apply Bel.drewN | apply Bel.drew | apply Bel.alloc | refine Bel.trans ?_ (by assumption)))), HQN.out, by (repeat (first | assumption | exact Bel.refl _ | apply Bel.drewN | apply Bel.drew | apply Bel.alloc | refine Bel.trans ?_ (by assumption)))⟩
        case measure => simp [intOf]; omega
      · have HSN := Lib.hid (HSN.out he)
        clear hqn
        go_wp2_with ((at_builtin; refine wpList_app (n := 1) intR_good _ rfl _ _ 25 rfl (.int .i64 0) 8 Try.underlying25 (by kernel_rfl) rfl (by decide) (by decide) q1 c1 ys (X.1) rfl (hO.bel intR_good (by (repeat (first | assumption | exact Bel.refl _ | apply Bel.drewN | apply Bel.drew | apply Bel.alloc | refine Bel.trans ?_ (by assumption))))) _ 1 [.int .i64 X.1] rfl rfl (World.news_of_block (alloc_at (by simp))) (by intro u hu; simp at hu; subst hu; rfl) (intRep HXI.out) (by omega) (by first | omega | (simp; omega)) ?_; intro q' cap' w' hO' hBW hsz'))
        have HB := Lib.hid (hBW w2 (by (repeat (first | assumption | exact Bel.refl _ | apply Bel.drewN | apply Bel.drew | apply Bel.alloc | refine Bel.trans ?_ (by assumption)))) (Nat.le_refl _))
        clear hBW hsz'
        go_roundw
        case rel => exact ⟨k + 1, ys ++ [X.1], q', cap', by omega, by go_num, by simp, HSN.out, hO', own_some hO' (by simp), HB.out⟩
        case measure => simp [intOf]; omega
    · obtain rfl : k = p.2.2.1.length := by omega
      obtain ⟨ad, rfl⟩ : ∃ ad, q1 = some ad := by
        cases q1 with
        | none => exact absurd rfl hqn
        | some ad => exact ⟨ad, rfl⟩
      clear hqn
      have HI := Lib.hid (show intsR (fun b => b < wr.heap.size) wr [.slice (some ad) ys.length c1] ys from hO.done intR_good (fun _ hf => hf.elim) (fun b h1 h2 => h2))
      clear hO
      go_wp2_with fail
      refine (iSetOf_any ad c1 ys _ _ HI.out (fun b hb => hb) (by omega)).mono ?_
      rintro e w3 ⟨g, off, c, rfl, hI3, gB⟩
      have HRES := Lib.hid (show intsR (New w w3) w3 [.slice (some ⟨g, off, none⟩) (setL ys).length c] (preV p a) from by rw [HVV.out, show sideV p a true = setL ys from by rw [HYS.out]; rfl]; exact intsR_good.mono hI3 (fun b hb => ⟨by have := (hb.resolve_left id).1; have := G5.size; omega, (hb.resolve_left id).2⟩))
      clear hI3
      go_wp2
      go_ret
      exact ⟨_, rfl, HRES.out, (G5.trans hB).trans gB⟩

/-- What kept hands back: a list in new memory, not nil. -/
def KeptR (w : World) (xs : List Int) (e : Ending) (w' : World) : Prop := ∃ ad c, e = .returned (.slice (some ad) xs.length c) ∧ intsR (New w w') w' [.slice (some ad) xs.length c] xs ∧ Bel w w'
theorem filter_next {xs : List Int} {c : Int → Bool} {k : Nat} (h : k < xs.length) : (xs.take (k + 1)).filter c = (xs.take k).filter c ++ (if c (xs.getD k 0) = true then [xs.getD k 0] else []) := by
  rw [take_next h, List.filter_append]
  generalize xs.getD k 0 = X
  congr 1
  by_cases e : c X = true
  · rw [if_pos e]; simp [e]
  · rw [if_neg e]; simp [e]
set_option maxRecDepth 100000 in
set_option maxHeartbeats 1000000 in
theorem keptRoots_any (B0 : Nat) (c : Int → Bool) (v : Value) (xs : List Int) (T : Nat → Prop) (w : World) (hx : intsR T w [v] xs) (hT : ∀ b, T b → b < w.heap.size) (hl : xs.length ≤ 1000)
    (hcl : ∀ W, Bel w W → ∀ x, x ∈ xs → Calls Try.prog 114 #[.int .i64 x, .pointer (some ⟨B0, 0, none⟩)] W fun e w' => e = .returned (.bool (c x)) ∧ Bel W w') :
    Calls Try.prog 113 #[v, .func (.func 114) #[] #[.pointer (some ⟨B0, 0, none⟩)]] w (KeptR w (xs.filter c)) := by
  have HX := Lib.hid hx
  have HI := Lib.hid (ints_mem hx)
  have HCL := Lib.hid hcl
  obtain ⟨p0, c0, rfl, l0, l0', -⟩ := sliceR_open hx
  unfold maxLen at l0'
  clear hx hT hcl
  have hO0 : Own (fun _ => False) 1 intR 3 w.heap.size (w.alloc (.cells #[] 3)) (some ⟨w.heap.size, 0, none⟩) 0 [] := Own.empty (alloc_at rfl) (Nat.le_refl _)
  go_enter Try.func113, Try.ntmps113
  go_wp2_with fail
  go_loopw [5, 11] (fun o i wr => ∃ (k : Nat) (ys : List Int) (q1 : Option Addr) (c1 : Nat), k ≤ xs.length ∧ i = .int .i64 k ∧ o = .slice q1 ys.length c1 ∧ ys = (xs.take k).filter c ∧ Own (fun _ => False) 1 intR 3 w.heap.size wr q1 c1 ys ∧ q1 ≠ none ∧ Bel w wr) (fun _ i _ => xs.length - (intOf i).toNat)
  case atStart => exact ⟨0, [], _, _, Nat.zero_le _, rfl, rfl, by simp, hO0, by simp, by (repeat (first | assumption | exact Bel.refl _ | apply Bel.drewN | apply Bel.drew | apply Bel.alloc | refine Bel.trans ?_ (by assumption)))⟩
  case round =>
    clear hO0
    obtain ⟨k, ys, q1, c1, hk, rfl, rfl, hys, hO, hqn, hB⟩ := hrel
    have HYS := Lib.hid hys
    have hyl : ys.length ≤ k := by rw [hys]; exact Nat.le_trans (List.length_filter_le _ _) (by rw [List.length_take]; omega)
    have hwsz := hB.size
    clear hys
    by_cases hlt : k < xs.length
    · obtain ⟨b, off', e1, e2⟩ := intsR_at' HX.out hlt
      obtain rfl : p0 = some ⟨b, off', none⟩ := e1
      have e2 := hB.cell e2
      have hmem : xs.getD k 0 ∈ xs := by rw [List.getD_eq_getElem?_getD, List.getElem?_eq_getElem hlt, Option.getD_some]; exact List.getElem_mem hlt
      have HXI := Lib.hid (HI.out _ hmem)
      have HC := Lib.hid (HCL.out wr hB _ hmem)
      clear hmem
      have HSN := Lib.hid (filter_next (c := c) hlt)
      have hki : (k : Int) < (xs.length : Int) := by omega
      generalize xs.getD k 0 = X at *
      have HQN := Lib.hid hqn
      clear hqn
      go_wp2_with fail
      refine (HC.out).mono ?_
      rintro e w1 ⟨rfl, g1⟩
      have hO := hO.bel intR_good (show Bel wr w1 from by (repeat (first | assumption | exact Bel.refl _ | apply Bel.drewN | apply Bel.drew | apply Bel.alloc | refine Bel.trans ?_ (by assumption))))
      have hB1 := hB.trans (show Bel wr w1 from by (repeat (first | assumption | exact Bel.refl _ | apply Bel.drewN | apply Bel.drew | apply Bel.alloc | refine Bel.trans ?_ (by assumption))))
      have hwsz := hB1.size
      cases he : c X
      · have HSK := Lib.hid (show ys = (xs.take (k + 1)).filter c from by rw [HSN.out, HYS.out, he]; simp)
        clear he
        go_wp2_with fail
        go_roundw
        case rel => exact ⟨k + 1, ys, q1, c1, by omega, by go_num, rfl, HSK.out, hO, HQN.out, hB1⟩
        case measure => simp [intOf]; omega
      · have HSK := Lib.hid (show ys ++ [X] = (xs.take (k + 1)).filter c from by rw [HSN.out, HYS.out, he]; simp)
        clear he
        go_wp2_with ((at_builtin; refine wpList_app (n := 1) intR_good _ rfl _ _ 25 rfl (.int .i64 0) 8 Try.underlying25 (by kernel_rfl) rfl (by decide) (by decide) q1 c1 ys (X) rfl (hO.bel intR_good (by (repeat (first | assumption | exact Bel.refl _ | apply Bel.drewN | apply Bel.drew | apply Bel.alloc | refine Bel.trans ?_ (by assumption))))) _ 1 [.int .i64 X] rfl rfl (World.news_of_block (alloc_at (by simp))) (by intro u hu; simp at hu; subst hu; rfl) (intRep HXI.out) (by omega) (by first | omega | (simp; omega)) ?_; intro q' cap' w' hO' hBW hsz'))
        have HB := Lib.hid (hBW w (by (repeat (first | assumption | exact Bel.refl _ | apply Bel.drewN | apply Bel.drew | apply Bel.alloc | refine Bel.trans ?_ (by assumption)))) (Nat.le_refl _))
        clear hBW hsz'
        go_roundw
        case rel => exact ⟨k + 1, ys ++ [X], q', cap', by omega, by go_num, by simp, HSK.out, hO', own_some hO' (by simp), HB.out⟩
        case measure => simp [intOf]; omega
    · obtain rfl : k = xs.length := by omega
      obtain ⟨ad, rfl⟩ : ∃ ad, q1 = some ad := by
        cases q1 with
        | none => exact absurd rfl hqn
        | some ad => exact ⟨ad, rfl⟩
      clear hqn
      have HE := Lib.hid (show ys = xs.filter c from by rw [HYS.out, List.take_length])
      have HI2 := Lib.hid (show intsR (New w wr) wr [.slice (some ad) ys.length c1] ys from hO.done intR_good (fun _ hf => hf.elim) (fun b h1 h2 => ⟨h1, h2⟩))
      clear hO
      go_wp2
      go_ret
      exact ⟨ad, c1, by rw [← HE.out]; rfl, by rw [← HE.out]; exact HI2.out, hB⟩

def rootC (p : ProjT) (x : Int) : Bool := decide ((preV p x).length = 0)
theorem root_kept {p : ProjT} (h : projOk p = true) : (rangeL p.2.1.length).filter (rootC p) = rootV p := by
  unfold rootV rootTo rangeL
  rw [if_pos h, List.filter_map]
  congr 1
  refine List.filter_congr fun a ha => ?_
  have ha' := List.mem_range.1 ha
  have e : preV p (a : Int) = sideV p (a : Int) true := if_pos ⟨h, inB_yes (by omega)⟩
  simp only [Function.comp, rootC, rootB, e]
set_option maxRecDepth 100000 in
set_option maxHeartbeats 1000000 in
theorem roots1_any (B0 : Nat) (p : ProjT) (S : Nat → Prop) (d : Int) (c1 c2 c3 c4 : Value) (a : Int) (w : World) (hx : aggR projR S w (.agg #[.int .i64 d, c1, c2, c3, c4]) p) (hS : ∀ b, S b → b < w.heap.size) (hn : bulkProject p ≤ 1048576)
    (b0 : w.cell? ⟨B0, 0, none⟩ = some (.int .i64 d)) (b1 : w.cell? ⟨B0, 1, none⟩ = some c1) (b2 : w.cell? ⟨B0, 2, none⟩ = some c2) (b3 : w.cell? ⟨B0, 3, none⟩ = some c3) (b4 : w.cell? ⟨B0, 4, none⟩ = some c4) :
    Calls Try.prog 114 #[.int .i64 a, .pointer (some ⟨B0, 0, none⟩)] w fun e w' => e = .returned (.bool (rootC p a)) ∧ Bel w w' := by
  have HX := Lib.hid hx
  have HS := Lib.hid hS
  clear hx hS
  go_enter Try.func114, Try.ntmps114
  go_wp2_with fail
  refine (iPredecessors_any _ p S a _ HX.out HS.out hn).mono ?_
  rintro e w1 ⟨vr, rfl, hr, g1⟩
  obtain ⟨rq, rc, rfl, rl, rl', -⟩ := sliceR_open hr
  clear hr
  obtain ⟨n, hN⟩ : ∃ n, (preV p a).length = n := ⟨_, rfl⟩
  by_cases h0 : n = 0
  · subst h0
    have HDD := Lib.hid (show rootC p a = true from by unfold rootC; rw [hN]; rfl)
    rw [hN] at rl
    rw [hN]
    clear hN
    go_wp2
    go_ret
    exact ⟨ret_bool (by first | (rw [HDD.out]; done) | (rw [HDD.out]; rfl) | (rw [HDD.out]; simp; done) | (rw [HDD.out]; simp [h0])), g1⟩
  · have HDD := Lib.hid (show rootC p a = false from by unfold rootC; rw [hN]; simp [h0])
    have h1 : ((n : Nat) : Int) ≠ 0 := by omega
    rw [hN]
    clear hN
    go_wp2
    go_ret
    exact ⟨ret_bool (by first | (rw [HDD.out]; done) | (rw [HDD.out]; rfl) | (rw [HDD.out]; simp; done) | (rw [HDD.out]; simp [h0])), g1⟩

set_option maxRecDepth 100000 in
set_option maxHeartbeats 2000000 in
theorem iRoots_any (v : Value) (p : ProjT) (S : Nat → Prop) (w : World) (hx : aggR projR S w v p) (hS : ∀ b, S b → b < w.heap.size) (_hn : bulkProject p ≤ 1048576) : Calls Try.prog 46 #[v] w (FreshV intsR w (rootV p)) := by
  obtain ⟨cs, rfl, hx⟩ := hx
  obtain ⟨c1, c2, c3, c4, rfl, q0, q1, q2, q3, q4⟩ := projR_open hx
  have Q1 := Lib.hid q1
  have Q2 := Lib.hid q2
  have Q3 := Lib.hid q3
  have Q4 := Lib.hid q4
  have HP := Lib.hid hx
  obtain ⟨p1, k1, rfl, l1, l1', -⟩ := sliceR_open q1
  obtain ⟨p2, k2, rfl, l2, l2', -⟩ := sliceR_open q2
  obtain ⟨p3, k3, rfl, l3, l3', -⟩ := sliceR_open q3
  obtain ⟨p4, k4, rfl, l4, l4', -⟩ := sliceR_open q4
  unfold maxLen at l1' l2' l3' l4'
  clear hx q0 q1 q2 q3 q4
  have HS := Lib.hid hS
  have HNB := Lib.hid _hn
  clear hS _hn
  have HP1 := Lib.hid (show ∀ W, Bel w W → aggR projR S W (.agg #[.int .i64 p.1, .slice p1 p.2.1.length k1, .slice p2 p.2.2.1.length k2, .slice p3 p.2.2.2.1.length k3, .slice p4 p.2.2.2.2.length k4]) p from fun W hW => aggR_mk (projR_good.bel HP.out hW HS.out))
  show Calls Try.prog 46 #[.agg #[.int .i64 p.1, .slice p1 p.2.1.length k1, .slice p2 p.2.2.1.length k2, .slice p3 p.2.2.2.1.length k3, .slice p4 p.2.2.2.2.length k4]] w _
  go_enter Try.func46, Try.ntmps46
  obtain ⟨W0, hW0, hwW, hsz0, hbx⟩ : ∃ W0, W0 = w.alloc (.cells #[.int .i64 p.1, .slice p1 p.2.1.length k1, .slice p2 p.2.2.1.length k2, .slice p3 p.2.2.2.1.length k3, .slice p4 p.2.2.2.2.length k4] 34) ∧ Bel w W0 ∧ W0.heap.size = w.heap.size + 1 ∧ W0.cell? ⟨w.heap.size, 0, none⟩ = some (.int .i64 p.1) ∧ W0.cell? ⟨w.heap.size, 1, none⟩ = some (.slice p1 p.2.1.length k1) ∧ W0.cell? ⟨w.heap.size, 2, none⟩ = some (.slice p2 p.2.2.1.length k2) ∧ W0.cell? ⟨w.heap.size, 3, none⟩ = some (.slice p3 p.2.2.2.1.length k3) ∧ W0.cell? ⟨w.heap.size, 4, none⟩ = some (.slice p4 p.2.2.2.2.length k4) := ⟨_, rfl, by (repeat (first | assumption | exact Bel.refl _ | apply Bel.drewN | apply Bel.drew | apply Bel.alloc | refine Bel.trans ?_ (by assumption))), by simp, by simp [go_sem], by simp [go_sem], by simp [go_sem], by simp [go_sem], by simp [go_sem]⟩
  have HBX := Lib.hid (show ∀ W, Bel W0 W → W.cell? ⟨w.heap.size, 0, none⟩ = some (.int .i64 p.1) ∧ W.cell? ⟨w.heap.size, 1, none⟩ = some (.slice p1 p.2.1.length k1) ∧ W.cell? ⟨w.heap.size, 2, none⟩ = some (.slice p2 p.2.2.1.length k2) ∧ W.cell? ⟨w.heap.size, 3, none⟩ = some (.slice p3 p.2.2.2.1.length k3) ∧ W.cell? ⟨w.heap.size, 4, none⟩ = some (.slice p4 p.2.2.2.2.length k4) from fun W hW => keep5 hbx hW)
  clear hbx
  have HSZ0 := Lib.hid hsz0
  clear hsz0
  go_wp2_with fail
  rw [← hW0]
  clear hW0
  refine (iProjectOk_any _ p S _ (HP1.out _ (by (repeat (first | assumption | exact Bel.refl _ | apply Bel.drewN | apply Bel.drew | apply Bel.alloc | refine Bel.trans ?_ (by assumption))))) (fun b hb => Nat.lt_of_lt_of_le (HS.out b hb) (Bel.size (by (repeat (first | assumption | exact Bel.refl _ | apply Bel.drewN | apply Bel.drew | apply Bel.alloc | refine Bel.trans ?_ (by assumption))))))).mono ?_
  rintro e w1 ⟨rfl, g1⟩
  have G1 : Bel W0 w1 := by (repeat (first | assumption | exact Bel.refl _ | apply Bel.drewN | apply Bel.drew | apply Bel.alloc | refine Bel.trans ?_ (by assumption)))
  have G2 : Bel w w1 := hwW.trans G1
  obtain ⟨b0, b1, b2, b3, b4⟩ := HBX.out w1 G1
  cases hp : projOk p
  · have HD := Lib.hid (show intsR (New w w1) w1 [.slice none 0 0] (rootV p) from by unfold rootV; rw [if_neg (by rw [hp]; simp)]; exact ⟨none, 0, rfl, Nat.le_refl _, Nat.zero_le _, fun i h => by simp at h⟩)
    clear hp
    go_wp2
    go_ret
    exact ⟨_, rfl, HD.out, G2⟩
  have hbd := projOk_bd hp
  have HPO := Lib.hid hp
  clear hp
  go_wp2_with fail
  refine (iIntRange_any p.2.1.length _ (by omega)).mono ?_
  rintro e w2 ⟨vr, rfl, hr, g2⟩
  have G3 : Bel w1 w2 := by (repeat (first | assumption | exact Bel.refl _ | apply Bel.drewN | apply Bel.drew | apply Bel.alloc | refine Bel.trans ?_ (by assumption)))
  have G4 := G1.trans G3
  have G5 := G2.trans G3
  have HR := Lib.hid hr
  clear hr b0 b1 b2 b3 b4
  go_wp2_with fail
  refine (keptRoots_any w.heap.size (rootC p) vr (rangeL p.2.1.length) _ _ HR.out (fun b hb => hb.2) (by rw [rangeL_length]; omega) (fun W hW x hxm => by
    obtain ⟨b0, b1, b2, b3, b4⟩ := HBX.out W (G4.trans hW)
    exact roots1_any w.heap.size p S _ _ _ _ _ x W (HP1.out W (G5.trans hW)) (fun b hb => Nat.lt_of_lt_of_le (HS.out b hb) (G5.trans hW).size) HNB.out b0 b1 b2 b3 b4)).mono ?_
  rintro e w3 ⟨ad, c, rfl, hI, gB⟩
  have HRES := Lib.hid (show intsR (New w w3) w3 [.slice (some ad) ((rangeL p.2.1.length).filter (rootC p)).length c] (rootV p) from by
    rw [root_kept HPO.out] at hI ⊢
    exact intsR_good.mono hI (fun b hb => ⟨by have := hb.1; have := G5.size; omega, hb.2⟩))
  clear hI
  go_wp2
  go_ret
  exact ⟨_, rfl, HRES.out, G5.trans gB⟩


end Go.Proofs.Ytiaamddhocdhaaa
end

/- Que -/
section
namespace Go.Proofs.Ytiaamddhocdhaaa
open Go.RowKit
set_option linter.unusedVariables false

/-- The slice's cells lie in a row of its own. -/
def Que (e : TypeId) (B : Nat) (w : World) (p : Option Addr) (cap : Nat) (xs : List Int) : Prop :=
  (∀ x, x ∈ xs → I64 x) ∧ xs.length ≤ cap ∧ cap ≤ maxLen ∧ ∃ (g off N : Nat) (F : Nat → Value), p = some ⟨g, off, none⟩ ∧ B ≤ g ∧ w.rowIs g e N F ∧ off + cap ≤ N ∧ ∀ i (h : i < xs.length), F (off + i) = .int .i64 xs[i]
section
variable {e : TypeId} {B : Nat} {w w' : World} {p : Option Addr} {cap : Nat} {xs : List Int}
theorem Que.keep (h : Que e B w p cap xs) (hk : ∀ a, p = some a → w'.heap[a.block]? = w.heap[a.block]?) : Que e B w' p cap xs := by
  obtain ⟨h1, h2, h3, g, off, N, F, rfl, h4, h5, h6⟩ := h
  exact ⟨h1, h2, h3, g, off, N, F, rfl, h4, h5.of_block (hk _ rfl), h6⟩
theorem Que.lt (h : Que e B w p cap xs) {a : Addr} (ha : p = some a) : B ≤ a.block ∧ a.block < w.heap.size := by
  obtain ⟨h1, h2, h3, g, off, N, F, rfl, h4, h5, h6⟩ := h
  cases ha
  exact ⟨h4, h5.lt⟩
theorem Que.bel (h : Que e B w p cap xs) (hb : Bel w w') : Que e B w' p cap xs := h.keep fun a ha => hb.block (h.lt ha).2
theorem Que.start {g : Nat} {x : Int} (h : w.heap[g]? = some (.cells #[.int .i64 x] e (0, 0))) (hB : B ≤ g) (hx : I64 x) : Que e B w (some ⟨g, 0, none⟩) 1 [x] := by
  refine ⟨fun y hy => by rw [List.mem_singleton.1 hy]; exact hx, Nat.le_refl _, by unfold maxLen; omega, g, 0, 1, fun _ => .int .i64 x, rfl, hB, ⟨_, h, rfl, fun i hi => ?_⟩, Nat.le_refl _, fun i hi => ?_⟩
  · have : i = 0 := by omega
    subst this
    rfl
  · have : i = 0 := by simpa using hi
    subst this
    rfl
theorem Que.head {g off : Nat} (h : Que e B w (some ⟨g, off, none⟩) cap xs) (h0 : 0 < xs.length) : w.cell? ⟨g, off, none⟩ = some (.int .i64 (xs.getD 0 0)) ∧ I64 (xs.getD 0 0) := by
  obtain ⟨h1, h2, h3, g', off', N, F, hp, h4, h5, h6, h7⟩ := h
  obtain ⟨rfl, rfl⟩ : g = g' ∧ off = off' := by simpa using hp
  have e : xs.getD 0 0 = xs[0] := by simp [List.getD, h0]
  rw [e]
  have := h5.cell (i := off) (by omega)
  have h8 := h7 0 h0
  rw [Nat.add_zero] at h8
  rw [h8] at this
  exact ⟨this, h1 _ (List.getElem_mem h0)⟩
theorem Que.tail {g off : Nat} (h : Que e B w (some ⟨g, off, none⟩) cap xs) (h0 : 0 < xs.length) : ∃ A, (if cap = 1 then (some ⟨g, off, none⟩ : Option Addr) else some ⟨g, off + 1, none⟩) = some A ∧ A.block = g ∧ Que e B w (some A) (cap - 1) xs.tail := by
  obtain ⟨h1, h2, h3, g', off', N, F, hp, h4, h5, h6, h7⟩ := h
  obtain ⟨rfl, rfl⟩ : g = g' ∧ off = off' := by simpa using hp
  have ht : ∀ x, x ∈ xs.tail → I64 x := fun x hx => h1 x (List.mem_of_mem_tail hx)
  have hl : xs.tail.length = xs.length - 1 := List.length_tail
  by_cases hc : cap = 1
  · refine ⟨⟨g, off, none⟩, by rw [if_pos hc], rfl, ht, by omega, by omega, g, off, N, F, rfl, h4, h5, by omega, fun i hi => ?_⟩
    omega
  · refine ⟨⟨g, off + 1, none⟩, by rw [if_neg hc], rfl, ht, by omega, by omega, g, off + 1, N, F, rfl, h4, h5, by omega, fun i hi => ?_⟩
    have := h7 (i + 1) (by omega)
    rw [show off + 1 + i = off + (i + 1) from by omega, this]
    simp
end
section
variable {P : Program} {e : TypeId} {B : Nat}
/-- append of one number to a queue, for the walk. -/
theorem wpList_que (w : World) {ops : Array Oper} {rest : List Oper} {o : Oper} {a : Act} {Q : Exit → Act → World → Prop} (hgd : o.guard = none) (s x : Operand) (t : TypeId)
    (ho : o.op = .call { callee := .builtin .append, args := #[s, x], argTypes := #[t, t] })
    (z : Value) (bytes : Nat) (ht : P.underlying t = some (.slice e)) (hinfo : (P.info? e).map (fun i => (i.zero, i.size, i.bytes)) = some (some z, 1, bytes)) (hzs : z.cells.size = 1) (hby : bytes ≤ 100)
    (p : Option Addr) (cap : Nat) (xs : List Int) (x0 : Int) (hs : a.eval s = .slice p xs.length cap) (hq : Que e B w p cap xs)
    (g : Nat) (c : Nat) (hx : a.eval x = .slice (some ⟨g, 0, none⟩) 1 c) (hcell : w.cell? ⟨g, 0, none⟩ = some (.int .i64 x0)) (hx0 : I64 x0) (hlen : xs.length ≤ 1000000) (hbase : B ≤ w.heap.size)
    (h : ∀ p' cap' w', Que e B w' p' cap' (xs ++ [x0]) → (∀ W, Bel W w → W.heap.size ≤ B → Bel W w') → w.heap.size ≤ w'.heap.size →
      (∀ b, b < w.heap.size → (∀ a, p = some a → b ≠ a.block) → w'.heap[b]? = w.heap[b]? ∧ ∀ a, p' = some a → b ≠ a.block) →
      wpList P ops Q rest (a.put o.dst (.slice p' (xs.length + 1) cap')) w') : wpList P ops Q (o :: rest) a w := by
  obtain ⟨i, hi, hz, hsize, hbytes⟩ := info_parts hinfo
  have hq0 := hq
  obtain ⟨h1, h2, h3, q, off, N, F, rfl, h4, h5, h6, h7⟩ := hq
  have hnews : ∀ j u, ([Value.int .i64 x0] : List Value)[j]? = some u → w.cell? ((⟨g, 0, none⟩ : Addr).add j) = some u := by
    intro j u hj
    have : j = 0 := by
      rcases Nat.eq_zero_or_pos j with h | h
      · exact h
      · rw [List.getElem?_eq_none (by simp; omega)] at hj; cases hj
    subst this
    have hadd : (⟨g, 0, none⟩ : Addr).add 0 = ⟨g, 0, none⟩ := by unfold Addr.add; split <;> simp_all
    rw [hadd, hcell]
    simpa using hj
  have h1c : ∀ u ∈ ([Value.int .i64 x0] : List Value), u.oneCell' = true := by intro u hu; simp at hu; subst hu; rfl
  by_cases hr : xs.length + 1 ≤ cap
  · have hrun := run_append_room_cells (P := P) (w := w) t o.type e i ht hi q off xs.length cap ⟨g, 0, none⟩ 1 c [.int .i64 x0] (by rw [hsize]; rfl) hnews h1c hr
      (fun j hj => by
        obtain rfl : j = 0 := by simpa using hj
        rw [hsize, h5.cell (i := off + xs.length * 1 + 0) (by omega)]; rfl)
      (fun j hj => h5.frozen _)
    refine wpList_plain hgd fun K hK => ?_
    unfold Oper.wp execOp
    simp only [ho, resolve, invoke, builtin, Sem.run_bind, Sem.run_pure, Result.andThen_ok, List.map_toArray, List.map_cons, List.map_nil, hs, hx, hrun]
    have hm : Mut (fun b => b = q) w (w.setCells q (off + xs.length * i.size) [.int .i64 x0]) := mut_setCells (S := fun b => b = q) (g := q) rfl _ _ _ (Mut.refl _ _)
    refine hK _ _ (h _ _ _ ⟨fun y hy => ?_, by simpa using hr, h3, q, off, N, _, rfl, h4, h5.set (off + xs.length * i.size) (.int .i64 x0), h6, fun j hj => ?_⟩ (fun W hW hWB => Mut.bel hW hm fun k hk => by rw [hk]; omega) hm.size (fun b hb hp => ⟨hm.block b hb fun hh => hp _ rfl hh, hp⟩))
    · rcases List.mem_append.1 hy with hy | hy
      · exact h1 y hy
      · rw [List.mem_singleton.1 hy]; exact hx0
    · rw [hsize, Nat.mul_one]
      by_cases hj' : j < xs.length
      · rw [if_neg (by omega), h7 j hj', List.getElem_append_left hj']
      · have : j = xs.length := by simp at hj; omega
        subst this
        rw [if_pos rfl]
        simp
  · have hc : cap = xs.length := by omega
    subst hc
    refine wpList_append_grows w hgd s x t ho e i z 1 bytes ht hi hz hsize hbytes hzs (by decide) (some ⟨q, off, none⟩) xs.length xs.length (xs.map (Value.int .i64)) hs (fun h => by cases h) (by simp) (fun b hb j u hj => ?_) ⟨g, 0, none⟩ 1 c [.int .i64 x0] hx rfl hnews h1c (by omega) (by unfold maxLen; omega) ?_ ?_
    · cases hb
      have hjl : j < xs.length := by
        rcases Nat.lt_or_ge j xs.length with h | h
        · exact h
        · rw [List.getElem?_eq_none (by simpa using h)] at hj; cases hj
      have hadd : (⟨q, off, none⟩ : Addr).add j = ⟨q, off + j, none⟩ := by unfold Addr.add; split <;> simp_all
      rw [hadd, h5.cell (i := off + j) (by omega), h7 j hjl]
      rw [List.getElem?_map, List.getElem?_eq_getElem hjl] at hj
      simpa using hj
    · have : (xs.length + 1) * bytes ≤ 1000001 * 100 := Nat.mul_le_mul (by omega) hby
      omega
    · intro v' w' k2 k3
      obtain ⟨g', cap', rfl, _, _⟩ := k2.form (by omega)
      obtain ⟨k21, k22⟩ := k2
      rcases k22 with ⟨k4, _⟩ | ⟨g2, cap2, cur, k4, k5, k6, k7, k8, k9, k10⟩
      · simp at k4
      · obtain ⟨rfl, rfl⟩ : g' = g2 ∧ cap' = cap2 := by simpa using k4
        refine h _ _ _ ⟨fun y hy => ?_, by simpa using k7, k8, g', 0, cap', fun j => (cur[j]?).getD default, rfl, by omega, ⟨cur, k6, by omega, fun j hj => ?_⟩, by omega, fun j hj => ?_⟩ (fun W hW _ => Below.grown hW k3 hW.size fun k hk => by cases hk) k3.size (fun b hb hp => ⟨k3.block b hb (by simp), fun a ha hh => ?_⟩)
        · rcases List.mem_append.1 hy with hy | hy
          · exact h1 y hy
          · rw [List.mem_singleton.1 hy]; exact hx0
        · show cur[j]? = some ((cur[j]?).getD default)
          rw [Array.getElem?_eq_getElem (by omega)]; rfl
        · have hl : (xs ++ [x0]).length = xs.length + 1 := by simp
          have h11 : (cur.toList.take ((xs.length + 1) * 1))[j]? = (xs.map (Value.int .i64) ++ [Value.int .i64 x0])[j]? := by rw [k10]
          rw [List.getElem?_take, if_pos (by omega), Array.getElem?_toList] at h11
          show (cur[0 + j]?).getD default = _
          rw [Nat.zero_add, h11]
          have e : (xs.map (Value.int .i64) ++ [Value.int .i64 x0] : List Value) = (xs ++ [x0]).map (Value.int .i64) := by simp
          rw [e, List.getElem?_map, List.getElem?_eq_getElem hj]
          rfl
        · cases ha
          have hh' : b = g' := hh
          omega
end
theorem bfs_len (l : List Int) : ∀ s : List Int × List Int, (l.foldl bfs s).2.length + s.1.length = (l.foldl bfs s).1.length + s.2.length ∧ s.1.length ≤ (l.foldl bfs s).1.length ∧ (l.foldl bfs s).1.length ≤ s.1.length + l.length := by
  induction l with
  | nil => intro s; simp; omega
  | cons z l ih =>
    intro s
    rw [List.foldl_cons]
    have := ih (bfs s z)
    unfold bfs at this ⊢
    split at this
    · next h => rw [if_pos h]; simp only [List.length_cons]; omega
    · next h => rw [if_neg h]; simp only [List.length_append, List.length_cons, List.length_nil] at this ⊢; omega
def lenV : Value → Nat
  | .slice _ n _ => n
  | _ => 0
end Go.Proofs.Ytiaamddhocdhaaa
end

/- Reach -/
section
namespace Go.Proofs.Ytiaamddhocdhaaa
open Go.ChangeShapes Go.WideShapes Go.ChangeAt Go.RowKit
set_option linter.unusedVariables false

set_option maxRecDepth 100000 in
set_option maxHeartbeats 1000000 in
theorem sSetUnion_any (a1 a2 : Addr) (k1 k2 : Nat) (xs ys : List Int) (T1 T2 : Nat → Prop) (w : World) (hx : intsR T1 w [.slice (some a1) xs.length k1] xs) (hT1 : ∀ b, T1 b → b < w.heap.size) (hy : intsR T2 w [.slice (some a2) ys.length k2] ys) (hT2 : ∀ b, T2 b → b < w.heap.size) (hl1 : xs.length ≤ 100) (hl2 : ys.length ≤ 100) :
    Calls Try.prog 65 #[.slice (some a1) xs.length k1, .slice (some a2) ys.length k2] w (SetR (fun _ => False) w (setL (xs ++ ys))) := by
  have HX := Lib.hid hx
  have HY := Lib.hid hy
  have HT1 := Lib.hid hT1
  have HT2 := Lib.hid hT2
  have HO0 := Lib.hid (fun (g : Nat) (W : World) (h : W.heap[g]? = some (.cells #[] 3 (0, 0))) (hg : w.heap.size ≤ g) => show OwnI 3 w.heap.size W (some ⟨g, 0, none⟩) 0 [] from OwnI.empty h hg)
  clear hx hy hT1 hT2
  go_enter Try.func65, Try.ntmps65
  go_wp2_with (first | (at_builtin; refine wpList_apps (B := w.heap.size) _ rfl _ _ 25 rfl (.int .i64 0) 8 Try.underlying25 (by kernel_rfl) rfl (by decide) q1 _ c1' ([] ++ xs) rfl (hO1.bel (by (repeat (first | assumption | exact Bel.refl _ | apply Bel.drewN | apply Bel.drew | apply Bel.alloc | refine Bel.trans ?_ (by assumption))))) (by first | (simp; done) | (simp; omega)) _ _ _ ys T2 rfl (intsR_good.bel HY.out (by (repeat (first | assumption | exact Bel.refl _ | apply Bel.drewN | apply Bel.drew | apply Bel.alloc | refine Bel.trans ?_ (by assumption)))) HT2.out) rfl (fun h => by cases h) (by omega) (by first | omega | (simp; done) | (simp; omega)) ?_; intro q2 c2' w2 hO2 hG2 hN2; have hB2 : Bel w w2 := hG2.bel w (by (repeat (first | assumption | exact Bel.refl _ | apply Bel.drewN | apply Bel.drew | apply Bel.alloc | refine Bel.trans ?_ (by assumption)))) (Nat.le_refl _); have hs2 := hB2.size; clear hG2 hN2) | (at_builtin; refine wpList_apps (B := w.heap.size) _ rfl _ _ 25 rfl (.int .i64 0) 8 Try.underlying25 (by kernel_rfl) rfl (by decide) (some ⟨w.heap.size, 0, none⟩) _ 0 [] rfl (HO0.out _ _ (alloc_at rfl) (Nat.le_refl _)) rfl _ _ _ xs T1 rfl (intsR_good.bel HX.out (by (repeat (first | assumption | exact Bel.refl _ | apply Bel.drewN | apply Bel.drew | apply Bel.alloc | refine Bel.trans ?_ (by assumption)))) HT1.out) rfl (fun h => by cases h) (by omega) (by first | omega | (simp; done) | (simp; omega)) ?_; intro q1 c1' w1 hO1 hG1 hN1; have hB1 : Bel w w1 := hG1.bel w (by (repeat (first | assumption | exact Bel.refl _ | apply Bel.drewN | apply Bel.drew | apply Bel.alloc | refine Bel.trans ?_ (by assumption)))) (Nat.le_refl _); have hs1 := hB1.size; clear hG1 hN1))
  have HI := Lib.hid (show intsR (New w w2) w2 [.slice q2 ([] ++ xs ++ ys).length c2'] ([] ++ xs ++ ys) from hO2.done (fun b h1 h2 => ⟨h1, h2⟩))
  have hlen : ([] ++ xs ++ ys : List Int).length = xs.length + ys.length := by simp
  have HI := Lib.hid (show intsR (New w w2) w2 [.slice q2 (xs.length + ys.length) c2'] (xs ++ ys) from by
    have := HI.out
    rw [hlen] at this
    simpa using this)
  clear hO1 hO2 hlen
  refine (sSetOf_any _ (xs ++ ys) _ _ HI.out (fun b hb => hb.2) (by simp; omega)).mono ?_
  rintro e w3 ⟨g, off, c, rfl, hI, gB⟩
  have HRES := Lib.hid (show intsR (fun b => False ∨ New w w3 b) w3 [.slice (some ⟨g, off, none⟩) (setL (xs ++ ys)).length c] (setL (xs ++ ys)) from intsR_good.mono hI (fun b hb => .inr ⟨by have := (hb.resolve_left id).1; omega, (hb.resolve_left id).2⟩))
  clear hI
  go_wp2
  go_ret
  exact ⟨g, off, c, rfl, HRES.out, hB2.trans gB⟩

set_option maxRecDepth 100000 in
set_option maxHeartbeats 4000000 in
theorem sIsReachable_any (v : Value) (p : ProjT) (S : Nat → Prop) (a b : Int) (w : World) (hx : aggR projR S w v p) (hS : ∀ b, S b → b < w.heap.size) (_hn : bulkProject p ≤ 1048576) : Calls Try.prog 11 #[v, .int .i64 a, .int .i64 b] w fun e w' => e = .returned (.bool (reachB p a b)) ∧ Bel w w' := by
  obtain ⟨cs, rfl, hx⟩ := hx
  obtain ⟨c1, c2, c3, c4, rfl, q0, q1, q2, q3, q4⟩ := projR_open hx
  have Q1 := Lib.hid q1
  have Q2 := Lib.hid q2
  have Q3 := Lib.hid q3
  have Q4 := Lib.hid q4
  have HP := Lib.hid hx
  obtain ⟨p1, k1, rfl, l1, l1', -⟩ := sliceR_open q1
  obtain ⟨p2, k2, rfl, l2, l2', -⟩ := sliceR_open q2
  obtain ⟨p3, k3, rfl, l3, l3', -⟩ := sliceR_open q3
  obtain ⟨p4, k4, rfl, l4, l4', -⟩ := sliceR_open q4
  unfold maxLen at l1' l2' l3' l4'
  clear hx q0 q1 q2 q3 q4
  have HS := Lib.hid hS
  have HNB := Lib.hid _hn
  clear hS _hn
  have HP1 := Lib.hid (show ∀ W, Bel w W → aggR projR S W (.agg #[.int .i64 p.1, .slice p1 p.2.1.length k1, .slice p2 p.2.2.1.length k2, .slice p3 p.2.2.2.1.length k3, .slice p4 p.2.2.2.2.length k4]) p from fun W hW => aggR_mk (projR_good.bel HP.out hW HS.out))
  show Calls Try.prog 11 #[.agg #[.int .i64 p.1, .slice p1 p.2.1.length k1, .slice p2 p.2.2.1.length k2, .slice p3 p.2.2.2.1.length k3, .slice p4 p.2.2.2.2.length k4], .int .i64 a, .int .i64 b] w _
  go_enter Try.func11, Try.ntmps11
  obtain ⟨W0, hW0, hwW, hsz0, hbx⟩ : ∃ W0, W0 = w.alloc (.cells #[.int .i64 p.1, .slice p1 p.2.1.length k1, .slice p2 p.2.2.1.length k2, .slice p3 p.2.2.2.1.length k3, .slice p4 p.2.2.2.2.length k4] 34) ∧ Bel w W0 ∧ W0.heap.size = w.heap.size + 1 ∧ W0.cell? ⟨w.heap.size, 0, none⟩ = some (.int .i64 p.1) ∧ W0.cell? ⟨w.heap.size, 1, none⟩ = some (.slice p1 p.2.1.length k1) ∧ W0.cell? ⟨w.heap.size, 2, none⟩ = some (.slice p2 p.2.2.1.length k2) ∧ W0.cell? ⟨w.heap.size, 3, none⟩ = some (.slice p3 p.2.2.2.1.length k3) ∧ W0.cell? ⟨w.heap.size, 4, none⟩ = some (.slice p4 p.2.2.2.2.length k4) := ⟨_, rfl, by (repeat (first | assumption | exact Bel.refl _ | apply Bel.drewN | apply Bel.drew | apply Bel.alloc | refine Bel.trans ?_ (by assumption))), by simp, by simp [go_sem], by simp [go_sem], by simp [go_sem], by simp [go_sem], by simp [go_sem]⟩
  have HBX := Lib.hid (show ∀ W, Bel W0 W → W.cell? ⟨w.heap.size, 0, none⟩ = some (.int .i64 p.1) ∧ W.cell? ⟨w.heap.size, 1, none⟩ = some (.slice p1 p.2.1.length k1) ∧ W.cell? ⟨w.heap.size, 2, none⟩ = some (.slice p2 p.2.2.1.length k2) ∧ W.cell? ⟨w.heap.size, 3, none⟩ = some (.slice p3 p.2.2.2.1.length k3) ∧ W.cell? ⟨w.heap.size, 4, none⟩ = some (.slice p4 p.2.2.2.2.length k4) from fun W hW => keep5 hbx hW)
  clear hbx
  have HSZ0 := Lib.hid hsz0
  clear hsz0
  go_wp2_with fail
  rw [← hW0]
  clear hW0
  refine (sProjectOk_any _ p S _ (HP1.out _ (by (repeat (first | assumption | exact Bel.refl _ | apply Bel.drewN | apply Bel.drew | apply Bel.alloc | refine Bel.trans ?_ (by assumption))))) (fun b hb => Nat.lt_of_lt_of_le (HS.out b hb) (Bel.size (by (repeat (first | assumption | exact Bel.refl _ | apply Bel.drewN | apply Bel.drew | apply Bel.alloc | refine Bel.trans ?_ (by assumption))))))).mono ?_
  rintro e w1 ⟨rfl, g1⟩
  have G1 : Bel W0 w1 := by (repeat (first | assumption | exact Bel.refl _ | apply Bel.drewN | apply Bel.drew | apply Bel.alloc | refine Bel.trans ?_ (by assumption)))
  have G2 : Bel w w1 := hwW.trans G1
  obtain ⟨b0, b1, b2, b3, b4⟩ := HBX.out w1 G1
  cases hp : projOk p
  · have HF := Lib.hid (reachB_p (a := a) (b := b) hp)
    clear hp
    go_wp2
    go_ret
    exact ⟨ret_bool HF.out.symm, G2⟩
  have hbd := projOk_bd hp
  have HPO := Lib.hid hp
  clear hp
  go_wp2_with fail
  refine (sSuccessors_any _ p S a _ (HP1.out _ (by (repeat (first | assumption | exact Bel.refl _ | apply Bel.drewN | apply Bel.drew | apply Bel.alloc | refine Bel.trans ?_ (by assumption))))) (fun b hb => Nat.lt_of_lt_of_le (HS.out b hb) (Bel.size (by (repeat (first | assumption | exact Bel.refl _ | apply Bel.drewN | apply Bel.drew | apply Bel.alloc | refine Bel.trans ?_ (by assumption)))))) HNB.out).mono ?_
  rintro e w2 ⟨vr, rfl, hr, g2⟩
  have G3 : Bel w1 w2 := by (repeat (first | assumption | exact Bel.refl _ | apply Bel.drewN | apply Bel.drew | apply Bel.alloc | refine Bel.trans ?_ (by assumption)))
  have G4 := G1.trans G3
  obtain ⟨q0, c0, rfl, l0, l0', -⟩ := sliceR_open hr
  have HR := Lib.hid (show intsR (New w w2) w2 [.slice q0 (sucV p a).length c0] (sucV p a) from intsR_good.mono hr (fun b hb => ⟨by have := hb.1; have := G2.size; omega, hb.2⟩))
  clear hr b0 b1 b2 b3 b4
  unfold maxLen at l0'
  go_wp2_with fail
  go_loopw [7, 8] (fun o i wr => ∃ (n : Nat) (q : Option Addr) (c : Nat) (ys : List Int), n ≤ p.2.1.length ∧ i = .int .i64 n ∧ o = .slice q ys.length c ∧ ys = reachS p a n ∧ intsR (New w wr) wr [.slice q ys.length c] ys ∧ Bel w2 wr) (fun _ i _ => p.2.1.length - (intOf i).toNat)
  case atStart => exact ⟨0, q0, c0, _, Nat.zero_le _, rfl, rfl, rfl, HR.out, by (repeat (first | assumption | exact Bel.refl _ | apply Bel.drewN | apply Bel.drew | apply Bel.alloc | refine Bel.trans ?_ (by assumption)))⟩
  case round =>
    obtain ⟨n, q, c, ys, hn, rfl, rfl, hys, hI, hB⟩ := hrel
    have HYS := Lib.hid hys
    have HI := Lib.hid hI
    have HSA := Lib.hid (show SetA p ys from by rw [hys]; exact reachS_set HPO.out a n)
    have hyl : ys.length ≤ p.2.1.length := inr_len HSA.out.1 HSA.out.2
    have hcap : ys.length ≤ c ∧ c ≤ 9223372036854775807 := by
      obtain ⟨p', c', hv, h1, h2, -⟩ := hI
      obtain ⟨h0, -⟩ := List.cons.inj hv
      injection h0 with a1 a2 a3
      subst a3
      unfold maxLen at h2
      exact ⟨h1, by omega⟩
    clear hys hI
    have GB := G4.trans hB
    obtain ⟨b0, b1, b2, b3, b4⟩ := HBX.out wr GB
    by_cases hlt : n < p.2.1.length
    · have hni : (n : Int) < (p.2.1.length : Int) := by omega
      obtain ⟨Wb, hWb⟩ : ∃ W, W = wr := ⟨wr, rfl⟩
      subst hWb
      have HWW := Lib.hid (show Bel w Wb from hwW.trans GB)
      go_wp2_with fail
      clear b0 b1 b2 b3 b4
      go_loopw [7, 26] (fun o i wr => ∃ (j : Nat) (q' : Option Addr) (c' : Nat) (zs : List Int), j ≤ ys.length ∧ i = .int .i64 j ∧ o = .slice q' zs.length c' ∧ zs = fldS p ys j ∧ intsR (New w wr) wr [.slice q' zs.length c'] zs ∧ (q' = none → q = none) ∧ Bel Wb wr) (fun _ i _ => ys.length - (intOf i).toNat)
      case atStart => exact ⟨0, q, c, ys, Nat.zero_le _, rfl, rfl, (fldS_zero p ys).symm, HI.out, id, Bel.refl _⟩
      case round =>
        obtain ⟨j, q', c', zs, hj, rfl, rfl, hzs, hI2, hqn, hB2⟩ := hrel
        have HZS := Lib.hid hzs
        have HI2 := Lib.hid hI2
        have HZA := Lib.hid (show SetA p zs from by rw [hzs]; exact fldS_set HPO.out HSA.out j hj)
        have hzl : zs.length ≤ p.2.1.length := inr_len HZA.out.1 HZA.out.2
        clear hzs hI2
        by_cases hlj : j < ys.length
        · obtain ⟨b', off', e1, e2⟩ := intsR_at' HI.out hlj
          obtain rfl : q = some ⟨b', off', none⟩ := e1
          obtain ⟨ad, rfl⟩ : ∃ ad, q' = some ad := by
            cases q' with
            | none => exact absurd (hqn rfl) (by simp)
            | some ad => exact ⟨ad, rfl⟩
          have e2 := hB2.cell e2
          have HSN := Lib.hid (fldS_next (p := p) hlj)
          have hji : (j : Int) < (ys.length : Int) := by omega
          clear hqn
          generalize ys.getD j 0 = X at *
          have GC := GB.trans hB2
          obtain ⟨b0, b1, b2, b3, b4⟩ := HBX.out wr GC
          go_wp2_with fail
          clear b0 b1 b2 b3 b4
          refine (sSide_any _ p S _ (HP1.out _ (by (repeat (first | assumption | exact Bel.refl _ | apply Bel.drewN | apply Bel.drew | apply Bel.alloc | refine Bel.trans ?_ (by assumption))))) (fun b hb => Nat.lt_of_lt_of_le (HS.out b hb) (Bel.size (by (repeat (first | assumption | exact Bel.refl _ | apply Bel.drewN | apply Bel.drew | apply Bel.alloc | refine Bel.trans ?_ (by assumption)))))) HNB.out X false HPO.out).mono ?_
          rintro e w3 ⟨g, off, c3, rfl, hI3, gB⟩
          have HI3 := Lib.hid hI3
          have hsl := Nat.le_trans (sideV_le p X false) hbd.2.2.2.2.1
          have hwr := (hB2.trans gB).size
          clear hI3
          go_wp2_with fail
          refine (sSetUnion_any ad ⟨g, off, none⟩ c' c3 zs (sideV p X false) _ _ _ (intsR_good.bel HI2.out gB (fun b hb => hb.2)) (fun b hb => Nat.lt_of_lt_of_le hb.2 gB.size) HI3.out (fun b hb => (hb.resolve_left id).2) (by omega) (by omega)).mono ?_
          rintro e w4 ⟨g4, off4, c4, rfl, hI4, gB4⟩
          have HSE := Lib.hid (show setL (zs ++ sideV p X false) = fldS p ys (j + 1) from by rw [HSN.out, ← HZS.out]; rfl)
          have HI4 := Lib.hid (show intsR (New w w4) w4 [.slice (some ⟨g4, off4, none⟩) (setL (zs ++ sideV p X false)).length c4] (setL (zs ++ sideV p X false)) from intsR_good.mono hI4 (fun b hb => ⟨by have := (hb.resolve_left id).1; have := HWW.out.size; omega, (hb.resolve_left id).2⟩))
          clear hI4
          go_wp2_with fail
          go_roundw
          case rel => exact ⟨j + 1, some ⟨g4, off4, none⟩, c4, setL (zs ++ sideV p X false), by omega, by go_num, rfl, HSE.out, HI4.out, (fun h => by cases h), (hB2.trans gB).trans gB4⟩
          case measure => simp [intOf]; omega
        · obtain rfl : j = ys.length := by omega
          have HSE := Lib.hid (show zs = reachS p a (n + 1) from by rw [HZS.out, fldS_all, HYS.out]; rfl)
          go_wp2_with fail
          go_roundw
          case rel => exact ⟨n + 1, q', c', zs, by omega, by go_num, rfl, HSE.out, HI2.out, hB.trans hB2⟩
          case measure => simp [intOf]; omega
    · obtain rfl : n = p.2.1.length := by omega
      have HF := Lib.hid (show reachB p a b = hasB b ys from by unfold reachB; rw [HPO.out, Bool.true_and, HYS.out])
      have hni : ¬ (p.2.1.length : Int) < (p.2.1.length : Int) := by omega
      go_wp2_with fail
      refine (sSetHas_any _ ys b _ _ HI.out).mono ?_
      rintro e w' ⟨rfl, rfl⟩
      go_wp2
      go_ret
      exact ⟨ret_bool HF.out.symm, hwW.trans GB⟩

set_option maxRecDepth 100000 in
set_option maxHeartbeats 4000000 in
theorem iIsReachable_any (v : Value) (p : ProjT) (S : Nat → Prop) (a b : Int) (w : World) (hx : aggR projR S w v p) (hS : ∀ b, S b → b < w.heap.size) (_hn : bulkProject p ≤ 1048576) : Calls Try.prog 13 #[v, .int .i64 a, .int .i64 b] w fun e w' => e = .returned (.bool (reachB p a b)) ∧ Bel w w' := by
  obtain ⟨cs, rfl, hx⟩ := hx
  obtain ⟨c1, c2, c3, c4, rfl, q0, q1, q2, q3, q4⟩ := projR_open hx
  have Q1 := Lib.hid q1
  have Q2 := Lib.hid q2
  have Q3 := Lib.hid q3
  have Q4 := Lib.hid q4
  have HP := Lib.hid hx
  obtain ⟨p1, k1, rfl, l1, l1', -⟩ := sliceR_open q1
  obtain ⟨p2, k2, rfl, l2, l2', -⟩ := sliceR_open q2
  obtain ⟨p3, k3, rfl, l3, l3', -⟩ := sliceR_open q3
  obtain ⟨p4, k4, rfl, l4, l4', -⟩ := sliceR_open q4
  unfold maxLen at l1' l2' l3' l4'
  clear hx q0 q1 q2 q3 q4
  have HS := Lib.hid hS
  have HNB := Lib.hid _hn
  clear hS _hn
  have HP1 := Lib.hid (show ∀ W, Bel w W → aggR projR S W (.agg #[.int .i64 p.1, .slice p1 p.2.1.length k1, .slice p2 p.2.2.1.length k2, .slice p3 p.2.2.2.1.length k3, .slice p4 p.2.2.2.2.length k4]) p from fun W hW => aggR_mk (projR_good.bel HP.out hW HS.out))
  show Calls Try.prog 13 #[.agg #[.int .i64 p.1, .slice p1 p.2.1.length k1, .slice p2 p.2.2.1.length k2, .slice p3 p.2.2.2.1.length k3, .slice p4 p.2.2.2.2.length k4], .int .i64 a, .int .i64 b] w _
  go_enter Try.func13, Try.ntmps13
  obtain ⟨W0, hW0, hwW, hsz0, hbx⟩ : ∃ W0, W0 = w.alloc (.cells #[.int .i64 p.1, .slice p1 p.2.1.length k1, .slice p2 p.2.2.1.length k2, .slice p3 p.2.2.2.1.length k3, .slice p4 p.2.2.2.2.length k4] 34) ∧ Bel w W0 ∧ W0.heap.size = w.heap.size + 1 ∧ W0.cell? ⟨w.heap.size, 0, none⟩ = some (.int .i64 p.1) ∧ W0.cell? ⟨w.heap.size, 1, none⟩ = some (.slice p1 p.2.1.length k1) ∧ W0.cell? ⟨w.heap.size, 2, none⟩ = some (.slice p2 p.2.2.1.length k2) ∧ W0.cell? ⟨w.heap.size, 3, none⟩ = some (.slice p3 p.2.2.2.1.length k3) ∧ W0.cell? ⟨w.heap.size, 4, none⟩ = some (.slice p4 p.2.2.2.2.length k4) := ⟨_, rfl, by (repeat (first | assumption | exact Bel.refl _ | apply Bel.drewN | apply Bel.drew | apply Bel.alloc | refine Bel.trans ?_ (by assumption))), by simp, by simp [go_sem], by simp [go_sem], by simp [go_sem], by simp [go_sem], by simp [go_sem]⟩
  have HBX := Lib.hid (show ∀ W, Bel W0 W → W.cell? ⟨w.heap.size, 0, none⟩ = some (.int .i64 p.1) ∧ W.cell? ⟨w.heap.size, 1, none⟩ = some (.slice p1 p.2.1.length k1) ∧ W.cell? ⟨w.heap.size, 2, none⟩ = some (.slice p2 p.2.2.1.length k2) ∧ W.cell? ⟨w.heap.size, 3, none⟩ = some (.slice p3 p.2.2.2.1.length k3) ∧ W.cell? ⟨w.heap.size, 4, none⟩ = some (.slice p4 p.2.2.2.2.length k4) from fun W hW => keep5 hbx hW)
  clear hbx
  have HSZ0 := Lib.hid hsz0
  clear hsz0
  go_wp2_with fail
  rw [← hW0]
  clear hW0
  refine (iProjectOk_any _ p S _ (HP1.out _ (by (repeat (first | assumption | exact Bel.refl _ | apply Bel.drewN | apply Bel.drew | apply Bel.alloc | refine Bel.trans ?_ (by assumption))))) (fun b hb => Nat.lt_of_lt_of_le (HS.out b hb) (Bel.size (by (repeat (first | assumption | exact Bel.refl _ | apply Bel.drewN | apply Bel.drew | apply Bel.alloc | refine Bel.trans ?_ (by assumption))))))).mono ?_
  rintro e w1 ⟨rfl, g1⟩
  have G1 : Bel W0 w1 := by (repeat (first | assumption | exact Bel.refl _ | apply Bel.drewN | apply Bel.drew | apply Bel.alloc | refine Bel.trans ?_ (by assumption)))
  have G2 : Bel w w1 := hwW.trans G1
  obtain ⟨b0, b1, b2, b3, b4⟩ := HBX.out w1 G1
  cases hp : projOk p
  · have HF := Lib.hid (reachB_p (a := a) (b := b) hp)
    clear hp
    go_wp2
    go_ret
    exact ⟨ret_bool HF.out.symm, G2⟩
  have hbd := projOk_bd hp
  have HPO := Lib.hid hp
  clear hp
  go_wp2_with fail
  refine (hasActivity_any _ _ _ _ _ _ _ (by omega) _ _).mono ?_
  rintro e wa ⟨rfl, ga⟩
  have G3 : Bel w1 wa := by (repeat (first | assumption | exact Bel.refl _ | apply Bel.drewN | apply Bel.drew | apply Bel.alloc | refine Bel.trans ?_ (by assumption)))
  obtain ⟨b0, b1, b2, b3, b4⟩ := HBX.out wa (G1.trans G3)
  cases ha : inB a 0 ((p.2.1.length : Int) - 1)
  · have HF := Lib.hid (reachB_a (b := b) ha)
    clear ha
    go_wp2
    go_ret
    exact ⟨ret_bool HF.out.symm, G2.trans G3⟩
  have HA_ := Lib.hid ha
  clear ha
  go_wp2_with fail
  refine (hasActivity_any _ _ _ _ _ _ _ (by omega) _ _).mono ?_
  rintro e w2 ⟨rfl, g2⟩
  have G4 : Bel w1 w2 := G3.trans (by (repeat (first | assumption | exact Bel.refl _ | apply Bel.drewN | apply Bel.drew | apply Bel.alloc | refine Bel.trans ?_ (by assumption))))
  have G5 := G2.trans G4
  cases hb : inB b 0 ((p.2.1.length : Int) - 1)
  · have HF := Lib.hid (reachB_b (a := a) hb)
    clear hb
    go_wp2
    go_ret
    exact ⟨ret_bool HF.out.symm, G5⟩
  clear hb b0 b1 b2 b3 b4
  obtain ⟨ka, rfl, hka⟩ := inB_idx HA_.out
  have HAI := Lib.hid (show I64 (ka : Int) from by unfold I64; omega)
  go_wp2_with fail
  go_loopw [7, 8] (fun s o wr => ∃ (SN OP : List Int) (ps po : Option Addr) (cs co : Nat), s = .slice ps SN.length cs ∧ o = .slice po OP.length co ∧ Bfs p (ka : Int) SN OP ∧ OP.length ≤ SN.length + 1 ∧ OwnI 3 w2.heap.size wr ps cs SN ∧ Que 3 w2.heap.size wr po co OP ∧ (∀ a, ps = some a → a.block < wr.heap.size) ∧ (∀ a b, ps = some a → po = some b → a.block ≠ b.block) ∧ Bel w2 wr) (fun s o _ => 2 * (p.2.1.length + 1 - lenV s) + lenV o)
  case atStart =>
    refine ⟨[], [(ka : Int)], _, _, _, _, rfl, rfl, Bfs.start p _, Nat.le_refl _, (OwnI.empty (alloc_at (w := w2) rfl) (Nat.le_refl _)).bel (by (repeat (first | assumption | exact Bel.refl _ | apply Bel.drewN | apply Bel.drew | apply Bel.alloc | refine Bel.trans ?_ (by assumption)))), Que.start (alloc_at (by simp)) (by simp) HAI.out, ?_, ?_, by (repeat (first | assumption | exact Bel.refl _ | apply Bel.drewN | apply Bel.drew | apply Bel.alloc | refine Bel.trans ?_ (by assumption)))⟩
    · intro a ha; cases ha; simp; omega
    · intro a b ha hb; cases ha; cases hb; simp
  case round =>
    obtain ⟨seen, opn, ps, po, cs, co, rfl, rfl, hbf, hol, hS, hQ, hps, hap, hB⟩ := hrel
    have HBF := Lib.hid hbf
    have hsl := once_len hbf.once (hbf.inr HPO.out)
    have hqc : opn.length ≤ co ∧ co ≤ maxLen := ⟨hQ.2.1, hQ.2.2.1⟩
    have hsc : cs ≤ maxLen := by
      rcases hS.1.2 with ⟨h4, _⟩ | ⟨g, cap', cur, h4, h5, h6, h7, h8, _⟩
      · have h5 : ps = none ∧ seen.length = 0 ∧ cs = 0 := by simpa using h4
        rw [h5.2.2]; exact Nat.zero_le _
      · have h9 : ps = some ⟨g, 0, none⟩ ∧ cs = cap' := by simpa using h4
        rw [h9.2]; exact h8
    unfold maxLen at hqc hsc
    clear hbf
    have hwsz := hB.size
    by_cases h0 : 0 < opn.length
    · have h0i : (0 : Int) < (opn.length : Int) := by omega
      obtain ⟨qg, qo, rfl⟩ : ∃ qg qo, po = some ⟨qg, qo, none⟩ := by
        obtain ⟨_, _, _, g, off, N, F, rfl, _⟩ := hQ
        exact ⟨g, off, rfl⟩
      obtain ⟨hc0, hI0⟩ := hQ.head h0
      obtain ⟨u, rest, hur⟩ : ∃ u rest, opn = u :: rest := by
        cases opn with
        | nil => simp at h0
        | cons u rest => exact ⟨u, rest, rfl⟩
      have HUR := Lib.hid hur
      have hu0 : opn.getD 0 0 = u := by rw [hur]; rfl
      rw [hu0] at hc0 hI0
      obtain ⟨Wq, hWq⟩ : ∃ W, W = wr := ⟨wr, rfl⟩
      subst hWq
      have GW := G4.trans hB
      have HSU := Lib.hid (show sucV p u = sideV p u false from by
        rcases HBF.out.left u (by rw [hur]; exact List.mem_cons_self) with h | h
        · exact if_pos ⟨HPO.out, by rw [h]; exact HA_.out⟩
        · have := HBF.out.inr HPO.out u h
          exact if_pos ⟨HPO.out, by unfold inB; rw [decide_eq_true this.1, decide_eq_true (show u ≤ (p.2.1.length : Int) - 1 from by omega)]; rfl⟩)
      clear hu0 hur
      have HSC := Lib.hid (show ∀ W, Bel Wq W → W.cell? ⟨w.heap.size, 0, none⟩ = some (.int .i64 p.1) ∧ W.cell? ⟨w.heap.size, 1, none⟩ = some (.slice p1 p.2.1.length k1) ∧ W.cell? ⟨w.heap.size, 2, none⟩ = some (.slice p2 p.2.2.1.length k2) ∧ W.cell? ⟨w.heap.size, 3, none⟩ = some (.slice p3 p.2.2.2.1.length k3) ∧ W.cell? ⟨w.heap.size, 4, none⟩ = some (.slice p4 p.2.2.2.2.length k4) ∧ W.cell? ⟨qg, qo, none⟩ = some (.int .i64 u) from fun W hW => by
        obtain ⟨b0, b1, b2, b3, b4⟩ := HBX.out W ((G1.trans GW).trans hW)
        exact ⟨b0, b1, b2, b3, b4, hW.cell hc0⟩)
      clear hc0 hI0
      go_upto_region 5 with (fail)
      go_region_held3 (fun W => W.cell? ⟨w.heap.size, 0, none⟩ = some (.int .i64 p.1) ∧ W.cell? ⟨w.heap.size, 1, none⟩ = some (.slice p1 p.2.1.length k1) ∧ W.cell? ⟨w.heap.size, 2, none⟩ = some (.slice p2 p.2.2.1.length k2) ∧ W.cell? ⟨w.heap.size, 3, none⟩ = some (.slice p3 p.2.2.2.1.length k3) ∧ W.cell? ⟨w.heap.size, 4, none⟩ = some (.slice p4 p.2.2.2.2.length k4) ∧ W.cell? ⟨qg, qo, none⟩ = some (.int .i64 u)) (exact HSC.out _ (by (repeat (first | assumption | exact Bel.refl _ | apply Bel.drewN | apply Bel.drew | apply Bel.alloc | refine Bel.trans ?_ (by assumption)))))
        (first | (go_at_call 41; (with_reducible refine (iSuccessors_any _ p S u _ (HP1.out _ (by (repeat (first | assumption | exact Bel.refl _ | apply Bel.drewN | apply Bel.drew | apply Bel.alloc | refine Bel.trans ?_ (by assumption))))) (fun b hb => Nat.lt_of_lt_of_le (HS.out b hb) (Bel.size (by (repeat (first | assumption | exact Bel.refl _ | apply Bel.drewN | apply Bel.drew | apply Bel.alloc | refine Bel.trans ?_ (by assumption)))))) HNB.out).mono ?_); rintro e ws ⟨vr, rfl, hr, gs⟩; have HR := Lib.hid hr; obtain ⟨dq, dc, rfl, dl, dl', -⟩ := sliceR_open hr; clear hr) | fail)
      have hBs : Bel Wq ws := by (repeat (first | assumption | exact Bel.refl _ | apply Bel.drewN | apply Bel.drew | apply Bel.alloc | refine Bel.trans ?_ (by assumption)))
      have HR := Lib.hid (show intsR (New Wq ws) ws [.slice dq (sucV p u).length dc] (sucV p u) from intsR_good.mono HR.out (fun b hb => ⟨by have h1 := hb.1; exact h1, hb.2⟩))
      have HDI := Lib.hid (ints_mem HR.out)
      have hdl : (sucV p u).length ≤ 12 := by rw [HSU.out]; have := sideV_le p u false; omega
      have HDD := Lib.hid (HSU.out)
      clear HSU
      generalize sucV p u = DD at *
      unfold maxLen at dl'
      have hs2 := hBs.size
      have HFS0 := Lib.hid (show ∀ a, ps = some a → a.block < ws.heap.size ∧ (a.block < Wq.heap.size ∨ ws.heap.size ≤ a.block) from fun a ha => ⟨Nat.lt_of_lt_of_le (hps a ha) hs2, .inl (hps a ha)⟩)
      have HFO0 := Lib.hid (show ∀ a, some (⟨qg, qo, none⟩ : Addr) = some a → a.block < ws.heap.size ∧ (a.block < Wq.heap.size ∨ ws.heap.size ≤ a.block) from fun a ha => ⟨Nat.lt_of_lt_of_le (hQ.lt ha).2 hs2, .inl (hQ.lt ha).2⟩)
      have hS0 := hS.bel hBs
      have hQ0 := hQ.bel hBs
      have hBw := hB.trans hBs
      have HAP0 := Lib.hid hap
      clear hps hap hS hQ HSC
      go_wp2_with fail
      go_loopw [7, 8, 38] (fun s o i wr => ∃ (j : Nat) (SN OP : List Int) (ps po : Option Addr) (cs co : Nat), j ≤ DD.length ∧ i = .int .i64 j ∧ s = .slice ps SN.length cs ∧ o = .slice po OP.length co ∧ (SN, OP) = bfsTo seen opn DD j ∧ OwnI 3 w2.heap.size wr ps cs SN ∧ Que 3 w2.heap.size wr po co OP ∧ (∀ a, ps = some a → a.block < wr.heap.size ∧ (a.block < Wq.heap.size ∨ ws.heap.size ≤ a.block)) ∧ (∀ a, po = some a → a.block < wr.heap.size ∧ (a.block < Wq.heap.size ∨ ws.heap.size ≤ a.block)) ∧ (∀ a b, ps = some a → po = some b → a.block ≠ b.block) ∧ intsR (New Wq ws) wr [.slice dq DD.length dc] DD ∧ ws.heap.size ≤ wr.heap.size ∧ Bel w2 wr) (fun _ _ i _ => DD.length - (intOf i).toNat)
      case atStart => exact ⟨0, seen, opn, ps, _, cs, co, Nat.zero_le _, rfl, rfl, rfl, (bfsTo_zero _ _ _).symm, hS0, hQ0, HFS0.out, HFO0.out, HAP0.out, HR.out, Nat.le_refl _, hBw⟩
      case round =>
        clear hS0 hQ0
        obtain ⟨j, SN, OP, ps, po, cs, co, hj, rfl, rfl, rfl, hso, hS, hQ, hfs, hfo, hap, hD, hws, hB2⟩ := hrel
        have HSO := Lib.hid hso
        have HFS := Lib.hid hfs
        have HFO := Lib.hid hfo
        have HAP := Lib.hid hap
        have HD := Lib.hid hD
        have hle := bfs_len (DD.take j) (seen, opn)
        have hle2 : SN.length ≤ 18 ∧ OP.length ≤ 19 := by
          have e1 : (bfsTo seen opn DD j).1 = SN := by rw [← hso]
          have e2 : (bfsTo seen opn DD j).2 = OP := by rw [← hso]
          unfold bfsTo at e1 e2
          rw [e1, e2, List.length_take] at hle
          simp only at hle
          omega
        have hsc2 : cs ≤ 9223372036854775807 ∧ co ≤ 9223372036854775807 := by
          have hc2 := hQ.2.2.1
          unfold maxLen at hc2
          refine ⟨?_, by omega⟩
          rcases hS.1.2 with ⟨h4, _⟩ | ⟨g, cap', cur, h4, h5, h6, h7, h8, _⟩
          · have h5 : ps = none ∧ SN.length = 0 ∧ cs = 0 := by simpa using h4
            omega
          · have h9 : ps = some ⟨g, 0, none⟩ ∧ cs = cap' := by simpa using h4
            unfold maxLen at h8
            omega
        have hwsz2 := hB2.size
        clear hso hfs hfo hap hD hle
        by_cases hlj : j < DD.length
        · obtain ⟨b', off', e1, e2⟩ := intsR_at' HD.out hlj
          obtain rfl : dq = some ⟨b', off', none⟩ := e1
          have hmem : DD.getD j 0 ∈ DD := by rw [List.getD_eq_getElem?_getD, List.getElem?_eq_getElem hlj, Option.getD_some]; exact List.getElem_mem hlj
          have HXI := Lib.hid (HDI.out _ hmem)
          have HNX := Lib.hid (bfsTo_next (seen := seen) (opn := opn) hlj)
          have hji : (j : Int) < (DD.length : Int) := by omega
          have HSI := Lib.hid (show intsR (fun b => b < wr.heap.size) wr [.slice ps SN.length cs] SN from hS.done (fun b h1 h2 => h2))
          clear hmem
          generalize DD.getD j 0 = X at *
          go_wp2_with fail
          refine (containsInts_any _ SN X _ _ HSI.out).mono ?_
          rintro e w' ⟨rfl, rfl⟩
          cases hx : hasB X SN
          · have HEQ := Lib.hid (show (SN ++ [X], OP ++ [X]) = bfsTo seen opn DD (j + 1) from by rw [HNX.out, ← HSO.out]; unfold bfs; rw [if_neg (by rw [hx]; decide)])
            clear hx
            go_wp2_with (first | (at_builtin; refine wpList_que (B := w2.heap.size) _ rfl _ _ 25 rfl (.int .i64 0) 8 Try.underlying25 (by kernel_rfl) rfl (by decide) po co OP X rfl (hQA.bel (by (repeat (first | assumption | exact Bel.refl _ | apply Bel.drewN | apply Bel.drew | apply Bel.alloc | refine Bel.trans ?_ (by assumption))))) _ 1 rfl (by simp [go_sem]) HXI.out (by omega) (by first | omega | (simp; done) | (simp; omega)) ?_; intro po' co' wB hQB hBW hszB hfB; have hBB := hBW w2 (by (repeat (first | assumption | exact Bel.refl _ | apply Bel.drewN | apply Bel.drew | apply Bel.alloc | refine Bel.trans ?_ (by assumption)))) (Nat.le_refl _)) | (at_builtin; refine wpList_apps (B := w2.heap.size) _ rfl _ _ 25 rfl (.int .i64 0) 8 Try.underlying25 (by kernel_rfl) rfl (by decide) ps _ cs SN rfl (hS.bel (by (repeat (first | assumption | exact Bel.refl _ | apply Bel.drewN | apply Bel.drew | apply Bel.alloc | refine Bel.trans ?_ (by assumption))))) rfl _ _ _ [X] (fun g => g = wr.heap.size) rfl (intsR_cell (alloc_at rfl) HXI.out) rfl (fun h => by cases h) (by omega) (by first | omega | (simp; done) | (simp; omega)) ?_; intro ps' cs' wA hSA hGA hNA; have hBA := hGA.bel w2 (by (repeat (first | assumption | exact Bel.refl _ | apply Bel.drewN | apply Bel.drew | apply Bel.alloc | refine Bel.trans ?_ (by assumption)))) (Nat.le_refl _); have hfA := hGA.far; have hszA := hGA.size; simp only [World.size_alloc] at hszA; have hQA := hQ.keep (w' := wA) (fun a ha => (hfA a.block (by have := (HFO.out a ha).1; simp; omega) (fun a' ha' hh => HAP.out a' a ha' ha hh.symm)).1.trans (((Bel.refl wr).alloc _).block (HFO.out a ha).1)); clear hGA hNA))
            have HBf := Lib.hid hBB
            have HSB := Lib.hid (show OwnI 3 w2.heap.size wB ps' cs' (SN ++ [X]) from by
              have hmv : ∀ a, ps' = some a → wB.heap[a.block]? = wA.heap[a.block]? := fun a ha => by
                have hlt := (hSA.lt ha).2
                refine ((hfB a.block (by simp; omega) (fun a' ha' hh => ?_)).1).trans (((Bel.refl wA).alloc _).block hlt)
                exact (hfA a'.block (by have := (HFO.out a' ha').1; simp; omega) (fun a'' ha'' hh' => HAP.out a'' a' ha'' ha' hh'.symm)).2 a ha hh.symm
              exact hSA.keep hmv)
            have HDB := Lib.hid (show intsR (New Wq ws) wB [.slice (some ⟨b', off', none⟩) DD.length dc] DD from by
              refine intsR_good.stay HD.out fun b hb => ?_
              have hb1 := hb.1
              have hb2 := hb.2
              have k1 := hfA b (by simp; omega) (fun a ha hh => by have := (HFS.out a ha).2; omega)
              have k2 := hfB b (by simp; omega) (fun a ha hh => by have := (HFO.out a ha).2; omega)
              exact (k2.1.trans (((Bel.refl wA).alloc _).block (by omega))).trans (k1.1.trans (((Bel.refl wr).alloc _).block (by omega))))
            have HFSB := Lib.hid (show ∀ a, ps' = some a → a.block < wB.heap.size ∧ (a.block < Wq.heap.size ∨ ws.heap.size ≤ a.block) from fun a ha => ⟨by have := (HSB.out.lt ha).2; exact this, by
              rcases Nat.lt_or_ge a.block Wq.heap.size with h | h
              · exact .inl h
              · rcases Nat.lt_or_ge a.block ws.heap.size with h' | h'
                · exact absurd rfl ((hfA a.block (by simp; omega) (fun a' ha' hh => by have := (HFS.out a' ha').2; omega)).2 a ha)
                · exact .inr h'⟩)
            have HFOB := Lib.hid (show ∀ a, po' = some a → a.block < wB.heap.size ∧ (a.block < Wq.heap.size ∨ ws.heap.size ≤ a.block) from fun a ha => ⟨(hQB.lt ha).2, by
              rcases Nat.lt_or_ge a.block Wq.heap.size with h | h
              · exact .inl h
              · rcases Nat.lt_or_ge a.block ws.heap.size with h' | h'
                · exact absurd rfl ((hfB a.block (by simp; omega) (fun a' ha' hh => by have := (HFO.out a' ha').2; omega)).2 a ha)
                · exact .inr h'⟩)
            have HAPB := Lib.hid (show ∀ a b, ps' = some a → po' = some b → a.block ≠ b.block from fun a b ha hb =>
              (hfB a.block (by have := (hSA.lt ha).2; simp; omega) (fun a' ha' hh => (hfA a'.block (by have := (HFO.out a' ha').1; simp; omega) (fun a'' ha'' hh' => HAP.out a'' a' ha'' ha' hh'.symm)).2 a ha hh.symm)).2 b hb)
            have HWS := Lib.hid (show ws.heap.size ≤ wB.heap.size from by simp at hszB hszA; omega)
            have HQB := Lib.hid hQB
            clear hfA hfB hBW hszB hszA hQA hSA hBA hBB hQB
            go_roundw
            case rel => exact ⟨j + 1, SN ++ [X], OP ++ [X], ps', po', cs', co', by omega, by go_num, by simp, by simp, HEQ.out, HSB.out, HQB.out, HFSB.out, HFOB.out, HAPB.out, HDB.out, HWS.out, HBf.out⟩
            case measure => simp [intOf]; omega
          · have HEQ := Lib.hid (show (SN, OP) = bfsTo seen opn DD (j + 1) from by rw [HNX.out, ← HSO.out]; unfold bfs; rw [if_pos hx])
            clear hx
            go_wp2_with fail
            go_roundw
            case rel => exact ⟨j + 1, SN, OP, ps, po, cs, co, by omega, by go_num, rfl, rfl, HEQ.out, hS, hQ, HFS.out, HFO.out, HAP.out, HD.out, hws, hB2⟩
            case measure => simp [intOf]; omega
        · obtain rfl : j = DD.length := by omega
          have hbl := bfs_len DD (seen, opn)
          have hall := HSO.out
          unfold bfsTo at hall
          rw [List.take_length] at hall
          rw [← hall] at hbl
          simp only at hbl
          have hro : opn = u :: rest := HUR.out
          have hNB := Bfs.next (rest := rest) HPO.out HA_.out (show Bfs p (ka : Int) seen (u :: rest) from by rw [← hro]; exact HBF.out)
          rw [← HDD.out, ← hro] at hNB
          unfold bfsTo at hNB
          rw [List.take_length, ← hall] at hNB
          simp only at hNB
          have hnl := once_len hNB.once (hNB.inr HPO.out)
          have HNB := Lib.hid hNB
          have hop1 : 0 < OP.length := by omega
          have htl : OP.tail.length = OP.length - 1 := List.length_tail
          have hcO : OP.length ≤ co := hQ.2.1
          obtain ⟨qg', qo', hpo⟩ : ∃ qg qo, po = some ⟨qg, qo, none⟩ := by
            obtain ⟨_, _, _, g, off, N, F, h, _⟩ := hQ
            exact ⟨g, off, h⟩
          subst hpo
          obtain ⟨A, hA1, hA2, hA3⟩ := hQ.tail hop1
          have HA1 := Lib.hid hA1
          have HA3 := Lib.hid hA3
          have HAPN := Lib.hid (show ∀ a b, ps = some a → some A = some b → a.block ≠ b.block from fun a b ha hb => by
            cases hb
            rw [hA2]
            exact HAP.out a _ ha rfl)
          have HSF := Lib.hid (show ∀ a, ps = some a → a.block < wr.heap.size from fun a ha => (HFS.out a ha).1)
          clear hall hNB hA1 hA3 hro hQ
          go_wp2_with fail
          trace_state
          go_roundw
          case rel => exact ⟨SN, OP.tail, ps, some A, cs, co - 1, rfl, by rw [htl]; first | rfl | (rw [← HA1.out]; rfl) | (rw [HA1.out]), HNB.out, by omega, hS, HA3.out, HSF.out, HAPN.out, hB2⟩
          case measure => simp only [lenV]; omega
    · obtain rfl : opn = [] := List.eq_nil_of_length_eq_zero (by omega)
      have HF := Lib.hid (Bfs.fin (b := b) HPO.out HA_.out HBF.out)
      have HSI := Lib.hid (show intsR (fun b => b < wr.heap.size) wr [.slice ps seen.length cs] seen from hS.done (fun b h1 h2 => h2))
      have h0i : ¬ (0 : Int) < (0 : Int) := by omega
      go_wp2_with fail
      refine (containsInts_any _ seen b _ _ HSI.out).mono ?_
      rintro e w' ⟨rfl, rfl⟩
      go_wp2
      go_ret
      exact ⟨ret_bool HF.out, G5.trans hB⟩

end Go.Proofs.Ytiaamddhocdhaaa
end
