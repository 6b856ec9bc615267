/- append of a whole slice of ints, whatever room a nil one claims; slices.Clone. -/
import Derived.Test.YtjeeajgijdcdbaaApps
import Derived.Test.YtjeeajgijdcdbaaDom3
namespace Go.Proofs.Ytjeeajgijdcdbaa
open Go.RowKit
set_option linter.unusedVariables false

section
variable {e : TypeId} {B : Nat} {P : Program}
theorem OwnI.base {B' : Nat} {w : World} {p : Option Addr} {cap : Nat} {xs : List Int} (h : OwnI e B w p cap xs) (hB : B' ≤ B) : OwnI e B' w p cap xs := by
  obtain ⟨⟨h1, h2⟩, h3⟩ := h
  refine ⟨⟨h1, ?_⟩, h3⟩
  rcases h2 with h2 | ⟨g, cap', cur, h4, h5, h6⟩
  · exact .inl h2
  · exact .inr ⟨g, cap', cur, h4, Nat.le_trans hB h5, h6⟩
theorem run_app_nilK (w : World) (t ty : TypeId) (i : TypeInfo) (ht : P.underlying t = some (.slice e)) (hi : P.info? e = some i) (p : Option Addr) (cap : Nat) (xs : List Int) (hown : OwnI e B w p cap xs) (c : Nat) :
    (Builtin.append_ #[t, t] ty #[.slice p xs.length cap, .slice none 0 c]).run P w = .ok (.slice p xs.length cap) w := by
  rcases hown.1.2 with ⟨e1, e2⟩ | ⟨g, cap', cur, e1, _, _, hnc, _⟩
  · rw [e1]
    simp [Builtin.append_, run_underlying ht, sizeOf, typeInfo, hi, Builtin.lenOf, Builtin.firstCells]
  · obtain ⟨rfl, -, rfl⟩ : p = some ⟨g, 0, none⟩ ∧ xs.length = xs.length ∧ cap = cap' := by simpa using e1
    simp [Builtin.append_, run_underlying ht, sizeOf, typeInfo, hi, Builtin.lenOf, Builtin.firstCells, hnc, storeCells]
theorem run_appsK (w : World) (t ty : TypeId) (z : Value) (bytes : Nat) (ht : P.underlying t = Option.some (.slice e)) (hinfo : (P.info? e).map (fun i => (i.zero, i.size, i.bytes)) = Option.some (Option.some z, 1, bytes)) (hzs : z.cells.size = 1) (hby : bytes ≤ 100)
    (p : Option Addr) (cap : Nat) (xs : List Int) (hown : OwnI e B w p cap xs) (sp : Option Addr) (sc : Nat) (ys : List Int) (T : Nat → Prop) (hy : intsR T w [.slice sp ys.length sc] ys) (hlen : xs.length + ys.length ≤ 1000000000) (hbase : B ≤ w.heap.size) :
    ∃ p' cap' w', (Builtin.append_ #[t, t] ty #[.slice p xs.length cap, .slice sp ys.length sc]).run P w = .ok (.slice p' (xs.length + ys.length) cap') w' ∧ OwnI e B w' p' cap' (xs ++ ys) ∧ Grown B w w' p p' ∧ (p' = none → p = none ∧ ys = []) := by
  cases sp with
  | none =>
    have hys : ys = [] := by
      cases ys with
      | nil => rfl
      | cons y ys =>
        obtain ⟨_, _, e0, _, _, h4⟩ := hy
        obtain ⟨b, off, ecs, e1, _⟩ := h4 0 (by simp)
        rw [e1] at e0
        simp at e0
    subst hys
    obtain ⟨i, hi, -, -, -⟩ := info_parts hinfo
    exact ⟨p, cap, w, run_app_nilK w t ty i ht hi p cap xs hown sc, by simpa using hown, ⟨fun W h _ => h, Nat.le_refl _, fun b hb hp => ⟨rfl, hp⟩⟩, fun h => ⟨h, rfl⟩⟩
  | some ad => exact run_apps w t ty z bytes ht hinfo hzs hby p cap xs hown (some ad) sc ys T hy (fun h => by cases h) hlen hbase
theorem wp_appsK (w : World) {o : Oper} {a : Act} {K : Act → World → Prop} {Q : Exit → Act → World → Prop} (s x : Operand) (t : TypeId)
    (ho : o.op = .call { callee := .builtin .append, args := #[s, x], argTypes := #[t, t] })
    (z : Value) (bytes : Nat) (ht : P.underlying t = Option.some (.slice e)) (hinfo : (P.info? e).map (fun i => (i.zero, i.size, i.bytes)) = Option.some (Option.some z, 1, bytes)) (hzs : z.cells.size = 1) (hby : bytes ≤ 100)
    (p : Option Addr) (n cap : Nat) (xs : List Int) (hs : a.eval s = .slice p n cap) (hown : OwnI e B w p cap xs) (hxn : xs.length = n) (sp : Option Addr) (m sc : Nat) (ys : List Int) (T : Nat → Prop) (hx : a.eval x = .slice sp m sc) (hy : intsR T w [.slice sp ys.length sc] ys) (hym : ys.length = m) (hlen : n + m ≤ 1000000000) (hbase : B ≤ w.heap.size)
    (h : ∀ p' cap' w', OwnI e B w' p' cap' (xs ++ ys) → Grown B w w' p p' → (p' = none → p = none ∧ ys = []) → K (a.put o.dst (.slice p' (n + m) cap')) w') : o.wp P a w K Q := by
  subst hxn
  subst hym
  obtain ⟨p', cap', w', hr, h2, h3, h4⟩ := run_appsK (P := P) w t o.type z bytes ht hinfo hzs hby p cap xs hown sp sc ys T hy hlen hbase
  unfold Oper.wp execOp
  simp only [ho, resolve, invoke, builtin, Sem.run_bind, Sem.run_pure, Result.andThen_ok, List.map_toArray, List.map_cons, List.map_nil, hs, hx, hr]
  exact h p' cap' w' h2 h3 h4
theorem step_appsK (w : World) {ops : Array Oper} {o : Oper} {a : Act} {K : Act → World → Prop} {Q : Exit → Act → World → Prop} {E : Prop} (hgd : o.guard = none) (s x : Operand) (t : TypeId)
    (ho : o.op = .call { callee := .builtin .append, args := #[s, x], argTypes := #[t, t] })
    (z : Value) (bytes : Nat) (ht : P.underlying t = Option.some (.slice e)) (hinfo : (P.info? e).map (fun i => (i.zero, i.size, i.bytes)) = Option.some (Option.some z, 1, bytes)) (hzs : z.cells.size = 1) (hby : bytes ≤ 100)
    (p : Option Addr) (n cap : Nat) (xs : List Int) (hs : a.eval s = .slice p n cap) (hown : OwnI e B w p cap xs) (hxn : xs.length = n) (sp : Option Addr) (m sc : Nat) (ys : List Int) (T : Nat → Prop) (hx : a.eval x = .slice sp m sc) (hy : intsR T w [.slice sp ys.length sc] ys) (hym : ys.length = m) (hlen : n + m ≤ 1000000000) (hbase : B ≤ w.heap.size)
    (h : ∀ p' cap' w', OwnI e B w' p' cap' (xs ++ ys) → Grown B w w' p p' → (p' = none → p = none ∧ ys = []) → K (a.put o.dst (.slice p' (n + m) cap')) w') :
    if Region.wanted o (yielded ops a.tmps) = true then Oper.wp P o a w K Q else E := by
  have hw : Region.wanted o (yielded ops a.tmps) = true := by simp [Region.wanted, hgd]
  rw [if_pos hw]
  exact wp_appsK w s x t ho z bytes ht hinfo hzs hby p n cap xs hs hown hxn sp m sc ys T hx hy hym hlen hbase h
end
theorem nameK {K : Act → World → Prop} {a : Act} {w : World} (h : ∀ W, W = w → K a W) : K a w := h w rfl
/-- A block laid. -/
def AllocB (W V : World) (o : Obj) : Prop := ∃ g, W.heap.size = g ∧ Bel W V ∧ V.heap[g]? = some o ∧ W.heap.size ≤ g ∧ g < V.heap.size
theorem alloc_block {W V : World} {o : Obj} (h : V = W.alloc o) : AllocB W V o := by
  subst h
  exact ⟨_, rfl, (Bel.refl _).alloc _, heap_alloc_new _ _, Nat.le_refl _, by simp⟩
theorem alloc_blockD {W V : World} {o : Obj} (h : V = (W.alloc o).drew) : AllocB W V o := by
  subst h
  exact ⟨_, rfl, ((Bel.refl _).alloc _).drew, heap_alloc_new _ _, Nat.le_refl _, by show W.heap.size < (W.alloc o).heap.size; simp⟩
/-- A block that an append leaves alone. -/
theorem Grown.at {B : Nat} {w w' : World} {p p' : Option Addr} (h : Grown B w w' p p') {b : Nat} (hb : b < w.heap.size) (hp : ∀ a, p = some a → b ≠ a.block) : w'.heap[b]? = w.heap[b]? ∧ ∀ a, p' = some a → a.block ≠ b := ⟨(h.far b hb hp).1, fun a ha e => (h.far b hb hp).2 a ha e.symm⟩

open Go.ChangeShapes Go.WideShapes Go.ChangeAt
set_option maxRecDepth 100000 in
set_option maxHeartbeats 400000 in
theorem cloneIntsK_any (p : Option Addr) (n k : Nat) (xs : List Int) (T : Nat → Prop) (w : World) (hn : xs.length = n) (hx : intsR T w [.slice p n k] xs) (hT : ∀ b, T b → b < w.heap.size) (hl : xs.length ≤ 2000000) :
    Calls Try.prog 15 #[.slice p n k] w (CloneI w p xs) := by
  subst hn
  have hnil := fun (W : World) (a : Option Addr) (n c : Nat) => Lib.run_eql_slice_nil (P := Try.prog) W 22 3 a n c 0 0 Try.underlying22
  have HX := Lib.hid hx
  have HT := Lib.hid hT
  cases p with
  | none =>
    have hxs : xs = [] := by
      cases xs with
      | nil => rfl
      | cons y ys =>
        obtain ⟨_, _, e0, _, _, h4⟩ := hx
        obtain ⟨b, off, ecs, e1, _⟩ := h4 0 (by simp)
        rw [e1] at e0
        simp at e0
    clear hx hT hl
    subst hxs
    show Calls Try.prog 15 #[.slice none 0 k] w _
    go_enter Try.func15, Try.ntmps15
    go_wp2
    go_ret
    exact ⟨none, 0, rfl, OwnI.null _, Bel.refl _, ⟨fun _ => rfl, fun _ => rfl⟩, fun _ => rfl⟩
  | some ad =>
    clear hx hT
    go_enter Try.func15, Try.ntmps15
    go_wp2_with (at_builtin; refine wpList_apps _ rfl _ _ 22 rfl (.int .i64 0) 8 Try.underlying22 (by kernel_rfl) rfl (by decide) (some ⟨w.heap.size, 0, none⟩) 0 0 [] rfl (OwnI.empty (alloc_at rfl) (Nat.le_refl _)) rfl _ _ _ xs T rfl (intsR_good.bel HX.out (by (repeat (first | assumption | exact Bel.refl _ | apply Bel.drewN | apply Bel.drew | apply Bel.alloc | refine Bel.trans ?_ (by assumption)))) HT.out) rfl (fun h => by cases h) (by omega) (by simp) ?_; intro q' cap' w' hO' hG' hN')
    have HB := hG'.bel w (by (repeat (first | assumption | exact Bel.refl _ | apply Bel.drewN | apply Bel.drew | apply Bel.alloc | refine Bel.trans ?_ (by assumption)))) (Nat.le_refl _)
    have HN := Lib.hid hN'
    have HO := Lib.hid hO'
    clear hG' hN' hO'
    go_wp2
    go_ret
    exact ⟨q', cap', by simp, by simpa using HO.out, HB, ⟨fun h => (by have := (HN.out h).1; cases this), fun h => (by cases h)⟩, fun h => (by have := (HN.out h).1; cases this)⟩
end Go.Proofs.Ytjeeajgijdcdbaa
