/- Slices of ints that the call owns: append of a whole slice, in plain regions and in regions that draw their order. No program. -/
import Derived.Test.YtjeeajgijdcdbaaOwn
import Derived.Test.YtjeeajgijdcdbaaRange
import Derived.Laws.AppendOwnNone
import Derived.WalkSpells
namespace Go.Proofs.Ytjeeajgijdcdbaa
open Go.RowKit
set_option linter.unusedVariables false

/-- The slice owns its row of ints, in blocks from B on. -/
def OwnI (e : TypeId) (B : Nat) (w : World) (p : Option Addr) (cap : Nat) (xs : List Int) : Prop :=
  w.ownsRow B e 1 (.slice p xs.length cap) xs.length (xs.map (Value.int .i64)) ∧ ∀ x ∈ xs, I64 x

/-- What an append has done. -/
structure Grown (B : Nat) (w w' : World) (p p' : Option Addr) : Prop where
  bel : ∀ W, Bel W w → W.heap.size ≤ B → Bel W w'
  size : w.heap.size ≤ w'.heap.size
  far : ∀ b, b < w.heap.size → (∀ a, p = some a → b ≠ a.block) → w'.heap[b]? = w.heap[b]? ∧ ∀ a, p' = some a → b ≠ a.block

section
variable {e : TypeId} {B : Nat}
theorem OwnI.toOwn {w : World} {p : Option Addr} {cap : Nat} {xs : List Int} (h : OwnI e B w p cap xs) : Own (fun _ => False) 1 intR e B w p cap xs := by
  refine ⟨xs.map (Value.int .i64), h.1, fun i hi => ⟨[.int .i64 xs[i]], rfl, fun m hm => ?_, rfl, h.2 _ (List.getElem_mem hi)⟩⟩
  obtain rfl : m = 0 := by omega
  simp [hi]
theorem OwnI.ofOwn {w : World} {p : Option Addr} {cap : Nat} {xs : List Int} (h : Own (fun _ => False) 1 intR e B w p cap xs) : OwnI e B w p cap xs := by
  obtain ⟨cells, h1, h2⟩ := h
  have hl : cells.length = xs.length := by have := h1.1; omega
  have : cells = xs.map (Value.int .i64) := by
    refine List.ext_getElem (by simp [hl]) fun i hi hi' => ?_
    obtain ⟨ecs, e1, e2, e3, _⟩ := h2 i (by omega)
    have h3 := e2 0 (by omega)
    rw [e3] at h3
    simp only [Nat.mul_one, Nat.add_zero, List.getElem?_cons_zero] at h3
    rw [List.getElem?_eq_getElem hi] at h3
    simpa using h3
  subst this
  refine ⟨h1, fun x hx => ?_⟩
  obtain ⟨i, hi, rfl⟩ := List.getElem_of_mem hx
  obtain ⟨ecs, _, _, _, e4⟩ := h2 i hi
  exact e4
theorem OwnI.bel {w w' : World} {p : Option Addr} {cap : Nat} {xs : List Int} (h : OwnI e B w p cap xs) (hb : Bel w w') : OwnI e B w' p cap xs := .ofOwn (h.toOwn.bel intR_good hb)
theorem OwnI.done {w : World} {p : Option Addr} {cap : Nat} {xs : List Int} {T : Nat → Prop} (h : OwnI e B w p cap xs) (hT : ∀ b, B ≤ b → b < w.heap.size → T b) : intsR T w [.slice p xs.length cap] xs := h.toOwn.done intR_good (fun _ hf => hf.elim) hT
theorem OwnI.empty {w : World} {g : Nat} (h : w.heap[g]? = some (.cells #[] e (0, 0))) (hB : B ≤ g) : OwnI e B w (some ⟨g, 0, none⟩) 0 [] := .ofOwn (Own.empty h hB)
theorem OwnI.null (w : World) : OwnI e B w none 0 [] := .ofOwn (Own.nil w)
/-- Nothing happened to the row's block. -/
theorem OwnI.keep {w w' : World} {p : Option Addr} {cap : Nat} {xs : List Int} (h : OwnI e B w p cap xs) (hk : ∀ a, p = some a → w'.heap[a.block]? = w.heap[a.block]?) : OwnI e B w' p cap xs := by
  obtain ⟨⟨h1, h2⟩, h3⟩ := h
  refine ⟨⟨h1, ?_⟩, h3⟩
  rcases h2 with h2 | ⟨g, cap', cur, h4, h5, h6, h7⟩
  · exact .inl h2
  · right
    refine ⟨g, cap', cur, h4, h5, ?_, h7⟩
    obtain ⟨rfl, _⟩ : p = some ⟨g, 0, none⟩ ∧ cap = cap' := by simpa using h4
    rw [hk _ rfl]
    exact h6
theorem OwnI.lt {w : World} {p : Option Addr} {cap : Nat} {xs : List Int} (h : OwnI e B w p cap xs) {a : Addr} (ha : p = some a) : B ≤ a.block ∧ a.block < w.heap.size := by
  rcases h.toOwn.cases with ⟨h1, _⟩ | ⟨g, cur, h1, h2, h3, h4, _⟩
  · rw [h1] at ha; cases ha
  · rw [h1] at ha; cases ha; exact ⟨h2, h4⟩
theorem OwnI.some {w : World} {p : Option Addr} {cap : Nat} {xs : List Int} (h : OwnI e B w p cap xs) (hx : xs ≠ []) : p ≠ none := by
  rcases h.toOwn.cases with ⟨_, _, h1⟩ | ⟨g, cur, h1, _⟩
  · exact absurd h1 hx
  · rw [h1]; simp
/-- One int laid in a block of its own. -/
theorem intsR_cell {w : World} {g : Nat} {t : TypeId} {x : Int} (h : w.heap[g]? = some (.cells #[.int .i64 x] t (0, 0))) (hx : I64 x) : intsR (fun b => b = g) w [.slice (Option.some ⟨g, 0, none⟩) 1 1] [x] := by
  refine ⟨_, 1, rfl, Nat.le_refl _, by unfold maxLen; omega, fun i hi => ⟨g, 0, [.int .i64 x], rfl, rfl, rfl, fun k hk => ?_, ?_, ?_⟩⟩
  · have hi' : i = 0 := by simp at hi; exact hi
    have hk' : k = 0 := by simp at hk; exact hk
    subst hi'; subst hk'
    exact ⟨by simp [World.cell?, h], by simp [World.frozen?, h]⟩
  · have hi' : i = 0 := by simp at hi; exact hi
    subst hi'; rfl
  · have hi' : i = 0 := by simp at hi; exact hi
    subst hi'; exact hx

variable {P : Program}
/-- append of a whole slice of ints. -/
theorem run_apps (w : World) (t ty : TypeId) (z : Value) (bytes : Nat) (ht : P.underlying t = Option.some (.slice e)) (hinfo : (P.info? e).map (fun i => (i.zero, i.size, i.bytes)) = Option.some (Option.some z, 1, bytes)) (hzs : z.cells.size = 1) (hby : bytes ≤ 100)
    (p : Option Addr) (cap : Nat) (xs : List Int) (hown : OwnI e B w p cap xs) (sp : Option Addr) (sc : Nat) (ys : List Int) (T : Nat → Prop) (hy : intsR T w [.slice sp ys.length sc] ys) (hsp : sp = none → sc = 0) (hlen : xs.length + ys.length ≤ 1000000000) (hbase : B ≤ w.heap.size) :
    ∃ p' cap' w', (Builtin.append_ #[t, t] ty #[.slice p xs.length cap, .slice sp ys.length sc]).run P w = .ok (.slice p' (xs.length + ys.length) cap') w' ∧ OwnI e B w' p' cap' (xs ++ ys) ∧ Grown B w w' p p' ∧ (p' = none → p = none ∧ ys = []) := by
  obtain ⟨i, hi, hz, hsize, hbytes⟩ := info_parts hinfo
  cases sp with
  | none =>
    have hys : ys = [] := by
      cases ys with
      | nil => rfl
      | cons y ys =>
        obtain ⟨_, _, e0, _, _, h4⟩ := hy
        obtain ⟨b, off, ecs, e1, _⟩ := h4 0 (by simp)
        rw [e1] at e0
        simp at e0
    subst hys
    obtain rfl := hsp rfl
    have hrun := run_append_owned_none (P := P) (w := w) B t ty e i 1 ht hi _ _ _ hown.1
    refine ⟨p, cap, w, hrun, by simpa using hown, ⟨fun W h _ => h, Nat.le_refl _, fun b hb hp => ⟨rfl, hp⟩⟩, fun h => ⟨h, rfl⟩⟩
  | some ad =>
    obtain ⟨p', cap', e0, hl1, hl2, h4⟩ := hy
    obtain ⟨rfl, rfl⟩ : Option.some ad = p' ∧ sc = cap' := by simpa using e0
    have hnews : ∀ j u, (ys.map (Value.int .i64))[j]? = Option.some u → w.cell? (ad.add j) = Option.some u := by
      intro j u hj
      have hjl : j < ys.length := by
        rcases Nat.lt_or_ge j ys.length with h | h
        · exact h
        · rw [List.getElem?_eq_none (by simpa using h)] at hj; cases hj
      obtain ⟨b, off, ecs, e1, _, e3, e4, e5, _⟩ := h4 j hjl
      obtain rfl : ad = ⟨b, off, none⟩ := by simpa using e1
      subst e5
      have h5 := (e4 0 (by simp)).1
      have hadd : (⟨b, off, none⟩ : Addr).add j = ⟨b, off + j, none⟩ := by unfold Addr.add; split <;> simp_all
      rw [hadd]
      simp only [Nat.mul_one, Nat.add_zero, List.getElem_cons_zero] at h5
      rw [h5]
      rw [List.getElem?_map, List.getElem?_eq_getElem hjl] at hj
      simpa using hj
    have hI : ∀ y ∈ ys, I64 y := by
      intro y hy
      obtain ⟨j, hj, rfl⟩ := List.getElem_of_mem hy
      obtain ⟨b, off, ecs, e1, _, e3, e4, e5, e6⟩ := h4 j hj
      exact e6
    obtain ⟨v', w', hr, h2, h3, hnil, h5⟩ := run_append_own_at (P := P) w B t ty e i z 1 bytes ht hi hz hsize hbytes hzs (by omega) _ _ _ hown.1 ad ys.length sc (ys.map (Value.int .i64)) (by simp) hnews (by intro u hu; obtain ⟨y, _, rfl⟩ := List.mem_map.1 hu; rfl) (by unfold maxLen; omega) (by
      have : (xs.length + ys.length) * bytes ≤ 1000000000 * 100 := Nat.mul_le_mul hlen hby
      omega) hbase
    obtain ⟨p', cap', rfl⟩ : ∃ p' cap', v' = .slice p' (xs.length + ys.length) cap' := by
      rcases h2.2 with ⟨h6, h7⟩ | ⟨g, c, cur, h6, _⟩
      · exact ⟨none, 0, by rw [h6]; congr 1; omega⟩
      · exact ⟨_, _, h6⟩
    refine ⟨p', cap', w', hr, ⟨by simpa using h2, fun x hx => ?_⟩, ⟨fun W hW hWB => bel_append hown.toOwn hW hWB h3, h3.size, fun b hb hp => ⟨h3.block b hb ?_, ?_⟩⟩, fun hp' => ?_⟩
    · rcases List.mem_append.1 hx with h | h
      · exact hown.2 x h
      · exact hI x h
    · intro hh
      cases p with
      | none => simp [Value.ownBlock] at hh
      | some a => exact hp a rfl (by simpa [Value.ownBlock] using hh)
    · rintro a rfl hh
      rcases h5 with h6 | h6
      · cases p with
        | none => simp [Value.ownBlock] at h6
        | some a' =>
          have h7 : a.block = a'.block := by simpa [Value.ownBlock] using h6
          exact hp a' rfl (hh.trans h7)
      · have h7 : a.block = w.heap.size := by simpa [Value.ownBlock] using h6
        omega
    · subst hp'
      have hn : xs.length + ys.length = 0 := by
        rcases h2.2 with ⟨h6, h7⟩ | ⟨g, c, cur, h6, _⟩
        · exact h7
        · simp at h6
      have hy0 : ys = [] := List.eq_nil_of_length_eq_zero (by omega)
      have hc : cap' = 0 := by
        rcases h2.2 with ⟨h6, h7⟩ | ⟨g, c, cur, h6, _⟩
        · simpa using (by simpa using h6 : _ ∧ cap' = 0).2
        · simp at h6
      subst hc
      have h8 := hnil.1 (by rw [hn])
      have h9 : p = none := by
        have := h8.1
        simp at this
        exact this.1
      exact ⟨h9, hy0⟩
theorem wp_apps (w : World) {o : Oper} {a : Act} {K : Act → World → Prop} {Q : Exit → Act → World → Prop} (s x : Operand) (t : TypeId)
    (ho : o.op = .call { callee := .builtin .append, args := #[s, x], argTypes := #[t, t] })
    (z : Value) (bytes : Nat) (ht : P.underlying t = Option.some (.slice e)) (hinfo : (P.info? e).map (fun i => (i.zero, i.size, i.bytes)) = Option.some (Option.some z, 1, bytes)) (hzs : z.cells.size = 1) (hby : bytes ≤ 100)
    (p : Option Addr) (n cap : Nat) (xs : List Int) (hs : a.eval s = .slice p n cap) (hown : OwnI e B w p cap xs) (hxn : xs.length = n) (sp : Option Addr) (m sc : Nat) (ys : List Int) (T : Nat → Prop) (hx : a.eval x = .slice sp m sc) (hy : intsR T w [.slice sp ys.length sc] ys) (hym : ys.length = m) (hsp : sp = none → sc = 0) (hlen : n + m ≤ 1000000000) (hbase : B ≤ w.heap.size)
    (h : ∀ p' cap' w', OwnI e B w' p' cap' (xs ++ ys) → Grown B w w' p p' → (p' = none → p = none ∧ ys = []) → K (a.put o.dst (.slice p' (n + m) cap')) w') : o.wp P a w K Q := by
  subst hxn
  subst hym
  obtain ⟨p', cap', w', hr, h2, h3, h4⟩ := run_apps (P := P) w t o.type z bytes ht hinfo hzs hby p cap xs hown sp sc ys T hy hsp hlen hbase
  unfold Oper.wp execOp
  simp only [ho, resolve, invoke, builtin, Sem.run_bind, Sem.run_pure, Result.andThen_ok, List.map_toArray, List.map_cons, List.map_nil, hs, hx, hr]
  exact h p' cap' w' h2 h3 h4
theorem wpList_apps (w : World) {ops : Array Oper} {rest : List Oper} {o : Oper} {a : Act} {Q : Exit → Act → World → Prop} (hgd : o.guard = none) (s x : Operand) (t : TypeId)
    (ho : o.op = .call { callee := .builtin .append, args := #[s, x], argTypes := #[t, t] })
    (z : Value) (bytes : Nat) (ht : P.underlying t = Option.some (.slice e)) (hinfo : (P.info? e).map (fun i => (i.zero, i.size, i.bytes)) = Option.some (Option.some z, 1, bytes)) (hzs : z.cells.size = 1) (hby : bytes ≤ 100)
    (p : Option Addr) (n cap : Nat) (xs : List Int) (hs : a.eval s = .slice p n cap) (hown : OwnI e B w p cap xs) (hxn : xs.length = n) (sp : Option Addr) (m sc : Nat) (ys : List Int) (T : Nat → Prop) (hx : a.eval x = .slice sp m sc) (hy : intsR T w [.slice sp ys.length sc] ys) (hym : ys.length = m) (hsp : sp = none → sc = 0) (hlen : n + m ≤ 1000000000) (hbase : B ≤ w.heap.size)
    (h : ∀ p' cap' w', OwnI e B w' p' cap' (xs ++ ys) → Grown B w w' p p' → (p' = none → p = none ∧ ys = []) → wpList P ops Q rest (a.put o.dst (.slice p' (n + m) cap')) w') : wpList P ops Q (o :: rest) a w :=
  wpList_plain hgd fun _ hK => wp_apps w s x t ho z bytes ht hinfo hzs hby p n cap xs hs hown hxn sp m sc ys T hx hy hym hsp hlen hbase fun p' cap' w' h1 h2 h3 => hK _ _ (h p' cap' w' h1 h2 h3)
theorem step_apps (w : World) {ops : Array Oper} {o : Oper} {a : Act} {K : Act → World → Prop} {Q : Exit → Act → World → Prop} {E : Prop} (hgd : o.guard = none) (s x : Operand) (t : TypeId)
    (ho : o.op = .call { callee := .builtin .append, args := #[s, x], argTypes := #[t, t] })
    (z : Value) (bytes : Nat) (ht : P.underlying t = Option.some (.slice e)) (hinfo : (P.info? e).map (fun i => (i.zero, i.size, i.bytes)) = Option.some (Option.some z, 1, bytes)) (hzs : z.cells.size = 1) (hby : bytes ≤ 100)
    (p : Option Addr) (n cap : Nat) (xs : List Int) (hs : a.eval s = .slice p n cap) (hown : OwnI e B w p cap xs) (hxn : xs.length = n) (sp : Option Addr) (m sc : Nat) (ys : List Int) (T : Nat → Prop) (hx : a.eval x = .slice sp m sc) (hy : intsR T w [.slice sp ys.length sc] ys) (hym : ys.length = m) (hsp : sp = none → sc = 0) (hlen : n + m ≤ 1000000000) (hbase : B ≤ w.heap.size)
    (h : ∀ p' cap' w', OwnI e B w' p' cap' (xs ++ ys) → Grown B w w' p p' → (p' = none → p = none ∧ ys = []) → K (a.put o.dst (.slice p' (n + m) cap')) w') :
    if Region.wanted o (yielded ops a.tmps) = true then Oper.wp P o a w K Q else E := by
  have hw : Region.wanted o (yielded ops a.tmps) = true := by simp [Region.wanted, hgd]
  rw [if_pos hw]
  exact wp_apps w s x t ho z bytes ht hinfo hzs hby p n cap xs hs hown hxn sp m sc ys T hx hy hym hsp hlen hbase h
end
end Go.Proofs.Ytjeeajgijdcdbaa

/- Contract of slices.Clone of ints. -/
namespace Go.Proofs.Ytjeeajgijdcdbaa
open Go.ChangeShapes Go.WideShapes Go.ChangeAt Go.RowKit
set_option linter.unusedVariables false

/-- What a clone leaves. -/
def CloneI (w : World) (p : Option Addr) (xs : List Int) (e : Ending) (w' : World) : Prop := ∃ q c, e = .returned (.slice q xs.length c) ∧ OwnI 3 w.heap.size w' q c xs ∧ Bel w w' ∧ (q = none ↔ p = none) ∧ (q = none → c = 0)

set_option maxRecDepth 100000 in
set_option maxHeartbeats 400000 in
theorem cloneInts_any (p : Option Addr) (n k : Nat) (xs : List Int) (T : Nat → Prop) (w : World) (hn : xs.length = n) (hx : intsR T w [.slice p n k] xs) (hT : ∀ b, T b → b < w.heap.size) (hp : p = none → k = 0) (hl : xs.length ≤ 1000000) :
    Calls Try.prog 15 #[.slice p n k] w (CloneI w p xs) := by
  subst hn
  have hnil := fun (W : World) (a : Option Addr) (n c : Nat) => Lib.run_eql_slice_nil (P := Try.prog) W 22 3 a n c 0 0 Try.underlying22
  have HX := Lib.hid hx
  have HT := Lib.hid hT
  cases p with
  | none =>
    obtain rfl := hp rfl
    have hxs : xs = [] := by
      cases xs with
      | nil => rfl
      | cons y ys =>
        obtain ⟨_, _, e0, _, _, h4⟩ := hx
        obtain ⟨b, off, ecs, e1, _⟩ := h4 0 (by simp)
        rw [e1] at e0
        simp at e0
    clear hx hT hp hl
    subst hxs
    show Calls Try.prog 15 #[.slice none 0 0] w _
    go_enter Try.func15, Try.ntmps15
    go_wp2
    go_ret
    exact ⟨none, 0, rfl, OwnI.null _, Bel.refl _, ⟨fun _ => rfl, fun _ => rfl⟩, fun _ => rfl⟩
  | some ad =>
    clear hx hT hp
    go_enter Try.func15, Try.ntmps15
    go_wp2_with (at_builtin; refine wpList_apps _ rfl _ _ 22 rfl (.int .i64 0) 8 Try.underlying22 (by kernel_rfl) rfl (by decide) (some ⟨w.heap.size, 0, none⟩) 0 0 [] rfl (OwnI.empty (alloc_at rfl) (Nat.le_refl _)) rfl _ _ _ xs T rfl (intsR_good.bel HX.out (by (repeat (first | assumption | exact Bel.refl _ | apply Bel.drewN | apply Bel.drew | apply Bel.alloc | refine Bel.trans ?_ (by assumption)))) HT.out) rfl (fun h => by cases h) (by omega) (by simp) ?_; intro q' cap' w' hO' hG' hN')
    have HB := hG'.bel w (by (repeat (first | assumption | exact Bel.refl _ | apply Bel.drewN | apply Bel.drew | apply Bel.alloc | refine Bel.trans ?_ (by assumption)))) (Nat.le_refl _)
    have HN := Lib.hid hN'
    have HO := Lib.hid hO'
    clear hG' hN' hO'
    go_wp2
    go_ret
    exact ⟨q', cap', by simp, by simpa using HO.out, HB, ⟨fun h => (by have := (HN.out h).1; cases this), fun h => (by cases h)⟩, fun h => (by have := (HN.out h).1; cases this)⟩

end Go.Proofs.Ytjeeajgijdcdbaa
