/- A queue of ints: a slice that the call owns, whose head is cut off and which grows by append. No program. -/
import Derived.Test.YtiaamddhocdhaaaReachF
import Derived.Test.YtiaamddhocdhaaaApps
import Derived.Test.YtiaamddhocdhaaaOwn
import Derived.Test.YtiaamddhocdhaaaMut
import Derived.ArgAppend
namespace Go.Proofs.Ytiaamddhocdhaaa
open Go.RowKit
set_option linter.unusedVariables false

/-- The slice's cells lie in a row of its own. -/
def Que (e : TypeId) (B : Nat) (w : World) (p : Option Addr) (cap : Nat) (xs : List Int) : Prop :=
  (∀ x, x ∈ xs → I64 x) ∧ xs.length ≤ cap ∧ cap ≤ maxLen ∧ ∃ (g off N : Nat) (F : Nat → Value), p = some ⟨g, off, none⟩ ∧ B ≤ g ∧ w.rowIs g e N F ∧ off + cap ≤ N ∧ ∀ i (h : i < xs.length), F (off + i) = .int .i64 xs[i]
section
variable {e : TypeId} {B : Nat} {w w' : World} {p : Option Addr} {cap : Nat} {xs : List Int}
theorem Que.keep (h : Que e B w p cap xs) (hk : ∀ a, p = some a → w'.heap[a.block]? = w.heap[a.block]?) : Que e B w' p cap xs := by
  obtain ⟨h1, h2, h3, g, off, N, F, rfl, h4, h5, h6⟩ := h
  exact ⟨h1, h2, h3, g, off, N, F, rfl, h4, h5.of_block (hk _ rfl), h6⟩
theorem Que.lt (h : Que e B w p cap xs) {a : Addr} (ha : p = some a) : B ≤ a.block ∧ a.block < w.heap.size := by
  obtain ⟨h1, h2, h3, g, off, N, F, rfl, h4, h5, h6⟩ := h
  cases ha
  exact ⟨h4, h5.lt⟩
theorem Que.bel (h : Que e B w p cap xs) (hb : Bel w w') : Que e B w' p cap xs := h.keep fun a ha => hb.block (h.lt ha).2
theorem Que.start {g : Nat} {x : Int} (h : w.heap[g]? = some (.cells #[.int .i64 x] e (0, 0))) (hB : B ≤ g) (hx : I64 x) : Que e B w (some ⟨g, 0, none⟩) 1 [x] := by
  refine ⟨fun y hy => by rw [List.mem_singleton.1 hy]; exact hx, Nat.le_refl _, by unfold maxLen; omega, g, 0, 1, fun _ => .int .i64 x, rfl, hB, ⟨_, h, rfl, fun i hi => ?_⟩, Nat.le_refl _, fun i hi => ?_⟩
  · have : i = 0 := by omega
    subst this
    rfl
  · have : i = 0 := by simpa using hi
    subst this
    rfl
theorem Que.head {g off : Nat} (h : Que e B w (some ⟨g, off, none⟩) cap xs) (h0 : 0 < xs.length) : w.cell? ⟨g, off, none⟩ = some (.int .i64 (xs.getD 0 0)) ∧ I64 (xs.getD 0 0) := by
  obtain ⟨h1, h2, h3, g', off', N, F, hp, h4, h5, h6, h7⟩ := h
  obtain ⟨rfl, rfl⟩ : g = g' ∧ off = off' := by simpa using hp
  have e : xs.getD 0 0 = xs[0] := by simp [List.getD, h0]
  rw [e]
  have := h5.cell (i := off) (by omega)
  have h8 := h7 0 h0
  rw [Nat.add_zero] at h8
  rw [h8] at this
  exact ⟨this, h1 _ (List.getElem_mem h0)⟩
theorem Que.tail {g off : Nat} (h : Que e B w (some ⟨g, off, none⟩) cap xs) (h0 : 0 < xs.length) : ∃ A, (if cap = 1 then (some ⟨g, off, none⟩ : Option Addr) else some ⟨g, off + 1, none⟩) = some A ∧ A.block = g ∧ Que e B w (some A) (cap - 1) xs.tail := by
  obtain ⟨h1, h2, h3, g', off', N, F, hp, h4, h5, h6, h7⟩ := h
  obtain ⟨rfl, rfl⟩ : g = g' ∧ off = off' := by simpa using hp
  have ht : ∀ x, x ∈ xs.tail → I64 x := fun x hx => h1 x (List.mem_of_mem_tail hx)
  have hl : xs.tail.length = xs.length - 1 := List.length_tail
  by_cases hc : cap = 1
  · refine ⟨⟨g, off, none⟩, by rw [if_pos hc], rfl, ht, by omega, by omega, g, off, N, F, rfl, h4, h5, by omega, fun i hi => ?_⟩
    omega
  · refine ⟨⟨g, off + 1, none⟩, by rw [if_neg hc], rfl, ht, by omega, by omega, g, off + 1, N, F, rfl, h4, h5, by omega, fun i hi => ?_⟩
    have := h7 (i + 1) (by omega)
    rw [show off + 1 + i = off + (i + 1) from by omega, this]
    simp
end
section
variable {P : Program} {e : TypeId} {B : Nat}
/-- append of one number to a queue, for the walk. -/
theorem wpList_que (w : World) {ops : Array Oper} {rest : List Oper} {o : Oper} {a : Act} {Q : Exit → Act → World → Prop} (hgd : o.guard = none) (s x : Operand) (t : TypeId)
    (ho : o.op = .call { callee := .builtin .append, args := #[s, x], argTypes := #[t, t] })
    (z : Value) (bytes : Nat) (ht : P.underlying t = some (.slice e)) (hinfo : (P.info? e).map (fun i => (i.zero, i.size, i.bytes)) = some (some z, 1, bytes)) (hzs : z.cells.size = 1) (hby : bytes ≤ 100)
    (p : Option Addr) (cap : Nat) (xs : List Int) (x0 : Int) (hs : a.eval s = .slice p xs.length cap) (hq : Que e B w p cap xs)
    (g : Nat) (c : Nat) (hx : a.eval x = .slice (some ⟨g, 0, none⟩) 1 c) (hcell : w.cell? ⟨g, 0, none⟩ = some (.int .i64 x0)) (hx0 : I64 x0) (hlen : xs.length ≤ 1000000) (hbase : B ≤ w.heap.size)
    (h : ∀ p' cap' w', Que e B w' p' cap' (xs ++ [x0]) → (∀ W, Bel W w → W.heap.size ≤ B → Bel W w') → w.heap.size ≤ w'.heap.size →
      (∀ b, b < w.heap.size → (∀ a, p = some a → b ≠ a.block) → w'.heap[b]? = w.heap[b]? ∧ ∀ a, p' = some a → b ≠ a.block) →
      wpList P ops Q rest (a.put o.dst (.slice p' (xs.length + 1) cap')) w') : wpList P ops Q (o :: rest) a w := by
  obtain ⟨i, hi, hz, hsize, hbytes⟩ := info_parts hinfo
  have hq0 := hq
  obtain ⟨h1, h2, h3, q, off, N, F, rfl, h4, h5, h6, h7⟩ := hq
  have hnews : ∀ j u, ([Value.int .i64 x0] : List Value)[j]? = some u → w.cell? ((⟨g, 0, none⟩ : Addr).add j) = some u := by
    intro j u hj
    have : j = 0 := by
      rcases Nat.eq_zero_or_pos j with h | h
      · exact h
      · rw [List.getElem?_eq_none (by simp; omega)] at hj; cases hj
    subst this
    have hadd : (⟨g, 0, none⟩ : Addr).add 0 = ⟨g, 0, none⟩ := by unfold Addr.add; split <;> simp_all
    rw [hadd, hcell]
    simpa using hj
  have h1c : ∀ u ∈ ([Value.int .i64 x0] : List Value), u.oneCell' = true := by intro u hu; simp at hu; subst hu; rfl
  by_cases hr : xs.length + 1 ≤ cap
  · have hrun := run_append_room_cells (P := P) (w := w) t o.type e i ht hi q off xs.length cap ⟨g, 0, none⟩ 1 c [.int .i64 x0] (by rw [hsize]; rfl) hnews h1c hr
      (fun j hj => by
        obtain rfl : j = 0 := by simpa using hj
        rw [hsize, h5.cell (i := off + xs.length * 1 + 0) (by omega)]; rfl)
      (fun j hj => h5.frozen _)
    refine wpList_plain hgd fun K hK => ?_
    unfold Oper.wp execOp
    simp only [ho, resolve, invoke, builtin, Sem.run_bind, Sem.run_pure, Result.andThen_ok, List.map_toArray, List.map_cons, List.map_nil, hs, hx, hrun]
    have hm : Mut (fun b => b = q) w (w.setCells q (off + xs.length * i.size) [.int .i64 x0]) := mut_setCells (S := fun b => b = q) (g := q) rfl _ _ _ (Mut.refl _ _)
    refine hK _ _ (h _ _ _ ⟨fun y hy => ?_, by simpa using hr, h3, q, off, N, _, rfl, h4, h5.set (off + xs.length * i.size) (.int .i64 x0), h6, fun j hj => ?_⟩ (fun W hW hWB => Mut.bel hW hm fun k hk => by rw [hk]; omega) hm.size (fun b hb hp => ⟨hm.block b hb fun hh => hp _ rfl hh, hp⟩))
    · rcases List.mem_append.1 hy with hy | hy
      · exact h1 y hy
      · rw [List.mem_singleton.1 hy]; exact hx0
    · rw [hsize, Nat.mul_one]
      by_cases hj' : j < xs.length
      · rw [if_neg (by omega), h7 j hj', List.getElem_append_left hj']
      · have : j = xs.length := by simp at hj; omega
        subst this
        rw [if_pos rfl]
        simp
  · have hc : cap = xs.length := by omega
    subst hc
    refine wpList_append_grows w hgd s x t ho e i z 1 bytes ht hi hz hsize hbytes hzs (by decide) (some ⟨q, off, none⟩) xs.length xs.length (xs.map (Value.int .i64)) hs (fun h => by cases h) (by simp) (fun b hb j u hj => ?_) ⟨g, 0, none⟩ 1 c [.int .i64 x0] hx rfl hnews h1c (by omega) (by unfold maxLen; omega) ?_ ?_
    · cases hb
      have hjl : j < xs.length := by
        rcases Nat.lt_or_ge j xs.length with h | h
        · exact h
        · rw [List.getElem?_eq_none (by simpa using h)] at hj; cases hj
      have hadd : (⟨q, off, none⟩ : Addr).add j = ⟨q, off + j, none⟩ := by unfold Addr.add; split <;> simp_all
      rw [hadd, h5.cell (i := off + j) (by omega), h7 j hjl]
      rw [List.getElem?_map, List.getElem?_eq_getElem hjl] at hj
      simpa using hj
    · have : (xs.length + 1) * bytes ≤ 1000001 * 100 := Nat.mul_le_mul (by omega) hby
      omega
    · intro v' w' k2 k3
      obtain ⟨g', cap', rfl, _, _⟩ := k2.form (by omega)
      obtain ⟨k21, k22⟩ := k2
      rcases k22 with ⟨k4, _⟩ | ⟨g2, cap2, cur, k4, k5, k6, k7, k8, k9, k10⟩
      · simp at k4
      · obtain ⟨rfl, rfl⟩ : g' = g2 ∧ cap' = cap2 := by simpa using k4
        refine h _ _ _ ⟨fun y hy => ?_, by simpa using k7, k8, g', 0, cap', fun j => (cur[j]?).getD default, rfl, by omega, ⟨cur, k6, by omega, fun j hj => ?_⟩, by omega, fun j hj => ?_⟩ (fun W hW _ => Below.grown hW k3 hW.size fun k hk => by cases hk) k3.size (fun b hb hp => ⟨k3.block b hb (by simp), fun a ha hh => ?_⟩)
        · rcases List.mem_append.1 hy with hy | hy
          · exact h1 y hy
          · rw [List.mem_singleton.1 hy]; exact hx0
        · show cur[j]? = some ((cur[j]?).getD default)
          rw [Array.getElem?_eq_getElem (by omega)]; rfl
        · have hl : (xs ++ [x0]).length = xs.length + 1 := by simp
          have h11 : (cur.toList.take ((xs.length + 1) * 1))[j]? = (xs.map (Value.int .i64) ++ [Value.int .i64 x0])[j]? := by rw [k10]
          rw [List.getElem?_take, if_pos (by omega), Array.getElem?_toList] at h11
          show (cur[0 + j]?).getD default = _
          rw [Nat.zero_add, h11]
          have e : (xs.map (Value.int .i64) ++ [Value.int .i64 x0] : List Value) = (xs ++ [x0]).map (Value.int .i64) := by simp
          rw [e, List.getElem?_map, List.getElem?_eq_getElem hj]
          rfl
        · cases ha
          have hh' : b = g' := hh
          omega
end
theorem bfs_len (l : List Int) : ∀ s : List Int × List Int, (l.foldl bfs s).2.length + s.1.length = (l.foldl bfs s).1.length + s.2.length ∧ s.1.length ≤ (l.foldl bfs s).1.length ∧ (l.foldl bfs s).1.length ≤ s.1.length + l.length := by
  induction l with
  | nil => intro s; simp; omega
  | cons z l ih =>
    intro s
    rw [List.foldl_cons]
    have := ih (bfs s z)
    unfold bfs at this ⊢
    split at this
    · next h => rw [if_pos h]; simp only [List.length_cons]; omega
    · next h => rw [if_neg h]; simp only [List.length_append, List.length_cons, List.length_nil] at this ⊢; omega
def lenV : Value → Nat
  | .slice _ n _ => n
  | _ => 0
end Go.Proofs.Ytiaamddhocdhaaa
