/- DomainLiterals, both sides. -/
import Derived.Test.YthkcdmghchikjaaGreatDiff
import Derived.Test.YthkcdmghchikjaaGreatDomForm
import Derived.Test.YthkcdmghchikjaaGreatOwn
import Derived.Test.YthkcdmghchikjaaGreatRange
import Derived.Deep.RegionHeld3
import Derived.Deep.Cut
namespace Go.Proofs.YthkcdmghchikjaaGreat
open Go.ChangeShapes Go.WideShapes Go.ChangeAt Go.RowKit
set_option linter.unusedVariables false

section
variable {P : Program} {α : Type} {S : Nat → Prop} {n : Nat} {R : RepT α} {e : TypeId} {B : Nat}
/-- append of one element to a slice that may be empty and full, for the walk; what lies in other blocks stays. -/
theorem wpList_appE2 (gd : Good R) (w : World) {ops : Array Oper} {rest : List Oper} {o : Oper} {a : Act} {Q : Exit → Act → World → Prop} (hgd : o.guard = none) (s x : Operand) (t : TypeId)
    (ho : o.op = .call { callee := .builtin .append, args := #[s, x], argTypes := #[t, t] })
    (z : Value) (bytes : Nat) (ht : P.underlying t = some (.slice e)) (hinfo : (P.info? e).map (fun i => (i.zero, i.size, i.bytes)) = some (some z, n, bytes)) (hzs : z.cells.size = n) (hn : 0 < n) (hby : bytes ≤ 100)
    (p : Option Addr) (cap : Nat) (xs : List α) (x0 : α) (hs : a.eval s = .slice p xs.length cap) (hown : OwnE S n R e B w p cap xs)
    (g : Nat) (c : Nat) (ecs : List Value) (hx : a.eval x = .slice (some ⟨g, 0, none⟩) 1 c) (hel : ecs.length = n) (hcell : ∀ j u, ecs[j]? = some u → w.cell? ((⟨g, 0, none⟩ : Addr).add j) = some u) (h1 : ∀ u ∈ ecs, u.oneCell' = true)
    (hrep : R (fun b => S b ∧ b < w.heap.size ∧ ∀ a, p = some a → b ≠ a.block) w ecs x0) (hlen : xs.length ≤ 1000000000) (hbase : B ≤ w.heap.size)
    (h : ∀ p' cap' w', OwnE S n R e B w' p' cap' (xs ++ [x0]) → (∀ W, Bel W w → W.heap.size ≤ B → Bel W w') → w.heap.size ≤ w'.heap.size →
      ((∀ b, b < w.heap.size → (∀ a, p = some a → b ≠ a.block) → w'.heap[b]? = w.heap[b]? ∧ ∀ a, p' = some a → b ≠ a.block) ∧ ∀ a, p' = some a → a.block < w'.heap.size) →
      wpList P ops Q rest (a.put o.dst (.slice p' (xs.length + 1) cap')) w') : wpList P ops Q (o :: rest) a w := by
  rcases hown with hown | ⟨rfl, rfl⟩
  · refine wpList_app2 gd w hgd s x t ho z bytes ht hinfo hzs hn hby p cap xs x0 hs hown g c ecs hx hel hcell h1 hrep hlen hbase fun p' cap' w' k1 k2 k3 k4 => h p' cap' w' (.inl k1) k2 k3 ⟨k4, fun a ha => ?_⟩
    rcases k1.cases with ⟨h1, _⟩ | ⟨g, cur, h1, h2, h3, h4, _⟩
    · rw [h1] at ha; cases ha
    · rw [h1] at ha; cases ha; exact h4
  · obtain ⟨i, hi, hz, hsize, hbytes⟩ := info_parts hinfo
    refine wpList_append_grows w hgd s x t ho e i z n bytes ht hi hz hsize hbytes hzs hn p 0 0 [] hs (fun _ => ⟨rfl, rfl⟩) (by simp) (fun b _ j u hj => by simp at hj) ⟨g, 0, none⟩ 1 c ecs hx (by omega) hcell h1 (by omega) (by unfold maxLen; omega) (by omega) ?_
    intro v' w' h2 h3
    obtain ⟨g', cap', rfl, _, _⟩ := h2.form (by omega)
    have hb : ∀ W, Bel W w → Bel W w' := fun W hW => Below.grown hW h3 hW.size fun k hk => by cases hk
    obtain ⟨h21, h22⟩ := h2
    rcases h22 with ⟨h4, _⟩ | ⟨g2, cap2, cur, h4, h5, h6, h7, h8, h9, h10⟩
    · simp at h4
    · obtain ⟨rfl, rfl⟩ : g' = g2 ∧ cap' = cap2 := by simpa using h4
      refine h _ _ _ (.inl ⟨ecs, ⟨by simpa using h21, .inr ⟨g', cap', cur, rfl, Nat.le_trans hbase h5, h6, by simpa using h7, h8, h9, by simpa using h10⟩⟩, fun k hk => ?_⟩) (fun W hW _ => hb W hW) h3.size ⟨fun b hb' _ => ⟨h3.block b hb' (by simp), fun a ha hh => ?_⟩, fun a ha => ?_⟩
      · obtain rfl : k = 0 := by simpa using hk
        refine ⟨ecs, hel, fun m _ => by simp, ?_⟩
        show R _ w' ecs x0
        refine gd.mono (gd.stay hrep fun b hb' => h3.block b hb'.2.1 (by simp)) fun b hb' => ⟨hb'.1, Nat.lt_of_lt_of_le hb'.2.1 h3.size, ?_⟩
        rintro a ha hh
        have : a.block = g' := by cases ha; rfl
        have := hb'.2.1
        omega
      · cases ha
        have hh' : b = g' := hh
        omega
      · cases ha
        exact (Array.getElem?_eq_some_iff.1 h6).1
end
theorem new_lt {w w' : World} {b : Nat} (h : New w w' b) : b < w'.heap.size := h.2
def lit4 (k : Nat) (m : Int) : LitT := (4, (k : Int), m)
/-- The literals of the first activities. -/
def dlTo (p : ProjT) (b : DomT) : Nat → List LitT
  | 0 => []
  | k + 1 => dlTo p b k ++ (if 0 < b.1.getD k 0 then [((1 : Int), (k : Int), b.1.getD k 0)] else []) ++ (if b.2.1.getD k 0 < p.1 - 1 then [((2 : Int), (k : Int), b.2.1.getD k 0)] else []) ++ (setL (difL (rangeL (p.2.1.getD k zAct).2.2.length) (b.2.2.getD k []))).map (lit4 k)
def dlV (p : ProjT) (b : DomT) : List LitT := if domFormB p b = true then dlTo p b p.2.1.length else []
theorem dif_le (n : Nat) (b : List Int) : (setL (difL (rangeL n) b)).length ≤ n := Nat.le_trans (setL_length _) (Nat.le_trans (difL_le _ _) (by rw [rangeL_length]; exact Nat.le_refl _))
theorem dif_mem {n : Nat} {b : List Int} {x : Int} (h : x ∈ setL (difL (rangeL n) b)) : 0 ≤ x ∧ x < n := by
  have h1 := difL_mem ((setL_mem _ _).1 h)
  unfold rangeL at h1
  obtain ⟨j, hj, rfl⟩ := List.mem_map.1 h1
  have := List.mem_range.1 hj
  omega
theorem dlTo_le {p : ProjT} (hp : projOk p = true) (b : DomT) : ∀ k, k ≤ p.2.1.length → (dlTo p b k).length ≤ k * 5 := by
  intro k
  induction k with
  | zero => intro _; simp [dlTo]
  | succ k ih =>
    intro hk
    have h1 := ih (by omega)
    have h2 := (projOk_modes hp (k := k) (by omega)).2
    have h3 := dif_le (p.2.1.getD k zAct).2.2.length (b.2.2.getD k [])
    simp only [dlTo, List.length_append, List.length_map]
    have h4 : (if 0 < b.1.getD k 0 then [((1 : Int), (k : Int), b.1.getD k 0)] else ([] : List LitT)).length ≤ 1 := by split <;> simp
    have h5 : (if b.2.1.getD k 0 < p.1 - 1 then [((2 : Int), (k : Int), b.2.1.getD k 0)] else ([] : List LitT)).length ≤ 1 := by split <;> simp
    omega
theorem dlV_len (p : ProjT) (b : DomT) : (dlV p b).length ≤ 1048576 := by
  unfold dlV
  split
  · next h =>
    have hp : projOk p = true := by
      cases hp : projOk p
      · rw [domForm_no1 hp] at h; cases h
      · rfl
    have h1 := dlTo_le hp b p.2.1.length (Nat.le_refl _)
    have h2 := (projOk_bd hp).2.1
    omega
  · simp
theorem domForm_all {p : ProjT} {b : DomT} (h : domFormB p b = true) : projOk p = true ∧ b.1.length = p.2.1.length ∧ b.2.1.length = p.2.1.length ∧ b.2.2.length = p.2.1.length ∧ ∀ k, k < p.2.1.length → (-2 ≤ b.1.getD k 0 ∧ b.1.getD k 0 ≤ 62) ∧ (-2 ≤ b.2.1.getD k 0 ∧ b.2.1.getD k 0 ≤ 62) := by
  unfold domFormB at h
  simp only [Bool.and_eq_true, decide_eq_true_eq] at h
  obtain ⟨h1, h2, h3, h4, h5⟩ := h
  refine ⟨h1, h2, h3, h4, fun k hk => ?_⟩
  have h6 := List.all_eq_true.1 h5 k (List.mem_range.2 hk)
  unfold formD inBv at h6
  simp only [Bool.and_eq_true, decide_eq_true_eq] at h6
  exact ⟨h6.1, h6.2.1⟩
theorem lit_rep {S : Nat → Prop} {w : World} {a b c : Int} (ha : I64 a) (hb : I64 b) (hc : I64 c) : litR S w [.int .i64 a, .int .i64 b, .int .i64 c] (a, b, c) := ⟨_, [_, _], rfl, ⟨rfl, ha⟩, _, [_], rfl, ⟨rfl, hb⟩, rfl, hc⟩
theorem cells_of {w : World} {g : Nat} {c : Array Value} {t : TypeId} (h : w.heap[g]? = some (.cells c t (0, 0))) {i : Nat} {v : Value} (hv : c[i]? = some v) : w.cell? ⟨g, i, none⟩ = some v := by simp [World.cell?, h, hv]
set_option maxRecDepth 100000 in
set_option maxHeartbeats 8000000 in
theorem sDomainLiterals_any (v : Value) (p : ProjT) (S : Nat → Prop) (v0 : Value) (x0 : DomT) (S0 : Nat → Prop) (w : World) (hx : aggR projR S w v p) (hS : ∀ b, S b → b < w.heap.size) (_hn : bulkProject p ≤ 1048576) (h0 : aggR domR S0 w v0 x0) (_hS0 : ∀ b, S0 b → b < w.heap.size) (_hn0 : bulkDomain x0 ≤ 1048576) :
    Calls Tryz.prog 25 #[v, v0] w (FreshV litsR w (dlV p x0)) := by
  have HQ0 := Lib.hid h0
  obtain ⟨cs, rfl, hx⟩ := hx
  obtain ⟨y1, y2, y3, y4, rfl, q0, q1, q2, q3, q4⟩ := projR_open hx
  have Q1 := Lib.hid q1
  have Q2 := Lib.hid q2
  have Q3 := Lib.hid q3
  have Q4 := Lib.hid q4
  have HP := Lib.hid hx
  obtain ⟨p1, k1, rfl, l1, l1', -⟩ := sliceR_open q1
  obtain ⟨p2, k2, rfl, l2, l2', -⟩ := sliceR_open q2
  obtain ⟨p3, k3, rfl, l3, l3', -⟩ := sliceR_open q3
  obtain ⟨p4, k4, rfl, l4, l4', -⟩ := sliceR_open q4
  unfold maxLen at l1' l2' l3' l4'
  clear hx q0 q1 q2 q3 q4
  obtain ⟨cs0, rfl, h0⟩ := h0
  obtain ⟨c0, c1, c2, rfl, q00, q01, q02⟩ := domR_open h0
  obtain ⟨ls, us, ms⟩ := x0
  simp only at q00 q01 q02
  have A00 := Lib.hid (fun i hi => intsR_at' q00 (i := i) hi)
  have A01 := Lib.hid (fun i hi => intsR_at' q01 (i := i) hi)
  obtain ⟨p00, cap00, rfl, l00, l00', _⟩ := sliceR_open q00
  obtain ⟨p01, cap01, rfl, l01, l01', _⟩ := sliceR_open q01
  have Q02 := Lib.hid q02
  obtain ⟨p02, cap02, rfl, l02, l02', _⟩ := sliceR_open q02
  unfold maxLen at l00' l01' l02'
  clear h0 q00 q01 q02
  have HS := Lib.hid hS
  have HS0 := Lib.hid _hS0
  have HN := Lib.hid _hn
  have HN0 := Lib.hid _hn0
  have HQ1 := Lib.hid (show ∀ W, Bel w W → aggR domR S0 W (.agg #[.slice p00 ls.length cap00, .slice p01 us.length cap01, .slice p02 ms.length cap02]) (ls, us, ms) from fun W hW => by
    obtain ⟨cs, e, h⟩ := HQ0.out
    exact ⟨cs, e, domR_good.bel h hW HS0.out⟩)
  clear hS _hn _hS0 _hn0 HQ0
  have HP1 := Lib.hid (show ∀ W, Bel w W → aggR projR S W (.agg #[.int .i64 p.1, .slice p1 p.2.1.length k1, .slice p2 p.2.2.1.length k2, .slice p3 p.2.2.2.1.length k3, .slice p4 p.2.2.2.2.length k4]) p from fun W hW => aggR_mk (projR_good.bel HP.out hW HS.out))
  show Calls Tryz.prog 25 #[.agg #[.int .i64 p.1, .slice p1 p.2.1.length k1, .slice p2 p.2.2.1.length k2, .slice p3 p.2.2.2.1.length k3, .slice p4 p.2.2.2.2.length k4], .agg #[.slice p00 ls.length cap00, .slice p01 us.length cap01, .slice p02 ms.length cap02]] w _
  go_enter Tryz.func25, Tryz.ntmps25
  go_wp2_with fail
  refine (sDomainForm_any _ p S _ (ls, us, ms) S0 _ (HP1.out _ (by (repeat (first | assumption | exact Bel.refl _ | apply Bel.drewN | apply Bel.drew | apply Bel.alloc | refine Bel.trans ?_ (by assumption))))) (fun b hb => Nat.lt_of_lt_of_le (HS.out b hb) (Bel.size (by (repeat (first | assumption | exact Bel.refl _ | apply Bel.drewN | apply Bel.drew | apply Bel.alloc | refine Bel.trans ?_ (by assumption)))))) HN.out (HQ1.out _ (by (repeat (first | assumption | exact Bel.refl _ | apply Bel.drewN | apply Bel.drew | apply Bel.alloc | refine Bel.trans ?_ (by assumption))))) (fun b hb => Nat.lt_of_lt_of_le (HS0.out b hb) (Bel.size (by (repeat (first | assumption | exact Bel.refl _ | apply Bel.drewN | apply Bel.drew | apply Bel.alloc | refine Bel.trans ?_ (by assumption)))))) HN0.out).mono ?_
  rintro e w1 ⟨rfl, g1⟩
  have b0 := g1.cell (p := ⟨w.heap.size, 0, none⟩) (v := .int .i64 p.1) (by simp [go_sem])
  have b1 := g1.cell (p := ⟨w.heap.size, 1, none⟩) (v := .slice p1 p.2.1.length k1) (by simp [go_sem])
  have b2 := g1.cell (p := ⟨w.heap.size, 2, none⟩) (v := .slice p2 p.2.2.1.length k2) (by simp [go_sem])
  have b3 := g1.cell (p := ⟨w.heap.size, 3, none⟩) (v := .slice p3 p.2.2.2.1.length k3) (by simp [go_sem])
  have b4 := g1.cell (p := ⟨w.heap.size, 4, none⟩) (v := .slice p4 p.2.2.2.2.length k4) (by simp [go_sem])
  have f0 := g1.cell (p := ⟨w.heap.size + 1, 0, none⟩) (v := .slice p00 ls.length cap00) (by simp [go_sem])
  have f1 := g1.cell (p := ⟨w.heap.size + 1, 1, none⟩) (v := .slice p01 us.length cap01) (by simp [go_sem])
  have f2 := g1.cell (p := ⟨w.heap.size + 1, 2, none⟩) (v := .slice p02 ms.length cap02) (by simp [go_sem])
  have G : Bel w w1 := by (repeat (first | assumption | exact Bel.refl _ | apply Bel.drewN | apply Bel.drew | apply Bel.alloc | refine Bel.trans ?_ (by assumption)))
  have hs1w := G.size
  have HBX := Lib.hid (show ∀ W, Bel w1 W → W.cell? ⟨w.heap.size, 0, none⟩ = some (.int .i64 p.1) ∧ W.cell? ⟨w.heap.size, 1, none⟩ = some (.slice p1 p.2.1.length k1) ∧ W.cell? ⟨w.heap.size, 2, none⟩ = some (.slice p2 p.2.2.1.length k2) ∧ W.cell? ⟨w.heap.size, 3, none⟩ = some (.slice p3 p.2.2.2.1.length k3) ∧ W.cell? ⟨w.heap.size, 4, none⟩ = some (.slice p4 p.2.2.2.2.length k4) ∧ W.cell? ⟨w.heap.size + 1, 0, none⟩ = some (.slice p00 ls.length cap00) ∧ W.cell? ⟨w.heap.size + 1, 1, none⟩ = some (.slice p01 us.length cap01) ∧ W.cell? ⟨w.heap.size + 1, 2, none⟩ = some (.slice p02 ms.length cap02) from fun W hW => keep8 ⟨b0, b1, b2, b3, b4, f0, f1, f2⟩ hW)
  have HQ0A := Lib.hid (show w.heap.size + 3 ≤ w1.heap.size from by have := g1.size; simp at this; omega)
  cases hf : domFormB p (ls, us, ms)
  · have HD := Lib.hid (show litsR (New w w1) w1 [.slice none 0 0] (dlV p (ls, us, ms)) from by unfold dlV; rw [hf, if_neg (by simp)]; exact ⟨none, 0, rfl, Nat.le_refl _, Nat.zero_le _, fun i h => by simp at h⟩)
    clear hf
    go_wp2
    go_ret
    exact ⟨_, rfl, HD.out, G⟩
  have HVV := Lib.hid (show dlV p (ls, us, ms) = dlTo p (ls, us, ms) p.2.1.length from by unfold dlV; rw [hf, if_pos rfl])
  obtain ⟨hpo, H2, H3, H4, hbnd⟩ := domForm_all hf
  have hbd := projOk_bd hpo
  have HPO := Lib.hid hpo
  have H2 := Lib.hid (show ls.length = p.2.1.length from H2)
  have H3 := Lib.hid (show us.length = p.2.1.length from H3)
  have H4 := Lib.hid (show ms.length = p.2.1.length from H4)
  have HBD := Lib.hid (show ∀ k, k < p.2.1.length → (-2 ≤ ls.getD k 0 ∧ ls.getD k 0 ≤ 62) ∧ (-2 ≤ us.getD k 0 ∧ us.getD k 0 ≤ 62) from hbnd)
  have hsub : IntKind.i64.wrap (p.1 - 1) = p.1 - 1 := IntWalk.i64_in _ (by omega)
  clear hf hpo hbnd
  have ab0 := fun o => ((Bel.refl w1).alloc o).cell b0
  have ab1 := fun o => ((Bel.refl w1).alloc o).cell b1
  have ab2 := fun o => ((Bel.refl w1).alloc o).cell b2
  have ab3 := fun o => ((Bel.refl w1).alloc o).cell b3
  have ab4 := fun o => ((Bel.refl w1).alloc o).cell b4
  have af0 := fun o => ((Bel.refl w1).alloc o).cell f0
  have af1 := fun o => ((Bel.refl w1).alloc o).cell f1
  have af2 := fun o => ((Bel.refl w1).alloc o).cell f2
  go_wp2_with fail
  clear ab0 ab1 ab2 ab3 ab4 af0 af1 af2 b0 b1 b2 b3 b4 f0 f1 f2
  go_loopw [5, 18] (fun o i wr => ∃ (k : Nat) (ys : List LitT) (q1 : Option Addr) (c1 : Nat), k ≤ p.2.1.length ∧ i = .int .i64 k ∧ o = .slice q1 ys.length c1 ∧ ys = dlTo p (ls, us, ms) k ∧ OwnE (fun _ => False) 3 litR 95 w1.heap.size wr q1 c1 ys ∧ (∀ a, q1 = some a → a.block < wr.heap.size) ∧ Bel w1 wr) (fun _ i _ => p.2.1.length - (intOf i).toNat)
  case atStart => exact ⟨0, [], _, _, Nat.zero_le _, rfl, rfl, rfl, OwnE.empty _ _, (by intro a ha; cases ha; first | (have := HQ0A.out; simp; omega) | (have := HQ0A.out; simp)), by (repeat (first | assumption | exact Bel.refl _ | apply Bel.drewN | apply Bel.drew | apply Bel.alloc | refine Bel.trans ?_ (by assumption)))⟩
  case round =>
    obtain ⟨k, ys, q1, c1, hk, rfl, rfl, hys, hO, hqa, hB⟩ := hrel
    have HYS := Lib.hid hys
    have HQA := Lib.hid hqa
    have hyl : ys.length ≤ k * 5 := by rw [hys]; exact dlTo_le HPO.out _ _ hk
    have hszr := hB.size
    clear hys hqa
    have hB0 : Bel w wr := G.trans hB
    by_cases hlt : k < p.2.1.length
    · obtain ⟨b0, b1, b2, b3, b4, f0, f1, f2⟩ := HBX.out wr hB
      have hl0 : k < ls.length := by rw [H2.out]; exact hlt
      have hl1 : k < us.length := by rw [H3.out]; exact hlt
      have hl2 : k < ms.length := by rw [H4.out]; exact hlt
      obtain ⟨ab, ao, acs, aea, arow, ael⟩ := sliceR_at zAct Q1.out hlt
      obtain rfl : p1 = some ⟨ab, ao, none⟩ := aea
      obtain ⟨lb, lo, le, ld⟩ := A00.out k hl0
      obtain rfl : p00 = some ⟨lb, lo, none⟩ := le
      obtain ⟨ub, uo, ue, ud⟩ := A01.out k hl1
      obtain rfl : p01 = some ⟨ub, uo, none⟩ := ue
      obtain ⟨mb, mo, mp, mc, me, md, ml, ml', mr⟩ := rowsR_at Q02.out hl2
      obtain rfl : p02 = some ⟨mb, mo, none⟩ := me
      have HUD := Lib.hid (show ∀ W, Bel w1 W → W.cell? ⟨ub, uo + k, none⟩ = some (.int .i64 (us.getD k 0)) from fun W hW => (G.trans hW).cell ud)
      have HMD := Lib.hid (show ∀ W, Bel w1 W → W.cell? ⟨mb, mo + k, none⟩ = some (.slice mp (ms.getD k []).length mc) from fun W hW => (G.trans hW).cell md)
      have ld := hB0.cell ld
      clear ud md
      have HRW := Lib.hid mr; clear mr
      have hk0 : (k : Int) < (ls.length : Int) := by omega
      have hk1 : (k : Int) < (us.length : Int) := by omega
      have hk2 : (k : Int) < (ms.length : Int) := by omega
      have hkp : (k : Int) < (p.2.1.length : Int) := by omega
      have hxm := (projOk_modes HPO.out hlt).2
      have hxb := HBD.out k hlt
      have HDT := Lib.hid (show dlTo p (ls, us, ms) (k + 1) = dlTo p (ls, us, ms) k ++ (if 0 < ls.getD k 0 then [((1 : Int), (k : Int), ls.getD k 0)] else []) ++ (if us.getD k 0 < p.1 - 1 then [((2 : Int), (k : Int), us.getD k 0)] else []) ++ (setL (difL (rangeL (p.2.1.getD k zAct).2.2.length) (ms.getD k []))).map (lit4 k) from rfl)
      generalize ls.getD k 0 = X0 at *
      generalize us.getD k 0 = X1 at *
      generalize ms.getD k [] = X2 at *
      generalize p.2.1.getD k zAct = X at *
      obtain ⟨ac2, rfl, aq0, aq1, aq2⟩ := actR_open ael
      have HEL := Lib.hid ael
      obtain ⟨am, amk, rfl, aml, aml', -⟩ := sliceR_open aq2
      have ea0 := hB0.cell (arow 0 (by simp)).1
      have ea1 := hB0.cell (arow 1 (by simp)).1
      have ea2 := hB0.cell (arow 2 (by simp)).1
      simp only [List.getElem_cons_zero, List.getElem_cons_succ, Nat.add_zero] at ea0 ea1 ea2
      unfold maxLen at ml' aml'
      clear arow ael aq0 aq1 aq2 hl0 hl1 hl2
      have HS9 := Lib.hid (show ∀ W, Bel w1 W → W.cell? ⟨w.heap.size, 0, none⟩ = some (.int .i64 p.1) ∧ W.cell? ⟨w.heap.size, 1, none⟩ = some (.slice (some ⟨ab, ao, none⟩) p.2.1.length k1) ∧ W.cell? ⟨w.heap.size, 2, none⟩ = some (.slice p2 p.2.2.1.length k2) ∧ W.cell? ⟨w.heap.size, 3, none⟩ = some (.slice p3 p.2.2.2.1.length k3) ∧ W.cell? ⟨w.heap.size, 4, none⟩ = some (.slice p4 p.2.2.2.2.length k4) ∧ W.cell? ⟨w.heap.size + 1, 0, none⟩ = some (.slice (some ⟨lb, lo, none⟩) ls.length cap00) ∧ W.cell? ⟨w.heap.size + 1, 1, none⟩ = some (.slice (some ⟨ub, uo, none⟩) us.length cap01) ∧ W.cell? ⟨w.heap.size + 1, 2, none⟩ = some (.slice (some ⟨mb, mo, none⟩) ms.length cap02) ∧ W.cell? ⟨ub, uo + k, none⟩ = some (.int .i64 X1) from fun W hW => by
        obtain ⟨b0, b1, b2, b3, b4, f0, f1, f2⟩ := HBX.out W hW
        exact ⟨b0, b1, b2, b3, b4, f0, f1, f2, HUD.out W hW⟩)
      have ab0 := fun o => ((Bel.refl wr).alloc o).cell b0
      have ab1 := fun o => ((Bel.refl wr).alloc o).cell b1
      have ab2 := fun o => ((Bel.refl wr).alloc o).cell b2
      have ab3 := fun o => ((Bel.refl wr).alloc o).cell b3
      have ab4 := fun o => ((Bel.refl wr).alloc o).cell b4
      have af0 := fun o => ((Bel.refl wr).alloc o).cell f0
      have af1 := fun o => ((Bel.refl wr).alloc o).cell f1
      have af2 := fun o => ((Bel.refl wr).alloc o).cell f2
      have ald := fun o => ((Bel.refl wr).alloc o).cell ld
      obtain ⟨la, hla⟩ : ∃ la, la = wr.heap.size := ⟨_, rfl⟩
      have hlaA : (wr.alloc (.cells #[.string X.1, .int .i64 X.2.1, .slice am X.2.2.length amk] 93)).heap[la]? = some (.cells #[.string X.1, .int .i64 X.2.1, .slice am X.2.2.length amk] 93) := by rw [hla]; exact heap_alloc_new _ _
      by_cases h1 : 0 < X0
      · have HYB0 := Lib.hid (show ys ++ [(1, ((k : Nat) : Int), X0)] = dlTo p (ls, us, ms) k ++ (if 0 < X0 then [(1, ((k : Nat) : Int), X0)] else ([] : List LitT)) from by rw [HYS.out, if_pos h1])
        go_upto_region 9 with ((at_builtin; refine wpList_appE2 (n := 3) litR_good _ rfl _ _ 54 rfl (.agg #[.int .i64 0, .int .i64 0, .int .i64 0]) 24 Tryz.underlying54 (by kernel_rfl) rfl (by decide) (by decide) q1 c1 ys ((1, ((k : Nat) : Int), X0)) rfl (hO.bel litR_good (by (repeat (first | assumption | exact Bel.refl _ | apply Bel.drewN | apply Bel.drew | apply Bel.alloc | refine Bel.trans ?_ (by assumption))))) _ 1 [.int .i64 (1), .int .i64 (((k : Nat) : Int)), .int .i64 (X0)] rfl rfl (World.news_of_block (alloc_at (by simp))) (by intro u hu; simp at hu; rcases hu with rfl | rfl | rfl <;> rfl) (lit_rep (by unfold I64; omega) (by unfold I64; omega) (by unfold I64; omega)) (by omega) (by first | omega | (simp; omega)) ?_; intro q' cap' w' hO' hBW hsz' hOT'))
        have hBB := hBW w1 (by (repeat (first | assumption | exact Bel.refl _ | apply Bel.drewN | apply Bel.drew | apply Bel.alloc | refine Bel.trans ?_ (by assumption)))) (Nat.le_refl _)
        have hlaS0 : la < w'.heap.size := by simp at hsz'; omega
        have hT2 := hOT'.1 la (by simp; omega) (fun a ha hh => by have := HQA.out a ha; omega)
        have hlaB : w'.heap[la]? = some (.cells #[.string X.1, .int .i64 X.2.1, .slice am X.2.2.length amk] 93) := hT2.1.trans ((((Bel.refl (wr.alloc (.cells #[.string X.1, .int .i64 X.2.1, .slice am X.2.2.length amk] 93))).alloc _).block (by simp; omega)).trans hlaA)
        have HQB := Lib.hid (show ∀ a, q' = some a → a.block < w'.heap.size ∧ a.block ≠ la from fun a ha => ⟨hOT'.2 a ha, fun hh => hT2.2 a ha hh.symm⟩)
        clear hBW hsz' hOT' hT2 hlaA ab0 ab1 ab2 ab3 ab4 af0 af1 af2 ald b0 b1 b2 b3 b4 f0 f1 f2 ea0 ea1 ea2
        obtain ⟨WB, hWB⟩ : ∃ W, W = w' := ⟨w', rfl⟩
        subst hWB
        obtain ⟨ysB, hysB⟩ : ∃ y, ys ++ [(1, ((k : Nat) : Int), X0)] = y := ⟨_, rfl⟩
        rw [hysB] at hO' HYB0
        rw [show ys.length + 1 = ysB.length from by rw [← hysB]; simp]
        have HYB := HYB0
        have hOB := hO'
        have hylB : ysB.length ≤ 100 := by rw [← hysB]; simp; omega
        have hlaS := hlaS0
        clear hysB hO' HYB0 hlaS0
        obtain ⟨qB, hqB⟩ : ∃ q, q = q' := ⟨q', rfl⟩
        subst hqB
        obtain ⟨cB, hcB⟩ : ∃ q, q = cap' := ⟨cap', rfl⟩
        subst hcB
        obtain ⟨b0, b1, b2, b3, b4, f0, f1, f2⟩ := HBX.out WB hBB
        have ud := HUD.out WB hBB
        have hszB := hBB.size
        by_cases h2 : X1 < p.1 - 1
        · have HYB2 := Lib.hid (show ysB ++ [(2, ((k : Nat) : Int), X1)] = dlTo p (ls, us, ms) k ++ (if 0 < X0 then [(1, ((k : Nat) : Int), X0)] else ([] : List LitT)) ++ (if X1 < p.1 - 1 then [(2, ((k : Nat) : Int), X1)] else ([] : List LitT)) from by rw [HYB.out, if_pos h2])
          go_region_held3 (fun W => W.cell? ⟨w.heap.size, 0, none⟩ = some (.int .i64 p.1) ∧ W.cell? ⟨w.heap.size, 1, none⟩ = some (.slice (some ⟨ab, ao, none⟩) p.2.1.length k1) ∧ W.cell? ⟨w.heap.size, 2, none⟩ = some (.slice p2 p.2.2.1.length k2) ∧ W.cell? ⟨w.heap.size, 3, none⟩ = some (.slice p3 p.2.2.2.1.length k3) ∧ W.cell? ⟨w.heap.size, 4, none⟩ = some (.slice p4 p.2.2.2.2.length k4) ∧ W.cell? ⟨w.heap.size + 1, 0, none⟩ = some (.slice (some ⟨lb, lo, none⟩) ls.length cap00) ∧ W.cell? ⟨w.heap.size + 1, 1, none⟩ = some (.slice (some ⟨ub, uo, none⟩) us.length cap01) ∧ W.cell? ⟨w.heap.size + 1, 2, none⟩ = some (.slice (some ⟨mb, mo, none⟩) ms.length cap02) ∧ W.cell? ⟨ub, uo + k, none⟩ = some (.int .i64 X1)) (exact HS9.out _ (by (repeat (first | assumption | exact Bel.refl _ | apply Bel.drewN | apply Bel.drew | apply Bel.alloc | refine Bel.trans ?_ (by assumption))))) (fail)
          go_upto_region 11 with ((at_builtin; refine wpList_appE2 (n := 3) litR_good _ rfl _ _ 54 rfl (.agg #[.int .i64 0, .int .i64 0, .int .i64 0]) 24 Tryz.underlying54 (by kernel_rfl) rfl (by decide) (by decide) qB cB ysB ((2, ((k : Nat) : Int), X1)) rfl (hOB.bel litR_good (by (repeat (first | assumption | exact Bel.refl _ | apply Bel.drewN | apply Bel.drew | apply Bel.alloc | refine Bel.trans ?_ (by assumption))))) _ 1 [.int .i64 (2), .int .i64 (((k : Nat) : Int)), .int .i64 (X1)] rfl rfl (World.news_of_block (alloc_at (by simp))) (by intro u hu; simp at hu; rcases hu with rfl | rfl | rfl <;> rfl) (lit_rep (by unfold I64; omega) (by unfold I64; omega) (by unfold I64; omega)) (by omega) (by first | omega | (simp; omega)) ?_; intro q' cap' w' hO' hBW hsz' hOT'))
          have hBC0 := hBW w1 (by (repeat (first | assumption | exact Bel.refl _ | apply Bel.drewN | apply Bel.drew | apply Bel.alloc | refine Bel.trans ?_ (by assumption)))) (Nat.le_refl _)
          have hlaC0 : w'.heap[la]? = some (.cells #[.string X.1, .int .i64 X.2.1, .slice am X.2.2.length amk] 93) := ((hOT'.1 la (by simp; omega) (fun a ha hh => (HQB.out a ha).2 hh.symm)).1).trans ((((Bel.refl WB).drew.alloc _).block hlaS).trans hlaB)
          have HQC := Lib.hid hOT'.2
          clear hBW hsz' hOT' b0 b1 b2 b3 b4 f0 f1 f2 ud
          obtain ⟨WC, hWC⟩ : ∃ W, W = w' := ⟨w', rfl⟩
          subst hWC
          obtain ⟨ysC, hysC⟩ : ∃ y, ysB ++ [(2, ((k : Nat) : Int), X1)] = y := ⟨_, rfl⟩
          rw [hysC] at hO' HYB2
          rw [show ysB.length + 1 = ysC.length from by rw [← hysC]; simp]
          have HYC := HYB2
          have hOC := hO'
          have hBC := hBC0
          have hlaC := hlaC0
          have hylC : ysC.length ≤ 900 := by rw [← hysC]; simp; omega
          clear hysC hO' hBC0 hlaC0 HYB2 hlaB HQB
          obtain ⟨qC, hqC⟩ : ∃ q, q = q' := ⟨q', rfl⟩
          subst hqC
          subst hla
          have HSC := Lib.hid (show ∀ W, Bel WC W → W.cell? ⟨w.heap.size, 0, none⟩ = some (.int .i64 p.1) ∧ W.cell? ⟨w.heap.size, 1, none⟩ = some (.slice (some ⟨ab, ao, none⟩) p.2.1.length k1) ∧ W.cell? ⟨w.heap.size, 2, none⟩ = some (.slice p2 p.2.2.1.length k2) ∧ W.cell? ⟨w.heap.size, 3, none⟩ = some (.slice p3 p.2.2.2.1.length k3) ∧ W.cell? ⟨w.heap.size, 4, none⟩ = some (.slice p4 p.2.2.2.2.length k4) ∧ W.cell? ⟨w.heap.size + 1, 0, none⟩ = some (.slice (some ⟨lb, lo, none⟩) ls.length cap00) ∧ W.cell? ⟨w.heap.size + 1, 1, none⟩ = some (.slice (some ⟨ub, uo, none⟩) us.length cap01) ∧ W.cell? ⟨w.heap.size + 1, 2, none⟩ = some (.slice (some ⟨mb, mo, none⟩) ms.length cap02) ∧ W.cell? ⟨mb, mo + k, none⟩ = some (.slice mp X2.length mc) ∧ W.cell? ⟨wr.heap.size, 0, none⟩ = some (.string X.1) ∧ W.cell? ⟨wr.heap.size, 1, none⟩ = some (.int .i64 X.2.1) ∧ W.cell? ⟨wr.heap.size, 2, none⟩ = some (.slice am X.2.2.length amk) from fun W hW => by
            obtain ⟨b0, b1, b2, b3, b4, f0, f1, f2⟩ := HBX.out W (hBC.trans hW)
            exact ⟨b0, b1, b2, b3, b4, f0, f1, f2, HMD.out W (hBC.trans hW), hW.cell (cells_of hlaC rfl), hW.cell (cells_of hlaC rfl), hW.cell (cells_of hlaC rfl)⟩)
          have GC := G.trans hBC
          clear hlaC
          go_region_held3 (fun W => W.cell? ⟨w.heap.size, 0, none⟩ = some (.int .i64 p.1) ∧ W.cell? ⟨w.heap.size, 1, none⟩ = some (.slice (some ⟨ab, ao, none⟩) p.2.1.length k1) ∧ W.cell? ⟨w.heap.size, 2, none⟩ = some (.slice p2 p.2.2.1.length k2) ∧ W.cell? ⟨w.heap.size, 3, none⟩ = some (.slice p3 p.2.2.2.1.length k3) ∧ W.cell? ⟨w.heap.size, 4, none⟩ = some (.slice p4 p.2.2.2.2.length k4) ∧ W.cell? ⟨w.heap.size + 1, 0, none⟩ = some (.slice (some ⟨lb, lo, none⟩) ls.length cap00) ∧ W.cell? ⟨w.heap.size + 1, 1, none⟩ = some (.slice (some ⟨ub, uo, none⟩) us.length cap01) ∧ W.cell? ⟨w.heap.size + 1, 2, none⟩ = some (.slice (some ⟨mb, mo, none⟩) ms.length cap02) ∧ W.cell? ⟨mb, mo + k, none⟩ = some (.slice mp X2.length mc) ∧ W.cell? ⟨wr.heap.size, 0, none⟩ = some (.string X.1) ∧ W.cell? ⟨wr.heap.size, 1, none⟩ = some (.int .i64 X.2.1) ∧ W.cell? ⟨wr.heap.size, 2, none⟩ = some (.slice am X.2.2.length amk)) (exact HSC.out _ (by (repeat (first | assumption | exact Bel.refl _ | apply Bel.drewN | apply Bel.drew | apply Bel.alloc | refine Bel.trans ?_ (by assumption)))))
            (first | (go_at_call 66; (with_reducible refine (sModeIndexes_any _ X S _ (aggR_mk (actR_good.bel HEL.out (by (repeat (first | assumption | exact Bel.refl _ | apply Bel.drewN | apply Bel.drew | apply Bel.alloc | refine Bel.trans ?_ (by assumption)))) HS.out)) (by omega)).mono ?_); rintro e wt ⟨vm, rfl, hr, gt⟩; have HRG := Lib.hid hr; obtain ⟨rp, rk, rfl, -⟩ := sliceR_open hr; clear hr) | (go_at_call 65; (with_reducible refine (sSetDifference_any _ _ (rangeL X.2.2.length) X2 _ S0 _ HRG.out (fun b hb => new_lt hb) (intsR_good.bel HRW.out (by (repeat (first | assumption | exact Bel.refl _ | apply Bel.drewN | apply Bel.drew | apply Bel.alloc | refine Bel.trans ?_ (by assumption)))) HS0.out) (fun b hb => Nat.lt_of_lt_of_le (HS0.out b hb) (Bel.size (by (repeat (first | assumption | exact Bel.refl _ | apply Bel.drewN | apply Bel.drew | apply Bel.alloc | refine Bel.trans ?_ (by assumption)))))) (by rw [rangeL_length]; omega)).mono ?_); rintro e wu ⟨dg, doff, dc, rfl, hd, gu⟩) | fail)
          have hBu : Bel WC wu := by (repeat (first | assumption | exact Bel.refl _ | apply Bel.drewN | apply Bel.drew | apply Bel.alloc | refine Bel.trans ?_ (by assumption)))
          have hO := hOC.bel litR_good hBu
          have hBw := hBC.trans hBu
          have hszu := hBu.size
          have HD := Lib.hid (show intsR (New WC wu) wu [.slice (some ⟨dg, doff, none⟩) (setL (difL (rangeL X.2.2.length) X2)).length dc] (setL (difL (rangeL X.2.2.length) X2)) from intsR_good.mono hd (fun b hb => ⟨by have h1 := (hb.resolve_left id).1; have h2 := (show Bel WC wt from by (repeat (first | assumption | exact Bel.refl _ | apply Bel.drewN | apply Bel.drew | apply Bel.alloc | refine Bel.trans ?_ (by assumption)))).size; omega, (hb.resolve_left id).2⟩))
          have HDM := Lib.hid (fun x (hx : x ∈ setL (difL (rangeL X.2.2.length) X2)) => dif_mem hx)
          have hDl := dif_le X.2.2.length X2
          clear hd
          generalize setL (difL (rangeL X.2.2.length) X2) = DD at *
          have HQD := Lib.hid (show ∀ a, qC = some a → a.block < wu.heap.size ∧ (a.block < WC.heap.size ∨ wu.heap.size ≤ a.block) from fun a ha => ⟨Nat.lt_of_lt_of_le (HQC.out a ha) hszu, .inl (HQC.out a ha)⟩)
          clear HQC HSC hOC
          go_wp2_with fail
          go_loopw [5, 67] (fun o i wr => ∃ (j : Nat) (zs : List LitT) (q1 : Option Addr) (c1 : Nat), j ≤ DD.length ∧ i = .int .i64 j ∧ o = .slice q1 zs.length c1 ∧ zs = ysC ++ (DD.take j).map (lit4 k) ∧ OwnE (fun _ => False) 3 litR 95 w1.heap.size wr q1 c1 zs ∧ (∀ a, q1 = some a → a.block < wr.heap.size ∧ (a.block < WC.heap.size ∨ wu.heap.size ≤ a.block)) ∧ Bel w1 wr ∧ wu.heap.size ≤ wr.heap.size ∧ intsR (New WC wu) wr [.slice (some ⟨dg, doff, none⟩) DD.length dc] DD) (fun _ i _ => DD.length - (intOf i).toNat)
          case atStart => exact ⟨0, ysC, _, _, Nat.zero_le _, rfl, rfl, by simp, hO, HQD.out, hBw, Nat.le_refl _, HD.out⟩
          case round =>
            clear hO
            obtain ⟨j, zs, q1, c1, hj, rfl, rfl, hzs, hO, hqa, hB2, hs2, hD2⟩ := hrel
            have HZS := Lib.hid hzs
            have HQ2 := Lib.hid hqa
            have HD2 := Lib.hid hD2
            have hzl : zs.length ≤ 1000 := by rw [hzs, List.length_append, List.length_map, List.length_take]; omega
            have hsz2 := hB2.size
            clear hzs hqa hD2
            by_cases hlj : j < DD.length
            · obtain ⟨b', off', e1, e2⟩ := intsR_at' HD2.out hlj
              obtain ⟨rfl, rfl⟩ : dg = b' ∧ doff = off' := by simpa [sliceAddr] using e1
              have hmem : DD.getD j 0 ∈ DD := by rw [List.getD_eq_getElem?_getD, List.getElem?_eq_getElem hlj, Option.getD_some]; exact List.getElem_mem hlj
              have hMb := HDM.out _ hmem
              have HSN := Lib.hid (show zs ++ [lit4 k (DD.getD j 0)] = ysC ++ (DD.take (j + 1)).map (lit4 k) from by rw [HZS.out, take_next hlj, List.map_append, List.append_assoc]; rfl)
              have hji : (j : Int) < (DD.length : Int) := by omega
              clear hmem e1
              generalize DD.getD j 0 = M at *
              have HSN := Lib.hid (show zs ++ [(4, ((k : Nat) : Int), M)] = ysC ++ (DD.take (j + 1)).map (lit4 k) from HSN.out)
              go_wp2_with ((at_builtin; refine wpList_appE2 (n := 3) litR_good _ rfl _ _ 54 rfl (.agg #[.int .i64 0, .int .i64 0, .int .i64 0]) 24 Tryz.underlying54 (by kernel_rfl) rfl (by decide) (by decide) q1 c1 zs ((4, ((k : Nat) : Int), M)) rfl (hO.bel litR_good (by (repeat (first | assumption | exact Bel.refl _ | apply Bel.drewN | apply Bel.drew | apply Bel.alloc | refine Bel.trans ?_ (by assumption))))) _ 1 [.int .i64 (4), .int .i64 (((k : Nat) : Int)), .int .i64 (M)] rfl rfl (World.news_of_block (alloc_at (by simp))) (by intro u hu; simp at hu; rcases hu with rfl | rfl | rfl <;> rfl) (lit_rep (by unfold I64; omega) (by unfold I64; omega) (by unfold I64; omega)) (by omega) (by first | omega | (simp; omega)) ?_; intro q' cap' w' hO' hBW hsz' hOT'))
              have HB := Lib.hid (hBW w1 (by (repeat (first | assumption | exact Bel.refl _ | apply Bel.drewN | apply Bel.drew | apply Bel.alloc | refine Bel.trans ?_ (by assumption)))) (Nat.le_refl _))
              have HDN := Lib.hid (show intsR (New WC wu) w' [.slice (some ⟨dg, doff, none⟩) DD.length dc] DD from by
                refine intsR_good.stay (intsR_good.bel HD2.out (w' := wr.alloc _) (by (repeat (first | assumption | exact Bel.refl _ | apply Bel.drewN | apply Bel.drew | apply Bel.alloc | refine Bel.trans ?_ (by assumption)))) (fun b hb => Nat.lt_of_lt_of_le hb.2 hs2)) fun b hb => (hOT'.1 b (by have := hb.2; simp; omega) (fun a ha hh => ?_)).1
                have h1 := (HQ2.out a ha).2
                have h2 := hb.1
                have h3 := hb.2
                omega)
              have HQN := Lib.hid (show ∀ a, q' = some a → a.block < w'.heap.size ∧ (a.block < WC.heap.size ∨ wu.heap.size ≤ a.block) from fun a ha => ⟨hOT'.2 a ha, by
                rcases Nat.lt_or_ge a.block WC.heap.size with h | h
                · exact .inl h
                · rcases Nat.lt_or_ge a.block wu.heap.size with h' | h'
                  · exact absurd rfl ((hOT'.1 a.block (by simp; omega) (fun a' ha' hh => by
                      have h1 := (HQ2.out a' ha').2
                      omega)).2 a ha)
                  · exact .inr h'⟩)
              have HSZ := Lib.hid (show wu.heap.size ≤ w'.heap.size from by simp at hsz'; omega)
              clear hBW hsz' hOT'
              go_roundw
              case rel => exact ⟨j + 1, zs ++ [(4, ((k : Nat) : Int), M)], q', cap', by omega, by go_num, by simp, HSN.out, hO', HQN.out, HB.out, HSZ.out, HDN.out⟩
              case measure => simp [intOf]; omega
            · obtain rfl : j = DD.length := by omega
              have HEND := Lib.hid (show zs = dlTo p (ls, us, ms) (k + 1) from by rw [HZS.out, List.take_length, HYC.out, ← HDT.out])
              have HQE := Lib.hid (show ∀ a, q1 = some a → a.block < wr.heap.size from fun a ha => (HQ2.out a ha).1)
              go_wp2_with fail
              go_roundw
              case rel => exact ⟨k + 1, zs, q1, c1, by omega, by go_num, rfl, HEND.out, hO, HQE.out, hB2⟩
              case measure => simp [intOf]; omega
        · have HYC := Lib.hid (show ysB = dlTo p (ls, us, ms) k ++ (if 0 < X0 then [(1, ((k : Nat) : Int), X0)] else ([] : List LitT)) ++ (if X1 < p.1 - 1 then [(2, ((k : Nat) : Int), X1)] else ([] : List LitT)) from by rw [HYB.out, if_neg h2, List.append_nil])
          go_region_held3 (fun W => W.cell? ⟨w.heap.size, 0, none⟩ = some (.int .i64 p.1) ∧ W.cell? ⟨w.heap.size, 1, none⟩ = some (.slice (some ⟨ab, ao, none⟩) p.2.1.length k1) ∧ W.cell? ⟨w.heap.size, 2, none⟩ = some (.slice p2 p.2.2.1.length k2) ∧ W.cell? ⟨w.heap.size, 3, none⟩ = some (.slice p3 p.2.2.2.1.length k3) ∧ W.cell? ⟨w.heap.size, 4, none⟩ = some (.slice p4 p.2.2.2.2.length k4) ∧ W.cell? ⟨w.heap.size + 1, 0, none⟩ = some (.slice (some ⟨lb, lo, none⟩) ls.length cap00) ∧ W.cell? ⟨w.heap.size + 1, 1, none⟩ = some (.slice (some ⟨ub, uo, none⟩) us.length cap01) ∧ W.cell? ⟨w.heap.size + 1, 2, none⟩ = some (.slice (some ⟨mb, mo, none⟩) ms.length cap02) ∧ W.cell? ⟨ub, uo + k, none⟩ = some (.int .i64 X1)) (exact HS9.out _ (by (repeat (first | assumption | exact Bel.refl _ | apply Bel.drewN | apply Bel.drew | apply Bel.alloc | refine Bel.trans ?_ (by assumption))))) (fail)
          go_upto_region 11 with (fail)
          clear b0 b1 b2 b3 b4 f0 f1 f2 ud
          obtain ⟨WC, hWC⟩ : ∃ W, W = WB.drew := ⟨_, rfl⟩
          have hBD : Bel WB WC := by rw [hWC]; exact (Bel.refl WB).drew
          have hlaC : WC.heap[la]? = some (.cells #[.string X.1, .int .i64 X.2.1, .slice am X.2.2.length amk] 93) := by rw [hWC]; exact hlaB
          have HQC := Lib.hid (show ∀ a, qB = some a → a.block < WC.heap.size from fun a ha => Nat.lt_of_lt_of_le (HQB.out a ha).1 hBD.size)
          rw [← hWC]
          clear hWC hlaB HQB
          have hOC := hOB.bel litR_good hBD
          have hBC := hBB.trans hBD
          obtain ⟨ysC, hysC⟩ : ∃ y, y = ysB := ⟨ysB, rfl⟩
          subst hysC
          obtain ⟨qC, hqC⟩ : ∃ q, q = qB := ⟨qB, rfl⟩
          subst hqC
          have hylC : ysC.length ≤ 900 := by omega
          subst hla
          have HSC := Lib.hid (show ∀ W, Bel WC W → W.cell? ⟨w.heap.size, 0, none⟩ = some (.int .i64 p.1) ∧ W.cell? ⟨w.heap.size, 1, none⟩ = some (.slice (some ⟨ab, ao, none⟩) p.2.1.length k1) ∧ W.cell? ⟨w.heap.size, 2, none⟩ = some (.slice p2 p.2.2.1.length k2) ∧ W.cell? ⟨w.heap.size, 3, none⟩ = some (.slice p3 p.2.2.2.1.length k3) ∧ W.cell? ⟨w.heap.size, 4, none⟩ = some (.slice p4 p.2.2.2.2.length k4) ∧ W.cell? ⟨w.heap.size + 1, 0, none⟩ = some (.slice (some ⟨lb, lo, none⟩) ls.length cap00) ∧ W.cell? ⟨w.heap.size + 1, 1, none⟩ = some (.slice (some ⟨ub, uo, none⟩) us.length cap01) ∧ W.cell? ⟨w.heap.size + 1, 2, none⟩ = some (.slice (some ⟨mb, mo, none⟩) ms.length cap02) ∧ W.cell? ⟨mb, mo + k, none⟩ = some (.slice mp X2.length mc) ∧ W.cell? ⟨wr.heap.size, 0, none⟩ = some (.string X.1) ∧ W.cell? ⟨wr.heap.size, 1, none⟩ = some (.int .i64 X.2.1) ∧ W.cell? ⟨wr.heap.size, 2, none⟩ = some (.slice am X.2.2.length amk) from fun W hW => by
            obtain ⟨b0, b1, b2, b3, b4, f0, f1, f2⟩ := HBX.out W (hBC.trans hW)
            exact ⟨b0, b1, b2, b3, b4, f0, f1, f2, HMD.out W (hBC.trans hW), hW.cell (cells_of hlaC rfl), hW.cell (cells_of hlaC rfl), hW.cell (cells_of hlaC rfl)⟩)
          have GC := G.trans hBC
          clear hlaC
          go_region_held3 (fun W => W.cell? ⟨w.heap.size, 0, none⟩ = some (.int .i64 p.1) ∧ W.cell? ⟨w.heap.size, 1, none⟩ = some (.slice (some ⟨ab, ao, none⟩) p.2.1.length k1) ∧ W.cell? ⟨w.heap.size, 2, none⟩ = some (.slice p2 p.2.2.1.length k2) ∧ W.cell? ⟨w.heap.size, 3, none⟩ = some (.slice p3 p.2.2.2.1.length k3) ∧ W.cell? ⟨w.heap.size, 4, none⟩ = some (.slice p4 p.2.2.2.2.length k4) ∧ W.cell? ⟨w.heap.size + 1, 0, none⟩ = some (.slice (some ⟨lb, lo, none⟩) ls.length cap00) ∧ W.cell? ⟨w.heap.size + 1, 1, none⟩ = some (.slice (some ⟨ub, uo, none⟩) us.length cap01) ∧ W.cell? ⟨w.heap.size + 1, 2, none⟩ = some (.slice (some ⟨mb, mo, none⟩) ms.length cap02) ∧ W.cell? ⟨mb, mo + k, none⟩ = some (.slice mp X2.length mc) ∧ W.cell? ⟨wr.heap.size, 0, none⟩ = some (.string X.1) ∧ W.cell? ⟨wr.heap.size, 1, none⟩ = some (.int .i64 X.2.1) ∧ W.cell? ⟨wr.heap.size, 2, none⟩ = some (.slice am X.2.2.length amk)) (exact HSC.out _ (by (repeat (first | assumption | exact Bel.refl _ | apply Bel.drewN | apply Bel.drew | apply Bel.alloc | refine Bel.trans ?_ (by assumption)))))
            (first | (go_at_call 66; (with_reducible refine (sModeIndexes_any _ X S _ (aggR_mk (actR_good.bel HEL.out (by (repeat (first | assumption | exact Bel.refl _ | apply Bel.drewN | apply Bel.drew | apply Bel.alloc | refine Bel.trans ?_ (by assumption)))) HS.out)) (by omega)).mono ?_); rintro e wt ⟨vm, rfl, hr, gt⟩; have HRG := Lib.hid hr; obtain ⟨rp, rk, rfl, -⟩ := sliceR_open hr; clear hr) | (go_at_call 65; (with_reducible refine (sSetDifference_any _ _ (rangeL X.2.2.length) X2 _ S0 _ HRG.out (fun b hb => new_lt hb) (intsR_good.bel HRW.out (by (repeat (first | assumption | exact Bel.refl _ | apply Bel.drewN | apply Bel.drew | apply Bel.alloc | refine Bel.trans ?_ (by assumption)))) HS0.out) (fun b hb => Nat.lt_of_lt_of_le (HS0.out b hb) (Bel.size (by (repeat (first | assumption | exact Bel.refl _ | apply Bel.drewN | apply Bel.drew | apply Bel.alloc | refine Bel.trans ?_ (by assumption)))))) (by rw [rangeL_length]; omega)).mono ?_); rintro e wu ⟨dg, doff, dc, rfl, hd, gu⟩) | fail)
          have hBu : Bel WC wu := by (repeat (first | assumption | exact Bel.refl _ | apply Bel.drewN | apply Bel.drew | apply Bel.alloc | refine Bel.trans ?_ (by assumption)))
          have hO := hOC.bel litR_good hBu
          have hBw := hBC.trans hBu
          have hszu := hBu.size
          have HD := Lib.hid (show intsR (New WC wu) wu [.slice (some ⟨dg, doff, none⟩) (setL (difL (rangeL X.2.2.length) X2)).length dc] (setL (difL (rangeL X.2.2.length) X2)) from intsR_good.mono hd (fun b hb => ⟨by have h1 := (hb.resolve_left id).1; have h2 := (show Bel WC wt from by (repeat (first | assumption | exact Bel.refl _ | apply Bel.drewN | apply Bel.drew | apply Bel.alloc | refine Bel.trans ?_ (by assumption)))).size; omega, (hb.resolve_left id).2⟩))
          have HDM := Lib.hid (fun x (hx : x ∈ setL (difL (rangeL X.2.2.length) X2)) => dif_mem hx)
          have hDl := dif_le X.2.2.length X2
          clear hd
          generalize setL (difL (rangeL X.2.2.length) X2) = DD at *
          have HQD := Lib.hid (show ∀ a, qC = some a → a.block < wu.heap.size ∧ (a.block < WC.heap.size ∨ wu.heap.size ≤ a.block) from fun a ha => ⟨Nat.lt_of_lt_of_le (HQC.out a ha) hszu, .inl (HQC.out a ha)⟩)
          clear HQC HSC hOC
          go_wp2_with fail
          go_loopw [5, 67] (fun o i wr => ∃ (j : Nat) (zs : List LitT) (q1 : Option Addr) (c1 : Nat), j ≤ DD.length ∧ i = .int .i64 j ∧ o = .slice q1 zs.length c1 ∧ zs = ysC ++ (DD.take j).map (lit4 k) ∧ OwnE (fun _ => False) 3 litR 95 w1.heap.size wr q1 c1 zs ∧ (∀ a, q1 = some a → a.block < wr.heap.size ∧ (a.block < WC.heap.size ∨ wu.heap.size ≤ a.block)) ∧ Bel w1 wr ∧ wu.heap.size ≤ wr.heap.size ∧ intsR (New WC wu) wr [.slice (some ⟨dg, doff, none⟩) DD.length dc] DD) (fun _ i _ => DD.length - (intOf i).toNat)
          case atStart => exact ⟨0, ysC, _, _, Nat.zero_le _, rfl, rfl, by simp, hO, HQD.out, hBw, Nat.le_refl _, HD.out⟩
          case round =>
            clear hO
            obtain ⟨j, zs, q1, c1, hj, rfl, rfl, hzs, hO, hqa, hB2, hs2, hD2⟩ := hrel
            have HZS := Lib.hid hzs
            have HQ2 := Lib.hid hqa
            have HD2 := Lib.hid hD2
            have hzl : zs.length ≤ 1000 := by rw [hzs, List.length_append, List.length_map, List.length_take]; omega
            have hsz2 := hB2.size
            clear hzs hqa hD2
            by_cases hlj : j < DD.length
            · obtain ⟨b', off', e1, e2⟩ := intsR_at' HD2.out hlj
              obtain ⟨rfl, rfl⟩ : dg = b' ∧ doff = off' := by simpa [sliceAddr] using e1
              have hmem : DD.getD j 0 ∈ DD := by rw [List.getD_eq_getElem?_getD, List.getElem?_eq_getElem hlj, Option.getD_some]; exact List.getElem_mem hlj
              have hMb := HDM.out _ hmem
              have HSN := Lib.hid (show zs ++ [lit4 k (DD.getD j 0)] = ysC ++ (DD.take (j + 1)).map (lit4 k) from by rw [HZS.out, take_next hlj, List.map_append, List.append_assoc]; rfl)
              have hji : (j : Int) < (DD.length : Int) := by omega
              clear hmem e1
              generalize DD.getD j 0 = M at *
              have HSN := Lib.hid (show zs ++ [(4, ((k : Nat) : Int), M)] = ysC ++ (DD.take (j + 1)).map (lit4 k) from HSN.out)
              go_wp2_with ((at_builtin; refine wpList_appE2 (n := 3) litR_good _ rfl _ _ 54 rfl (.agg #[.int .i64 0, .int .i64 0, .int .i64 0]) 24 Tryz.underlying54 (by kernel_rfl) rfl (by decide) (by decide) q1 c1 zs ((4, ((k : Nat) : Int), M)) rfl (hO.bel litR_good (by (repeat (first | assumption | exact Bel.refl _ | apply Bel.drewN | apply Bel.drew | apply Bel.alloc | refine Bel.trans ?_ (by assumption))))) _ 1 [.int .i64 (4), .int .i64 (((k : Nat) : Int)), .int .i64 (M)] rfl rfl (World.news_of_block (alloc_at (by simp))) (by intro u hu; simp at hu; rcases hu with rfl | rfl | rfl <;> rfl) (lit_rep (by unfold I64; omega) (by unfold I64; omega) (by unfold I64; omega)) (by omega) (by first | omega | (simp; omega)) ?_; intro q' cap' w' hO' hBW hsz' hOT'))
              have HB := Lib.hid (hBW w1 (by (repeat (first | assumption | exact Bel.refl _ | apply Bel.drewN | apply Bel.drew | apply Bel.alloc | refine Bel.trans ?_ (by assumption)))) (Nat.le_refl _))
              have HDN := Lib.hid (show intsR (New WC wu) w' [.slice (some ⟨dg, doff, none⟩) DD.length dc] DD from by
                refine intsR_good.stay (intsR_good.bel HD2.out (w' := wr.alloc _) (by (repeat (first | assumption | exact Bel.refl _ | apply Bel.drewN | apply Bel.drew | apply Bel.alloc | refine Bel.trans ?_ (by assumption)))) (fun b hb => Nat.lt_of_lt_of_le hb.2 hs2)) fun b hb => (hOT'.1 b (by have := hb.2; simp; omega) (fun a ha hh => ?_)).1
                have h1 := (HQ2.out a ha).2
                have h2 := hb.1
                have h3 := hb.2
                omega)
              have HQN := Lib.hid (show ∀ a, q' = some a → a.block < w'.heap.size ∧ (a.block < WC.heap.size ∨ wu.heap.size ≤ a.block) from fun a ha => ⟨hOT'.2 a ha, by
                rcases Nat.lt_or_ge a.block WC.heap.size with h | h
                · exact .inl h
                · rcases Nat.lt_or_ge a.block wu.heap.size with h' | h'
                  · exact absurd rfl ((hOT'.1 a.block (by simp; omega) (fun a' ha' hh => by
                      have h1 := (HQ2.out a' ha').2
                      omega)).2 a ha)
                  · exact .inr h'⟩)
              have HSZ := Lib.hid (show wu.heap.size ≤ w'.heap.size from by simp at hsz'; omega)
              clear hBW hsz' hOT'
              go_roundw
              case rel => exact ⟨j + 1, zs ++ [(4, ((k : Nat) : Int), M)], q', cap', by omega, by go_num, by simp, HSN.out, hO', HQN.out, HB.out, HSZ.out, HDN.out⟩
              case measure => simp [intOf]; omega
            · obtain rfl : j = DD.length := by omega
              have HEND := Lib.hid (show zs = dlTo p (ls, us, ms) (k + 1) from by rw [HZS.out, List.take_length, HYC.out, ← HDT.out])
              have HQE := Lib.hid (show ∀ a, q1 = some a → a.block < wr.heap.size from fun a ha => (HQ2.out a ha).1)
              go_wp2_with fail
              go_roundw
              case rel => exact ⟨k + 1, zs, q1, c1, by omega, by go_num, rfl, HEND.out, hO, HQE.out, hB2⟩
              case measure => simp [intOf]; omega
      · have HYB := Lib.hid (show ys = dlTo p (ls, us, ms) k ++ (if 0 < X0 then [(1, ((k : Nat) : Int), X0)] else ([] : List LitT)) from by rw [HYS.out, if_neg h1, List.append_nil])
        go_upto_region 9 with (fail)
        clear ab0 ab1 ab2 ab3 ab4 af0 af1 af2 ald b0 b1 b2 b3 b4 f0 f1 f2 ea0 ea1 ea2
        obtain ⟨WB, hWB⟩ : ∃ W, W = wr.alloc (.cells #[.string X.1, .int .i64 X.2.1, .slice am X.2.2.length amk] 93) := ⟨_, rfl⟩
        have hBD : Bel wr WB := by rw [hWB]; exact (Bel.refl wr).alloc _
        rw [← hWB] at hlaA ⊢
        have hlaS : la < WB.heap.size := by rw [hWB, hla]; simp
        clear hWB
        have hlaB := hlaA
        have HQB := Lib.hid (show ∀ a, q1 = some a → a.block < WB.heap.size ∧ a.block ≠ la from fun a ha => ⟨Nat.lt_of_lt_of_le (HQA.out a ha) hBD.size, fun hh => by have := HQA.out a ha; omega⟩)
        have hOB := hO.bel litR_good hBD
        have hBB := hB.trans hBD
        clear hlaA hO hBD
        obtain ⟨ysB, hysB⟩ : ∃ y, y = ys := ⟨ys, rfl⟩
        subst hysB
        obtain ⟨qB, hqB⟩ : ∃ q, q = q1 := ⟨q1, rfl⟩
        subst hqB
        obtain ⟨cB, hcB⟩ : ∃ q, q = c1 := ⟨c1, rfl⟩
        subst hcB
        have hylB : ysB.length ≤ 100 := by omega
        obtain ⟨b0, b1, b2, b3, b4, f0, f1, f2⟩ := HBX.out WB hBB
        have ud := HUD.out WB hBB
        have hszB := hBB.size
        by_cases h2 : X1 < p.1 - 1
        · have HYB2 := Lib.hid (show ysB ++ [(2, ((k : Nat) : Int), X1)] = dlTo p (ls, us, ms) k ++ (if 0 < X0 then [(1, ((k : Nat) : Int), X0)] else ([] : List LitT)) ++ (if X1 < p.1 - 1 then [(2, ((k : Nat) : Int), X1)] else ([] : List LitT)) from by rw [HYB.out, if_pos h2])
          go_region_held3 (fun W => W.cell? ⟨w.heap.size, 0, none⟩ = some (.int .i64 p.1) ∧ W.cell? ⟨w.heap.size, 1, none⟩ = some (.slice (some ⟨ab, ao, none⟩) p.2.1.length k1) ∧ W.cell? ⟨w.heap.size, 2, none⟩ = some (.slice p2 p.2.2.1.length k2) ∧ W.cell? ⟨w.heap.size, 3, none⟩ = some (.slice p3 p.2.2.2.1.length k3) ∧ W.cell? ⟨w.heap.size, 4, none⟩ = some (.slice p4 p.2.2.2.2.length k4) ∧ W.cell? ⟨w.heap.size + 1, 0, none⟩ = some (.slice (some ⟨lb, lo, none⟩) ls.length cap00) ∧ W.cell? ⟨w.heap.size + 1, 1, none⟩ = some (.slice (some ⟨ub, uo, none⟩) us.length cap01) ∧ W.cell? ⟨w.heap.size + 1, 2, none⟩ = some (.slice (some ⟨mb, mo, none⟩) ms.length cap02) ∧ W.cell? ⟨ub, uo + k, none⟩ = some (.int .i64 X1)) (exact HS9.out _ (by (repeat (first | assumption | exact Bel.refl _ | apply Bel.drewN | apply Bel.drew | apply Bel.alloc | refine Bel.trans ?_ (by assumption))))) (fail)
          go_upto_region 11 with ((at_builtin; refine wpList_appE2 (n := 3) litR_good _ rfl _ _ 54 rfl (.agg #[.int .i64 0, .int .i64 0, .int .i64 0]) 24 Tryz.underlying54 (by kernel_rfl) rfl (by decide) (by decide) qB cB ysB ((2, ((k : Nat) : Int), X1)) rfl (hOB.bel litR_good (by (repeat (first | assumption | exact Bel.refl _ | apply Bel.drewN | apply Bel.drew | apply Bel.alloc | refine Bel.trans ?_ (by assumption))))) _ 1 [.int .i64 (2), .int .i64 (((k : Nat) : Int)), .int .i64 (X1)] rfl rfl (World.news_of_block (alloc_at (by simp))) (by intro u hu; simp at hu; rcases hu with rfl | rfl | rfl <;> rfl) (lit_rep (by unfold I64; omega) (by unfold I64; omega) (by unfold I64; omega)) (by omega) (by first | omega | (simp; omega)) ?_; intro q' cap' w' hO' hBW hsz' hOT'))
          have hBC0 := hBW w1 (by (repeat (first | assumption | exact Bel.refl _ | apply Bel.drewN | apply Bel.drew | apply Bel.alloc | refine Bel.trans ?_ (by assumption)))) (Nat.le_refl _)
          have hlaC0 : w'.heap[la]? = some (.cells #[.string X.1, .int .i64 X.2.1, .slice am X.2.2.length amk] 93) := ((hOT'.1 la (by simp; omega) (fun a ha hh => (HQB.out a ha).2 hh.symm)).1).trans ((((Bel.refl WB).drew.alloc _).block hlaS).trans hlaB)
          have HQC := Lib.hid hOT'.2
          clear hBW hsz' hOT' b0 b1 b2 b3 b4 f0 f1 f2 ud
          obtain ⟨WC, hWC⟩ : ∃ W, W = w' := ⟨w', rfl⟩
          subst hWC
          obtain ⟨ysC, hysC⟩ : ∃ y, ysB ++ [(2, ((k : Nat) : Int), X1)] = y := ⟨_, rfl⟩
          rw [hysC] at hO' HYB2
          rw [show ysB.length + 1 = ysC.length from by rw [← hysC]; simp]
          have HYC := HYB2
          have hOC := hO'
          have hBC := hBC0
          have hlaC := hlaC0
          have hylC : ysC.length ≤ 900 := by rw [← hysC]; simp; omega
          clear hysC hO' hBC0 hlaC0 HYB2 hlaB HQB
          obtain ⟨qC, hqC⟩ : ∃ q, q = q' := ⟨q', rfl⟩
          subst hqC
          subst hla
          have HSC := Lib.hid (show ∀ W, Bel WC W → W.cell? ⟨w.heap.size, 0, none⟩ = some (.int .i64 p.1) ∧ W.cell? ⟨w.heap.size, 1, none⟩ = some (.slice (some ⟨ab, ao, none⟩) p.2.1.length k1) ∧ W.cell? ⟨w.heap.size, 2, none⟩ = some (.slice p2 p.2.2.1.length k2) ∧ W.cell? ⟨w.heap.size, 3, none⟩ = some (.slice p3 p.2.2.2.1.length k3) ∧ W.cell? ⟨w.heap.size, 4, none⟩ = some (.slice p4 p.2.2.2.2.length k4) ∧ W.cell? ⟨w.heap.size + 1, 0, none⟩ = some (.slice (some ⟨lb, lo, none⟩) ls.length cap00) ∧ W.cell? ⟨w.heap.size + 1, 1, none⟩ = some (.slice (some ⟨ub, uo, none⟩) us.length cap01) ∧ W.cell? ⟨w.heap.size + 1, 2, none⟩ = some (.slice (some ⟨mb, mo, none⟩) ms.length cap02) ∧ W.cell? ⟨mb, mo + k, none⟩ = some (.slice mp X2.length mc) ∧ W.cell? ⟨wr.heap.size, 0, none⟩ = some (.string X.1) ∧ W.cell? ⟨wr.heap.size, 1, none⟩ = some (.int .i64 X.2.1) ∧ W.cell? ⟨wr.heap.size, 2, none⟩ = some (.slice am X.2.2.length amk) from fun W hW => by
            obtain ⟨b0, b1, b2, b3, b4, f0, f1, f2⟩ := HBX.out W (hBC.trans hW)
            exact ⟨b0, b1, b2, b3, b4, f0, f1, f2, HMD.out W (hBC.trans hW), hW.cell (cells_of hlaC rfl), hW.cell (cells_of hlaC rfl), hW.cell (cells_of hlaC rfl)⟩)
          have GC := G.trans hBC
          clear hlaC
          go_region_held3 (fun W => W.cell? ⟨w.heap.size, 0, none⟩ = some (.int .i64 p.1) ∧ W.cell? ⟨w.heap.size, 1, none⟩ = some (.slice (some ⟨ab, ao, none⟩) p.2.1.length k1) ∧ W.cell? ⟨w.heap.size, 2, none⟩ = some (.slice p2 p.2.2.1.length k2) ∧ W.cell? ⟨w.heap.size, 3, none⟩ = some (.slice p3 p.2.2.2.1.length k3) ∧ W.cell? ⟨w.heap.size, 4, none⟩ = some (.slice p4 p.2.2.2.2.length k4) ∧ W.cell? ⟨w.heap.size + 1, 0, none⟩ = some (.slice (some ⟨lb, lo, none⟩) ls.length cap00) ∧ W.cell? ⟨w.heap.size + 1, 1, none⟩ = some (.slice (some ⟨ub, uo, none⟩) us.length cap01) ∧ W.cell? ⟨w.heap.size + 1, 2, none⟩ = some (.slice (some ⟨mb, mo, none⟩) ms.length cap02) ∧ W.cell? ⟨mb, mo + k, none⟩ = some (.slice mp X2.length mc) ∧ W.cell? ⟨wr.heap.size, 0, none⟩ = some (.string X.1) ∧ W.cell? ⟨wr.heap.size, 1, none⟩ = some (.int .i64 X.2.1) ∧ W.cell? ⟨wr.heap.size, 2, none⟩ = some (.slice am X.2.2.length amk)) (exact HSC.out _ (by (repeat (first | assumption | exact Bel.refl _ | apply Bel.drewN | apply Bel.drew | apply Bel.alloc | refine Bel.trans ?_ (by assumption)))))
            (first | (go_at_call 66; (with_reducible refine (sModeIndexes_any _ X S _ (aggR_mk (actR_good.bel HEL.out (by (repeat (first | assumption | exact Bel.refl _ | apply Bel.drewN | apply Bel.drew | apply Bel.alloc | refine Bel.trans ?_ (by assumption)))) HS.out)) (by omega)).mono ?_); rintro e wt ⟨vm, rfl, hr, gt⟩; have HRG := Lib.hid hr; obtain ⟨rp, rk, rfl, -⟩ := sliceR_open hr; clear hr) | (go_at_call 65; (with_reducible refine (sSetDifference_any _ _ (rangeL X.2.2.length) X2 _ S0 _ HRG.out (fun b hb => new_lt hb) (intsR_good.bel HRW.out (by (repeat (first | assumption | exact Bel.refl _ | apply Bel.drewN | apply Bel.drew | apply Bel.alloc | refine Bel.trans ?_ (by assumption)))) HS0.out) (fun b hb => Nat.lt_of_lt_of_le (HS0.out b hb) (Bel.size (by (repeat (first | assumption | exact Bel.refl _ | apply Bel.drewN | apply Bel.drew | apply Bel.alloc | refine Bel.trans ?_ (by assumption)))))) (by rw [rangeL_length]; omega)).mono ?_); rintro e wu ⟨dg, doff, dc, rfl, hd, gu⟩) | fail)
          have hBu : Bel WC wu := by (repeat (first | assumption | exact Bel.refl _ | apply Bel.drewN | apply Bel.drew | apply Bel.alloc | refine Bel.trans ?_ (by assumption)))
          have hO := hOC.bel litR_good hBu
          have hBw := hBC.trans hBu
          have hszu := hBu.size
          have HD := Lib.hid (show intsR (New WC wu) wu [.slice (some ⟨dg, doff, none⟩) (setL (difL (rangeL X.2.2.length) X2)).length dc] (setL (difL (rangeL X.2.2.length) X2)) from intsR_good.mono hd (fun b hb => ⟨by have h1 := (hb.resolve_left id).1; have h2 := (show Bel WC wt from by (repeat (first | assumption | exact Bel.refl _ | apply Bel.drewN | apply Bel.drew | apply Bel.alloc | refine Bel.trans ?_ (by assumption)))).size; omega, (hb.resolve_left id).2⟩))
          have HDM := Lib.hid (fun x (hx : x ∈ setL (difL (rangeL X.2.2.length) X2)) => dif_mem hx)
          have hDl := dif_le X.2.2.length X2
          clear hd
          generalize setL (difL (rangeL X.2.2.length) X2) = DD at *
          have HQD := Lib.hid (show ∀ a, qC = some a → a.block < wu.heap.size ∧ (a.block < WC.heap.size ∨ wu.heap.size ≤ a.block) from fun a ha => ⟨Nat.lt_of_lt_of_le (HQC.out a ha) hszu, .inl (HQC.out a ha)⟩)
          clear HQC HSC hOC
          go_wp2_with fail
          go_loopw [5, 67] (fun o i wr => ∃ (j : Nat) (zs : List LitT) (q1 : Option Addr) (c1 : Nat), j ≤ DD.length ∧ i = .int .i64 j ∧ o = .slice q1 zs.length c1 ∧ zs = ysC ++ (DD.take j).map (lit4 k) ∧ OwnE (fun _ => False) 3 litR 95 w1.heap.size wr q1 c1 zs ∧ (∀ a, q1 = some a → a.block < wr.heap.size ∧ (a.block < WC.heap.size ∨ wu.heap.size ≤ a.block)) ∧ Bel w1 wr ∧ wu.heap.size ≤ wr.heap.size ∧ intsR (New WC wu) wr [.slice (some ⟨dg, doff, none⟩) DD.length dc] DD) (fun _ i _ => DD.length - (intOf i).toNat)
          case atStart => exact ⟨0, ysC, _, _, Nat.zero_le _, rfl, rfl, by simp, hO, HQD.out, hBw, Nat.le_refl _, HD.out⟩
          case round =>
            clear hO
            obtain ⟨j, zs, q1, c1, hj, rfl, rfl, hzs, hO, hqa, hB2, hs2, hD2⟩ := hrel
            have HZS := Lib.hid hzs
            have HQ2 := Lib.hid hqa
            have HD2 := Lib.hid hD2
            have hzl : zs.length ≤ 1000 := by rw [hzs, List.length_append, List.length_map, List.length_take]; omega
            have hsz2 := hB2.size
            clear hzs hqa hD2
            by_cases hlj : j < DD.length
            · obtain ⟨b', off', e1, e2⟩ := intsR_at' HD2.out hlj
              obtain ⟨rfl, rfl⟩ : dg = b' ∧ doff = off' := by simpa [sliceAddr] using e1
              have hmem : DD.getD j 0 ∈ DD := by rw [List.getD_eq_getElem?_getD, List.getElem?_eq_getElem hlj, Option.getD_some]; exact List.getElem_mem hlj
              have hMb := HDM.out _ hmem
              have HSN := Lib.hid (show zs ++ [lit4 k (DD.getD j 0)] = ysC ++ (DD.take (j + 1)).map (lit4 k) from by rw [HZS.out, take_next hlj, List.map_append, List.append_assoc]; rfl)
              have hji : (j : Int) < (DD.length : Int) := by omega
              clear hmem e1
              generalize DD.getD j 0 = M at *
              have HSN := Lib.hid (show zs ++ [(4, ((k : Nat) : Int), M)] = ysC ++ (DD.take (j + 1)).map (lit4 k) from HSN.out)
              go_wp2_with ((at_builtin; refine wpList_appE2 (n := 3) litR_good _ rfl _ _ 54 rfl (.agg #[.int .i64 0, .int .i64 0, .int .i64 0]) 24 Tryz.underlying54 (by kernel_rfl) rfl (by decide) (by decide) q1 c1 zs ((4, ((k : Nat) : Int), M)) rfl (hO.bel litR_good (by (repeat (first | assumption | exact Bel.refl _ | apply Bel.drewN | apply Bel.drew | apply Bel.alloc | refine Bel.trans ?_ (by assumption))))) _ 1 [.int .i64 (4), .int .i64 (((k : Nat) : Int)), .int .i64 (M)] rfl rfl (World.news_of_block (alloc_at (by simp))) (by intro u hu; simp at hu; rcases hu with rfl | rfl | rfl <;> rfl) (lit_rep (by unfold I64; omega) (by unfold I64; omega) (by unfold I64; omega)) (by omega) (by first | omega | (simp; omega)) ?_; intro q' cap' w' hO' hBW hsz' hOT'))
              have HB := Lib.hid (hBW w1 (by (repeat (first | assumption | exact Bel.refl _ | apply Bel.drewN | apply Bel.drew | apply Bel.alloc | refine Bel.trans ?_ (by assumption)))) (Nat.le_refl _))
              have HDN := Lib.hid (show intsR (New WC wu) w' [.slice (some ⟨dg, doff, none⟩) DD.length dc] DD from by
                refine intsR_good.stay (intsR_good.bel HD2.out (w' := wr.alloc _) (by (repeat (first | assumption | exact Bel.refl _ | apply Bel.drewN | apply Bel.drew | apply Bel.alloc | refine Bel.trans ?_ (by assumption)))) (fun b hb => Nat.lt_of_lt_of_le hb.2 hs2)) fun b hb => (hOT'.1 b (by have := hb.2; simp; omega) (fun a ha hh => ?_)).1
                have h1 := (HQ2.out a ha).2
                have h2 := hb.1
                have h3 := hb.2
                omega)
              have HQN := Lib.hid (show ∀ a, q' = some a → a.block < w'.heap.size ∧ (a.block < WC.heap.size ∨ wu.heap.size ≤ a.block) from fun a ha => ⟨hOT'.2 a ha, by
                rcases Nat.lt_or_ge a.block WC.heap.size with h | h
                · exact .inl h
                · rcases Nat.lt_or_ge a.block wu.heap.size with h' | h'
                  · exact absurd rfl ((hOT'.1 a.block (by simp; omega) (fun a' ha' hh => by
                      have h1 := (HQ2.out a' ha').2
                      omega)).2 a ha)
                  · exact .inr h'⟩)
              have HSZ := Lib.hid (show wu.heap.size ≤ w'.heap.size from by simp at hsz'; omega)
              clear hBW hsz' hOT'
              go_roundw
              case rel => exact ⟨j + 1, zs ++ [(4, ((k : Nat) : Int), M)], q', cap', by omega, by go_num, by simp, HSN.out, hO', HQN.out, HB.out, HSZ.out, HDN.out⟩
              case measure => simp [intOf]; omega
            · obtain rfl : j = DD.length := by omega
              have HEND := Lib.hid (show zs = dlTo p (ls, us, ms) (k + 1) from by rw [HZS.out, List.take_length, HYC.out, ← HDT.out])
              have HQE := Lib.hid (show ∀ a, q1 = some a → a.block < wr.heap.size from fun a ha => (HQ2.out a ha).1)
              go_wp2_with fail
              go_roundw
              case rel => exact ⟨k + 1, zs, q1, c1, by omega, by go_num, rfl, HEND.out, hO, HQE.out, hB2⟩
              case measure => simp [intOf]; omega
        · have HYC := Lib.hid (show ysB = dlTo p (ls, us, ms) k ++ (if 0 < X0 then [(1, ((k : Nat) : Int), X0)] else ([] : List LitT)) ++ (if X1 < p.1 - 1 then [(2, ((k : Nat) : Int), X1)] else ([] : List LitT)) from by rw [HYB.out, if_neg h2, List.append_nil])
          go_region_held3 (fun W => W.cell? ⟨w.heap.size, 0, none⟩ = some (.int .i64 p.1) ∧ W.cell? ⟨w.heap.size, 1, none⟩ = some (.slice (some ⟨ab, ao, none⟩) p.2.1.length k1) ∧ W.cell? ⟨w.heap.size, 2, none⟩ = some (.slice p2 p.2.2.1.length k2) ∧ W.cell? ⟨w.heap.size, 3, none⟩ = some (.slice p3 p.2.2.2.1.length k3) ∧ W.cell? ⟨w.heap.size, 4, none⟩ = some (.slice p4 p.2.2.2.2.length k4) ∧ W.cell? ⟨w.heap.size + 1, 0, none⟩ = some (.slice (some ⟨lb, lo, none⟩) ls.length cap00) ∧ W.cell? ⟨w.heap.size + 1, 1, none⟩ = some (.slice (some ⟨ub, uo, none⟩) us.length cap01) ∧ W.cell? ⟨w.heap.size + 1, 2, none⟩ = some (.slice (some ⟨mb, mo, none⟩) ms.length cap02) ∧ W.cell? ⟨ub, uo + k, none⟩ = some (.int .i64 X1)) (exact HS9.out _ (by (repeat (first | assumption | exact Bel.refl _ | apply Bel.drewN | apply Bel.drew | apply Bel.alloc | refine Bel.trans ?_ (by assumption))))) (fail)
          go_upto_region 11 with (fail)
          clear b0 b1 b2 b3 b4 f0 f1 f2 ud
          obtain ⟨WC, hWC⟩ : ∃ W, W = WB.drew := ⟨_, rfl⟩
          have hBD : Bel WB WC := by rw [hWC]; exact (Bel.refl WB).drew
          have hlaC : WC.heap[la]? = some (.cells #[.string X.1, .int .i64 X.2.1, .slice am X.2.2.length amk] 93) := by rw [hWC]; exact hlaB
          have HQC := Lib.hid (show ∀ a, qB = some a → a.block < WC.heap.size from fun a ha => Nat.lt_of_lt_of_le (HQB.out a ha).1 hBD.size)
          rw [← hWC]
          clear hWC hlaB HQB
          have hOC := hOB.bel litR_good hBD
          have hBC := hBB.trans hBD
          obtain ⟨ysC, hysC⟩ : ∃ y, y = ysB := ⟨ysB, rfl⟩
          subst hysC
          obtain ⟨qC, hqC⟩ : ∃ q, q = qB := ⟨qB, rfl⟩
          subst hqC
          have hylC : ysC.length ≤ 900 := by omega
          subst hla
          have HSC := Lib.hid (show ∀ W, Bel WC W → W.cell? ⟨w.heap.size, 0, none⟩ = some (.int .i64 p.1) ∧ W.cell? ⟨w.heap.size, 1, none⟩ = some (.slice (some ⟨ab, ao, none⟩) p.2.1.length k1) ∧ W.cell? ⟨w.heap.size, 2, none⟩ = some (.slice p2 p.2.2.1.length k2) ∧ W.cell? ⟨w.heap.size, 3, none⟩ = some (.slice p3 p.2.2.2.1.length k3) ∧ W.cell? ⟨w.heap.size, 4, none⟩ = some (.slice p4 p.2.2.2.2.length k4) ∧ W.cell? ⟨w.heap.size + 1, 0, none⟩ = some (.slice (some ⟨lb, lo, none⟩) ls.length cap00) ∧ W.cell? ⟨w.heap.size + 1, 1, none⟩ = some (.slice (some ⟨ub, uo, none⟩) us.length cap01) ∧ W.cell? ⟨w.heap.size + 1, 2, none⟩ = some (.slice (some ⟨mb, mo, none⟩) ms.length cap02) ∧ W.cell? ⟨mb, mo + k, none⟩ = some (.slice mp X2.length mc) ∧ W.cell? ⟨wr.heap.size, 0, none⟩ = some (.string X.1) ∧ W.cell? ⟨wr.heap.size, 1, none⟩ = some (.int .i64 X.2.1) ∧ W.cell? ⟨wr.heap.size, 2, none⟩ = some (.slice am X.2.2.length amk) from fun W hW => by
            obtain ⟨b0, b1, b2, b3, b4, f0, f1, f2⟩ := HBX.out W (hBC.trans hW)
            exact ⟨b0, b1, b2, b3, b4, f0, f1, f2, HMD.out W (hBC.trans hW), hW.cell (cells_of hlaC rfl), hW.cell (cells_of hlaC rfl), hW.cell (cells_of hlaC rfl)⟩)
          have GC := G.trans hBC
          clear hlaC
          go_region_held3 (fun W => W.cell? ⟨w.heap.size, 0, none⟩ = some (.int .i64 p.1) ∧ W.cell? ⟨w.heap.size, 1, none⟩ = some (.slice (some ⟨ab, ao, none⟩) p.2.1.length k1) ∧ W.cell? ⟨w.heap.size, 2, none⟩ = some (.slice p2 p.2.2.1.length k2) ∧ W.cell? ⟨w.heap.size, 3, none⟩ = some (.slice p3 p.2.2.2.1.length k3) ∧ W.cell? ⟨w.heap.size, 4, none⟩ = some (.slice p4 p.2.2.2.2.length k4) ∧ W.cell? ⟨w.heap.size + 1, 0, none⟩ = some (.slice (some ⟨lb, lo, none⟩) ls.length cap00) ∧ W.cell? ⟨w.heap.size + 1, 1, none⟩ = some (.slice (some ⟨ub, uo, none⟩) us.length cap01) ∧ W.cell? ⟨w.heap.size + 1, 2, none⟩ = some (.slice (some ⟨mb, mo, none⟩) ms.length cap02) ∧ W.cell? ⟨mb, mo + k, none⟩ = some (.slice mp X2.length mc) ∧ W.cell? ⟨wr.heap.size, 0, none⟩ = some (.string X.1) ∧ W.cell? ⟨wr.heap.size, 1, none⟩ = some (.int .i64 X.2.1) ∧ W.cell? ⟨wr.heap.size, 2, none⟩ = some (.slice am X.2.2.length amk)) (exact HSC.out _ (by (repeat (first | assumption | exact Bel.refl _ | apply Bel.drewN | apply Bel.drew | apply Bel.alloc | refine Bel.trans ?_ (by assumption)))))
            (first | (go_at_call 66; (with_reducible refine (sModeIndexes_any _ X S _ (aggR_mk (actR_good.bel HEL.out (by (repeat (first | assumption | exact Bel.refl _ | apply Bel.drewN | apply Bel.drew | apply Bel.alloc | refine Bel.trans ?_ (by assumption)))) HS.out)) (by omega)).mono ?_); rintro e wt ⟨vm, rfl, hr, gt⟩; have HRG := Lib.hid hr; obtain ⟨rp, rk, rfl, -⟩ := sliceR_open hr; clear hr) | (go_at_call 65; (with_reducible refine (sSetDifference_any _ _ (rangeL X.2.2.length) X2 _ S0 _ HRG.out (fun b hb => new_lt hb) (intsR_good.bel HRW.out (by (repeat (first | assumption | exact Bel.refl _ | apply Bel.drewN | apply Bel.drew | apply Bel.alloc | refine Bel.trans ?_ (by assumption)))) HS0.out) (fun b hb => Nat.lt_of_lt_of_le (HS0.out b hb) (Bel.size (by (repeat (first | assumption | exact Bel.refl _ | apply Bel.drewN | apply Bel.drew | apply Bel.alloc | refine Bel.trans ?_ (by assumption)))))) (by rw [rangeL_length]; omega)).mono ?_); rintro e wu ⟨dg, doff, dc, rfl, hd, gu⟩) | fail)
          have hBu : Bel WC wu := by (repeat (first | assumption | exact Bel.refl _ | apply Bel.drewN | apply Bel.drew | apply Bel.alloc | refine Bel.trans ?_ (by assumption)))
          have hO := hOC.bel litR_good hBu
          have hBw := hBC.trans hBu
          have hszu := hBu.size
          have HD := Lib.hid (show intsR (New WC wu) wu [.slice (some ⟨dg, doff, none⟩) (setL (difL (rangeL X.2.2.length) X2)).length dc] (setL (difL (rangeL X.2.2.length) X2)) from intsR_good.mono hd (fun b hb => ⟨by have h1 := (hb.resolve_left id).1; have h2 := (show Bel WC wt from by (repeat (first | assumption | exact Bel.refl _ | apply Bel.drewN | apply Bel.drew | apply Bel.alloc | refine Bel.trans ?_ (by assumption)))).size; omega, (hb.resolve_left id).2⟩))
          have HDM := Lib.hid (fun x (hx : x ∈ setL (difL (rangeL X.2.2.length) X2)) => dif_mem hx)
          have hDl := dif_le X.2.2.length X2
          clear hd
          generalize setL (difL (rangeL X.2.2.length) X2) = DD at *
          have HQD := Lib.hid (show ∀ a, qC = some a → a.block < wu.heap.size ∧ (a.block < WC.heap.size ∨ wu.heap.size ≤ a.block) from fun a ha => ⟨Nat.lt_of_lt_of_le (HQC.out a ha) hszu, .inl (HQC.out a ha)⟩)
          clear HQC HSC hOC
          go_wp2_with fail
          go_loopw [5, 67] (fun o i wr => ∃ (j : Nat) (zs : List LitT) (q1 : Option Addr) (c1 : Nat), j ≤ DD.length ∧ i = .int .i64 j ∧ o = .slice q1 zs.length c1 ∧ zs = ysC ++ (DD.take j).map (lit4 k) ∧ OwnE (fun _ => False) 3 litR 95 w1.heap.size wr q1 c1 zs ∧ (∀ a, q1 = some a → a.block < wr.heap.size ∧ (a.block < WC.heap.size ∨ wu.heap.size ≤ a.block)) ∧ Bel w1 wr ∧ wu.heap.size ≤ wr.heap.size ∧ intsR (New WC wu) wr [.slice (some ⟨dg, doff, none⟩) DD.length dc] DD) (fun _ i _ => DD.length - (intOf i).toNat)
          case atStart => exact ⟨0, ysC, _, _, Nat.zero_le _, rfl, rfl, by simp, hO, HQD.out, hBw, Nat.le_refl _, HD.out⟩
          case round =>
            clear hO
            obtain ⟨j, zs, q1, c1, hj, rfl, rfl, hzs, hO, hqa, hB2, hs2, hD2⟩ := hrel
            have HZS := Lib.hid hzs
            have HQ2 := Lib.hid hqa
            have HD2 := Lib.hid hD2
            have hzl : zs.length ≤ 1000 := by rw [hzs, List.length_append, List.length_map, List.length_take]; omega
            have hsz2 := hB2.size
            clear hzs hqa hD2
            by_cases hlj : j < DD.length
            · obtain ⟨b', off', e1, e2⟩ := intsR_at' HD2.out hlj
              obtain ⟨rfl, rfl⟩ : dg = b' ∧ doff = off' := by simpa [sliceAddr] using e1
              have hmem : DD.getD j 0 ∈ DD := by rw [List.getD_eq_getElem?_getD, List.getElem?_eq_getElem hlj, Option.getD_some]; exact List.getElem_mem hlj
              have hMb := HDM.out _ hmem
              have HSN := Lib.hid (show zs ++ [lit4 k (DD.getD j 0)] = ysC ++ (DD.take (j + 1)).map (lit4 k) from by rw [HZS.out, take_next hlj, List.map_append, List.append_assoc]; rfl)
              have hji : (j : Int) < (DD.length : Int) := by omega
              clear hmem e1
              generalize DD.getD j 0 = M at *
              have HSN := Lib.hid (show zs ++ [(4, ((k : Nat) : Int), M)] = ysC ++ (DD.take (j + 1)).map (lit4 k) from HSN.out)
              go_wp2_with ((at_builtin; refine wpList_appE2 (n := 3) litR_good _ rfl _ _ 54 rfl (.agg #[.int .i64 0, .int .i64 0, .int .i64 0]) 24 Tryz.underlying54 (by kernel_rfl) rfl (by decide) (by decide) q1 c1 zs ((4, ((k : Nat) : Int), M)) rfl (hO.bel litR_good (by (repeat (first | assumption | exact Bel.refl _ | apply Bel.drewN | apply Bel.drew | apply Bel.alloc | refine Bel.trans ?_ (by assumption))))) _ 1 [.int .i64 (4), .int .i64 (((k : Nat) : Int)), .int .i64 (M)] rfl rfl (World.news_of_block (alloc_at (by simp))) (by intro u hu; simp at hu; rcases hu with rfl | rfl | rfl <;> rfl) (lit_rep (by unfold I64; omega) (by unfold I64; omega) (by unfold I64; omega)) (by omega) (by first | omega | (simp; omega)) ?_; intro q' cap' w' hO' hBW hsz' hOT'))
              have HB := Lib.hid (hBW w1 (by (repeat (first | assumption | exact Bel.refl _ | apply Bel.drewN | apply Bel.drew | apply Bel.alloc | refine Bel.trans ?_ (by assumption)))) (Nat.le_refl _))
              have HDN := Lib.hid (show intsR (New WC wu) w' [.slice (some ⟨dg, doff, none⟩) DD.length dc] DD from by
                refine intsR_good.stay (intsR_good.bel HD2.out (w' := wr.alloc _) (by (repeat (first | assumption | exact Bel.refl _ | apply Bel.drewN | apply Bel.drew | apply Bel.alloc | refine Bel.trans ?_ (by assumption)))) (fun b hb => Nat.lt_of_lt_of_le hb.2 hs2)) fun b hb => (hOT'.1 b (by have := hb.2; simp; omega) (fun a ha hh => ?_)).1
                have h1 := (HQ2.out a ha).2
                have h2 := hb.1
                have h3 := hb.2
                omega)
              have HQN := Lib.hid (show ∀ a, q' = some a → a.block < w'.heap.size ∧ (a.block < WC.heap.size ∨ wu.heap.size ≤ a.block) from fun a ha => ⟨hOT'.2 a ha, by
                rcases Nat.lt_or_ge a.block WC.heap.size with h | h
                · exact .inl h
                · rcases Nat.lt_or_ge a.block wu.heap.size with h' | h'
                  · exact absurd rfl ((hOT'.1 a.block (by simp; omega) (fun a' ha' hh => by
                      have h1 := (HQ2.out a' ha').2
                      omega)).2 a ha)
                  · exact .inr h'⟩)
              have HSZ := Lib.hid (show wu.heap.size ≤ w'.heap.size from by simp at hsz'; omega)
              clear hBW hsz' hOT'
              go_roundw
              case rel => exact ⟨j + 1, zs ++ [(4, ((k : Nat) : Int), M)], q', cap', by omega, by go_num, by simp, HSN.out, hO', HQN.out, HB.out, HSZ.out, HDN.out⟩
              case measure => simp [intOf]; omega
            · obtain rfl : j = DD.length := by omega
              have HEND := Lib.hid (show zs = dlTo p (ls, us, ms) (k + 1) from by rw [HZS.out, List.take_length, HYC.out, ← HDT.out])
              have HQE := Lib.hid (show ∀ a, q1 = some a → a.block < wr.heap.size from fun a ha => (HQ2.out a ha).1)
              go_wp2_with fail
              go_roundw
              case rel => exact ⟨k + 1, zs, q1, c1, by omega, by go_num, rfl, HEND.out, hO, HQE.out, hB2⟩
              case measure => simp [intOf]; omega
    · obtain rfl : k = p.2.1.length := by omega
      have HRES := Lib.hid (show litsR (New w wr) wr [.slice q1 ys.length c1] (dlV p (ls, us, ms)) from by
        rw [HVV.out, ← HYS.out]
        exact hO.done litR_good (fun _ hf => hf.elim) (fun b h1 h2 => ⟨by omega, h2⟩))
      clear hO
      go_wp2
      go_ret
      exact ⟨_, rfl, HRES.out, hB0⟩

set_option maxRecDepth 100000 in
set_option maxHeartbeats 8000000 in
theorem iDomainLiterals_any (v : Value) (p : ProjT) (S : Nat → Prop) (v0 : Value) (x0 : DomT) (S0 : Nat → Prop) (w : World) (hx : aggR projR S w v p) (hS : ∀ b, S b → b < w.heap.size) (_hn : bulkProject p ≤ 1048576) (h0 : aggR domR S0 w v0 x0) (_hS0 : ∀ b, S0 b → b < w.heap.size) (_hn0 : bulkDomain x0 ≤ 1048576) :
    Calls Tryz.prog 27 #[v, v0] w (FreshV litsR w (dlV p x0)) := by
  have HQ0 := Lib.hid h0
  obtain ⟨cs, rfl, hx⟩ := hx
  obtain ⟨y1, y2, y3, y4, rfl, q0, q1, q2, q3, q4⟩ := projR_open hx
  have Q1 := Lib.hid q1
  have Q2 := Lib.hid q2
  have Q3 := Lib.hid q3
  have Q4 := Lib.hid q4
  have HP := Lib.hid hx
  obtain ⟨p1, k1, rfl, l1, l1', -⟩ := sliceR_open q1
  obtain ⟨p2, k2, rfl, l2, l2', -⟩ := sliceR_open q2
  obtain ⟨p3, k3, rfl, l3, l3', -⟩ := sliceR_open q3
  obtain ⟨p4, k4, rfl, l4, l4', -⟩ := sliceR_open q4
  unfold maxLen at l1' l2' l3' l4'
  clear hx q0 q1 q2 q3 q4
  obtain ⟨cs0, rfl, h0⟩ := h0
  obtain ⟨c0, c1, c2, rfl, q00, q01, q02⟩ := domR_open h0
  obtain ⟨ls, us, ms⟩ := x0
  simp only at q00 q01 q02
  have A00 := Lib.hid (fun i hi => intsR_at' q00 (i := i) hi)
  have A01 := Lib.hid (fun i hi => intsR_at' q01 (i := i) hi)
  obtain ⟨p00, cap00, rfl, l00, l00', _⟩ := sliceR_open q00
  obtain ⟨p01, cap01, rfl, l01, l01', _⟩ := sliceR_open q01
  have Q02 := Lib.hid q02
  obtain ⟨p02, cap02, rfl, l02, l02', _⟩ := sliceR_open q02
  unfold maxLen at l00' l01' l02'
  clear h0 q00 q01 q02
  have HS := Lib.hid hS
  have HS0 := Lib.hid _hS0
  have HN := Lib.hid _hn
  have HN0 := Lib.hid _hn0
  have HQ1 := Lib.hid (show ∀ W, Bel w W → aggR domR S0 W (.agg #[.slice p00 ls.length cap00, .slice p01 us.length cap01, .slice p02 ms.length cap02]) (ls, us, ms) from fun W hW => by
    obtain ⟨cs, e, h⟩ := HQ0.out
    exact ⟨cs, e, domR_good.bel h hW HS0.out⟩)
  clear hS _hn _hS0 _hn0 HQ0
  have HP1 := Lib.hid (show ∀ W, Bel w W → aggR projR S W (.agg #[.int .i64 p.1, .slice p1 p.2.1.length k1, .slice p2 p.2.2.1.length k2, .slice p3 p.2.2.2.1.length k3, .slice p4 p.2.2.2.2.length k4]) p from fun W hW => aggR_mk (projR_good.bel HP.out hW HS.out))
  show Calls Tryz.prog 27 #[.agg #[.int .i64 p.1, .slice p1 p.2.1.length k1, .slice p2 p.2.2.1.length k2, .slice p3 p.2.2.2.1.length k3, .slice p4 p.2.2.2.2.length k4], .agg #[.slice p00 ls.length cap00, .slice p01 us.length cap01, .slice p02 ms.length cap02]] w _
  go_enter Tryz.func27, Tryz.ntmps27
  go_wp2_with fail
  refine (iDomainForm_any _ p S _ (ls, us, ms) S0 _ (HP1.out _ (by (repeat (first | assumption | exact Bel.refl _ | apply Bel.drewN | apply Bel.drew | apply Bel.alloc | refine Bel.trans ?_ (by assumption))))) (fun b hb => Nat.lt_of_lt_of_le (HS.out b hb) (Bel.size (by (repeat (first | assumption | exact Bel.refl _ | apply Bel.drewN | apply Bel.drew | apply Bel.alloc | refine Bel.trans ?_ (by assumption)))))) HN.out (HQ1.out _ (by (repeat (first | assumption | exact Bel.refl _ | apply Bel.drewN | apply Bel.drew | apply Bel.alloc | refine Bel.trans ?_ (by assumption))))) (fun b hb => Nat.lt_of_lt_of_le (HS0.out b hb) (Bel.size (by (repeat (first | assumption | exact Bel.refl _ | apply Bel.drewN | apply Bel.drew | apply Bel.alloc | refine Bel.trans ?_ (by assumption)))))) HN0.out).mono ?_
  rintro e w1 ⟨rfl, g1⟩
  have b0 := g1.cell (p := ⟨w.heap.size, 0, none⟩) (v := .int .i64 p.1) (by simp [go_sem])
  have b1 := g1.cell (p := ⟨w.heap.size, 1, none⟩) (v := .slice p1 p.2.1.length k1) (by simp [go_sem])
  have b2 := g1.cell (p := ⟨w.heap.size, 2, none⟩) (v := .slice p2 p.2.2.1.length k2) (by simp [go_sem])
  have b3 := g1.cell (p := ⟨w.heap.size, 3, none⟩) (v := .slice p3 p.2.2.2.1.length k3) (by simp [go_sem])
  have b4 := g1.cell (p := ⟨w.heap.size, 4, none⟩) (v := .slice p4 p.2.2.2.2.length k4) (by simp [go_sem])
  have f0 := g1.cell (p := ⟨w.heap.size + 1, 0, none⟩) (v := .slice p00 ls.length cap00) (by simp [go_sem])
  have f1 := g1.cell (p := ⟨w.heap.size + 1, 1, none⟩) (v := .slice p01 us.length cap01) (by simp [go_sem])
  have f2 := g1.cell (p := ⟨w.heap.size + 1, 2, none⟩) (v := .slice p02 ms.length cap02) (by simp [go_sem])
  have G : Bel w w1 := by (repeat (first | assumption | exact Bel.refl _ | apply Bel.drewN | apply Bel.drew | apply Bel.alloc | refine Bel.trans ?_ (by assumption)))
  have hs1w := G.size
  have HBX := Lib.hid (show ∀ W, Bel w1 W → W.cell? ⟨w.heap.size, 0, none⟩ = some (.int .i64 p.1) ∧ W.cell? ⟨w.heap.size, 1, none⟩ = some (.slice p1 p.2.1.length k1) ∧ W.cell? ⟨w.heap.size, 2, none⟩ = some (.slice p2 p.2.2.1.length k2) ∧ W.cell? ⟨w.heap.size, 3, none⟩ = some (.slice p3 p.2.2.2.1.length k3) ∧ W.cell? ⟨w.heap.size, 4, none⟩ = some (.slice p4 p.2.2.2.2.length k4) ∧ W.cell? ⟨w.heap.size + 1, 0, none⟩ = some (.slice p00 ls.length cap00) ∧ W.cell? ⟨w.heap.size + 1, 1, none⟩ = some (.slice p01 us.length cap01) ∧ W.cell? ⟨w.heap.size + 1, 2, none⟩ = some (.slice p02 ms.length cap02) from fun W hW => keep8 ⟨b0, b1, b2, b3, b4, f0, f1, f2⟩ hW)
  have HQ0A := Lib.hid (show w.heap.size + 2 ≤ w1.heap.size from by have := g1.size; simp at this; omega)
  cases hf : domFormB p (ls, us, ms)
  · have HD := Lib.hid (show litsR (New w w1) w1 [.slice none 0 0] (dlV p (ls, us, ms)) from by unfold dlV; rw [hf, if_neg (by simp)]; exact ⟨none, 0, rfl, Nat.le_refl _, Nat.zero_le _, fun i h => by simp at h⟩)
    clear hf
    go_wp2
    go_ret
    exact ⟨_, rfl, HD.out, G⟩
  have HVV := Lib.hid (show dlV p (ls, us, ms) = dlTo p (ls, us, ms) p.2.1.length from by unfold dlV; rw [hf, if_pos rfl])
  obtain ⟨hpo, H2, H3, H4, hbnd⟩ := domForm_all hf
  have hbd := projOk_bd hpo
  have HPO := Lib.hid hpo
  have H2 := Lib.hid (show ls.length = p.2.1.length from H2)
  have H3 := Lib.hid (show us.length = p.2.1.length from H3)
  have H4 := Lib.hid (show ms.length = p.2.1.length from H4)
  have HBD := Lib.hid (show ∀ k, k < p.2.1.length → (-2 ≤ ls.getD k 0 ∧ ls.getD k 0 ≤ 62) ∧ (-2 ≤ us.getD k 0 ∧ us.getD k 0 ≤ 62) from hbnd)
  have hsub : IntKind.i64.wrap (p.1 - 1) = p.1 - 1 := IntWalk.i64_in _ (by omega)
  clear hf hpo hbnd
  have ab0 := fun o => ((Bel.refl w1).alloc o).cell b0
  have ab1 := fun o => ((Bel.refl w1).alloc o).cell b1
  have ab2 := fun o => ((Bel.refl w1).alloc o).cell b2
  have ab3 := fun o => ((Bel.refl w1).alloc o).cell b3
  have ab4 := fun o => ((Bel.refl w1).alloc o).cell b4
  have af0 := fun o => ((Bel.refl w1).alloc o).cell f0
  have af1 := fun o => ((Bel.refl w1).alloc o).cell f1
  have af2 := fun o => ((Bel.refl w1).alloc o).cell f2
  go_wp2_with fail
  clear ab0 ab1 ab2 ab3 ab4 af0 af1 af2 b0 b1 b2 b3 b4 f0 f1 f2
  go_loopw [5, 18] (fun o i wr => ∃ (k : Nat) (ys : List LitT) (q1 : Option Addr) (c1 : Nat), k ≤ p.2.1.length ∧ i = .int .i64 k ∧ o = .slice q1 ys.length c1 ∧ ys = dlTo p (ls, us, ms) k ∧ OwnE (fun _ => False) 3 litR 95 w1.heap.size wr q1 c1 ys ∧ (∀ a, q1 = some a → a.block < wr.heap.size) ∧ Bel w1 wr) (fun _ i _ => p.2.1.length - (intOf i).toNat)
  case atStart => exact ⟨0, [], _, _, Nat.zero_le _, rfl, rfl, rfl, OwnE.empty _ _, (by intro a ha; cases ha; first | (have := HQ0A.out; simp; omega) | (have := HQ0A.out; simp)), by (repeat (first | assumption | exact Bel.refl _ | apply Bel.drewN | apply Bel.drew | apply Bel.alloc | refine Bel.trans ?_ (by assumption)))⟩
  case round =>
    obtain ⟨k, ys, q1, c1, hk, rfl, rfl, hys, hO, hqa, hB⟩ := hrel
    have HYS := Lib.hid hys
    have HQA := Lib.hid hqa
    have hyl : ys.length ≤ k * 5 := by rw [hys]; exact dlTo_le HPO.out _ _ hk
    have hszr := hB.size
    clear hys hqa
    have hB0 : Bel w wr := G.trans hB
    by_cases hlt : k < p.2.1.length
    · obtain ⟨b0, b1, b2, b3, b4, f0, f1, f2⟩ := HBX.out wr hB
      have hl0 : k < ls.length := by rw [H2.out]; exact hlt
      have hl1 : k < us.length := by rw [H3.out]; exact hlt
      have hl2 : k < ms.length := by rw [H4.out]; exact hlt
      obtain ⟨ab, ao, acs, aea, arow, ael⟩ := sliceR_at zAct Q1.out hlt
      obtain rfl : p1 = some ⟨ab, ao, none⟩ := aea
      obtain ⟨lb, lo, le, ld⟩ := A00.out k hl0
      obtain rfl : p00 = some ⟨lb, lo, none⟩ := le
      obtain ⟨ub, uo, ue, ud⟩ := A01.out k hl1
      obtain rfl : p01 = some ⟨ub, uo, none⟩ := ue
      obtain ⟨mb, mo, mp, mc, me, md, ml, ml', mr⟩ := rowsR_at Q02.out hl2
      obtain rfl : p02 = some ⟨mb, mo, none⟩ := me
      have HUD := Lib.hid (show ∀ W, Bel w1 W → W.cell? ⟨ub, uo + k, none⟩ = some (.int .i64 (us.getD k 0)) from fun W hW => (G.trans hW).cell ud)
      have HMD := Lib.hid (show ∀ W, Bel w1 W → W.cell? ⟨mb, mo + k, none⟩ = some (.slice mp (ms.getD k []).length mc) from fun W hW => (G.trans hW).cell md)
      have ld := hB0.cell ld
      clear ud md
      have HRW := Lib.hid mr; clear mr
      have hk0 : (k : Int) < (ls.length : Int) := by omega
      have hk1 : (k : Int) < (us.length : Int) := by omega
      have hk2 : (k : Int) < (ms.length : Int) := by omega
      have hkp : (k : Int) < (p.2.1.length : Int) := by omega
      have hxm := (projOk_modes HPO.out hlt).2
      have hxb := HBD.out k hlt
      have HDT := Lib.hid (show dlTo p (ls, us, ms) (k + 1) = dlTo p (ls, us, ms) k ++ (if 0 < ls.getD k 0 then [((1 : Int), (k : Int), ls.getD k 0)] else []) ++ (if us.getD k 0 < p.1 - 1 then [((2 : Int), (k : Int), us.getD k 0)] else []) ++ (setL (difL (rangeL (p.2.1.getD k zAct).2.2.length) (ms.getD k []))).map (lit4 k) from rfl)
      generalize ls.getD k 0 = X0 at *
      generalize us.getD k 0 = X1 at *
      generalize ms.getD k [] = X2 at *
      generalize p.2.1.getD k zAct = X at *
      obtain ⟨ac2, rfl, aq0, aq1, aq2⟩ := actR_open ael
      have HEL := Lib.hid ael
      obtain ⟨am, amk, rfl, aml, aml', -⟩ := sliceR_open aq2
      have ea0 := hB0.cell (arow 0 (by simp)).1
      have ea1 := hB0.cell (arow 1 (by simp)).1
      have ea2 := hB0.cell (arow 2 (by simp)).1
      simp only [List.getElem_cons_zero, List.getElem_cons_succ, Nat.add_zero] at ea0 ea1 ea2
      unfold maxLen at ml' aml'
      clear arow ael aq0 aq1 aq2 hl0 hl1 hl2
      have HS9 := Lib.hid (show ∀ W, Bel w1 W → W.cell? ⟨w.heap.size, 0, none⟩ = some (.int .i64 p.1) ∧ W.cell? ⟨w.heap.size, 1, none⟩ = some (.slice (some ⟨ab, ao, none⟩) p.2.1.length k1) ∧ W.cell? ⟨w.heap.size, 2, none⟩ = some (.slice p2 p.2.2.1.length k2) ∧ W.cell? ⟨w.heap.size, 3, none⟩ = some (.slice p3 p.2.2.2.1.length k3) ∧ W.cell? ⟨w.heap.size, 4, none⟩ = some (.slice p4 p.2.2.2.2.length k4) ∧ W.cell? ⟨w.heap.size + 1, 0, none⟩ = some (.slice (some ⟨lb, lo, none⟩) ls.length cap00) ∧ W.cell? ⟨w.heap.size + 1, 1, none⟩ = some (.slice (some ⟨ub, uo, none⟩) us.length cap01) ∧ W.cell? ⟨w.heap.size + 1, 2, none⟩ = some (.slice (some ⟨mb, mo, none⟩) ms.length cap02) ∧ W.cell? ⟨ub, uo + k, none⟩ = some (.int .i64 X1) from fun W hW => by
        obtain ⟨b0, b1, b2, b3, b4, f0, f1, f2⟩ := HBX.out W hW
        exact ⟨b0, b1, b2, b3, b4, f0, f1, f2, HUD.out W hW⟩)
      have ab0 := fun o => ((Bel.refl wr).alloc o).cell b0
      have ab1 := fun o => ((Bel.refl wr).alloc o).cell b1
      have ab2 := fun o => ((Bel.refl wr).alloc o).cell b2
      have ab3 := fun o => ((Bel.refl wr).alloc o).cell b3
      have ab4 := fun o => ((Bel.refl wr).alloc o).cell b4
      have af0 := fun o => ((Bel.refl wr).alloc o).cell f0
      have af1 := fun o => ((Bel.refl wr).alloc o).cell f1
      have af2 := fun o => ((Bel.refl wr).alloc o).cell f2
      have ald := fun o => ((Bel.refl wr).alloc o).cell ld
      obtain ⟨la, hla⟩ : ∃ la, la = wr.heap.size := ⟨_, rfl⟩
      have hlaA : (wr.alloc (.cells #[.string X.1, .int .i64 X.2.1, .slice am X.2.2.length amk] 93)).heap[la]? = some (.cells #[.string X.1, .int .i64 X.2.1, .slice am X.2.2.length amk] 93) := by rw [hla]; exact heap_alloc_new _ _
      by_cases h1 : 0 < X0
      · have HYB0 := Lib.hid (show ys ++ [(1, ((k : Nat) : Int), X0)] = dlTo p (ls, us, ms) k ++ (if 0 < X0 then [(1, ((k : Nat) : Int), X0)] else ([] : List LitT)) from by rw [HYS.out, if_pos h1])
        go_upto_region 9 with ((at_builtin; refine wpList_appE2 (n := 3) litR_good _ rfl _ _ 54 rfl (.agg #[.int .i64 0, .int .i64 0, .int .i64 0]) 24 Tryz.underlying54 (by kernel_rfl) rfl (by decide) (by decide) q1 c1 ys ((1, ((k : Nat) : Int), X0)) rfl (hO.bel litR_good (by (repeat (first | assumption | exact Bel.refl _ | apply Bel.drewN | apply Bel.drew | apply Bel.alloc | refine Bel.trans ?_ (by assumption))))) _ 1 [.int .i64 (1), .int .i64 (((k : Nat) : Int)), .int .i64 (X0)] rfl rfl (World.news_of_block (alloc_at (by simp))) (by intro u hu; simp at hu; rcases hu with rfl | rfl | rfl <;> rfl) (lit_rep (by unfold I64; omega) (by unfold I64; omega) (by unfold I64; omega)) (by omega) (by first | omega | (simp; omega)) ?_; intro q' cap' w' hO' hBW hsz' hOT'))
        have hBB := hBW w1 (by (repeat (first | assumption | exact Bel.refl _ | apply Bel.drewN | apply Bel.drew | apply Bel.alloc | refine Bel.trans ?_ (by assumption)))) (Nat.le_refl _)
        have hlaS0 : la < w'.heap.size := by simp at hsz'; omega
        have hT2 := hOT'.1 la (by simp; omega) (fun a ha hh => by have := HQA.out a ha; omega)
        have hlaB : w'.heap[la]? = some (.cells #[.string X.1, .int .i64 X.2.1, .slice am X.2.2.length amk] 93) := hT2.1.trans ((((Bel.refl (wr.alloc (.cells #[.string X.1, .int .i64 X.2.1, .slice am X.2.2.length amk] 93))).alloc _).block (by simp; omega)).trans hlaA)
        have HQB := Lib.hid (show ∀ a, q' = some a → a.block < w'.heap.size ∧ a.block ≠ la from fun a ha => ⟨hOT'.2 a ha, fun hh => hT2.2 a ha hh.symm⟩)
        clear hBW hsz' hOT' hT2 hlaA ab0 ab1 ab2 ab3 ab4 af0 af1 af2 ald b0 b1 b2 b3 b4 f0 f1 f2 ea0 ea1 ea2
        obtain ⟨WB, hWB⟩ : ∃ W, W = w' := ⟨w', rfl⟩
        subst hWB
        obtain ⟨ysB, hysB⟩ : ∃ y, ys ++ [(1, ((k : Nat) : Int), X0)] = y := ⟨_, rfl⟩
        rw [hysB] at hO' HYB0
        rw [show ys.length + 1 = ysB.length from by rw [← hysB]; simp]
        have HYB := HYB0
        have hOB := hO'
        have hylB : ysB.length ≤ 100 := by rw [← hysB]; simp; omega
        have hlaS := hlaS0
        clear hysB hO' HYB0 hlaS0
        obtain ⟨qB, hqB⟩ : ∃ q, q = q' := ⟨q', rfl⟩
        subst hqB
        obtain ⟨cB, hcB⟩ : ∃ q, q = cap' := ⟨cap', rfl⟩
        subst hcB
        obtain ⟨b0, b1, b2, b3, b4, f0, f1, f2⟩ := HBX.out WB hBB
        have ud := HUD.out WB hBB
        have hszB := hBB.size
        by_cases h2 : X1 < p.1 - 1
        · have HYB2 := Lib.hid (show ysB ++ [(2, ((k : Nat) : Int), X1)] = dlTo p (ls, us, ms) k ++ (if 0 < X0 then [(1, ((k : Nat) : Int), X0)] else ([] : List LitT)) ++ (if X1 < p.1 - 1 then [(2, ((k : Nat) : Int), X1)] else ([] : List LitT)) from by rw [HYB.out, if_pos h2])
          go_region_held3 (fun W => W.cell? ⟨w.heap.size, 0, none⟩ = some (.int .i64 p.1) ∧ W.cell? ⟨w.heap.size, 1, none⟩ = some (.slice (some ⟨ab, ao, none⟩) p.2.1.length k1) ∧ W.cell? ⟨w.heap.size, 2, none⟩ = some (.slice p2 p.2.2.1.length k2) ∧ W.cell? ⟨w.heap.size, 3, none⟩ = some (.slice p3 p.2.2.2.1.length k3) ∧ W.cell? ⟨w.heap.size, 4, none⟩ = some (.slice p4 p.2.2.2.2.length k4) ∧ W.cell? ⟨w.heap.size + 1, 0, none⟩ = some (.slice (some ⟨lb, lo, none⟩) ls.length cap00) ∧ W.cell? ⟨w.heap.size + 1, 1, none⟩ = some (.slice (some ⟨ub, uo, none⟩) us.length cap01) ∧ W.cell? ⟨w.heap.size + 1, 2, none⟩ = some (.slice (some ⟨mb, mo, none⟩) ms.length cap02) ∧ W.cell? ⟨ub, uo + k, none⟩ = some (.int .i64 X1)) (exact HS9.out _ (by (repeat (first | assumption | exact Bel.refl _ | apply Bel.drewN | apply Bel.drew | apply Bel.alloc | refine Bel.trans ?_ (by assumption))))) (fail)
          go_upto_region 11 with ((at_builtin; refine wpList_appE2 (n := 3) litR_good _ rfl _ _ 54 rfl (.agg #[.int .i64 0, .int .i64 0, .int .i64 0]) 24 Tryz.underlying54 (by kernel_rfl) rfl (by decide) (by decide) qB cB ysB ((2, ((k : Nat) : Int), X1)) rfl (hOB.bel litR_good (by (repeat (first | assumption | exact Bel.refl _ | apply Bel.drewN | apply Bel.drew | apply Bel.alloc | refine Bel.trans ?_ (by assumption))))) _ 1 [.int .i64 (2), .int .i64 (((k : Nat) : Int)), .int .i64 (X1)] rfl rfl (World.news_of_block (alloc_at (by simp))) (by intro u hu; simp at hu; rcases hu with rfl | rfl | rfl <;> rfl) (lit_rep (by unfold I64; omega) (by unfold I64; omega) (by unfold I64; omega)) (by omega) (by first | omega | (simp; omega)) ?_; intro q' cap' w' hO' hBW hsz' hOT'))
          have hBC0 := hBW w1 (by (repeat (first | assumption | exact Bel.refl _ | apply Bel.drewN | apply Bel.drew | apply Bel.alloc | refine Bel.trans ?_ (by assumption)))) (Nat.le_refl _)
          have hlaC0 : w'.heap[la]? = some (.cells #[.string X.1, .int .i64 X.2.1, .slice am X.2.2.length amk] 93) := ((hOT'.1 la (by simp; omega) (fun a ha hh => (HQB.out a ha).2 hh.symm)).1).trans ((((Bel.refl WB).drew.alloc _).block hlaS).trans hlaB)
          have HQC := Lib.hid hOT'.2
          clear hBW hsz' hOT' b0 b1 b2 b3 b4 f0 f1 f2 ud
          obtain ⟨WC, hWC⟩ : ∃ W, W = w' := ⟨w', rfl⟩
          subst hWC
          obtain ⟨ysC, hysC⟩ : ∃ y, ysB ++ [(2, ((k : Nat) : Int), X1)] = y := ⟨_, rfl⟩
          rw [hysC] at hO' HYB2
          rw [show ysB.length + 1 = ysC.length from by rw [← hysC]; simp]
          have HYC := HYB2
          have hOC := hO'
          have hBC := hBC0
          have hlaC := hlaC0
          have hylC : ysC.length ≤ 900 := by rw [← hysC]; simp; omega
          clear hysC hO' hBC0 hlaC0 HYB2 hlaB HQB
          obtain ⟨qC, hqC⟩ : ∃ q, q = q' := ⟨q', rfl⟩
          subst hqC
          subst hla
          have HSC := Lib.hid (show ∀ W, Bel WC W → W.cell? ⟨w.heap.size, 0, none⟩ = some (.int .i64 p.1) ∧ W.cell? ⟨w.heap.size, 1, none⟩ = some (.slice (some ⟨ab, ao, none⟩) p.2.1.length k1) ∧ W.cell? ⟨w.heap.size, 2, none⟩ = some (.slice p2 p.2.2.1.length k2) ∧ W.cell? ⟨w.heap.size, 3, none⟩ = some (.slice p3 p.2.2.2.1.length k3) ∧ W.cell? ⟨w.heap.size, 4, none⟩ = some (.slice p4 p.2.2.2.2.length k4) ∧ W.cell? ⟨w.heap.size + 1, 0, none⟩ = some (.slice (some ⟨lb, lo, none⟩) ls.length cap00) ∧ W.cell? ⟨w.heap.size + 1, 1, none⟩ = some (.slice (some ⟨ub, uo, none⟩) us.length cap01) ∧ W.cell? ⟨w.heap.size + 1, 2, none⟩ = some (.slice (some ⟨mb, mo, none⟩) ms.length cap02) ∧ W.cell? ⟨mb, mo + k, none⟩ = some (.slice mp X2.length mc) ∧ W.cell? ⟨wr.heap.size, 0, none⟩ = some (.string X.1) ∧ W.cell? ⟨wr.heap.size, 1, none⟩ = some (.int .i64 X.2.1) ∧ W.cell? ⟨wr.heap.size, 2, none⟩ = some (.slice am X.2.2.length amk) from fun W hW => by
            obtain ⟨b0, b1, b2, b3, b4, f0, f1, f2⟩ := HBX.out W (hBC.trans hW)
            exact ⟨b0, b1, b2, b3, b4, f0, f1, f2, HMD.out W (hBC.trans hW), hW.cell (cells_of hlaC rfl), hW.cell (cells_of hlaC rfl), hW.cell (cells_of hlaC rfl)⟩)
          have GC := G.trans hBC
          clear hlaC
          go_region_held3 (fun W => W.cell? ⟨w.heap.size, 0, none⟩ = some (.int .i64 p.1) ∧ W.cell? ⟨w.heap.size, 1, none⟩ = some (.slice (some ⟨ab, ao, none⟩) p.2.1.length k1) ∧ W.cell? ⟨w.heap.size, 2, none⟩ = some (.slice p2 p.2.2.1.length k2) ∧ W.cell? ⟨w.heap.size, 3, none⟩ = some (.slice p3 p.2.2.2.1.length k3) ∧ W.cell? ⟨w.heap.size, 4, none⟩ = some (.slice p4 p.2.2.2.2.length k4) ∧ W.cell? ⟨w.heap.size + 1, 0, none⟩ = some (.slice (some ⟨lb, lo, none⟩) ls.length cap00) ∧ W.cell? ⟨w.heap.size + 1, 1, none⟩ = some (.slice (some ⟨ub, uo, none⟩) us.length cap01) ∧ W.cell? ⟨w.heap.size + 1, 2, none⟩ = some (.slice (some ⟨mb, mo, none⟩) ms.length cap02) ∧ W.cell? ⟨mb, mo + k, none⟩ = some (.slice mp X2.length mc) ∧ W.cell? ⟨wr.heap.size, 0, none⟩ = some (.string X.1) ∧ W.cell? ⟨wr.heap.size, 1, none⟩ = some (.int .i64 X.2.1) ∧ W.cell? ⟨wr.heap.size, 2, none⟩ = some (.slice am X.2.2.length amk)) (exact HSC.out _ (by (repeat (first | assumption | exact Bel.refl _ | apply Bel.drewN | apply Bel.drew | apply Bel.alloc | refine Bel.trans ?_ (by assumption)))))
            (first | (go_at_call 70; (with_reducible refine (iModeIndexes_any _ X S _ (aggR_mk (actR_good.bel HEL.out (by (repeat (first | assumption | exact Bel.refl _ | apply Bel.drewN | apply Bel.drew | apply Bel.alloc | refine Bel.trans ?_ (by assumption)))) HS.out)) (by omega)).mono ?_); rintro e wt ⟨vm, rfl, hr, gt⟩; have HRG := Lib.hid hr; obtain ⟨rp, rk, rfl, -⟩ := sliceR_open hr; clear hr) | (go_at_call 69; (with_reducible refine (iSetDifference_any _ _ (rangeL X.2.2.length) X2 _ S0 _ HRG.out (fun b hb => new_lt hb) (intsR_good.bel HRW.out (by (repeat (first | assumption | exact Bel.refl _ | apply Bel.drewN | apply Bel.drew | apply Bel.alloc | refine Bel.trans ?_ (by assumption)))) HS0.out) (fun b hb => Nat.lt_of_lt_of_le (HS0.out b hb) (Bel.size (by (repeat (first | assumption | exact Bel.refl _ | apply Bel.drewN | apply Bel.drew | apply Bel.alloc | refine Bel.trans ?_ (by assumption)))))) (by rw [rangeL_length]; omega)).mono ?_); rintro e wu ⟨dg, doff, dc, rfl, hd, gu⟩) | fail)
          have hBu : Bel WC wu := by (repeat (first | assumption | exact Bel.refl _ | apply Bel.drewN | apply Bel.drew | apply Bel.alloc | refine Bel.trans ?_ (by assumption)))
          have hO := hOC.bel litR_good hBu
          have hBw := hBC.trans hBu
          have hszu := hBu.size
          have HD := Lib.hid (show intsR (New WC wu) wu [.slice (some ⟨dg, doff, none⟩) (setL (difL (rangeL X.2.2.length) X2)).length dc] (setL (difL (rangeL X.2.2.length) X2)) from intsR_good.mono hd (fun b hb => ⟨by have h1 := (hb.resolve_left id).1; have h2 := (show Bel WC wt from by (repeat (first | assumption | exact Bel.refl _ | apply Bel.drewN | apply Bel.drew | apply Bel.alloc | refine Bel.trans ?_ (by assumption)))).size; omega, (hb.resolve_left id).2⟩))
          have HDM := Lib.hid (fun x (hx : x ∈ setL (difL (rangeL X.2.2.length) X2)) => dif_mem hx)
          have hDl := dif_le X.2.2.length X2
          clear hd
          generalize setL (difL (rangeL X.2.2.length) X2) = DD at *
          have HQD := Lib.hid (show ∀ a, qC = some a → a.block < wu.heap.size ∧ (a.block < WC.heap.size ∨ wu.heap.size ≤ a.block) from fun a ha => ⟨Nat.lt_of_lt_of_le (HQC.out a ha) hszu, .inl (HQC.out a ha)⟩)
          clear HQC HSC hOC
          go_wp2_with fail
          go_loopw [5, 67] (fun o i wr => ∃ (j : Nat) (zs : List LitT) (q1 : Option Addr) (c1 : Nat), j ≤ DD.length ∧ i = .int .i64 j ∧ o = .slice q1 zs.length c1 ∧ zs = ysC ++ (DD.take j).map (lit4 k) ∧ OwnE (fun _ => False) 3 litR 95 w1.heap.size wr q1 c1 zs ∧ (∀ a, q1 = some a → a.block < wr.heap.size ∧ (a.block < WC.heap.size ∨ wu.heap.size ≤ a.block)) ∧ Bel w1 wr ∧ wu.heap.size ≤ wr.heap.size ∧ intsR (New WC wu) wr [.slice (some ⟨dg, doff, none⟩) DD.length dc] DD) (fun _ i _ => DD.length - (intOf i).toNat)
          case atStart => exact ⟨0, ysC, _, _, Nat.zero_le _, rfl, rfl, by simp, hO, HQD.out, hBw, Nat.le_refl _, HD.out⟩
          case round =>
            clear hO
            obtain ⟨j, zs, q1, c1, hj, rfl, rfl, hzs, hO, hqa, hB2, hs2, hD2⟩ := hrel
            have HZS := Lib.hid hzs
            have HQ2 := Lib.hid hqa
            have HD2 := Lib.hid hD2
            have hzl : zs.length ≤ 1000 := by rw [hzs, List.length_append, List.length_map, List.length_take]; omega
            have hsz2 := hB2.size
            clear hzs hqa hD2
            by_cases hlj : j < DD.length
            · obtain ⟨b', off', e1, e2⟩ := intsR_at' HD2.out hlj
              obtain ⟨rfl, rfl⟩ : dg = b' ∧ doff = off' := by simpa [sliceAddr] using e1
              have hmem : DD.getD j 0 ∈ DD := by rw [List.getD_eq_getElem?_getD, List.getElem?_eq_getElem hlj, Option.getD_some]; exact List.getElem_mem hlj
              have hMb := HDM.out _ hmem
              have HSN := Lib.hid (show zs ++ [lit4 k (DD.getD j 0)] = ysC ++ (DD.take (j + 1)).map (lit4 k) from by rw [HZS.out, take_next hlj, List.map_append, List.append_assoc]; rfl)
              have hji : (j : Int) < (DD.length : Int) := by omega
              clear hmem e1
              generalize DD.getD j 0 = M at *
              have HSN := Lib.hid (show zs ++ [(4, ((k : Nat) : Int), M)] = ysC ++ (DD.take (j + 1)).map (lit4 k) from HSN.out)
              go_wp2_with ((at_builtin; refine wpList_appE2 (n := 3) litR_good _ rfl _ _ 54 rfl (.agg #[.int .i64 0, .int .i64 0, .int .i64 0]) 24 Tryz.underlying54 (by kernel_rfl) rfl (by decide) (by decide) q1 c1 zs ((4, ((k : Nat) : Int), M)) rfl (hO.bel litR_good (by (repeat (first | assumption | exact Bel.refl _ | apply Bel.drewN | apply Bel.drew | apply Bel.alloc | refine Bel.trans ?_ (by assumption))))) _ 1 [.int .i64 (4), .int .i64 (((k : Nat) : Int)), .int .i64 (M)] rfl rfl (World.news_of_block (alloc_at (by simp))) (by intro u hu; simp at hu; rcases hu with rfl | rfl | rfl <;> rfl) (lit_rep (by unfold I64; omega) (by unfold I64; omega) (by unfold I64; omega)) (by omega) (by first | omega | (simp; omega)) ?_; intro q' cap' w' hO' hBW hsz' hOT'))
              have HB := Lib.hid (hBW w1 (by (repeat (first | assumption | exact Bel.refl _ | apply Bel.drewN | apply Bel.drew | apply Bel.alloc | refine Bel.trans ?_ (by assumption)))) (Nat.le_refl _))
              have HDN := Lib.hid (show intsR (New WC wu) w' [.slice (some ⟨dg, doff, none⟩) DD.length dc] DD from by
                refine intsR_good.stay (intsR_good.bel HD2.out (w' := wr.alloc _) (by (repeat (first | assumption | exact Bel.refl _ | apply Bel.drewN | apply Bel.drew | apply Bel.alloc | refine Bel.trans ?_ (by assumption)))) (fun b hb => Nat.lt_of_lt_of_le hb.2 hs2)) fun b hb => (hOT'.1 b (by have := hb.2; simp; omega) (fun a ha hh => ?_)).1
                have h1 := (HQ2.out a ha).2
                have h2 := hb.1
                have h3 := hb.2
                omega)
              have HQN := Lib.hid (show ∀ a, q' = some a → a.block < w'.heap.size ∧ (a.block < WC.heap.size ∨ wu.heap.size ≤ a.block) from fun a ha => ⟨hOT'.2 a ha, by
                rcases Nat.lt_or_ge a.block WC.heap.size with h | h
                · exact .inl h
                · rcases Nat.lt_or_ge a.block wu.heap.size with h' | h'
                  · exact absurd rfl ((hOT'.1 a.block (by simp; omega) (fun a' ha' hh => by
                      have h1 := (HQ2.out a' ha').2
                      omega)).2 a ha)
                  · exact .inr h'⟩)
              have HSZ := Lib.hid (show wu.heap.size ≤ w'.heap.size from by simp at hsz'; omega)
              clear hBW hsz' hOT'
              go_roundw
              case rel => exact ⟨j + 1, zs ++ [(4, ((k : Nat) : Int), M)], q', cap', by omega, by go_num, by simp, HSN.out, hO', HQN.out, HB.out, HSZ.out, HDN.out⟩
              case measure => simp [intOf]; omega
            · obtain rfl : j = DD.length := by omega
              have HEND := Lib.hid (show zs = dlTo p (ls, us, ms) (k + 1) from by rw [HZS.out, List.take_length, HYC.out, ← HDT.out])
              have HQE := Lib.hid (show ∀ a, q1 = some a → a.block < wr.heap.size from fun a ha => (HQ2.out a ha).1)
              go_wp2_with fail
              go_roundw
              case rel => exact ⟨k + 1, zs, q1, c1, by omega, by go_num, rfl, HEND.out, hO, HQE.out, hB2⟩
              case measure => simp [intOf]; omega
        · have HYC := Lib.hid (show ysB = dlTo p (ls, us, ms) k ++ (if 0 < X0 then [(1, ((k : Nat) : Int), X0)] else ([] : List LitT)) ++ (if X1 < p.1 - 1 then [(2, ((k : Nat) : Int), X1)] else ([] : List LitT)) from by rw [HYB.out, if_neg h2, List.append_nil])
          go_region_held3 (fun W => W.cell? ⟨w.heap.size, 0, none⟩ = some (.int .i64 p.1) ∧ W.cell? ⟨w.heap.size, 1, none⟩ = some (.slice (some ⟨ab, ao, none⟩) p.2.1.length k1) ∧ W.cell? ⟨w.heap.size, 2, none⟩ = some (.slice p2 p.2.2.1.length k2) ∧ W.cell? ⟨w.heap.size, 3, none⟩ = some (.slice p3 p.2.2.2.1.length k3) ∧ W.cell? ⟨w.heap.size, 4, none⟩ = some (.slice p4 p.2.2.2.2.length k4) ∧ W.cell? ⟨w.heap.size + 1, 0, none⟩ = some (.slice (some ⟨lb, lo, none⟩) ls.length cap00) ∧ W.cell? ⟨w.heap.size + 1, 1, none⟩ = some (.slice (some ⟨ub, uo, none⟩) us.length cap01) ∧ W.cell? ⟨w.heap.size + 1, 2, none⟩ = some (.slice (some ⟨mb, mo, none⟩) ms.length cap02) ∧ W.cell? ⟨ub, uo + k, none⟩ = some (.int .i64 X1)) (exact HS9.out _ (by (repeat (first | assumption | exact Bel.refl _ | apply Bel.drewN | apply Bel.drew | apply Bel.alloc | refine Bel.trans ?_ (by assumption))))) (fail)
          go_upto_region 11 with (fail)
          clear b0 b1 b2 b3 b4 f0 f1 f2 ud
          obtain ⟨WC, hWC⟩ : ∃ W, W = WB.drew := ⟨_, rfl⟩
          have hBD : Bel WB WC := by rw [hWC]; exact (Bel.refl WB).drew
          have hlaC : WC.heap[la]? = some (.cells #[.string X.1, .int .i64 X.2.1, .slice am X.2.2.length amk] 93) := by rw [hWC]; exact hlaB
          have HQC := Lib.hid (show ∀ a, qB = some a → a.block < WC.heap.size from fun a ha => Nat.lt_of_lt_of_le (HQB.out a ha).1 hBD.size)
          rw [← hWC]
          clear hWC hlaB HQB
          have hOC := hOB.bel litR_good hBD
          have hBC := hBB.trans hBD
          obtain ⟨ysC, hysC⟩ : ∃ y, y = ysB := ⟨ysB, rfl⟩
          subst hysC
          obtain ⟨qC, hqC⟩ : ∃ q, q = qB := ⟨qB, rfl⟩
          subst hqC
          have hylC : ysC.length ≤ 900 := by omega
          subst hla
          have HSC := Lib.hid (show ∀ W, Bel WC W → W.cell? ⟨w.heap.size, 0, none⟩ = some (.int .i64 p.1) ∧ W.cell? ⟨w.heap.size, 1, none⟩ = some (.slice (some ⟨ab, ao, none⟩) p.2.1.length k1) ∧ W.cell? ⟨w.heap.size, 2, none⟩ = some (.slice p2 p.2.2.1.length k2) ∧ W.cell? ⟨w.heap.size, 3, none⟩ = some (.slice p3 p.2.2.2.1.length k3) ∧ W.cell? ⟨w.heap.size, 4, none⟩ = some (.slice p4 p.2.2.2.2.length k4) ∧ W.cell? ⟨w.heap.size + 1, 0, none⟩ = some (.slice (some ⟨lb, lo, none⟩) ls.length cap00) ∧ W.cell? ⟨w.heap.size + 1, 1, none⟩ = some (.slice (some ⟨ub, uo, none⟩) us.length cap01) ∧ W.cell? ⟨w.heap.size + 1, 2, none⟩ = some (.slice (some ⟨mb, mo, none⟩) ms.length cap02) ∧ W.cell? ⟨mb, mo + k, none⟩ = some (.slice mp X2.length mc) ∧ W.cell? ⟨wr.heap.size, 0, none⟩ = some (.string X.1) ∧ W.cell? ⟨wr.heap.size, 1, none⟩ = some (.int .i64 X.2.1) ∧ W.cell? ⟨wr.heap.size, 2, none⟩ = some (.slice am X.2.2.length amk) from fun W hW => by
            obtain ⟨b0, b1, b2, b3, b4, f0, f1, f2⟩ := HBX.out W (hBC.trans hW)
            exact ⟨b0, b1, b2, b3, b4, f0, f1, f2, HMD.out W (hBC.trans hW), hW.cell (cells_of hlaC rfl), hW.cell (cells_of hlaC rfl), hW.cell (cells_of hlaC rfl)⟩)
          have GC := G.trans hBC
          clear hlaC
          go_region_held3 (fun W => W.cell? ⟨w.heap.size, 0, none⟩ = some (.int .i64 p.1) ∧ W.cell? ⟨w.heap.size, 1, none⟩ = some (.slice (some ⟨ab, ao, none⟩) p.2.1.length k1) ∧ W.cell? ⟨w.heap.size, 2, none⟩ = some (.slice p2 p.2.2.1.length k2) ∧ W.cell? ⟨w.heap.size, 3, none⟩ = some (.slice p3 p.2.2.2.1.length k3) ∧ W.cell? ⟨w.heap.size, 4, none⟩ = some (.slice p4 p.2.2.2.2.length k4) ∧ W.cell? ⟨w.heap.size + 1, 0, none⟩ = some (.slice (some ⟨lb, lo, none⟩) ls.length cap00) ∧ W.cell? ⟨w.heap.size + 1, 1, none⟩ = some (.slice (some ⟨ub, uo, none⟩) us.length cap01) ∧ W.cell? ⟨w.heap.size + 1, 2, none⟩ = some (.slice (some ⟨mb, mo, none⟩) ms.length cap02) ∧ W.cell? ⟨mb, mo + k, none⟩ = some (.slice mp X2.length mc) ∧ W.cell? ⟨wr.heap.size, 0, none⟩ = some (.string X.1) ∧ W.cell? ⟨wr.heap.size, 1, none⟩ = some (.int .i64 X.2.1) ∧ W.cell? ⟨wr.heap.size, 2, none⟩ = some (.slice am X.2.2.length amk)) (exact HSC.out _ (by (repeat (first | assumption | exact Bel.refl _ | apply Bel.drewN | apply Bel.drew | apply Bel.alloc | refine Bel.trans ?_ (by assumption)))))
            (first | (go_at_call 70; (with_reducible refine (iModeIndexes_any _ X S _ (aggR_mk (actR_good.bel HEL.out (by (repeat (first | assumption | exact Bel.refl _ | apply Bel.drewN | apply Bel.drew | apply Bel.alloc | refine Bel.trans ?_ (by assumption)))) HS.out)) (by omega)).mono ?_); rintro e wt ⟨vm, rfl, hr, gt⟩; have HRG := Lib.hid hr; obtain ⟨rp, rk, rfl, -⟩ := sliceR_open hr; clear hr) | (go_at_call 69; (with_reducible refine (iSetDifference_any _ _ (rangeL X.2.2.length) X2 _ S0 _ HRG.out (fun b hb => new_lt hb) (intsR_good.bel HRW.out (by (repeat (first | assumption | exact Bel.refl _ | apply Bel.drewN | apply Bel.drew | apply Bel.alloc | refine Bel.trans ?_ (by assumption)))) HS0.out) (fun b hb => Nat.lt_of_lt_of_le (HS0.out b hb) (Bel.size (by (repeat (first | assumption | exact Bel.refl _ | apply Bel.drewN | apply Bel.drew | apply Bel.alloc | refine Bel.trans ?_ (by assumption)))))) (by rw [rangeL_length]; omega)).mono ?_); rintro e wu ⟨dg, doff, dc, rfl, hd, gu⟩) | fail)
          have hBu : Bel WC wu := by (repeat (first | assumption | exact Bel.refl _ | apply Bel.drewN | apply Bel.drew | apply Bel.alloc | refine Bel.trans ?_ (by assumption)))
          have hO := hOC.bel litR_good hBu
          have hBw := hBC.trans hBu
          have hszu := hBu.size
          have HD := Lib.hid (show intsR (New WC wu) wu [.slice (some ⟨dg, doff, none⟩) (setL (difL (rangeL X.2.2.length) X2)).length dc] (setL (difL (rangeL X.2.2.length) X2)) from intsR_good.mono hd (fun b hb => ⟨by have h1 := (hb.resolve_left id).1; have h2 := (show Bel WC wt from by (repeat (first | assumption | exact Bel.refl _ | apply Bel.drewN | apply Bel.drew | apply Bel.alloc | refine Bel.trans ?_ (by assumption)))).size; omega, (hb.resolve_left id).2⟩))
          have HDM := Lib.hid (fun x (hx : x ∈ setL (difL (rangeL X.2.2.length) X2)) => dif_mem hx)
          have hDl := dif_le X.2.2.length X2
          clear hd
          generalize setL (difL (rangeL X.2.2.length) X2) = DD at *
          have HQD := Lib.hid (show ∀ a, qC = some a → a.block < wu.heap.size ∧ (a.block < WC.heap.size ∨ wu.heap.size ≤ a.block) from fun a ha => ⟨Nat.lt_of_lt_of_le (HQC.out a ha) hszu, .inl (HQC.out a ha)⟩)
          clear HQC HSC hOC
          go_wp2_with fail
          go_loopw [5, 67] (fun o i wr => ∃ (j : Nat) (zs : List LitT) (q1 : Option Addr) (c1 : Nat), j ≤ DD.length ∧ i = .int .i64 j ∧ o = .slice q1 zs.length c1 ∧ zs = ysC ++ (DD.take j).map (lit4 k) ∧ OwnE (fun _ => False) 3 litR 95 w1.heap.size wr q1 c1 zs ∧ (∀ a, q1 = some a → a.block < wr.heap.size ∧ (a.block < WC.heap.size ∨ wu.heap.size ≤ a.block)) ∧ Bel w1 wr ∧ wu.heap.size ≤ wr.heap.size ∧ intsR (New WC wu) wr [.slice (some ⟨dg, doff, none⟩) DD.length dc] DD) (fun _ i _ => DD.length - (intOf i).toNat)
          case atStart => exact ⟨0, ysC, _, _, Nat.zero_le _, rfl, rfl, by simp, hO, HQD.out, hBw, Nat.le_refl _, HD.out⟩
          case round =>
            clear hO
            obtain ⟨j, zs, q1, c1, hj, rfl, rfl, hzs, hO, hqa, hB2, hs2, hD2⟩ := hrel
            have HZS := Lib.hid hzs
            have HQ2 := Lib.hid hqa
            have HD2 := Lib.hid hD2
            have hzl : zs.length ≤ 1000 := by rw [hzs, List.length_append, List.length_map, List.length_take]; omega
            have hsz2 := hB2.size
            clear hzs hqa hD2
            by_cases hlj : j < DD.length
            · obtain ⟨b', off', e1, e2⟩ := intsR_at' HD2.out hlj
              obtain ⟨rfl, rfl⟩ : dg = b' ∧ doff = off' := by simpa [sliceAddr] using e1
              have hmem : DD.getD j 0 ∈ DD := by rw [List.getD_eq_getElem?_getD, List.getElem?_eq_getElem hlj, Option.getD_some]; exact List.getElem_mem hlj
              have hMb := HDM.out _ hmem
              have HSN := Lib.hid (show zs ++ [lit4 k (DD.getD j 0)] = ysC ++ (DD.take (j + 1)).map (lit4 k) from by rw [HZS.out, take_next hlj, List.map_append, List.append_assoc]; rfl)
              have hji : (j : Int) < (DD.length : Int) := by omega
              clear hmem e1
              generalize DD.getD j 0 = M at *
              have HSN := Lib.hid (show zs ++ [(4, ((k : Nat) : Int), M)] = ysC ++ (DD.take (j + 1)).map (lit4 k) from HSN.out)
              go_wp2_with ((at_builtin; refine wpList_appE2 (n := 3) litR_good _ rfl _ _ 54 rfl (.agg #[.int .i64 0, .int .i64 0, .int .i64 0]) 24 Tryz.underlying54 (by kernel_rfl) rfl (by decide) (by decide) q1 c1 zs ((4, ((k : Nat) : Int), M)) rfl (hO.bel litR_good (by (repeat (first | assumption | exact Bel.refl _ | apply Bel.drewN | apply Bel.drew | apply Bel.alloc | refine Bel.trans ?_ (by assumption))))) _ 1 [.int .i64 (4), .int .i64 (((k : Nat) : Int)), .int .i64 (M)] rfl rfl (World.news_of_block (alloc_at (by simp))) (by intro u hu; simp at hu; rcases hu with rfl | rfl | rfl <;> rfl) (lit_rep (by unfold I64; omega) (by unfold I64; omega) (by unfold I64; omega)) (by omega) (by first | omega | (simp; omega)) ?_; intro q' cap' w' hO' hBW hsz' hOT'))
              have HB := Lib.hid (hBW w1 (by (repeat (first | assumption | exact Bel.refl _ | apply Bel.drewN | apply Bel.drew | apply Bel.alloc | refine Bel.trans ?_ (by assumption)))) (Nat.le_refl _))
              have HDN := Lib.hid (show intsR (New WC wu) w' [.slice (some ⟨dg, doff, none⟩) DD.length dc] DD from by
                refine intsR_good.stay (intsR_good.bel HD2.out (w' := wr.alloc _) (by (repeat (first | assumption | exact Bel.refl _ | apply Bel.drewN | apply Bel.drew | apply Bel.alloc | refine Bel.trans ?_ (by assumption)))) (fun b hb => Nat.lt_of_lt_of_le hb.2 hs2)) fun b hb => (hOT'.1 b (by have := hb.2; simp; omega) (fun a ha hh => ?_)).1
                have h1 := (HQ2.out a ha).2
                have h2 := hb.1
                have h3 := hb.2
                omega)
              have HQN := Lib.hid (show ∀ a, q' = some a → a.block < w'.heap.size ∧ (a.block < WC.heap.size ∨ wu.heap.size ≤ a.block) from fun a ha => ⟨hOT'.2 a ha, by
                rcases Nat.lt_or_ge a.block WC.heap.size with h | h
                · exact .inl h
                · rcases Nat.lt_or_ge a.block wu.heap.size with h' | h'
                  · exact absurd rfl ((hOT'.1 a.block (by simp; omega) (fun a' ha' hh => by
                      have h1 := (HQ2.out a' ha').2
                      omega)).2 a ha)
                  · exact .inr h'⟩)
              have HSZ := Lib.hid (show wu.heap.size ≤ w'.heap.size from by simp at hsz'; omega)
              clear hBW hsz' hOT'
              go_roundw
              case rel => exact ⟨j + 1, zs ++ [(4, ((k : Nat) : Int), M)], q', cap', by omega, by go_num, by simp, HSN.out, hO', HQN.out, HB.out, HSZ.out, HDN.out⟩
              case measure => simp [intOf]; omega
            · obtain rfl : j = DD.length := by omega
              have HEND := Lib.hid (show zs = dlTo p (ls, us, ms) (k + 1) from by rw [HZS.out, List.take_length, HYC.out, ← HDT.out])
              have HQE := Lib.hid (show ∀ a, q1 = some a → a.block < wr.heap.size from fun a ha => (HQ2.out a ha).1)
              go_wp2_with fail
              go_roundw
              case rel => exact ⟨k + 1, zs, q1, c1, by omega, by go_num, rfl, HEND.out, hO, HQE.out, hB2⟩
              case measure => simp [intOf]; omega
      · have HYB := Lib.hid (show ys = dlTo p (ls, us, ms) k ++ (if 0 < X0 then [(1, ((k : Nat) : Int), X0)] else ([] : List LitT)) from by rw [HYS.out, if_neg h1, List.append_nil])
        go_upto_region 9 with (fail)
        clear ab0 ab1 ab2 ab3 ab4 af0 af1 af2 ald b0 b1 b2 b3 b4 f0 f1 f2 ea0 ea1 ea2
        obtain ⟨WB, hWB⟩ : ∃ W, W = wr.alloc (.cells #[.string X.1, .int .i64 X.2.1, .slice am X.2.2.length amk] 93) := ⟨_, rfl⟩
        have hBD : Bel wr WB := by rw [hWB]; exact (Bel.refl wr).alloc _
        rw [← hWB] at hlaA ⊢
        have hlaS : la < WB.heap.size := by rw [hWB, hla]; simp
        clear hWB
        have hlaB := hlaA
        have HQB := Lib.hid (show ∀ a, q1 = some a → a.block < WB.heap.size ∧ a.block ≠ la from fun a ha => ⟨Nat.lt_of_lt_of_le (HQA.out a ha) hBD.size, fun hh => by have := HQA.out a ha; omega⟩)
        have hOB := hO.bel litR_good hBD
        have hBB := hB.trans hBD
        clear hlaA hO hBD
        obtain ⟨ysB, hysB⟩ : ∃ y, y = ys := ⟨ys, rfl⟩
        subst hysB
        obtain ⟨qB, hqB⟩ : ∃ q, q = q1 := ⟨q1, rfl⟩
        subst hqB
        obtain ⟨cB, hcB⟩ : ∃ q, q = c1 := ⟨c1, rfl⟩
        subst hcB
        have hylB : ysB.length ≤ 100 := by omega
        obtain ⟨b0, b1, b2, b3, b4, f0, f1, f2⟩ := HBX.out WB hBB
        have ud := HUD.out WB hBB
        have hszB := hBB.size
        by_cases h2 : X1 < p.1 - 1
        · have HYB2 := Lib.hid (show ysB ++ [(2, ((k : Nat) : Int), X1)] = dlTo p (ls, us, ms) k ++ (if 0 < X0 then [(1, ((k : Nat) : Int), X0)] else ([] : List LitT)) ++ (if X1 < p.1 - 1 then [(2, ((k : Nat) : Int), X1)] else ([] : List LitT)) from by rw [HYB.out, if_pos h2])
          go_region_held3 (fun W => W.cell? ⟨w.heap.size, 0, none⟩ = some (.int .i64 p.1) ∧ W.cell? ⟨w.heap.size, 1, none⟩ = some (.slice (some ⟨ab, ao, none⟩) p.2.1.length k1) ∧ W.cell? ⟨w.heap.size, 2, none⟩ = some (.slice p2 p.2.2.1.length k2) ∧ W.cell? ⟨w.heap.size, 3, none⟩ = some (.slice p3 p.2.2.2.1.length k3) ∧ W.cell? ⟨w.heap.size, 4, none⟩ = some (.slice p4 p.2.2.2.2.length k4) ∧ W.cell? ⟨w.heap.size + 1, 0, none⟩ = some (.slice (some ⟨lb, lo, none⟩) ls.length cap00) ∧ W.cell? ⟨w.heap.size + 1, 1, none⟩ = some (.slice (some ⟨ub, uo, none⟩) us.length cap01) ∧ W.cell? ⟨w.heap.size + 1, 2, none⟩ = some (.slice (some ⟨mb, mo, none⟩) ms.length cap02) ∧ W.cell? ⟨ub, uo + k, none⟩ = some (.int .i64 X1)) (exact HS9.out _ (by (repeat (first | assumption | exact Bel.refl _ | apply Bel.drewN | apply Bel.drew | apply Bel.alloc | refine Bel.trans ?_ (by assumption))))) (fail)
          go_upto_region 11 with ((at_builtin; refine wpList_appE2 (n := 3) litR_good _ rfl _ _ 54 rfl (.agg #[.int .i64 0, .int .i64 0, .int .i64 0]) 24 Tryz.underlying54 (by kernel_rfl) rfl (by decide) (by decide) qB cB ysB ((2, ((k : Nat) : Int), X1)) rfl (hOB.bel litR_good (by (repeat (first | assumption | exact Bel.refl _ | apply Bel.drewN | apply Bel.drew | apply Bel.alloc | refine Bel.trans ?_ (by assumption))))) _ 1 [.int .i64 (2), .int .i64 (((k : Nat) : Int)), .int .i64 (X1)] rfl rfl (World.news_of_block (alloc_at (by simp))) (by intro u hu; simp at hu; rcases hu with rfl | rfl | rfl <;> rfl) (lit_rep (by unfold I64; omega) (by unfold I64; omega) (by unfold I64; omega)) (by omega) (by first | omega | (simp; omega)) ?_; intro q' cap' w' hO' hBW hsz' hOT'))
          have hBC0 := hBW w1 (by (repeat (first | assumption | exact Bel.refl _ | apply Bel.drewN | apply Bel.drew | apply Bel.alloc | refine Bel.trans ?_ (by assumption)))) (Nat.le_refl _)
          have hlaC0 : w'.heap[la]? = some (.cells #[.string X.1, .int .i64 X.2.1, .slice am X.2.2.length amk] 93) := ((hOT'.1 la (by simp; omega) (fun a ha hh => (HQB.out a ha).2 hh.symm)).1).trans ((((Bel.refl WB).drew.alloc _).block hlaS).trans hlaB)
          have HQC := Lib.hid hOT'.2
          clear hBW hsz' hOT' b0 b1 b2 b3 b4 f0 f1 f2 ud
          obtain ⟨WC, hWC⟩ : ∃ W, W = w' := ⟨w', rfl⟩
          subst hWC
          obtain ⟨ysC, hysC⟩ : ∃ y, ysB ++ [(2, ((k : Nat) : Int), X1)] = y := ⟨_, rfl⟩
          rw [hysC] at hO' HYB2
          rw [show ysB.length + 1 = ysC.length from by rw [← hysC]; simp]
          have HYC := HYB2
          have hOC := hO'
          have hBC := hBC0
          have hlaC := hlaC0
          have hylC : ysC.length ≤ 900 := by rw [← hysC]; simp; omega
          clear hysC hO' hBC0 hlaC0 HYB2 hlaB HQB
          obtain ⟨qC, hqC⟩ : ∃ q, q = q' := ⟨q', rfl⟩
          subst hqC
          subst hla
          have HSC := Lib.hid (show ∀ W, Bel WC W → W.cell? ⟨w.heap.size, 0, none⟩ = some (.int .i64 p.1) ∧ W.cell? ⟨w.heap.size, 1, none⟩ = some (.slice (some ⟨ab, ao, none⟩) p.2.1.length k1) ∧ W.cell? ⟨w.heap.size, 2, none⟩ = some (.slice p2 p.2.2.1.length k2) ∧ W.cell? ⟨w.heap.size, 3, none⟩ = some (.slice p3 p.2.2.2.1.length k3) ∧ W.cell? ⟨w.heap.size, 4, none⟩ = some (.slice p4 p.2.2.2.2.length k4) ∧ W.cell? ⟨w.heap.size + 1, 0, none⟩ = some (.slice (some ⟨lb, lo, none⟩) ls.length cap00) ∧ W.cell? ⟨w.heap.size + 1, 1, none⟩ = some (.slice (some ⟨ub, uo, none⟩) us.length cap01) ∧ W.cell? ⟨w.heap.size + 1, 2, none⟩ = some (.slice (some ⟨mb, mo, none⟩) ms.length cap02) ∧ W.cell? ⟨mb, mo + k, none⟩ = some (.slice mp X2.length mc) ∧ W.cell? ⟨wr.heap.size, 0, none⟩ = some (.string X.1) ∧ W.cell? ⟨wr.heap.size, 1, none⟩ = some (.int .i64 X.2.1) ∧ W.cell? ⟨wr.heap.size, 2, none⟩ = some (.slice am X.2.2.length amk) from fun W hW => by
            obtain ⟨b0, b1, b2, b3, b4, f0, f1, f2⟩ := HBX.out W (hBC.trans hW)
            exact ⟨b0, b1, b2, b3, b4, f0, f1, f2, HMD.out W (hBC.trans hW), hW.cell (cells_of hlaC rfl), hW.cell (cells_of hlaC rfl), hW.cell (cells_of hlaC rfl)⟩)
          have GC := G.trans hBC
          clear hlaC
          go_region_held3 (fun W => W.cell? ⟨w.heap.size, 0, none⟩ = some (.int .i64 p.1) ∧ W.cell? ⟨w.heap.size, 1, none⟩ = some (.slice (some ⟨ab, ao, none⟩) p.2.1.length k1) ∧ W.cell? ⟨w.heap.size, 2, none⟩ = some (.slice p2 p.2.2.1.length k2) ∧ W.cell? ⟨w.heap.size, 3, none⟩ = some (.slice p3 p.2.2.2.1.length k3) ∧ W.cell? ⟨w.heap.size, 4, none⟩ = some (.slice p4 p.2.2.2.2.length k4) ∧ W.cell? ⟨w.heap.size + 1, 0, none⟩ = some (.slice (some ⟨lb, lo, none⟩) ls.length cap00) ∧ W.cell? ⟨w.heap.size + 1, 1, none⟩ = some (.slice (some ⟨ub, uo, none⟩) us.length cap01) ∧ W.cell? ⟨w.heap.size + 1, 2, none⟩ = some (.slice (some ⟨mb, mo, none⟩) ms.length cap02) ∧ W.cell? ⟨mb, mo + k, none⟩ = some (.slice mp X2.length mc) ∧ W.cell? ⟨wr.heap.size, 0, none⟩ = some (.string X.1) ∧ W.cell? ⟨wr.heap.size, 1, none⟩ = some (.int .i64 X.2.1) ∧ W.cell? ⟨wr.heap.size, 2, none⟩ = some (.slice am X.2.2.length amk)) (exact HSC.out _ (by (repeat (first | assumption | exact Bel.refl _ | apply Bel.drewN | apply Bel.drew | apply Bel.alloc | refine Bel.trans ?_ (by assumption)))))
            (first | (go_at_call 70; (with_reducible refine (iModeIndexes_any _ X S _ (aggR_mk (actR_good.bel HEL.out (by (repeat (first | assumption | exact Bel.refl _ | apply Bel.drewN | apply Bel.drew | apply Bel.alloc | refine Bel.trans ?_ (by assumption)))) HS.out)) (by omega)).mono ?_); rintro e wt ⟨vm, rfl, hr, gt⟩; have HRG := Lib.hid hr; obtain ⟨rp, rk, rfl, -⟩ := sliceR_open hr; clear hr) | (go_at_call 69; (with_reducible refine (iSetDifference_any _ _ (rangeL X.2.2.length) X2 _ S0 _ HRG.out (fun b hb => new_lt hb) (intsR_good.bel HRW.out (by (repeat (first | assumption | exact Bel.refl _ | apply Bel.drewN | apply Bel.drew | apply Bel.alloc | refine Bel.trans ?_ (by assumption)))) HS0.out) (fun b hb => Nat.lt_of_lt_of_le (HS0.out b hb) (Bel.size (by (repeat (first | assumption | exact Bel.refl _ | apply Bel.drewN | apply Bel.drew | apply Bel.alloc | refine Bel.trans ?_ (by assumption)))))) (by rw [rangeL_length]; omega)).mono ?_); rintro e wu ⟨dg, doff, dc, rfl, hd, gu⟩) | fail)
          have hBu : Bel WC wu := by (repeat (first | assumption | exact Bel.refl _ | apply Bel.drewN | apply Bel.drew | apply Bel.alloc | refine Bel.trans ?_ (by assumption)))
          have hO := hOC.bel litR_good hBu
          have hBw := hBC.trans hBu
          have hszu := hBu.size
          have HD := Lib.hid (show intsR (New WC wu) wu [.slice (some ⟨dg, doff, none⟩) (setL (difL (rangeL X.2.2.length) X2)).length dc] (setL (difL (rangeL X.2.2.length) X2)) from intsR_good.mono hd (fun b hb => ⟨by have h1 := (hb.resolve_left id).1; have h2 := (show Bel WC wt from by (repeat (first | assumption | exact Bel.refl _ | apply Bel.drewN | apply Bel.drew | apply Bel.alloc | refine Bel.trans ?_ (by assumption)))).size; omega, (hb.resolve_left id).2⟩))
          have HDM := Lib.hid (fun x (hx : x ∈ setL (difL (rangeL X.2.2.length) X2)) => dif_mem hx)
          have hDl := dif_le X.2.2.length X2
          clear hd
          generalize setL (difL (rangeL X.2.2.length) X2) = DD at *
          have HQD := Lib.hid (show ∀ a, qC = some a → a.block < wu.heap.size ∧ (a.block < WC.heap.size ∨ wu.heap.size ≤ a.block) from fun a ha => ⟨Nat.lt_of_lt_of_le (HQC.out a ha) hszu, .inl (HQC.out a ha)⟩)
          clear HQC HSC hOC
          go_wp2_with fail
          go_loopw [5, 67] (fun o i wr => ∃ (j : Nat) (zs : List LitT) (q1 : Option Addr) (c1 : Nat), j ≤ DD.length ∧ i = .int .i64 j ∧ o = .slice q1 zs.length c1 ∧ zs = ysC ++ (DD.take j).map (lit4 k) ∧ OwnE (fun _ => False) 3 litR 95 w1.heap.size wr q1 c1 zs ∧ (∀ a, q1 = some a → a.block < wr.heap.size ∧ (a.block < WC.heap.size ∨ wu.heap.size ≤ a.block)) ∧ Bel w1 wr ∧ wu.heap.size ≤ wr.heap.size ∧ intsR (New WC wu) wr [.slice (some ⟨dg, doff, none⟩) DD.length dc] DD) (fun _ i _ => DD.length - (intOf i).toNat)
          case atStart => exact ⟨0, ysC, _, _, Nat.zero_le _, rfl, rfl, by simp, hO, HQD.out, hBw, Nat.le_refl _, HD.out⟩
          case round =>
            clear hO
            obtain ⟨j, zs, q1, c1, hj, rfl, rfl, hzs, hO, hqa, hB2, hs2, hD2⟩ := hrel
            have HZS := Lib.hid hzs
            have HQ2 := Lib.hid hqa
            have HD2 := Lib.hid hD2
            have hzl : zs.length ≤ 1000 := by rw [hzs, List.length_append, List.length_map, List.length_take]; omega
            have hsz2 := hB2.size
            clear hzs hqa hD2
            by_cases hlj : j < DD.length
            · obtain ⟨b', off', e1, e2⟩ := intsR_at' HD2.out hlj
              obtain ⟨rfl, rfl⟩ : dg = b' ∧ doff = off' := by simpa [sliceAddr] using e1
              have hmem : DD.getD j 0 ∈ DD := by rw [List.getD_eq_getElem?_getD, List.getElem?_eq_getElem hlj, Option.getD_some]; exact List.getElem_mem hlj
              have hMb := HDM.out _ hmem
              have HSN := Lib.hid (show zs ++ [lit4 k (DD.getD j 0)] = ysC ++ (DD.take (j + 1)).map (lit4 k) from by rw [HZS.out, take_next hlj, List.map_append, List.append_assoc]; rfl)
              have hji : (j : Int) < (DD.length : Int) := by omega
              clear hmem e1
              generalize DD.getD j 0 = M at *
              have HSN := Lib.hid (show zs ++ [(4, ((k : Nat) : Int), M)] = ysC ++ (DD.take (j + 1)).map (lit4 k) from HSN.out)
              go_wp2_with ((at_builtin; refine wpList_appE2 (n := 3) litR_good _ rfl _ _ 54 rfl (.agg #[.int .i64 0, .int .i64 0, .int .i64 0]) 24 Tryz.underlying54 (by kernel_rfl) rfl (by decide) (by decide) q1 c1 zs ((4, ((k : Nat) : Int), M)) rfl (hO.bel litR_good (by (repeat (first | assumption | exact Bel.refl _ | apply Bel.drewN | apply Bel.drew | apply Bel.alloc | refine Bel.trans ?_ (by assumption))))) _ 1 [.int .i64 (4), .int .i64 (((k : Nat) : Int)), .int .i64 (M)] rfl rfl (World.news_of_block (alloc_at (by simp))) (by intro u hu; simp at hu; rcases hu with rfl | rfl | rfl <;> rfl) (lit_rep (by unfold I64; omega) (by unfold I64; omega) (by unfold I64; omega)) (by omega) (by first | omega | (simp; omega)) ?_; intro q' cap' w' hO' hBW hsz' hOT'))
              have HB := Lib.hid (hBW w1 (by (repeat (first | assumption | exact Bel.refl _ | apply Bel.drewN | apply Bel.drew | apply Bel.alloc | refine Bel.trans ?_ (by assumption)))) (Nat.le_refl _))
              have HDN := Lib.hid (show intsR (New WC wu) w' [.slice (some ⟨dg, doff, none⟩) DD.length dc] DD from by
                refine intsR_good.stay (intsR_good.bel HD2.out (w' := wr.alloc _) (by (repeat (first | assumption | exact Bel.refl _ | apply Bel.drewN | apply Bel.drew | apply Bel.alloc | refine Bel.trans ?_ (by assumption)))) (fun b hb => Nat.lt_of_lt_of_le hb.2 hs2)) fun b hb => (hOT'.1 b (by have := hb.2; simp; omega) (fun a ha hh => ?_)).1
                have h1 := (HQ2.out a ha).2
                have h2 := hb.1
                have h3 := hb.2
                omega)
              have HQN := Lib.hid (show ∀ a, q' = some a → a.block < w'.heap.size ∧ (a.block < WC.heap.size ∨ wu.heap.size ≤ a.block) from fun a ha => ⟨hOT'.2 a ha, by
                rcases Nat.lt_or_ge a.block WC.heap.size with h | h
                · exact .inl h
                · rcases Nat.lt_or_ge a.block wu.heap.size with h' | h'
                  · exact absurd rfl ((hOT'.1 a.block (by simp; omega) (fun a' ha' hh => by
                      have h1 := (HQ2.out a' ha').2
                      omega)).2 a ha)
                  · exact .inr h'⟩)
              have HSZ := Lib.hid (show wu.heap.size ≤ w'.heap.size from by simp at hsz'; omega)
              clear hBW hsz' hOT'
              go_roundw
              case rel => exact ⟨j + 1, zs ++ [(4, ((k : Nat) : Int), M)], q', cap', by omega, by go_num, by simp, HSN.out, hO', HQN.out, HB.out, HSZ.out, HDN.out⟩
              case measure => simp [intOf]; omega
            · obtain rfl : j = DD.length := by omega
              have HEND := Lib.hid (show zs = dlTo p (ls, us, ms) (k + 1) from by rw [HZS.out, List.take_length, HYC.out, ← HDT.out])
              have HQE := Lib.hid (show ∀ a, q1 = some a → a.block < wr.heap.size from fun a ha => (HQ2.out a ha).1)
              go_wp2_with fail
              go_roundw
              case rel => exact ⟨k + 1, zs, q1, c1, by omega, by go_num, rfl, HEND.out, hO, HQE.out, hB2⟩
              case measure => simp [intOf]; omega
        · have HYC := Lib.hid (show ysB = dlTo p (ls, us, ms) k ++ (if 0 < X0 then [(1, ((k : Nat) : Int), X0)] else ([] : List LitT)) ++ (if X1 < p.1 - 1 then [(2, ((k : Nat) : Int), X1)] else ([] : List LitT)) from by rw [HYB.out, if_neg h2, List.append_nil])
          go_region_held3 (fun W => W.cell? ⟨w.heap.size, 0, none⟩ = some (.int .i64 p.1) ∧ W.cell? ⟨w.heap.size, 1, none⟩ = some (.slice (some ⟨ab, ao, none⟩) p.2.1.length k1) ∧ W.cell? ⟨w.heap.size, 2, none⟩ = some (.slice p2 p.2.2.1.length k2) ∧ W.cell? ⟨w.heap.size, 3, none⟩ = some (.slice p3 p.2.2.2.1.length k3) ∧ W.cell? ⟨w.heap.size, 4, none⟩ = some (.slice p4 p.2.2.2.2.length k4) ∧ W.cell? ⟨w.heap.size + 1, 0, none⟩ = some (.slice (some ⟨lb, lo, none⟩) ls.length cap00) ∧ W.cell? ⟨w.heap.size + 1, 1, none⟩ = some (.slice (some ⟨ub, uo, none⟩) us.length cap01) ∧ W.cell? ⟨w.heap.size + 1, 2, none⟩ = some (.slice (some ⟨mb, mo, none⟩) ms.length cap02) ∧ W.cell? ⟨ub, uo + k, none⟩ = some (.int .i64 X1)) (exact HS9.out _ (by (repeat (first | assumption | exact Bel.refl _ | apply Bel.drewN | apply Bel.drew | apply Bel.alloc | refine Bel.trans ?_ (by assumption))))) (fail)
          go_upto_region 11 with (fail)
          clear b0 b1 b2 b3 b4 f0 f1 f2 ud
          obtain ⟨WC, hWC⟩ : ∃ W, W = WB.drew := ⟨_, rfl⟩
          have hBD : Bel WB WC := by rw [hWC]; exact (Bel.refl WB).drew
          have hlaC : WC.heap[la]? = some (.cells #[.string X.1, .int .i64 X.2.1, .slice am X.2.2.length amk] 93) := by rw [hWC]; exact hlaB
          have HQC := Lib.hid (show ∀ a, qB = some a → a.block < WC.heap.size from fun a ha => Nat.lt_of_lt_of_le (HQB.out a ha).1 hBD.size)
          rw [← hWC]
          clear hWC hlaB HQB
          have hOC := hOB.bel litR_good hBD
          have hBC := hBB.trans hBD
          obtain ⟨ysC, hysC⟩ : ∃ y, y = ysB := ⟨ysB, rfl⟩
          subst hysC
          obtain ⟨qC, hqC⟩ : ∃ q, q = qB := ⟨qB, rfl⟩
          subst hqC
          have hylC : ysC.length ≤ 900 := by omega
          subst hla
          have HSC := Lib.hid (show ∀ W, Bel WC W → W.cell? ⟨w.heap.size, 0, none⟩ = some (.int .i64 p.1) ∧ W.cell? ⟨w.heap.size, 1, none⟩ = some (.slice (some ⟨ab, ao, none⟩) p.2.1.length k1) ∧ W.cell? ⟨w.heap.size, 2, none⟩ = some (.slice p2 p.2.2.1.length k2) ∧ W.cell? ⟨w.heap.size, 3, none⟩ = some (.slice p3 p.2.2.2.1.length k3) ∧ W.cell? ⟨w.heap.size, 4, none⟩ = some (.slice p4 p.2.2.2.2.length k4) ∧ W.cell? ⟨w.heap.size + 1, 0, none⟩ = some (.slice (some ⟨lb, lo, none⟩) ls.length cap00) ∧ W.cell? ⟨w.heap.size + 1, 1, none⟩ = some (.slice (some ⟨ub, uo, none⟩) us.length cap01) ∧ W.cell? ⟨w.heap.size + 1, 2, none⟩ = some (.slice (some ⟨mb, mo, none⟩) ms.length cap02) ∧ W.cell? ⟨mb, mo + k, none⟩ = some (.slice mp X2.length mc) ∧ W.cell? ⟨wr.heap.size, 0, none⟩ = some (.string X.1) ∧ W.cell? ⟨wr.heap.size, 1, none⟩ = some (.int .i64 X.2.1) ∧ W.cell? ⟨wr.heap.size, 2, none⟩ = some (.slice am X.2.2.length amk) from fun W hW => by
            obtain ⟨b0, b1, b2, b3, b4, f0, f1, f2⟩ := HBX.out W (hBC.trans hW)
            exact ⟨b0, b1, b2, b3, b4, f0, f1, f2, HMD.out W (hBC.trans hW), hW.cell (cells_of hlaC rfl), hW.cell (cells_of hlaC rfl), hW.cell (cells_of hlaC rfl)⟩)
          have GC := G.trans hBC
          clear hlaC
          go_region_held3 (fun W => W.cell? ⟨w.heap.size, 0, none⟩ = some (.int .i64 p.1) ∧ W.cell? ⟨w.heap.size, 1, none⟩ = some (.slice (some ⟨ab, ao, none⟩) p.2.1.length k1) ∧ W.cell? ⟨w.heap.size, 2, none⟩ = some (.slice p2 p.2.2.1.length k2) ∧ W.cell? ⟨w.heap.size, 3, none⟩ = some (.slice p3 p.2.2.2.1.length k3) ∧ W.cell? ⟨w.heap.size, 4, none⟩ = some (.slice p4 p.2.2.2.2.length k4) ∧ W.cell? ⟨w.heap.size + 1, 0, none⟩ = some (.slice (some ⟨lb, lo, none⟩) ls.length cap00) ∧ W.cell? ⟨w.heap.size + 1, 1, none⟩ = some (.slice (some ⟨ub, uo, none⟩) us.length cap01) ∧ W.cell? ⟨w.heap.size + 1, 2, none⟩ = some (.slice (some ⟨mb, mo, none⟩) ms.length cap02) ∧ W.cell? ⟨mb, mo + k, none⟩ = some (.slice mp X2.length mc) ∧ W.cell? ⟨wr.heap.size, 0, none⟩ = some (.string X.1) ∧ W.cell? ⟨wr.heap.size, 1, none⟩ = some (.int .i64 X.2.1) ∧ W.cell? ⟨wr.heap.size, 2, none⟩ = some (.slice am X.2.2.length amk)) (exact HSC.out _ (by (repeat (first | assumption | exact Bel.refl _ | apply Bel.drewN | apply Bel.drew | apply Bel.alloc | refine Bel.trans ?_ (by assumption)))))
            (first | (go_at_call 70; (with_reducible refine (iModeIndexes_any _ X S _ (aggR_mk (actR_good.bel HEL.out (by (repeat (first | assumption | exact Bel.refl _ | apply Bel.drewN | apply Bel.drew | apply Bel.alloc | refine Bel.trans ?_ (by assumption)))) HS.out)) (by omega)).mono ?_); rintro e wt ⟨vm, rfl, hr, gt⟩; have HRG := Lib.hid hr; obtain ⟨rp, rk, rfl, -⟩ := sliceR_open hr; clear hr) | (go_at_call 69; (with_reducible refine (iSetDifference_any _ _ (rangeL X.2.2.length) X2 _ S0 _ HRG.out (fun b hb => new_lt hb) (intsR_good.bel HRW.out (by (repeat (first | assumption | exact Bel.refl _ | apply Bel.drewN | apply Bel.drew | apply Bel.alloc | refine Bel.trans ?_ (by assumption)))) HS0.out) (fun b hb => Nat.lt_of_lt_of_le (HS0.out b hb) (Bel.size (by (repeat (first | assumption | exact Bel.refl _ | apply Bel.drewN | apply Bel.drew | apply Bel.alloc | refine Bel.trans ?_ (by assumption)))))) (by rw [rangeL_length]; omega)).mono ?_); rintro e wu ⟨dg, doff, dc, rfl, hd, gu⟩) | fail)
          have hBu : Bel WC wu := by (repeat (first | assumption | exact Bel.refl _ | apply Bel.drewN | apply Bel.drew | apply Bel.alloc | refine Bel.trans ?_ (by assumption)))
          have hO := hOC.bel litR_good hBu
          have hBw := hBC.trans hBu
          have hszu := hBu.size
          have HD := Lib.hid (show intsR (New WC wu) wu [.slice (some ⟨dg, doff, none⟩) (setL (difL (rangeL X.2.2.length) X2)).length dc] (setL (difL (rangeL X.2.2.length) X2)) from intsR_good.mono hd (fun b hb => ⟨by have h1 := (hb.resolve_left id).1; have h2 := (show Bel WC wt from by (repeat (first | assumption | exact Bel.refl _ | apply Bel.drewN | apply Bel.drew | apply Bel.alloc | refine Bel.trans ?_ (by assumption)))).size; omega, (hb.resolve_left id).2⟩))
          have HDM := Lib.hid (fun x (hx : x ∈ setL (difL (rangeL X.2.2.length) X2)) => dif_mem hx)
          have hDl := dif_le X.2.2.length X2
          clear hd
          generalize setL (difL (rangeL X.2.2.length) X2) = DD at *
          have HQD := Lib.hid (show ∀ a, qC = some a → a.block < wu.heap.size ∧ (a.block < WC.heap.size ∨ wu.heap.size ≤ a.block) from fun a ha => ⟨Nat.lt_of_lt_of_le (HQC.out a ha) hszu, .inl (HQC.out a ha)⟩)
          clear HQC HSC hOC
          go_wp2_with fail
          go_loopw [5, 67] (fun o i wr => ∃ (j : Nat) (zs : List LitT) (q1 : Option Addr) (c1 : Nat), j ≤ DD.length ∧ i = .int .i64 j ∧ o = .slice q1 zs.length c1 ∧ zs = ysC ++ (DD.take j).map (lit4 k) ∧ OwnE (fun _ => False) 3 litR 95 w1.heap.size wr q1 c1 zs ∧ (∀ a, q1 = some a → a.block < wr.heap.size ∧ (a.block < WC.heap.size ∨ wu.heap.size ≤ a.block)) ∧ Bel w1 wr ∧ wu.heap.size ≤ wr.heap.size ∧ intsR (New WC wu) wr [.slice (some ⟨dg, doff, none⟩) DD.length dc] DD) (fun _ i _ => DD.length - (intOf i).toNat)
          case atStart => exact ⟨0, ysC, _, _, Nat.zero_le _, rfl, rfl, by simp, hO, HQD.out, hBw, Nat.le_refl _, HD.out⟩
          case round =>
            clear hO
            obtain ⟨j, zs, q1, c1, hj, rfl, rfl, hzs, hO, hqa, hB2, hs2, hD2⟩ := hrel
            have HZS := Lib.hid hzs
            have HQ2 := Lib.hid hqa
            have HD2 := Lib.hid hD2
            have hzl : zs.length ≤ 1000 := by rw [hzs, List.length_append, List.length_map, List.length_take]; omega
            have hsz2 := hB2.size
            clear hzs hqa hD2
            by_cases hlj : j < DD.length
            · obtain ⟨b', off', e1, e2⟩ := intsR_at' HD2.out hlj
              obtain ⟨rfl, rfl⟩ : dg = b' ∧ doff = off' := by simpa [sliceAddr] using e1
              have hmem : DD.getD j 0 ∈ DD := by rw [List.getD_eq_getElem?_getD, List.getElem?_eq_getElem hlj, Option.getD_some]; exact List.getElem_mem hlj
              have hMb := HDM.out _ hmem
              have HSN := Lib.hid (show zs ++ [lit4 k (DD.getD j 0)] = ysC ++ (DD.take (j + 1)).map (lit4 k) from by rw [HZS.out, take_next hlj, List.map_append, List.append_assoc]; rfl)
              have hji : (j : Int) < (DD.length : Int) := by omega
              clear hmem e1
              generalize DD.getD j 0 = M at *
              have HSN := Lib.hid (show zs ++ [(4, ((k : Nat) : Int), M)] = ysC ++ (DD.take (j + 1)).map (lit4 k) from HSN.out)
              go_wp2_with ((at_builtin; refine wpList_appE2 (n := 3) litR_good _ rfl _ _ 54 rfl (.agg #[.int .i64 0, .int .i64 0, .int .i64 0]) 24 Tryz.underlying54 (by kernel_rfl) rfl (by decide) (by decide) q1 c1 zs ((4, ((k : Nat) : Int), M)) rfl (hO.bel litR_good (by (repeat (first | assumption | exact Bel.refl _ | apply Bel.drewN | apply Bel.drew | apply Bel.alloc | refine Bel.trans ?_ (by assumption))))) _ 1 [.int .i64 (4), .int .i64 (((k : Nat) : Int)), .int .i64 (M)] rfl rfl (World.news_of_block (alloc_at (by simp))) (by intro u hu; simp at hu; rcases hu with rfl | rfl | rfl <;> rfl) (lit_rep (by unfold I64; omega) (by unfold I64; omega) (by unfold I64; omega)) (by omega) (by first | omega | (simp; omega)) ?_; intro q' cap' w' hO' hBW hsz' hOT'))
              have HB := Lib.hid (hBW w1 (by (repeat (first | assumption | exact Bel.refl _ | apply Bel.drewN | apply Bel.drew | apply Bel.alloc | refine Bel.trans ?_ (by assumption)))) (Nat.le_refl _))
              have HDN := Lib.hid (show intsR (New WC wu) w' [.slice (some ⟨dg, doff, none⟩) DD.length dc] DD from by
                refine intsR_good.stay (intsR_good.bel HD2.out (w' := wr.alloc _) (by (repeat (first | assumption | exact Bel.refl _ | apply Bel.drewN | apply Bel.drew | apply Bel.alloc | refine Bel.trans ?_ (by assumption)))) (fun b hb => Nat.lt_of_lt_of_le hb.2 hs2)) fun b hb => (hOT'.1 b (by have := hb.2; simp; omega) (fun a ha hh => ?_)).1
                have h1 := (HQ2.out a ha).2
                have h2 := hb.1
                have h3 := hb.2
                omega)
              have HQN := Lib.hid (show ∀ a, q' = some a → a.block < w'.heap.size ∧ (a.block < WC.heap.size ∨ wu.heap.size ≤ a.block) from fun a ha => ⟨hOT'.2 a ha, by
                rcases Nat.lt_or_ge a.block WC.heap.size with h | h
                · exact .inl h
                · rcases Nat.lt_or_ge a.block wu.heap.size with h' | h'
                  · exact absurd rfl ((hOT'.1 a.block (by simp; omega) (fun a' ha' hh => by
                      have h1 := (HQ2.out a' ha').2
                      omega)).2 a ha)
                  · exact .inr h'⟩)
              have HSZ := Lib.hid (show wu.heap.size ≤ w'.heap.size from by simp at hsz'; omega)
              clear hBW hsz' hOT'
              go_roundw
              case rel => exact ⟨j + 1, zs ++ [(4, ((k : Nat) : Int), M)], q', cap', by omega, by go_num, by simp, HSN.out, hO', HQN.out, HB.out, HSZ.out, HDN.out⟩
              case measure => simp [intOf]; omega
            · obtain rfl : j = DD.length := by omega
              have HEND := Lib.hid (show zs = dlTo p (ls, us, ms) (k + 1) from by rw [HZS.out, List.take_length, HYC.out, ← HDT.out])
              have HQE := Lib.hid (show ∀ a, q1 = some a → a.block < wr.heap.size from fun a ha => (HQ2.out a ha).1)
              go_wp2_with fail
              go_roundw
              case rel => exact ⟨k + 1, zs, q1, c1, by omega, by go_num, rfl, HEND.out, hO, HQE.out, hB2⟩
              case measure => simp [intOf]; omega
    · obtain rfl : k = p.2.1.length := by omega
      have HRES := Lib.hid (show litsR (New w wr) wr [.slice q1 ys.length c1] (dlV p (ls, us, ms)) from by
        rw [HVV.out, ← HYS.out]
        exact hO.done litR_good (fun _ hf => hf.elim) (fun b h1 h2 => ⟨by omega, h2⟩))
      clear hO
      go_wp2
      go_ret
      exact ⟨_, rfl, HRES.out, hB0⟩

end Go.Proofs.YthkcdmghchikjaaGreat
