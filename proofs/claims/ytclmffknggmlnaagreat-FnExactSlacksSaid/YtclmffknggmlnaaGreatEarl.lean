/- Earliest starts: the greatest of each column; both sides. -/
import Derived.Test.YtclmffknggmlnaaGreatDistM
namespace Go.Proofs.YtclmffknggmlnaaGreat
open Go.ChangeShapes Go.WideShapes Go.ChangeAt Go.RowKit
set_option linter.unusedVariables false

/-- Rows as many as columns. -/
def Sq (M : List (List Int)) : Prop := M.length ≤ 6 ∧ (∀ i, i < M.length → (M.getD i []).length = M.length) ∧ ∀ i k, i < M.length → k < M.length → -1000 ≤ (M.getD i []).getD k 0 ∧ (M.getD i []).getD k 0 ≤ 4608
theorem distV_sq (p : ProjT) : Sq (distV p) := by
  unfold distV
  split
  · next h =>
    have h1 := (projOk_bd h.1).2.1
    have hb := fun i k (hi : i < p.2.1.length) (hk : k < p.2.1.length) => distM_bd (netOf_fine h.1) ((netOf p).posF_none (netOf_fine h.1) h.2) (m := p.2.1.length) (i := i) (k := k) (Nat.le_refl _) hi hk
    refine ⟨by rw [rowsOf_length]; exact h1, fun i hi => ?_, fun i k hi hk => ?_⟩
    · rw [getD_get _ [] hi, rowsOf_at]; simp [rowsOf_length]
    · rw [getD_get _ [] hi, rowsOf_at]
      rw [rowsOf_length] at hi hk
      have := hb i k hi hk
      rw [getD_get _ 0 (by simp; exact hk)]
      simp only [List.getElem_map, List.getElem_range]
      omega
  · exact ⟨by simp, fun i hi => by simp at hi, fun i k hi => by simp at hi⟩
theorem mat_at {T : Nat → Prop} {w : World} {q : Option Addr} {c : Nat} {M : List (List Int)} (h : matR T w [.slice q M.length c] M) (hT : ∀ b, T b → b < w.heap.size) (hs : Sq M) (h0 : 0 < M.length) : ∃ o, q = some ⟨o, 0, none⟩ ∧ ∀ i, i < M.length → ∃ b off rc, ∀ W, Bel w W → W.cell? ⟨o, i, none⟩ = some (.slice (some ⟨b, off, none⟩) M.length rc) ∧ M.length ≤ rc ∧ rc ≤ 9223372036854775807 ∧ ∀ k, k < M.length → W.cell? ⟨b, off + k, none⟩ = some (.int .i64 ((M.getD i []).getD k 0)) := by
  obtain ⟨p, c', h1, _, _, h4⟩ := h
  rcases h4 with h4 | ⟨o, V, G, e1, e2, e3⟩
  · omega
  · obtain rfl : q = p := by simp at h1; exact h1.1
    refine ⟨o, e1, fun i hi => ?_⟩
    have hrow := e3.row i hi
    have hl := hs.2.1 i hi
    obtain ⟨rp, rc, hv, hr1, hr2, hr3⟩ := hrow
    obtain ⟨b, off, ecs, f1, f2, f3, f4, f5⟩ := hr3 0 (by omega)
    refine ⟨b, off, rc, fun W hW => ⟨?_, by omega, hr2, fun k hk => ?_⟩⟩
    · have := hW.cell (e3.slot i hi).1
      rw [this]
      have hv' : V i = .slice rp (M.getD i []).length rc := by simpa using hv
      rw [hv', f1, hl]
    · obtain ⟨b', off', ecs', g1, g2, g3, g4, g5⟩ := hr3 k (by omega)
      rw [f1] at g1
      obtain ⟨rfl, rfl⟩ : b = b' ∧ off = off' := by simpa using g1
      obtain rfl := g5.1
      have := (g4 0 (by simp)).1
      simp only [Nat.mul_one, Nat.add_zero, List.getElem_cons_zero] at this
      rw [hW.cell this, getD_get _ 0 (by omega)]
/-- The greatest of column k in the first rows, and 0. -/
def earlTo (M : List (List Int)) (k : Nat) : Nat → Int
  | 0 => 0
  | i + 1 => maxI (earlTo M k i) ((M.getD i []).getD k 0)
theorem earlTo_bd {M : List (List Int)} (hs : Sq M) {k : Nat} (hk : k < M.length) : ∀ i, i ≤ M.length → 0 ≤ earlTo M k i ∧ earlTo M k i ≤ 4608 := by
  intro i
  induction i with
  | zero => intro _; simp [earlTo]
  | succ i ih =>
    intro hi
    have h1 := ih (by omega)
    have h2 := hs.2.2 i k (by omega) hk
    simp only [earlTo, maxI_lt]
    split <;> omega
def earlM (M : List (List Int)) (k : Nat) : List Int := (List.range k).map fun j => earlTo M j M.length
theorem earlM_length (M : List (List Int)) (k : Nat) : (earlM M k).length = k := by simp [earlM]
theorem earlM_snoc (M : List (List Int)) (k : Nat) : earlM M (k + 1) = earlM M k ++ [earlTo M k M.length] := by simp [earlM, List.range_succ]
def earlV (p : ProjT) : List Int := earlM (distV p) (distV p).length
theorem earlV_len (p : ProjT) : (earlV p).length ≤ 1048576 := by
  unfold earlV; rw [earlM_length]
  have := (distV_sq p).1
  omega
set_option maxRecDepth 100000 in
set_option maxHeartbeats 1000000 in
theorem sEarliestStarts_any (v : Value) (p : ProjT) (S : Nat → Prop) (w : World) (hx : aggR projR S w v p) (hS : ∀ b, S b → b < w.heap.size) (_hn : bulkProject p ≤ 1048576) : Calls Tryz.prog 8 #[v] w (FreshV intsR w (earlV p)) := by
  obtain ⟨cs, rfl, hx⟩ := hx
  obtain ⟨c1, c2, c3, c4, rfl, q0, q1, q2, q3, q4⟩ := projR_open hx
  have Q1 := Lib.hid q1
  have Q2 := Lib.hid q2
  have Q3 := Lib.hid q3
  have Q4 := Lib.hid q4
  have HP := Lib.hid hx
  obtain ⟨p1, k1, rfl, l1, l1', -⟩ := sliceR_open q1
  obtain ⟨p2, k2, rfl, l2, l2', -⟩ := sliceR_open q2
  obtain ⟨p3, k3, rfl, l3, l3', -⟩ := sliceR_open q3
  obtain ⟨p4, k4, rfl, l4, l4', -⟩ := sliceR_open q4
  unfold maxLen at l1' l2' l3' l4'
  clear hx q0 q1 q2 q3 q4
  have HS := Lib.hid hS
  have HNB := Lib.hid _hn
  clear hS _hn
  have HP1 := Lib.hid (show ∀ W, Bel w W → aggR projR S W (.agg #[.int .i64 p.1, .slice p1 p.2.1.length k1, .slice p2 p.2.2.1.length k2, .slice p3 p.2.2.2.1.length k3, .slice p4 p.2.2.2.2.length k4]) p from fun W hW => aggR_mk (projR_good.bel HP.out hW HS.out))
  show Calls Tryz.prog 8 #[.agg #[.int .i64 p.1, .slice p1 p.2.1.length k1, .slice p2 p.2.2.1.length k2, .slice p3 p.2.2.2.1.length k3, .slice p4 p.2.2.2.2.length k4]] w _
  go_enter Tryz.func8, Tryz.ntmps8
  obtain ⟨W0, hW0, hwW⟩ : ∃ W0, W0 = w.alloc (.cells #[.int .i64 p.1, .slice p1 p.2.1.length k1, .slice p2 p.2.2.1.length k2, .slice p3 p.2.2.2.1.length k3, .slice p4 p.2.2.2.2.length k4] 34) ∧ Bel w W0 := ⟨_, rfl, (Bel.refl w).alloc _⟩
  go_wp2_with fail
  rw [← hW0]
  clear hW0
  refine (sDistances_mat _ p S _ (HP1.out _ (by (repeat (first | assumption | exact Bel.refl _ | apply Bel.drewN | apply Bel.drew | apply Bel.alloc | refine Bel.trans ?_ (by assumption))))) (fun b hb => Nat.lt_of_lt_of_le (HS.out b hb) (Bel.size (by (repeat (first | assumption | exact Bel.refl _ | apply Bel.drewN | apply Bel.drew | apply Bel.alloc | refine Bel.trans ?_ (by assumption)))))) HNB.out).mono ?_
  rintro e w1 ⟨vr, rfl, hr, g1⟩
  have G1 : Bel W0 w1 := by (repeat (first | assumption | exact Bel.refl _ | apply Bel.drewN | apply Bel.drew | apply Bel.alloc | refine Bel.trans ?_ (by assumption)))
  have G2 : Bel w w1 := hwW.trans G1
  have hsq := distV_sq p
  have HEV := Lib.hid (show earlV p = earlM (distV p) (distV p).length from rfl)
  obtain ⟨M, hM⟩ : ∃ M, distV p = M := ⟨_, rfl⟩
  rw [hM] at hr hsq HEV
  clear hM
  obtain ⟨q, c, rfl, hqc⟩ := matR_open hr
  have HSQ := Lib.hid hsq
  have HAT := Lib.hid (fun (h0 : 0 < M.length) => mat_at hr (fun b hb => hb.2) hsq h0)
  obtain ⟨q', c', hv', -, hcm, -⟩ := hr
  obtain ⟨rfl, rfl⟩ : q = q' ∧ c = c' := by simpa using hv'
  unfold maxLen at hcm
  have hM6 := hsq.1
  clear hsq
  have hO0 : Own (fun _ => False) 1 intR 3 w1.heap.size (w1.alloc (.cells #[] 3)) (some ⟨w1.heap.size, 0, none⟩) 0 [] := Own.empty (alloc_at rfl) (Nat.le_refl _)
  go_wp2_with fail
  go_loopw [4, 13] (fun o i wr => ∃ (k : Nat) (ys : List Int) (q1 : Option Addr) (c1 : Nat), k ≤ M.length ∧ i = .int .i64 k ∧ o = .slice q1 ys.length c1 ∧ ys = earlM M k ∧ Own (fun _ => False) 1 intR 3 w1.heap.size wr q1 c1 ys ∧ Bel w1 wr) (fun _ i _ => M.length - (intOf i).toNat)
  case atStart => exact ⟨0, [], _, _, Nat.zero_le _, rfl, rfl, rfl, hO0, by (repeat (first | assumption | exact Bel.refl _ | apply Bel.drewN | apply Bel.drew | apply Bel.alloc | refine Bel.trans ?_ (by assumption)))⟩
  case round =>
    clear hO0
    obtain ⟨k, ys, q1, c1, hk, rfl, rfl, hys, hO, hB⟩ := hrel
    have HYS := Lib.hid hys
    have hyl : ys.length ≤ 6 := by rw [hys, earlM_length]; omega
    clear hys
    by_cases hlt : k < M.length
    · obtain ⟨o, rfl, hat⟩ := HAT.out (by omega)
      have HROW := Lib.hid hat
      clear hat
      have hki : (k : Int) < (M.length : Int) := by omega
      obtain ⟨Wb, hWb⟩ : ∃ W, W = wr := ⟨wr, rfl⟩
      subst hWb
      go_wp2_with fail
      go_loopw [6, 18] (fun n i wr => ∃ j : Nat, j ≤ M.length ∧ i = .int .i64 j ∧ n = .int .i64 (earlTo M k j) ∧ Bel Wb wr) (fun _ i _ => M.length - (intOf i).toNat)
      case atStart => exact ⟨0, Nat.zero_le _, rfl, rfl, Bel.refl _⟩
      case round =>
        obtain ⟨j, hj, rfl, rfl, hB2⟩ := hrel
        have hB3 := hB.trans hB2
        by_cases hlj : j < M.length
        · obtain ⟨b, off, rc, hcell⟩ := HROW.out j hlj
          obtain ⟨s1, s2, s3, s4⟩ := hcell _ hB3
          have s5 := s4 k hlt
          clear hcell s4
          have hji : (j : Int) < (M.length : Int) := by omega
          have HE := Lib.hid (show maxI (earlTo M k j) ((M.getD j []).getD k 0) = earlTo M k (j + 1) from rfl)
          generalize (M.getD j []).getD k 0 = DV at *
          go_wp2_with fail
          refine (l02Max_any _ _ _).mono ?_
          rintro e wm ⟨rfl, rfl⟩
          rw [HE.out]
          go_wp2_with fail
          go_roundw
          case rel => exact ⟨j + 1, by omega, by go_num, rfl, hB2⟩
          case measure => simp [intOf]; omega
        · obtain rfl : j = M.length := by omega
          have hbd := earlTo_bd HSQ.out hlt M.length (Nat.le_refl _)
          have HSN := Lib.hid (show ys ++ [earlTo M k M.length] = earlM M (k + 1) from by rw [HYS.out, earlM_snoc])
          have hO := hO.bel intR_good hB2
          have hsz := hB3.size
          go_wp2_with ((at_builtin; refine wpList_app (n := 1) intR_good _ rfl _ _ 25 rfl (.int .i64 0) 8 Tryz.underlying25 (by kernel_rfl) rfl (by decide) (by decide) q1 c1 ys ((earlTo M k M.length)) rfl (hO.bel intR_good (by (repeat (first | assumption | exact Bel.refl _ | apply Bel.drewN | apply Bel.drew | apply Bel.alloc | refine Bel.trans ?_ (by assumption))))) _ 1 [.int .i64 (earlTo M k M.length)] rfl rfl (World.news_of_block (alloc_at (by simp))) (by intro u hu; simp at hu; subst hu; rfl) (intRep (by unfold I64; omega)) (by omega) (by first | omega | (simp; omega)) ?_; intro q' cap' w' hO' hBW hsz'))
          have HB := Lib.hid (hBW w1 (by (repeat (first | assumption | exact Bel.refl _ | apply Bel.drewN | apply Bel.drew | apply Bel.alloc | refine Bel.trans ?_ (by assumption)))) (Nat.le_refl _))
          clear hBW hsz'
          go_roundw
          case rel => exact ⟨k + 1, ys ++ [earlTo M k M.length], q', cap', by omega, by go_num, by simp, HSN.out, hO', HB.out⟩
          case measure => simp [intOf]; omega
    · obtain rfl : k = M.length := by omega
      have HRES := Lib.hid (show intsR (New w wr) wr [.slice q1 ys.length c1] (earlV p) from by
        rw [HEV.out, ← HYS.out]
        exact hO.done intR_good (fun _ hf => hf.elim) (fun b h1 h2 => ⟨by have := G2.size; omega, h2⟩))
      clear hO
      go_wp2
      go_ret
      exact ⟨_, rfl, HRES.out, G2.trans hB⟩

/-- The row in the middle of a round. -/
def earlS (M : List (List Int)) (i k a : Nat) : Int := if a < k then earlTo M a (i + 1) else earlTo M a i
theorem earlS_at (M : List (List Int)) (i k : Nat) : earlS M i k k = earlTo M k i := by unfold earlS; rw [if_neg (Nat.lt_irrefl _)]
theorem earlS_step {M : List (List Int)} {i k : Nat} {x : Int} (hx : x = maxI (earlTo M k i) ((M.getD i []).getD k 0)) (a : Nat) : (if a = k then Value.int .i64 x else Value.int .i64 (earlS M i k a)) = .int .i64 (earlS M i (k + 1) a) := by
  unfold earlS
  by_cases e : a = k
  · subst e; rw [if_pos rfl, if_pos (by omega), hx]; rfl
  · rw [if_neg e]
    by_cases e2 : a < k
    · rw [if_pos e2, if_pos (by omega)]
    · rw [if_neg e2, if_neg (by omega)]
theorem rowIs_bel {w w' : World} {b n : Nat} {t : TypeId} {f : Nat → Value} (h : w.rowIs b t n f) (hb : Bel w w') : w'.rowIs b t n f := h.of_block (hb.block h.lt)
theorem rowIs_ints {w : World} {b n c : Nat} {t : TypeId} {f : Nat → Int} {xs : List Int} {T : Nat → Prop} (h : w.rowIs b t n (fun a => .int .i64 (f a))) (hl : xs.length = n) (hx : ∀ a (ha : a < xs.length), xs[a] = f a) (hi : ∀ a, a < n → I64 (f a)) (hT : T b) (hc : n ≤ c ∧ c ≤ maxLen) : intsR T w [.slice (some ⟨b, 0, none⟩) n c] xs := by
  refine ⟨some ⟨b, 0, none⟩, c, by rw [hl], by rw [hl]; exact hc.1, hc.2, fun k hk => ?_⟩
  refine ⟨b, 0, [.int .i64 xs[k]], rfl, hT, rfl, fun j hj => ?_, rfl, by rw [hx k hk]; exact hi k (by omega)⟩
  obtain rfl : j = 0 := by simpa using hj
  have h1 := h.cell (i := k) (by omega)
  have h2 := h.frozen k
  rw [hx k hk]
  simpa using ⟨h1, h2⟩
set_option maxRecDepth 100000 in
set_option maxHeartbeats 1000000 in
theorem iEarliestStarts_any (v : Value) (p : ProjT) (S : Nat → Prop) (w : World) (hx : aggR projR S w v p) (hS : ∀ b, S b → b < w.heap.size) (_hn : bulkProject p ≤ 1048576) : Calls Tryz.prog 10 #[v] w (FreshV intsR w (earlV p)) := by
  have mk3 := fun n hb h63 W => run_make_row' (P := Tryz.prog) 25 3 (.int .i64 0) 8 Tryz.underlying25 (by kernel_rfl) rfl .i64 .i64 n hb h63 W
  obtain ⟨cs, rfl, hx⟩ := hx
  obtain ⟨c1, c2, c3, c4, rfl, q0, q1, q2, q3, q4⟩ := projR_open hx
  have Q1 := Lib.hid q1
  have Q2 := Lib.hid q2
  have Q3 := Lib.hid q3
  have Q4 := Lib.hid q4
  have HP := Lib.hid hx
  obtain ⟨p1, k1, rfl, l1, l1', -⟩ := sliceR_open q1
  obtain ⟨p2, k2, rfl, l2, l2', -⟩ := sliceR_open q2
  obtain ⟨p3, k3, rfl, l3, l3', -⟩ := sliceR_open q3
  obtain ⟨p4, k4, rfl, l4, l4', -⟩ := sliceR_open q4
  unfold maxLen at l1' l2' l3' l4'
  clear hx q0 q1 q2 q3 q4
  have HS := Lib.hid hS
  have HNB := Lib.hid _hn
  clear hS _hn
  have HP1 := Lib.hid (show ∀ W, Bel w W → aggR projR S W (.agg #[.int .i64 p.1, .slice p1 p.2.1.length k1, .slice p2 p.2.2.1.length k2, .slice p3 p.2.2.2.1.length k3, .slice p4 p.2.2.2.2.length k4]) p from fun W hW => aggR_mk (projR_good.bel HP.out hW HS.out))
  show Calls Tryz.prog 10 #[.agg #[.int .i64 p.1, .slice p1 p.2.1.length k1, .slice p2 p.2.2.1.length k2, .slice p3 p.2.2.2.1.length k3, .slice p4 p.2.2.2.2.length k4]] w _
  go_enter Tryz.func10, Tryz.ntmps10
  obtain ⟨W0, hW0, hwW⟩ : ∃ W0, W0 = w.alloc (.cells #[.int .i64 p.1, .slice p1 p.2.1.length k1, .slice p2 p.2.2.1.length k2, .slice p3 p.2.2.2.1.length k3, .slice p4 p.2.2.2.2.length k4] 34) ∧ Bel w W0 := ⟨_, rfl, (Bel.refl w).alloc _⟩
  go_wp2_with fail
  rw [← hW0]
  clear hW0
  refine (iDistances_mat _ p S _ (HP1.out _ (by (repeat (first | assumption | exact Bel.refl _ | apply Bel.drewN | apply Bel.drew | apply Bel.alloc | refine Bel.trans ?_ (by assumption))))) (fun b hb => Nat.lt_of_lt_of_le (HS.out b hb) (Bel.size (by (repeat (first | assumption | exact Bel.refl _ | apply Bel.drewN | apply Bel.drew | apply Bel.alloc | refine Bel.trans ?_ (by assumption)))))) HNB.out).mono ?_
  rintro e w1 ⟨vr, rfl, hr, g1⟩
  have G1 : Bel W0 w1 := by (repeat (first | assumption | exact Bel.refl _ | apply Bel.drewN | apply Bel.drew | apply Bel.alloc | refine Bel.trans ?_ (by assumption)))
  have G2 : Bel w w1 := hwW.trans G1
  have hsq := distV_sq p
  have HEV := Lib.hid (show earlV p = earlM (distV p) (distV p).length from rfl)
  obtain ⟨M, hM⟩ : ∃ M, distV p = M := ⟨_, rfl⟩
  rw [hM] at hr hsq HEV
  clear hM
  obtain ⟨q, c, rfl, hqc⟩ := matR_open hr
  have HSQ := Lib.hid hsq
  have HAT := Lib.hid (fun (h0 : 0 < M.length) => mat_at hr (fun b hb => hb.2) hsq h0)
  obtain ⟨q', c', hv', -, hcm, -⟩ := hr
  obtain ⟨rfl, rfl⟩ : q = q' ∧ c = c' := by simpa using hv'
  unfold maxLen at hcm
  have hM6 := hsq.1
  clear hsq
  have mk3 := mk3 M.length (by omega) (by omega)
  have hR0 : (w1.alloc (.cells (madeCells #[.int .i64 0] M.length) 3)).rowIs w1.heap.size 3 M.length (fun a => .int .i64 (earlTo M a 0)) := World.rowIs_made _ _ _ _
  go_wp2_with fail
  go_loopw [16] (fun i wr => ∃ i' : Nat, i' ≤ M.length ∧ i = .int .i64 i' ∧ wr.rowIs w1.heap.size 3 M.length (fun a => .int .i64 (earlTo M a i')) ∧ Bel w1 wr) (fun i _ => M.length - (intOf i).toNat)
  case atStart => exact ⟨0, Nat.zero_le _, rfl, hR0, by (repeat (first | assumption | exact Bel.refl _ | apply Bel.drewN | apply Bel.drew | apply Bel.alloc | refine Bel.trans ?_ (by assumption)))⟩
  case round =>
    clear hR0
    obtain ⟨i, hi, rfl, hR, hB⟩ := hrel
    have HR := Lib.hid hR
    clear hR
    by_cases hlt : i < M.length
    · obtain ⟨o, rfl, hat⟩ := HAT.out (by omega)
      obtain ⟨b, off, rc, hcell⟩ := hat i hlt
      have HCELL := Lib.hid hcell
      obtain ⟨s1, s2, s3, -⟩ := hcell _ hB
      clear hcell hat
      have hii : (i : Int) < (M.length : Int) := by omega
      obtain ⟨Wb, hWb⟩ : ∃ W, W = wr := ⟨wr, rfl⟩
      subst hWb
      have HR1 := Lib.hid (show Wb.rowIs w1.heap.size 3 M.length (fun a => .int .i64 (earlS M i 0 a)) from HR.out.congr fun a _ => by unfold earlS; rw [if_neg (Nat.not_lt_zero _)])
      go_wp2_with fail
      clear s1
      go_loopw [22] (fun j wr => ∃ k : Nat, k ≤ M.length ∧ j = .int .i64 k ∧ wr.rowIs w1.heap.size 3 M.length (fun a => .int .i64 (earlS M i k a)) ∧ Bel w1 wr) (fun j _ => M.length - (intOf j).toNat)
      case atStart => exact ⟨0, Nat.zero_le _, rfl, HR1.out, hB⟩
      case round =>
        obtain ⟨k, hk, rfl, hR2, hB2⟩ := hrel
        by_cases hlk : k < M.length
        · obtain ⟨-, -, -, s4⟩ := HCELL.out _ hB2
          have s5 := s4 k hlk
          clear s4
          have c1 := hR2.cell hlk
          have c2 := hR2.frozen k
          have HST := Lib.hid (fun (u : Value) => hR2.set k u)
          have HBS := Lib.hid (fun (u : Value) => hB2.set (p := ⟨w1.heap.size, k, none⟩) (Nat.le_refl _) u)
          rw [earlS_at] at c1
          have hki : (k : Int) < (M.length : Int) := by omega
          have HE := Lib.hid (show maxI (earlTo M k i) ((M.getD i []).getD k 0) = earlTo M k (i + 1) from rfl)
          have HSTEP := Lib.hid (fun (x : Int) (hx : x = maxI (earlTo M k i) ((M.getD i []).getD k 0)) => earlS_step hx)
          clear hR2
          generalize (M.getD i []).getD k 0 = DV at *
          generalize earlTo M k i = EK at *
          go_wp2
          exact ⟨⟨k + 1, by omega, by go_num, (HST.out _).congr (fun a _ => HSTEP.out _ (maxI_lt _ _).symm a), HBS.out _⟩, by simp [intOf]; omega⟩
        · obtain rfl : k = M.length := by omega
          have HNX := Lib.hid (hR2.congr (g := fun a => .int .i64 (earlTo M a (i + 1))) (fun a ha => by unfold earlS; rw [if_pos ha]))
          clear hR2
          go_wp2
          go_roundw
          case rel => exact ⟨i + 1, by omega, by go_num, HNX.out, hB2⟩
          case measure => simp [intOf]; omega
    · obtain rfl : i = M.length := by omega
      have HRES := Lib.hid (show intsR (New w wr) wr [.slice (some ⟨w1.heap.size, 0, none⟩) M.length M.length] (earlV p) from by
        rw [HEV.out]
        exact rowIs_ints HR.out (earlM_length _ _) (fun a ha => by simp [earlM]) (fun a ha => by have := earlTo_bd HSQ.out ha M.length (Nat.le_refl _); unfold I64; omega) ⟨G2.size, Nat.lt_of_lt_of_le HR.out.lt (Nat.le_refl _)⟩ ⟨Nat.le_refl _, by unfold maxLen; omega⟩)
      go_wp2
      go_ret
      exact ⟨_, rfl, HRES.out, G2.trans hB⟩

end Go.Proofs.YtclmffknggmlnaaGreat
