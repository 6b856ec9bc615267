/- Successors and Predecessors of the program; kept; Roots, both sides. -/
import Derived.Test.YtiaamddhocdhaaaSide
import Derived.Test.YtiaamddhocdhaaaApps
import Derived.Test.YtiaamddhocdhaaaSchFn
namespace Go.Proofs.Ytiaamddhocdhaaa
open Go.ChangeShapes Go.WideShapes Go.ChangeAt Go.RowKit
set_option linter.unusedVariables false

theorem own_some {α : Type} {S : Nat → Prop} {n : Nat} {R : RepT α} {e : TypeId} {B : Nat} {w : World} {p : Option Addr} {cap : Nat} {xs : List α} (h : Own S n R e B w p cap xs) (hx : xs ≠ []) : p ≠ none := by
  rcases h.cases with ⟨_, _, h1⟩ | ⟨g, cur, h1, _⟩
  · exact absurd h1 hx
  · rw [h1]; simp
set_option maxRecDepth 100000 in
set_option maxHeartbeats 2000000 in
theorem iSuccessors_any (v : Value) (p : ProjT) (S : Nat → Prop) (a : Int) (w : World) (hx : aggR projR S w v p) (hS : ∀ b, S b → b < w.heap.size) (_hn : bulkProject p ≤ 1048576) : Calls Try.prog 41 #[v, .int .i64 a] w (FreshV intsR w (sucV p a)) := by
  obtain ⟨cs, rfl, hx⟩ := hx
  obtain ⟨c1, c2, c3, c4, rfl, q0, q1, q2, q3, q4⟩ := projR_open hx
  have Q1 := Lib.hid q1
  have Q2 := Lib.hid q2
  have Q3 := Lib.hid q3
  have Q4 := Lib.hid q4
  have HP := Lib.hid hx
  obtain ⟨p1, k1, rfl, l1, l1', -⟩ := sliceR_open q1
  obtain ⟨p2, k2, rfl, l2, l2', -⟩ := sliceR_open q2
  obtain ⟨p3, k3, rfl, l3, l3', -⟩ := sliceR_open q3
  obtain ⟨p4, k4, rfl, l4, l4', -⟩ := sliceR_open q4
  unfold maxLen at l1' l2' l3' l4'
  clear hx q0 q1 q2 q3 q4
  have HS := Lib.hid hS
  have HNB := Lib.hid _hn
  clear hS _hn
  have HP1 := Lib.hid (show ∀ W, Bel w W → aggR projR S W (.agg #[.int .i64 p.1, .slice p1 p.2.1.length k1, .slice p2 p.2.2.1.length k2, .slice p3 p.2.2.2.1.length k3, .slice p4 p.2.2.2.2.length k4]) p from fun W hW => aggR_mk (projR_good.bel HP.out hW HS.out))
  show Calls Try.prog 41 #[.agg #[.int .i64 p.1, .slice p1 p.2.1.length k1, .slice p2 p.2.2.1.length k2, .slice p3 p.2.2.2.1.length k3, .slice p4 p.2.2.2.2.length k4], .int .i64 a] w _
  go_enter Try.func41, Try.ntmps41
  obtain ⟨W0, hW0, hwW, hsz0, hbx⟩ : ∃ W0, W0 = w.alloc (.cells #[.int .i64 p.1, .slice p1 p.2.1.length k1, .slice p2 p.2.2.1.length k2, .slice p3 p.2.2.2.1.length k3, .slice p4 p.2.2.2.2.length k4] 34) ∧ Bel w W0 ∧ W0.heap.size = w.heap.size + 1 ∧ W0.cell? ⟨w.heap.size, 0, none⟩ = some (.int .i64 p.1) ∧ W0.cell? ⟨w.heap.size, 1, none⟩ = some (.slice p1 p.2.1.length k1) ∧ W0.cell? ⟨w.heap.size, 2, none⟩ = some (.slice p2 p.2.2.1.length k2) ∧ W0.cell? ⟨w.heap.size, 3, none⟩ = some (.slice p3 p.2.2.2.1.length k3) ∧ W0.cell? ⟨w.heap.size, 4, none⟩ = some (.slice p4 p.2.2.2.2.length k4) := ⟨_, rfl, by (repeat (first | assumption | exact Bel.refl _ | apply Bel.drewN | apply Bel.drew | apply Bel.alloc | refine Bel.trans ?_ (by assumption))), by simp, by simp [go_sem], by simp [go_sem], by simp [go_sem], by simp [go_sem], by simp [go_sem]⟩
  have HBX := Lib.hid (show ∀ W, Bel W0 W → W.cell? ⟨w.heap.size, 0, none⟩ = some (.int .i64 p.1) ∧ W.cell? ⟨w.heap.size, 1, none⟩ = some (.slice p1 p.2.1.length k1) ∧ W.cell? ⟨w.heap.size, 2, none⟩ = some (.slice p2 p.2.2.1.length k2) ∧ W.cell? ⟨w.heap.size, 3, none⟩ = some (.slice p3 p.2.2.2.1.length k3) ∧ W.cell? ⟨w.heap.size, 4, none⟩ = some (.slice p4 p.2.2.2.2.length k4) from fun W hW => keep5 hbx hW)
  clear hbx
  have HSZ0 := Lib.hid hsz0
  clear hsz0
  go_wp2_with fail
  rw [← hW0]
  clear hW0
  refine (iProjectOk_any _ p S _ (HP1.out _ (by (repeat (first | assumption | exact Bel.refl _ | apply Bel.drewN | apply Bel.drew | apply Bel.alloc | refine Bel.trans ?_ (by assumption))))) (fun b hb => Nat.lt_of_lt_of_le (HS.out b hb) (Bel.size (by (repeat (first | assumption | exact Bel.refl _ | apply Bel.drewN | apply Bel.drew | apply Bel.alloc | refine Bel.trans ?_ (by assumption))))))).mono ?_
  rintro e w1 ⟨rfl, g1⟩
  have G1 : Bel W0 w1 := by (repeat (first | assumption | exact Bel.refl _ | apply Bel.drewN | apply Bel.drew | apply Bel.alloc | refine Bel.trans ?_ (by assumption)))
  have G2 : Bel w w1 := hwW.trans G1
  obtain ⟨b0, b1, b2, b3, b4⟩ := HBX.out w1 G1
  cases hp : projOk p
  · have HD := Lib.hid (show intsR (New w w1) w1 [.slice none 0 0] (sucV p a) from by unfold sucV nbrV; rw [if_neg (by rw [hp]; simp)]; exact ⟨none, 0, rfl, Nat.le_refl _, Nat.zero_le _, fun i h => by simp at h⟩)
    clear hp
    go_wp2
    go_ret
    exact ⟨_, rfl, HD.out, G2⟩
  have hbd := projOk_bd hp
  have HPO := Lib.hid hp
  have HVV := Lib.hid (fun (h : inB a 0 ((p.2.1.length : Int) - 1) = true) => show sucV p a = sideV p a false from if_pos ⟨hp, h⟩)
  have HVN := Lib.hid (fun (h : inB a 0 ((p.2.1.length : Int) - 1) = false) => show sucV p a = [] from if_neg (by rw [h]; simp))
  clear hp
  go_wp2_with fail
  refine (hasActivity_any _ _ _ _ _ _ _ (by omega) _ _).mono ?_
  rintro e w2 ⟨rfl, g2⟩
  have G3 : Bel w1 w2 := by (repeat (first | assumption | exact Bel.refl _ | apply Bel.drewN | apply Bel.drew | apply Bel.alloc | refine Bel.trans ?_ (by assumption)))
  have G4 := G1.trans G3
  have G5 := G2.trans G3
  clear b0 b1 b2 b3 b4
  obtain ⟨b0, b1, b2, b3, b4⟩ := HBX.out w2 G4
  cases ha : inB a 0 ((p.2.1.length : Int) - 1)
  · have HD := Lib.hid (show intsR (New w w2) w2 [.slice none 0 0] (sucV p a) from by rw [HVN.out ha]; exact ⟨none, 0, rfl, Nat.le_refl _, Nat.zero_le _, fun i h => by simp at h⟩)
    clear HVV HVN ha
    go_wp2
    go_ret
    exact ⟨_, rfl, HD.out, G5⟩
  have HVV := Lib.hid (HVV.out ha)
  clear HVN ha
  have hO0 : Own (fun _ => False) 1 intR 3 w2.heap.size (w2.alloc (.cells #[] 3)) (some ⟨w2.heap.size, 0, none⟩) 0 [] := Own.empty (alloc_at rfl) (Nat.le_refl _)
  have ab2 := fun o => ((Bel.refl w2).alloc o).cell b2
  go_wp2_with fail
  clear ab2 b0 b1 b2 b3 b4
  go_loopw [5, 21] (fun o i wr => ∃ (k : Nat) (ys : List Int) (q1 : Option Addr) (c1 : Nat), k ≤ p.2.2.1.length ∧ i = .int .i64 k ∧ o = .slice q1 ys.length c1 ∧ ys = sideTo p.2.2.1 a false k ∧ Own (fun _ => False) 1 intR 3 w2.heap.size wr q1 c1 ys ∧ q1 ≠ none ∧ Bel w2 wr) (fun _ i _ => p.2.2.1.length - (intOf i).toNat)
  case atStart => exact ⟨0, [], _, _, Nat.zero_le _, rfl, rfl, rfl, hO0, by simp, by (repeat (first | assumption | exact Bel.refl _ | apply Bel.drewN | apply Bel.drew | apply Bel.alloc | refine Bel.trans ?_ (by assumption)))⟩
  case round =>
    clear hO0
    obtain ⟨k, ys, q1, c1, hk, rfl, rfl, hys, hO, hqn, hB⟩ := hrel
    have HYS := Lib.hid hys
    have hyl : ys.length ≤ k := by rw [hys]; exact sideTo_le _ _ _ _
    have hwsz := hB.size
    clear hys
    by_cases hlt : k < p.2.2.1.length
    · obtain ⟨b, off', ecs, ea, hrow, hel⟩ := sliceR_at zLink Q2.out hlt
      obtain rfl : p2 = some ⟨b, off', none⟩ := ea
      have HY1 := Lib.hid (fun h => sideTo_yes (ls := p.2.2.1) (a := a) (back := false) (j := k) h)
      have HY2 := Lib.hid (fun h => sideTo_no (ls := p.2.2.1) (a := a) (back := false) (j := k) h)
      generalize p.2.2.1.getD k zLink = X at *
      obtain ⟨rfl, i0, i1, -⟩ := linkR_open hel
      have ed0 := (G5.trans hB).cell (hrow 0 (by simp)).1
      have ed1 := (G5.trans hB).cell (hrow 1 (by simp)).1
      have ed2 := (G5.trans hB).cell (hrow 2 (by simp)).1
      have ed3 := (G5.trans hB).cell (hrow 3 (by simp)).1
      simp only [List.getElem_cons_zero, List.getElem_cons_succ, Nat.add_zero] at ed0 ed1 ed2 ed3
      clear hrow hel
      have hki : (k : Int) < (p.2.2.1.length : Int) := by omega
      have HXI := Lib.hid (show I64 X.2.1 from i1)
      have HSN := Lib.hid (show (X.1 == a) = true → ys ++ [X.2.1] = sideTo p.2.2.1 a false (k + 1) from fun he => by rw [HY1.out (by unfold sideB; rw [if_neg (by decide)]; simpa using he), HYS.out]; rfl)
      have HSK := Lib.hid (show (X.1 == a) = false → ys = sideTo p.2.2.1 a false (k + 1) from fun he => by rw [HY2.out (by unfold sideB; rw [if_neg (by decide)]; simpa using he), HYS.out])
      clear i0 i1
      cases he : (X.1 == a)
      · have HSK := Lib.hid (HSK.out he)
        have HQN := Lib.hid hqn
        clear hqn
        go_wp2_with fail
        go_roundw
        case rel => exact ⟨k + 1, ys, q1, c1, by omega, by go_num, rfl, HSK.out, hO.bel intR_good (by (repeat (first | assumption | exact Bel.refl _ | apply Bel.drewN | apply Bel.drew | apply Bel.alloc | refine Bel.trans ?_ (by assumption)))), HQN.out, by (repeat (first | assumption | exact Bel.refl _ | apply Bel.drewN | apply Bel.drew | apply Bel.alloc | refine Bel.trans ?_ (by assumption)))⟩
        case measure => simp [intOf]; omega
      · have HSN := Lib.hid (HSN.out he)
        clear hqn
        go_wp2_with ((at_builtin; refine wpList_app (n := 1) intR_good _ rfl _ _ 25 rfl (.int .i64 0) 8 Try.underlying25 (by kernel_rfl) rfl (by decide) (by decide) q1 c1 ys (X.2.1) rfl (hO.bel intR_good (by (repeat (first | assumption | exact Bel.refl _ | apply Bel.drewN | apply Bel.drew | apply Bel.alloc | refine Bel.trans ?_ (by assumption))))) _ 1 [.int .i64 X.2.1] rfl rfl (World.news_of_block (alloc_at (by simp))) (by intro u hu; simp at hu; subst hu; rfl) (intRep HXI.out) (by omega) (by first | omega | (simp; omega)) ?_; intro q' cap' w' hO' hBW hsz'))
        have HB := Lib.hid (hBW w2 (by (repeat (first | assumption | exact Bel.refl _ | apply Bel.drewN | apply Bel.drew | apply Bel.alloc | refine Bel.trans ?_ (by assumption)))) (Nat.le_refl _))
        clear hBW hsz'
        go_roundw
        case rel => exact ⟨k + 1, ys ++ [X.2.1], q', cap', by omega, by go_num, by simp, HSN.out, hO', own_some hO' (by simp), HB.out⟩
        case measure => simp [intOf]; omega
    · obtain rfl : k = p.2.2.1.length := by omega
      obtain ⟨ad, rfl⟩ : ∃ ad, q1 = some ad := by
        cases q1 with
        | none => exact absurd rfl hqn
        | some ad => exact ⟨ad, rfl⟩
      clear hqn
      have HI := Lib.hid (show intsR (fun b => b < wr.heap.size) wr [.slice (some ad) ys.length c1] ys from hO.done intR_good (fun _ hf => hf.elim) (fun b h1 h2 => h2))
      clear hO
      go_wp2_with fail
      refine (iSetOf_any ad c1 ys _ _ HI.out (fun b hb => hb) (by omega)).mono ?_
      rintro e w3 ⟨g, off, c, rfl, hI3, gB⟩
      have HRES := Lib.hid (show intsR (New w w3) w3 [.slice (some ⟨g, off, none⟩) (setL ys).length c] (sucV p a) from by rw [HVV.out, show sideV p a false = setL ys from by rw [HYS.out]; rfl]; exact intsR_good.mono hI3 (fun b hb => ⟨by have := (hb.resolve_left id).1; have := G5.size; omega, (hb.resolve_left id).2⟩))
      clear hI3
      go_wp2
      go_ret
      exact ⟨_, rfl, HRES.out, (G5.trans hB).trans gB⟩

set_option maxRecDepth 100000 in
set_option maxHeartbeats 2000000 in
theorem iPredecessors_any (v : Value) (p : ProjT) (S : Nat → Prop) (a : Int) (w : World) (hx : aggR projR S w v p) (hS : ∀ b, S b → b < w.heap.size) (_hn : bulkProject p ≤ 1048576) : Calls Try.prog 42 #[v, .int .i64 a] w (FreshV intsR w (preV p a)) := by
  obtain ⟨cs, rfl, hx⟩ := hx
  obtain ⟨c1, c2, c3, c4, rfl, q0, q1, q2, q3, q4⟩ := projR_open hx
  have Q1 := Lib.hid q1
  have Q2 := Lib.hid q2
  have Q3 := Lib.hid q3
  have Q4 := Lib.hid q4
  have HP := Lib.hid hx
  obtain ⟨p1, k1, rfl, l1, l1', -⟩ := sliceR_open q1
  obtain ⟨p2, k2, rfl, l2, l2', -⟩ := sliceR_open q2
  obtain ⟨p3, k3, rfl, l3, l3', -⟩ := sliceR_open q3
  obtain ⟨p4, k4, rfl, l4, l4', -⟩ := sliceR_open q4
  unfold maxLen at l1' l2' l3' l4'
  clear hx q0 q1 q2 q3 q4
  have HS := Lib.hid hS
  have HNB := Lib.hid _hn
  clear hS _hn
  have HP1 := Lib.hid (show ∀ W, Bel w W → aggR projR S W (.agg #[.int .i64 p.1, .slice p1 p.2.1.length k1, .slice p2 p.2.2.1.length k2, .slice p3 p.2.2.2.1.length k3, .slice p4 p.2.2.2.2.length k4]) p from fun W hW => aggR_mk (projR_good.bel HP.out hW HS.out))
  show Calls Try.prog 42 #[.agg #[.int .i64 p.1, .slice p1 p.2.1.length k1, .slice p2 p.2.2.1.length k2, .slice p3 p.2.2.2.1.length k3, .slice p4 p.2.2.2.2.length k4], .int .i64 a] w _
  go_enter Try.func42, Try.ntmps42
  obtain ⟨W0, hW0, hwW, hsz0, hbx⟩ : ∃ W0, W0 = w.alloc (.cells #[.int .i64 p.1, .slice p1 p.2.1.length k1, .slice p2 p.2.2.1.length k2, .slice p3 p.2.2.2.1.length k3, .slice p4 p.2.2.2.2.length k4] 34) ∧ Bel w W0 ∧ W0.heap.size = w.heap.size + 1 ∧ W0.cell? ⟨w.heap.size, 0, none⟩ = some (.int .i64 p.1) ∧ W0.cell? ⟨w.heap.size, 1, none⟩ = some (.slice p1 p.2.1.length k1) ∧ W0.cell? ⟨w.heap.size, 2, none⟩ = some (.slice p2 p.2.2.1.length k2) ∧ W0.cell? ⟨w.heap.size, 3, none⟩ = some (.slice p3 p.2.2.2.1.length k3) ∧ W0.cell? ⟨w.heap.size, 4, none⟩ = some (.slice p4 p.2.2.2.2.length k4) := ⟨_, rfl, by (repeat (first | assumption | exact Bel.refl _ | apply Bel.drewN | apply Bel.drew | apply Bel.alloc | refine Bel.trans ?_ (by assumption))), by simp, by simp [go_sem], by simp [go_sem], by simp [go_sem], by simp [go_sem], by simp [go_sem]⟩
  have HBX := Lib.hid (show ∀ W, Bel W0 W → W.cell? ⟨w.heap.size, 0, none⟩ = some (.int .i64 p.1) ∧ W.cell? ⟨w.heap.size, 1, none⟩ = some (.slice p1 p.2.1.length k1) ∧ W.cell? ⟨w.heap.size, 2, none⟩ = some (.slice p2 p.2.2.1.length k2) ∧ W.cell? ⟨w.heap.size, 3, none⟩ = some (.slice p3 p.2.2.2.1.length k3) ∧ W.cell? ⟨w.heap.size, 4, none⟩ = some (.slice p4 p.2.2.2.2.length k4) from fun W hW => keep5 hbx hW)
  clear hbx
  have HSZ0 := Lib.hid hsz0
  clear hsz0
  go_wp2_with fail
  rw [← hW0]
  clear hW0
  refine (iProjectOk_any _ p S _ (HP1.out _ (by (repeat (first | assumption | exact Bel.refl _ | apply Bel.drewN | apply Bel.drew | apply Bel.alloc | refine Bel.trans ?_ (by assumption))))) (fun b hb => Nat.lt_of_lt_of_le (HS.out b hb) (Bel.size (by (repeat (first | assumption | exact Bel.refl _ | apply Bel.drewN | apply Bel.drew | apply Bel.alloc | refine Bel.trans ?_ (by assumption))))))).mono ?_
  rintro e w1 ⟨rfl, g1⟩
  have G1 : Bel W0 w1 := by (repeat (first | assumption | exact Bel.refl _ | apply Bel.drewN | apply Bel.drew | apply Bel.alloc | refine Bel.trans ?_ (by assumption)))
  have G2 : Bel w w1 := hwW.trans G1
  obtain ⟨b0, b1, b2, b3, b4⟩ := HBX.out w1 G1
  cases hp : projOk p
  · have HD := Lib.hid (show intsR (New w w1) w1 [.slice none 0 0] (preV p a) from by unfold preV nbrV; rw [if_neg (by rw [hp]; simp)]; exact ⟨none, 0, rfl, Nat.le_refl _, Nat.zero_le _, fun i h => by simp at h⟩)
    clear hp
    go_wp2
    go_ret
    exact ⟨_, rfl, HD.out, G2⟩
  have hbd := projOk_bd hp
  have HPO := Lib.hid hp
  have HVV := Lib.hid (fun (h : inB a 0 ((p.2.1.length : Int) - 1) = true) => show preV p a = sideV p a true from if_pos ⟨hp, h⟩)
  have HVN := Lib.hid (fun (h : inB a 0 ((p.2.1.length : Int) - 1) = false) => show preV p a = [] from if_neg (by rw [h]; simp))
  clear hp
  go_wp2_with fail
  refine (hasActivity_any _ _ _ _ _ _ _ (by omega) _ _).mono ?_
  rintro e w2 ⟨rfl, g2⟩
  have G3 : Bel w1 w2 := by (repeat (first | assumption | exact Bel.refl _ | apply Bel.drewN | apply Bel.drew | apply Bel.alloc | refine Bel.trans ?_ (by assumption)))
  have G4 := G1.trans G3
  have G5 := G2.trans G3
  clear b0 b1 b2 b3 b4
  obtain ⟨b0, b1, b2, b3, b4⟩ := HBX.out w2 G4
  cases ha : inB a 0 ((p.2.1.length : Int) - 1)
  · have HD := Lib.hid (show intsR (New w w2) w2 [.slice none 0 0] (preV p a) from by rw [HVN.out ha]; exact ⟨none, 0, rfl, Nat.le_refl _, Nat.zero_le _, fun i h => by simp at h⟩)
    clear HVV HVN ha
    go_wp2
    go_ret
    exact ⟨_, rfl, HD.out, G5⟩
  have HVV := Lib.hid (HVV.out ha)
  clear HVN ha
  have hO0 : Own (fun _ => False) 1 intR 3 w2.heap.size (w2.alloc (.cells #[] 3)) (some ⟨w2.heap.size, 0, none⟩) 0 [] := Own.empty (alloc_at rfl) (Nat.le_refl _)
  have ab2 := fun o => ((Bel.refl w2).alloc o).cell b2
  go_wp2_with fail
  clear ab2 b0 b1 b2 b3 b4
  go_loopw [5, 21] (fun o i wr => ∃ (k : Nat) (ys : List Int) (q1 : Option Addr) (c1 : Nat), k ≤ p.2.2.1.length ∧ i = .int .i64 k ∧ o = .slice q1 ys.length c1 ∧ ys = sideTo p.2.2.1 a true k ∧ Own (fun _ => False) 1 intR 3 w2.heap.size wr q1 c1 ys ∧ q1 ≠ none ∧ Bel w2 wr) (fun _ i _ => p.2.2.1.length - (intOf i).toNat)
  case atStart => exact ⟨0, [], _, _, Nat.zero_le _, rfl, rfl, rfl, hO0, by simp, by (repeat (first | assumption | exact Bel.refl _ | apply Bel.drewN | apply Bel.drew | apply Bel.alloc | refine Bel.trans ?_ (by assumption)))⟩
  case round =>
    clear hO0
    obtain ⟨k, ys, q1, c1, hk, rfl, rfl, hys, hO, hqn, hB⟩ := hrel
    have HYS := Lib.hid hys
    have hyl : ys.length ≤ k := by rw [hys]; exact sideTo_le _ _ _ _
    have hwsz := hB.size
    clear hys
    by_cases hlt : k < p.2.2.1.length
    · obtain ⟨b, off', ecs, ea, hrow, hel⟩ := sliceR_at zLink Q2.out hlt
      obtain rfl : p2 = some ⟨b, off', none⟩ := ea
      have HY1 := Lib.hid (fun h => sideTo_yes (ls := p.2.2.1) (a := a) (back := true) (j := k) h)
      have HY2 := Lib.hid (fun h => sideTo_no (ls := p.2.2.1) (a := a) (back := true) (j := k) h)
      generalize p.2.2.1.getD k zLink = X at *
      obtain ⟨rfl, i0, i1, -⟩ := linkR_open hel
      have ed0 := (G5.trans hB).cell (hrow 0 (by simp)).1
      have ed1 := (G5.trans hB).cell (hrow 1 (by simp)).1
      have ed2 := (G5.trans hB).cell (hrow 2 (by simp)).1
      have ed3 := (G5.trans hB).cell (hrow 3 (by simp)).1
      simp only [List.getElem_cons_zero, List.getElem_cons_succ, Nat.add_zero] at ed0 ed1 ed2 ed3
      clear hrow hel
      have hki : (k : Int) < (p.2.2.1.length : Int) := by omega
      have HXI := Lib.hid (show I64 X.1 from i0)
      have HSN := Lib.hid (show (X.2.1 == a) = true → ys ++ [X.1] = sideTo p.2.2.1 a true (k + 1) from fun he => by rw [HY1.out (by unfold sideB; rw [if_pos rfl]; simpa using he), HYS.out]; rfl)
      have HSK := Lib.hid (show (X.2.1 == a) = false → ys = sideTo p.2.2.1 a true (k + 1) from fun he => by rw [HY2.out (by unfold sideB; rw [if_pos rfl]; simpa using he), HYS.out])
      clear i0 i1
      cases he : (X.2.1 == a)
      · have HSK := Lib.hid (HSK.out he)
        have HQN := Lib.hid hqn
        clear hqn
        go_wp2_with fail
        go_roundw
        case rel => exact ⟨k + 1, ys, q1, c1, by omega, by go_num, rfl, HSK.out, hO.bel intR_good (by (repeat (first | assumption | exact Bel.refl _ | apply Bel.drewN | apply Bel.drew | apply Bel.alloc | refine Bel.trans ?_ (by assumption)))), HQN.out, by (repeat (first | assumption | exact Bel.refl _ | apply Bel.drewN | apply Bel.drew | apply Bel.alloc | refine Bel.trans ?_ (by assumption)))⟩
        case measure => simp [intOf]; omega
      · have HSN := Lib.hid (HSN.out he)
        clear hqn
        go_wp2_with ((at_builtin; refine wpList_app (n := 1) intR_good _ rfl _ _ 25 rfl (.int .i64 0) 8 Try.underlying25 (by kernel_rfl) rfl (by decide) (by decide) q1 c1 ys (X.1) rfl (hO.bel intR_good (by (repeat (first | assumption | exact Bel.refl _ | apply Bel.drewN | apply Bel.drew | apply Bel.alloc | refine Bel.trans ?_ (by assumption))))) _ 1 [.int .i64 X.1] rfl rfl (World.news_of_block (alloc_at (by simp))) (by intro u hu; simp at hu; subst hu; rfl) (intRep HXI.out) (by omega) (by first | omega | (simp; omega)) ?_; intro q' cap' w' hO' hBW hsz'))
        have HB := Lib.hid (hBW w2 (by (repeat (first | assumption | exact Bel.refl _ | apply Bel.drewN | apply Bel.drew | apply Bel.alloc | refine Bel.trans ?_ (by assumption)))) (Nat.le_refl _))
        clear hBW hsz'
        go_roundw
        case rel => exact ⟨k + 1, ys ++ [X.1], q', cap', by omega, by go_num, by simp, HSN.out, hO', own_some hO' (by simp), HB.out⟩
        case measure => simp [intOf]; omega
    · obtain rfl : k = p.2.2.1.length := by omega
      obtain ⟨ad, rfl⟩ : ∃ ad, q1 = some ad := by
        cases q1 with
        | none => exact absurd rfl hqn
        | some ad => exact ⟨ad, rfl⟩
      clear hqn
      have HI := Lib.hid (show intsR (fun b => b < wr.heap.size) wr [.slice (some ad) ys.length c1] ys from hO.done intR_good (fun _ hf => hf.elim) (fun b h1 h2 => h2))
      clear hO
      go_wp2_with fail
      refine (iSetOf_any ad c1 ys _ _ HI.out (fun b hb => hb) (by omega)).mono ?_
      rintro e w3 ⟨g, off, c, rfl, hI3, gB⟩
      have HRES := Lib.hid (show intsR (New w w3) w3 [.slice (some ⟨g, off, none⟩) (setL ys).length c] (preV p a) from by rw [HVV.out, show sideV p a true = setL ys from by rw [HYS.out]; rfl]; exact intsR_good.mono hI3 (fun b hb => ⟨by have := (hb.resolve_left id).1; have := G5.size; omega, (hb.resolve_left id).2⟩))
      clear hI3
      go_wp2
      go_ret
      exact ⟨_, rfl, HRES.out, (G5.trans hB).trans gB⟩

/-- What kept hands back: a list in new memory, not nil. -/
def KeptR (w : World) (xs : List Int) (e : Ending) (w' : World) : Prop := ∃ ad c, e = .returned (.slice (some ad) xs.length c) ∧ intsR (New w w') w' [.slice (some ad) xs.length c] xs ∧ Bel w w'
theorem filter_next {xs : List Int} {c : Int → Bool} {k : Nat} (h : k < xs.length) : (xs.take (k + 1)).filter c = (xs.take k).filter c ++ (if c (xs.getD k 0) = true then [xs.getD k 0] else []) := by
  rw [take_next h, List.filter_append]
  generalize xs.getD k 0 = X
  congr 1
  by_cases e : c X = true
  · rw [if_pos e]; simp [e]
  · rw [if_neg e]; simp [e]
set_option maxRecDepth 100000 in
set_option maxHeartbeats 1000000 in
theorem keptRoots_any (B0 : Nat) (c : Int → Bool) (v : Value) (xs : List Int) (T : Nat → Prop) (w : World) (hx : intsR T w [v] xs) (hT : ∀ b, T b → b < w.heap.size) (hl : xs.length ≤ 1000)
    (hcl : ∀ W, Bel w W → ∀ x, x ∈ xs → Calls Try.prog 114 #[.int .i64 x, .pointer (some ⟨B0, 0, none⟩)] W fun e w' => e = .returned (.bool (c x)) ∧ Bel W w') :
    Calls Try.prog 113 #[v, .func (.func 114) #[] #[.pointer (some ⟨B0, 0, none⟩)]] w (KeptR w (xs.filter c)) := by
  have HX := Lib.hid hx
  have HI := Lib.hid (ints_mem hx)
  have HCL := Lib.hid hcl
  obtain ⟨p0, c0, rfl, l0, l0', -⟩ := sliceR_open hx
  unfold maxLen at l0'
  clear hx hT hcl
  have hO0 : Own (fun _ => False) 1 intR 3 w.heap.size (w.alloc (.cells #[] 3)) (some ⟨w.heap.size, 0, none⟩) 0 [] := Own.empty (alloc_at rfl) (Nat.le_refl _)
  go_enter Try.func113, Try.ntmps113
  go_wp2_with fail
  go_loopw [5, 11] (fun o i wr => ∃ (k : Nat) (ys : List Int) (q1 : Option Addr) (c1 : Nat), k ≤ xs.length ∧ i = .int .i64 k ∧ o = .slice q1 ys.length c1 ∧ ys = (xs.take k).filter c ∧ Own (fun _ => False) 1 intR 3 w.heap.size wr q1 c1 ys ∧ q1 ≠ none ∧ Bel w wr) (fun _ i _ => xs.length - (intOf i).toNat)
  case atStart => exact ⟨0, [], _, _, Nat.zero_le _, rfl, rfl, by simp, hO0, by simp, by (repeat (first | assumption | exact Bel.refl _ | apply Bel.drewN | apply Bel.drew | apply Bel.alloc | refine Bel.trans ?_ (by assumption)))⟩
  case round =>
    clear hO0
    obtain ⟨k, ys, q1, c1, hk, rfl, rfl, hys, hO, hqn, hB⟩ := hrel
    have HYS := Lib.hid hys
    have hyl : ys.length ≤ k := by rw [hys]; exact Nat.le_trans (List.length_filter_le _ _) (by rw [List.length_take]; omega)
    have hwsz := hB.size
    clear hys
    by_cases hlt : k < xs.length
    · obtain ⟨b, off', e1, e2⟩ := intsR_at' HX.out hlt
      obtain rfl : p0 = some ⟨b, off', none⟩ := e1
      have e2 := hB.cell e2
      have hmem : xs.getD k 0 ∈ xs := by rw [List.getD_eq_getElem?_getD, List.getElem?_eq_getElem hlt, Option.getD_some]; exact List.getElem_mem hlt
      have HXI := Lib.hid (HI.out _ hmem)
      have HC := Lib.hid (HCL.out wr hB _ hmem)
      clear hmem
      have HSN := Lib.hid (filter_next (c := c) hlt)
      have hki : (k : Int) < (xs.length : Int) := by omega
      generalize xs.getD k 0 = X at *
      have HQN := Lib.hid hqn
      clear hqn
      go_wp2_with fail
      refine (HC.out).mono ?_
      rintro e w1 ⟨rfl, g1⟩
      have hO := hO.bel intR_good (show Bel wr w1 from by (repeat (first | assumption | exact Bel.refl _ | apply Bel.drewN | apply Bel.drew | apply Bel.alloc | refine Bel.trans ?_ (by assumption))))
      have hB1 := hB.trans (show Bel wr w1 from by (repeat (first | assumption | exact Bel.refl _ | apply Bel.drewN | apply Bel.drew | apply Bel.alloc | refine Bel.trans ?_ (by assumption))))
      have hwsz := hB1.size
      cases he : c X
      · have HSK := Lib.hid (show ys = (xs.take (k + 1)).filter c from by rw [HSN.out, HYS.out, he]; simp)
        clear he
        go_wp2_with fail
        go_roundw
        case rel => exact ⟨k + 1, ys, q1, c1, by omega, by go_num, rfl, HSK.out, hO, HQN.out, hB1⟩
        case measure => simp [intOf]; omega
      · have HSK := Lib.hid (show ys ++ [X] = (xs.take (k + 1)).filter c from by rw [HSN.out, HYS.out, he]; simp)
        clear he
        go_wp2_with ((at_builtin; refine wpList_app (n := 1) intR_good _ rfl _ _ 25 rfl (.int .i64 0) 8 Try.underlying25 (by kernel_rfl) rfl (by decide) (by decide) q1 c1 ys (X) rfl (hO.bel intR_good (by (repeat (first | assumption | exact Bel.refl _ | apply Bel.drewN | apply Bel.drew | apply Bel.alloc | refine Bel.trans ?_ (by assumption))))) _ 1 [.int .i64 X] rfl rfl (World.news_of_block (alloc_at (by simp))) (by intro u hu; simp at hu; subst hu; rfl) (intRep HXI.out) (by omega) (by first | omega | (simp; omega)) ?_; intro q' cap' w' hO' hBW hsz'))
        have HB := Lib.hid (hBW w (by (repeat (first | assumption | exact Bel.refl _ | apply Bel.drewN | apply Bel.drew | apply Bel.alloc | refine Bel.trans ?_ (by assumption)))) (Nat.le_refl _))
        clear hBW hsz'
        go_roundw
        case rel => exact ⟨k + 1, ys ++ [X], q', cap', by omega, by go_num, by simp, HSK.out, hO', own_some hO' (by simp), HB.out⟩
        case measure => simp [intOf]; omega
    · obtain rfl : k = xs.length := by omega
      obtain ⟨ad, rfl⟩ : ∃ ad, q1 = some ad := by
        cases q1 with
        | none => exact absurd rfl hqn
        | some ad => exact ⟨ad, rfl⟩
      clear hqn
      have HE := Lib.hid (show ys = xs.filter c from by rw [HYS.out, List.take_length])
      have HI2 := Lib.hid (show intsR (New w wr) wr [.slice (some ad) ys.length c1] ys from hO.done intR_good (fun _ hf => hf.elim) (fun b h1 h2 => ⟨h1, h2⟩))
      clear hO
      go_wp2
      go_ret
      exact ⟨ad, c1, by rw [← HE.out]; rfl, by rw [← HE.out]; exact HI2.out, hB⟩

def rootC (p : ProjT) (x : Int) : Bool := decide ((preV p x).length = 0)
theorem root_kept {p : ProjT} (h : projOk p = true) : (rangeL p.2.1.length).filter (rootC p) = rootV p := by
  unfold rootV rootTo rangeL
  rw [if_pos h, List.filter_map]
  congr 1
  refine List.filter_congr fun a ha => ?_
  have ha' := List.mem_range.1 ha
  have e : preV p (a : Int) = sideV p (a : Int) true := if_pos ⟨h, inB_yes (by omega)⟩
  simp only [Function.comp, rootC, rootB, e]
set_option maxRecDepth 100000 in
set_option maxHeartbeats 1000000 in
theorem roots1_any (B0 : Nat) (p : ProjT) (S : Nat → Prop) (d : Int) (c1 c2 c3 c4 : Value) (a : Int) (w : World) (hx : aggR projR S w (.agg #[.int .i64 d, c1, c2, c3, c4]) p) (hS : ∀ b, S b → b < w.heap.size) (hn : bulkProject p ≤ 1048576)
    (b0 : w.cell? ⟨B0, 0, none⟩ = some (.int .i64 d)) (b1 : w.cell? ⟨B0, 1, none⟩ = some c1) (b2 : w.cell? ⟨B0, 2, none⟩ = some c2) (b3 : w.cell? ⟨B0, 3, none⟩ = some c3) (b4 : w.cell? ⟨B0, 4, none⟩ = some c4) :
    Calls Try.prog 114 #[.int .i64 a, .pointer (some ⟨B0, 0, none⟩)] w fun e w' => e = .returned (.bool (rootC p a)) ∧ Bel w w' := by
  have HX := Lib.hid hx
  have HS := Lib.hid hS
  clear hx hS
  go_enter Try.func114, Try.ntmps114
  go_wp2_with fail
  refine (iPredecessors_any _ p S a _ HX.out HS.out hn).mono ?_
  rintro e w1 ⟨vr, rfl, hr, g1⟩
  obtain ⟨rq, rc, rfl, rl, rl', -⟩ := sliceR_open hr
  clear hr
  obtain ⟨n, hN⟩ : ∃ n, (preV p a).length = n := ⟨_, rfl⟩
  by_cases h0 : n = 0
  · subst h0
    have HDD := Lib.hid (show rootC p a = true from by unfold rootC; rw [hN]; rfl)
    rw [hN] at rl
    rw [hN]
    clear hN
    go_wp2
    go_ret
    exact ⟨ret_bool (by first | (rw [HDD.out]; done) | (rw [HDD.out]; rfl) | (rw [HDD.out]; simp; done) | (rw [HDD.out]; simp [h0])), g1⟩
  · have HDD := Lib.hid (show rootC p a = false from by unfold rootC; rw [hN]; simp [h0])
    have h1 : ((n : Nat) : Int) ≠ 0 := by omega
    rw [hN]
    clear hN
    go_wp2
    go_ret
    exact ⟨ret_bool (by first | (rw [HDD.out]; done) | (rw [HDD.out]; rfl) | (rw [HDD.out]; simp; done) | (rw [HDD.out]; simp [h0])), g1⟩

set_option maxRecDepth 100000 in
set_option maxHeartbeats 2000000 in
theorem iRoots_any (v : Value) (p : ProjT) (S : Nat → Prop) (w : World) (hx : aggR projR S w v p) (hS : ∀ b, S b → b < w.heap.size) (_hn : bulkProject p ≤ 1048576) : Calls Try.prog 46 #[v] w (FreshV intsR w (rootV p)) := by
  obtain ⟨cs, rfl, hx⟩ := hx
  obtain ⟨c1, c2, c3, c4, rfl, q0, q1, q2, q3, q4⟩ := projR_open hx
  have Q1 := Lib.hid q1
  have Q2 := Lib.hid q2
  have Q3 := Lib.hid q3
  have Q4 := Lib.hid q4
  have HP := Lib.hid hx
  obtain ⟨p1, k1, rfl, l1, l1', -⟩ := sliceR_open q1
  obtain ⟨p2, k2, rfl, l2, l2', -⟩ := sliceR_open q2
  obtain ⟨p3, k3, rfl, l3, l3', -⟩ := sliceR_open q3
  obtain ⟨p4, k4, rfl, l4, l4', -⟩ := sliceR_open q4
  unfold maxLen at l1' l2' l3' l4'
  clear hx q0 q1 q2 q3 q4
  have HS := Lib.hid hS
  have HNB := Lib.hid _hn
  clear hS _hn
  have HP1 := Lib.hid (show ∀ W, Bel w W → aggR projR S W (.agg #[.int .i64 p.1, .slice p1 p.2.1.length k1, .slice p2 p.2.2.1.length k2, .slice p3 p.2.2.2.1.length k3, .slice p4 p.2.2.2.2.length k4]) p from fun W hW => aggR_mk (projR_good.bel HP.out hW HS.out))
  show Calls Try.prog 46 #[.agg #[.int .i64 p.1, .slice p1 p.2.1.length k1, .slice p2 p.2.2.1.length k2, .slice p3 p.2.2.2.1.length k3, .slice p4 p.2.2.2.2.length k4]] w _
  go_enter Try.func46, Try.ntmps46
  obtain ⟨W0, hW0, hwW, hsz0, hbx⟩ : ∃ W0, W0 = w.alloc (.cells #[.int .i64 p.1, .slice p1 p.2.1.length k1, .slice p2 p.2.2.1.length k2, .slice p3 p.2.2.2.1.length k3, .slice p4 p.2.2.2.2.length k4] 34) ∧ Bel w W0 ∧ W0.heap.size = w.heap.size + 1 ∧ W0.cell? ⟨w.heap.size, 0, none⟩ = some (.int .i64 p.1) ∧ W0.cell? ⟨w.heap.size, 1, none⟩ = some (.slice p1 p.2.1.length k1) ∧ W0.cell? ⟨w.heap.size, 2, none⟩ = some (.slice p2 p.2.2.1.length k2) ∧ W0.cell? ⟨w.heap.size, 3, none⟩ = some (.slice p3 p.2.2.2.1.length k3) ∧ W0.cell? ⟨w.heap.size, 4, none⟩ = some (.slice p4 p.2.2.2.2.length k4) := ⟨_, rfl, by (repeat (first | assumption | exact Bel.refl _ | apply Bel.drewN | apply Bel.drew | apply Bel.alloc | refine Bel.trans ?_ (by assumption))), by simp, by simp [go_sem], by simp [go_sem], by simp [go_sem], by simp [go_sem], by simp [go_sem]⟩
  have HBX := Lib.hid (show ∀ W, Bel W0 W → W.cell? ⟨w.heap.size, 0, none⟩ = some (.int .i64 p.1) ∧ W.cell? ⟨w.heap.size, 1, none⟩ = some (.slice p1 p.2.1.length k1) ∧ W.cell? ⟨w.heap.size, 2, none⟩ = some (.slice p2 p.2.2.1.length k2) ∧ W.cell? ⟨w.heap.size, 3, none⟩ = some (.slice p3 p.2.2.2.1.length k3) ∧ W.cell? ⟨w.heap.size, 4, none⟩ = some (.slice p4 p.2.2.2.2.length k4) from fun W hW => keep5 hbx hW)
  clear hbx
  have HSZ0 := Lib.hid hsz0
  clear hsz0
  go_wp2_with fail
  rw [← hW0]
  clear hW0
  refine (iProjectOk_any _ p S _ (HP1.out _ (by (repeat (first | assumption | exact Bel.refl _ | apply Bel.drewN | apply Bel.drew | apply Bel.alloc | refine Bel.trans ?_ (by assumption))))) (fun b hb => Nat.lt_of_lt_of_le (HS.out b hb) (Bel.size (by (repeat (first | assumption | exact Bel.refl _ | apply Bel.drewN | apply Bel.drew | apply Bel.alloc | refine Bel.trans ?_ (by assumption))))))).mono ?_
  rintro e w1 ⟨rfl, g1⟩
  have G1 : Bel W0 w1 := by (repeat (first | assumption | exact Bel.refl _ | apply Bel.drewN | apply Bel.drew | apply Bel.alloc | refine Bel.trans ?_ (by assumption)))
  have G2 : Bel w w1 := hwW.trans G1
  obtain ⟨b0, b1, b2, b3, b4⟩ := HBX.out w1 G1
  cases hp : projOk p
  · have HD := Lib.hid (show intsR (New w w1) w1 [.slice none 0 0] (rootV p) from by unfold rootV; rw [if_neg (by rw [hp]; simp)]; exact ⟨none, 0, rfl, Nat.le_refl _, Nat.zero_le _, fun i h => by simp at h⟩)
    clear hp
    go_wp2
    go_ret
    exact ⟨_, rfl, HD.out, G2⟩
  have hbd := projOk_bd hp
  have HPO := Lib.hid hp
  clear hp
  go_wp2_with fail
  refine (iIntRange_any p.2.1.length _ (by omega)).mono ?_
  rintro e w2 ⟨vr, rfl, hr, g2⟩
  have G3 : Bel w1 w2 := by (repeat (first | assumption | exact Bel.refl _ | apply Bel.drewN | apply Bel.drew | apply Bel.alloc | refine Bel.trans ?_ (by assumption)))
  have G4 := G1.trans G3
  have G5 := G2.trans G3
  have HR := Lib.hid hr
  clear hr b0 b1 b2 b3 b4
  go_wp2_with fail
  refine (keptRoots_any w.heap.size (rootC p) vr (rangeL p.2.1.length) _ _ HR.out (fun b hb => hb.2) (by rw [rangeL_length]; omega) (fun W hW x hxm => by
    obtain ⟨b0, b1, b2, b3, b4⟩ := HBX.out W (G4.trans hW)
    exact roots1_any w.heap.size p S _ _ _ _ _ x W (HP1.out W (G5.trans hW)) (fun b hb => Nat.lt_of_lt_of_le (HS.out b hb) (G5.trans hW).size) HNB.out b0 b1 b2 b3 b4)).mono ?_
  rintro e w3 ⟨ad, c, rfl, hI, gB⟩
  have HRES := Lib.hid (show intsR (New w w3) w3 [.slice (some ad) ((rangeL p.2.1.length).filter (rootC p)).length c] (rootV p) from by
    rw [root_kept HPO.out] at hI ⊢
    exact intsR_good.mono hI (fun b hb => ⟨by have := hb.1; have := G5.size; omega, hb.2⟩))
  clear hI
  go_wp2
  go_ret
  exact ⟨_, rfl, HRES.out, G5.trans gB⟩


end Go.Proofs.Ytiaamddhocdhaaa
