/- Sets of neighbours; successors, predecessors, both sides. -/
import Derived.Test.YtiaamddhocdhaaaSetW
import Derived.Test.YtiaamddhocdhaaaSideF
import Derived.Test.YtiaamddhocdhaaaOwn
namespace Go.Proofs.Ytiaamddhocdhaaa
open Go.ChangeShapes Go.WideShapes Go.ChangeAt Go.RowKit
set_option linter.unusedVariables false

theorem setR_mono {T : Nat → Prop} {w w1 w2 : World} (h1 : ∀ b, T b → w.heap.size ≤ b ∧ b < w1.heap.size) (g : w.heap.size ≤ w1.heap.size) (h2 : w1.heap.size ≤ w2.heap.size) : ∀ b, (T b ∨ New w1 w2 b) → New w w2 b := by
  intro b hb
  rcases hb with h | h
  · have := h1 b h; exact ⟨this.1, by omega⟩
  · exact ⟨by have := h.1; omega, h.2⟩
theorem take_next {xs : List Int} {k : Nat} (h : k < xs.length) : xs.take (k + 1) = xs.take k ++ [xs.getD k 0] := by
  rw [List.take_succ_eq_append_getElem h, List.getD_eq_getElem?_getD, List.getElem?_eq_getElem h, Option.getD_some]
set_option maxRecDepth 100000 in
set_option maxHeartbeats 1000000 in
theorem sSetOf_any (v : Value) (xs : List Int) (T : Nat → Prop) (w : World) (hx : intsR T w [v] xs) (hT : ∀ b, T b → b < w.heap.size) (hl : xs.length ≤ 1000) :
    Calls Try.prog 130 #[v] w (SetR (fun _ => False) w (setL xs)) := by
  have HX := Lib.hid hx
  have HI := Lib.hid (ints_mem hx)
  obtain ⟨p0, c0, rfl, l0, l0', -⟩ := sliceR_open hx
  unfold maxLen at l0'
  clear hx hT
  go_enter Try.func130, Try.ntmps130
  go_wp2_with fail
  go_loopw [3, 9] (fun o i wr => ∃ (k g off c : Nat) (ys : List Int), k ≤ xs.length ∧ i = .int .i64 k ∧ o = .slice (some ⟨g, off, none⟩) ys.length c ∧ ys = setL (xs.take k) ∧ intsR (New w wr) wr [.slice (some ⟨g, off, none⟩) ys.length c] ys ∧ Bel w wr) (fun _ i _ => xs.length - (intOf i).toNat)
  case atStart => exact ⟨0, w.heap.size, 0, 0, [], Nat.zero_le _, rfl, rfl, by simp [setL], ints_nil _ _ (Nat.zero_le _), by (repeat (first | assumption | exact Bel.refl _ | apply Bel.drewN | apply Bel.drew | apply Bel.alloc | refine Bel.trans ?_ (by assumption)))⟩
  case round =>
    obtain ⟨k, g, off, c, ys, hk, rfl, rfl, hys, hI, hB⟩ := hrel
    have HYS := Lib.hid hys
    have HIY := Lib.hid hI
    have hyl : ys.length ≤ k := by
      rw [hys]
      have h1 := setL_length (xs.take k)
      rw [List.length_take] at h1
      omega
    clear hys hI
    by_cases hlt : k < xs.length
    · obtain ⟨b, off', e1, e2⟩ := intsR_at' HX.out hlt
      obtain rfl : p0 = some ⟨b, off', none⟩ := e1
      have e2 := hB.cell e2
      have HXI := Lib.hid (show I64 (xs.getD k 0) from HI.out _ (by rw [List.getD_eq_getElem?_getD, List.getElem?_eq_getElem hlt, Option.getD_some]; exact List.getElem_mem hlt))
      have HSN := Lib.hid (show putL ys (xs.getD k 0) = setL (xs.take (k + 1)) from by rw [HYS.out, take_next hlt, setL_snoc])
      have hki : (k : Int) < (xs.length : Int) := by omega
      generalize xs.getD k 0 = X at *
      go_wp2_with fail
      refine (sPut_any g off _ c X ys (New w wr) wr rfl HIY.out (fun b hb => hb.2) HXI.out (by omega)).mono ?_
      rintro e w1 ⟨g1, off1, c1, rfl, hI1, gB⟩
      have HI1 := Lib.hid (show intsR (New w w1) w1 [.slice (some ⟨g1, off1, none⟩) (putL ys X).length c1] (putL ys X) from intsR_good.mono hI1 (setR_mono (fun b hb => hb) hB.size gB.size))
      clear hI1
      go_wp2_with fail
      go_roundw
      case rel => exact ⟨k + 1, g1, off1, c1, putL ys X, by omega, by go_num, rfl, HSN.out, HI1.out, hB.trans gB⟩
      case measure => simp [intOf]; omega
    · obtain rfl : k = xs.length := by omega
      have HE := Lib.hid (show ys = setL xs from by rw [HYS.out, List.take_length])
      go_wp2
      go_ret
      exact ⟨g, off, c, by rw [← HE.out]; rfl, by rw [← HE.out]; exact intsR_good.mono HIY.out (fun b hb => .inr hb), hB⟩

set_option maxRecDepth 100000 in
set_option maxHeartbeats 1000000 in
theorem sSetAdd_any (v : Value) (xs : List Int) (x : Int) (T : Nat → Prop) (w : World) (hx : intsR T w [v] xs) (hT : ∀ b, T b → b < w.heap.size) (hxi : I64 x) (hl : xs.length ≤ 1000) :
    Calls Try.prog 131 #[v, .int .i64 x] w (SetR (fun _ => False) w (putL (setL xs) x)) := by
  have HX := Lib.hid hx
  have HT := Lib.hid hT
  have HXI := Lib.hid hxi
  have hsl : (setL xs).length ≤ 1000 := Nat.le_trans (setL_length xs) hl
  obtain ⟨p0, c0, rfl, l0, l0', -⟩ := sliceR_open hx
  unfold maxLen at l0'
  clear hx hT hxi
  go_enter Try.func131, Try.ntmps131
  go_wp2_with fail
  refine (sSetOf_any _ xs T _ HX.out HT.out hl).mono ?_
  rintro e w1 ⟨g, off, c, rfl, hI, gB⟩
  have HIY := Lib.hid hI
  clear hI
  go_wp2_with fail
  refine (sPut_any g off _ c x (setL xs) _ w1 rfl HIY.out (fun b hb => (hb.resolve_left id).2) HXI.out hsl).mono ?_
  rintro e w2 ⟨g1, off1, c1, rfl, hI1, gB1⟩
  have HI1 := Lib.hid (show intsR (fun b => False ∨ New w w2 b) w2 [.slice (some ⟨g1, off1, none⟩) (putL (setL xs) x).length c1] (putL (setL xs) x) from intsR_good.mono hI1 (fun b hb => .inr (setR_mono (T := fun k => False ∨ New w w1 k) (fun b hb => hb.resolve_left id) gB.size gB1.size b hb)))
  clear hI1
  go_wp2
  go_ret
  exact ⟨g1, off1, c1, rfl, HI1.out, gB.trans gB1⟩

set_option maxRecDepth 100000 in
set_option maxHeartbeats 2000000 in
theorem sSide_any (v : Value) (p : ProjT) (S : Nat → Prop) (w : World) (hx : aggR projR S w v p) (hS : ∀ b, S b → b < w.heap.size) (_hn : bulkProject p ≤ 1048576) (a : Int) (back : Bool) (hp : projOk p = true) : Calls Try.prog 66 #[v, .int .i64 a, .bool back] w (SetR (fun _ => False) w (sideV p a back)) := by
  obtain ⟨cs, rfl, hx⟩ := hx
  obtain ⟨c1, c2, c3, c4, rfl, q0, q1, q2, q3, q4⟩ := projR_open hx
  have Q1 := Lib.hid q1
  have Q2 := Lib.hid q2
  have Q3 := Lib.hid q3
  have Q4 := Lib.hid q4
  have HP := Lib.hid hx
  obtain ⟨p1, k1, rfl, l1, l1', -⟩ := sliceR_open q1
  obtain ⟨p2, k2, rfl, l2, l2', -⟩ := sliceR_open q2
  obtain ⟨p3, k3, rfl, l3, l3', -⟩ := sliceR_open q3
  obtain ⟨p4, k4, rfl, l4, l4', -⟩ := sliceR_open q4
  unfold maxLen at l1' l2' l3' l4'
  clear hx q0 q1 q2 q3 q4
  have HS := Lib.hid hS
  have HNB := Lib.hid _hn
  have hbd := (projOk_bd hp).2.2.2.2.1
  clear hS _hn hp
  have HP1 := Lib.hid (show ∀ W, Bel w W → aggR projR S W (.agg #[.int .i64 p.1, .slice p1 p.2.1.length k1, .slice p2 p.2.2.1.length k2, .slice p3 p.2.2.2.1.length k3, .slice p4 p.2.2.2.2.length k4]) p from fun W hW => aggR_mk (projR_good.bel HP.out hW HS.out))
  show Calls Try.prog 66 #[.agg #[.int .i64 p.1, .slice p1 p.2.1.length k1, .slice p2 p.2.2.1.length k2, .slice p3 p.2.2.2.1.length k3, .slice p4 p.2.2.2.2.length k4], .int .i64 a, .bool back] w _
  go_enter Try.func66, Try.ntmps66
  obtain ⟨W0, hW0, hwW, hsz0, hbx⟩ : ∃ W0, W0 = w.alloc (.cells #[.int .i64 p.1, .slice p1 p.2.1.length k1, .slice p2 p.2.2.1.length k2, .slice p3 p.2.2.2.1.length k3, .slice p4 p.2.2.2.2.length k4] 34) ∧ Bel w W0 ∧ W0.heap.size = w.heap.size + 1 ∧ W0.cell? ⟨w.heap.size, 0, none⟩ = some (.int .i64 p.1) ∧ W0.cell? ⟨w.heap.size, 1, none⟩ = some (.slice p1 p.2.1.length k1) ∧ W0.cell? ⟨w.heap.size, 2, none⟩ = some (.slice p2 p.2.2.1.length k2) ∧ W0.cell? ⟨w.heap.size, 3, none⟩ = some (.slice p3 p.2.2.2.1.length k3) ∧ W0.cell? ⟨w.heap.size, 4, none⟩ = some (.slice p4 p.2.2.2.2.length k4) := ⟨_, rfl, by (repeat (first | assumption | exact Bel.refl _ | apply Bel.drewN | apply Bel.drew | apply Bel.alloc | refine Bel.trans ?_ (by assumption))), by simp, by simp [go_sem], by simp [go_sem], by simp [go_sem], by simp [go_sem], by simp [go_sem]⟩
  have HBX := Lib.hid (show ∀ W, Bel W0 W → W.cell? ⟨w.heap.size, 0, none⟩ = some (.int .i64 p.1) ∧ W.cell? ⟨w.heap.size, 1, none⟩ = some (.slice p1 p.2.1.length k1) ∧ W.cell? ⟨w.heap.size, 2, none⟩ = some (.slice p2 p.2.2.1.length k2) ∧ W.cell? ⟨w.heap.size, 3, none⟩ = some (.slice p3 p.2.2.2.1.length k3) ∧ W.cell? ⟨w.heap.size, 4, none⟩ = some (.slice p4 p.2.2.2.2.length k4) from fun W hW => keep5 hbx hW)
  clear hbx
  have HSZ0 := Lib.hid hsz0
  clear hsz0
  go_wp2_with fail
  rw [← hW0]
  clear hW0
  go_loopw [7, 14] (fun o i wr => ∃ (k g off c : Nat) (ys : List Int), k ≤ p.2.2.1.length ∧ i = .int .i64 k ∧ o = .slice (some ⟨g, off, none⟩) ys.length c ∧ ys = setL (sideTo p.2.2.1 a back k) ∧ intsR (New w wr) wr [.slice (some ⟨g, off, none⟩) ys.length c] ys ∧ Bel W0 wr) (fun _ i _ => p.2.2.1.length - (intOf i).toNat)
  case atStart => exact ⟨0, w.heap.size + 1, 0, 0, [], Nat.zero_le _, rfl, rfl, rfl, ints_nil _ _ (Nat.zero_le _), by (repeat (first | assumption | exact Bel.refl _ | apply Bel.drewN | apply Bel.drew | apply Bel.alloc | refine Bel.trans ?_ (by assumption)))⟩
  case round =>
    obtain ⟨k, g, off, c, ys, hk, rfl, rfl, hys, hI, hB⟩ := hrel
    have HYS := Lib.hid hys
    have HIY := Lib.hid hI
    have hyl : ys.length ≤ k := by
      rw [hys]
      exact Nat.le_trans (setL_length _) (sideTo_le _ _ _ _)
    clear hys hI
    by_cases hlt : k < p.2.2.1.length
    · obtain ⟨b, off', ecs, ea, hrow, hel⟩ := sliceR_at zLink Q2.out hlt
      obtain rfl : p2 = some ⟨b, off', none⟩ := ea
      have HY1 := Lib.hid (fun h => sideTo_yes (ls := p.2.2.1) (a := a) (back := back) (j := k) h)
      have HY2 := Lib.hid (fun h => sideTo_no (ls := p.2.2.1) (a := a) (back := back) (j := k) h)
      generalize p.2.2.1.getD k zLink = X at *
      obtain ⟨rfl, i0, i1, -⟩ := linkR_open hel
      have ed0 := (hwW.trans hB).cell (hrow 0 (by simp)).1
      have ed1 := (hwW.trans hB).cell (hrow 1 (by simp)).1
      have ed2 := (hwW.trans hB).cell (hrow 2 (by simp)).1
      have ed3 := (hwW.trans hB).cell (hrow 3 (by simp)).1
      simp only [List.getElem_cons_zero, List.getElem_cons_succ, Nat.add_zero] at ed0 ed1 ed2 ed3
      clear hrow hel
      have hki : (k : Int) < (p.2.2.1.length : Int) := by omega
      cases back
      · have HXI := Lib.hid (show I64 X.2.1 from i1)
        have HSN := Lib.hid (show (X.1 == a) = true → putL (setL ys) X.2.1 = setL (sideTo p.2.2.1 a false (k + 1)) from fun he => by rw [HY1.out (by unfold sideB; rw [if_neg (by decide)]; simpa using he), setL_snoc, ← HYS.out, HYS.out, setL_same (setL_inc _)]; rfl)
        have HSK := Lib.hid (show (X.1 == a) = false → ys = setL (sideTo p.2.2.1 a false (k + 1)) from fun he => by rw [HY2.out (by unfold sideB; rw [if_neg (by decide)]; simpa using he), HYS.out])
        clear i0 i1
        cases he : (X.1 == a)
        · go_wp2_with fail
          go_roundw
          case rel => exact ⟨k + 1, g, off, c, ys, by omega, by go_num, rfl, HSK.out he, intsR_good.mono (intsR_good.bel HIY.out (by (repeat (first | assumption | exact Bel.refl _ | apply Bel.drewN | apply Bel.drew | apply Bel.alloc | refine Bel.trans ?_ (by assumption)))) (fun b hb => hb.2)) (fun b hb => ⟨hb.1, Nat.lt_of_lt_of_le hb.2 (by first | omega | (simp; done) | (simp; omega))⟩), by (repeat (first | assumption | exact Bel.refl _ | apply Bel.drewN | apply Bel.drew | apply Bel.alloc | refine Bel.trans ?_ (by assumption)))⟩
          case measure => simp [intOf]; omega
        · have hIW := intsR_good.bel HIY.out (show Bel wr (wr.alloc (.cells #[.int .i64 X.1, .int .i64 X.2.1, .bool X.2.2.1, .int .i64 X.2.2.2] 70)) from by (repeat (first | assumption | exact Bel.refl _ | apply Bel.drewN | apply Bel.drew | apply Bel.alloc | refine Bel.trans ?_ (by assumption)))) (fun b hb => hb.2)
          have HIW := Lib.hid hIW
          clear hIW
          go_wp2_with fail
          refine (sSetAdd_any _ ys X.2.1 _ _ HIW.out (fun b hb => Nat.lt_of_lt_of_le hb.2 (by first | omega | (simp; done) | (simp; omega))) HXI.out (by omega)).mono ?_
          rintro e w1 ⟨g1, off1, c1, rfl, hI1, gB⟩
          have gB1 : Bel wr w1 := by (repeat (first | assumption | exact Bel.refl _ | apply Bel.drewN | apply Bel.drew | apply Bel.alloc | refine Bel.trans ?_ (by assumption)))
          have HI1 := Lib.hid (show intsR (New w w1) w1 [.slice (some ⟨g1, off1, none⟩) (putL (setL ys) X.2.1).length c1] (putL (setL ys) X.2.1) from intsR_good.mono hI1 (fun b hb => ⟨by have h1 := (hb.resolve_left id).1; simp at h1; have := hB.size; have := hwW.size; omega, (hb.resolve_left id).2⟩))
          clear hI1
          go_wp2_with fail
          go_roundw
          case rel => exact ⟨k + 1, g1, off1, c1, putL (setL ys) X.2.1, by omega, by go_num, rfl, HSN.out he, HI1.out, hB.trans gB1⟩
          case measure => simp [intOf]; omega
      · have HXI := Lib.hid (show I64 X.1 from i0)
        have HSN := Lib.hid (show (X.2.1 == a) = true → putL (setL ys) X.1 = setL (sideTo p.2.2.1 a true (k + 1)) from fun he => by rw [HY1.out (by unfold sideB; rw [if_pos rfl]; simpa using he), setL_snoc, ← HYS.out, HYS.out, setL_same (setL_inc _)]; rfl)
        have HSK := Lib.hid (show (X.2.1 == a) = false → ys = setL (sideTo p.2.2.1 a true (k + 1)) from fun he => by rw [HY2.out (by unfold sideB; rw [if_pos rfl]; simpa using he), HYS.out])
        clear i0 i1
        cases he : (X.2.1 == a)
        · go_wp2_with fail
          go_roundw
          case rel => exact ⟨k + 1, g, off, c, ys, by omega, by go_num, rfl, HSK.out he, intsR_good.mono (intsR_good.bel HIY.out (by (repeat (first | assumption | exact Bel.refl _ | apply Bel.drewN | apply Bel.drew | apply Bel.alloc | refine Bel.trans ?_ (by assumption)))) (fun b hb => hb.2)) (fun b hb => ⟨hb.1, Nat.lt_of_lt_of_le hb.2 (by first | omega | (simp; done) | (simp; omega))⟩), by (repeat (first | assumption | exact Bel.refl _ | apply Bel.drewN | apply Bel.drew | apply Bel.alloc | refine Bel.trans ?_ (by assumption)))⟩
          case measure => simp [intOf]; omega
        · have hIW := intsR_good.bel HIY.out (show Bel wr (wr.alloc (.cells #[.int .i64 X.1, .int .i64 X.2.1, .bool X.2.2.1, .int .i64 X.2.2.2] 70)) from by (repeat (first | assumption | exact Bel.refl _ | apply Bel.drewN | apply Bel.drew | apply Bel.alloc | refine Bel.trans ?_ (by assumption)))) (fun b hb => hb.2)
          have HIW := Lib.hid hIW
          clear hIW
          go_wp2_with fail
          refine (sSetAdd_any _ ys X.1 _ _ HIW.out (fun b hb => Nat.lt_of_lt_of_le hb.2 (by first | omega | (simp; done) | (simp; omega))) HXI.out (by omega)).mono ?_
          rintro e w1 ⟨g1, off1, c1, rfl, hI1, gB⟩
          have gB1 : Bel wr w1 := by (repeat (first | assumption | exact Bel.refl _ | apply Bel.drewN | apply Bel.drew | apply Bel.alloc | refine Bel.trans ?_ (by assumption)))
          have HI1 := Lib.hid (show intsR (New w w1) w1 [.slice (some ⟨g1, off1, none⟩) (putL (setL ys) X.1).length c1] (putL (setL ys) X.1) from intsR_good.mono hI1 (fun b hb => ⟨by have h1 := (hb.resolve_left id).1; simp at h1; have := hB.size; have := hwW.size; omega, (hb.resolve_left id).2⟩))
          clear hI1
          go_wp2_with fail
          go_roundw
          case rel => exact ⟨k + 1, g1, off1, c1, putL (setL ys) X.1, by omega, by go_num, rfl, HSN.out he, HI1.out, hB.trans gB1⟩
          case measure => simp [intOf]; omega
    · obtain rfl : k = p.2.2.1.length := by omega
      have HE := Lib.hid (show ys = sideV p a back from HYS.out)
      go_wp2
      go_ret
      exact ⟨g, off, c, by rw [← HE.out]; rfl, by rw [← HE.out]; exact intsR_good.mono HIY.out (fun b hb => .inr hb), hwW.trans hB⟩

set_option maxRecDepth 100000 in
set_option maxHeartbeats 2000000 in
theorem sSuccessors_any (v : Value) (p : ProjT) (S : Nat → Prop) (a : Int) (w : World) (hx : aggR projR S w v p) (hS : ∀ b, S b → b < w.heap.size) (_hn : bulkProject p ≤ 1048576) : Calls Try.prog 64 #[v, .int .i64 a] w (FreshV intsR w (sucV p a)) := by
  obtain ⟨cs, rfl, hx⟩ := hx
  obtain ⟨c1, c2, c3, c4, rfl, q0, q1, q2, q3, q4⟩ := projR_open hx
  have Q1 := Lib.hid q1
  have Q2 := Lib.hid q2
  have Q3 := Lib.hid q3
  have Q4 := Lib.hid q4
  have HP := Lib.hid hx
  obtain ⟨p1, k1, rfl, l1, l1', -⟩ := sliceR_open q1
  obtain ⟨p2, k2, rfl, l2, l2', -⟩ := sliceR_open q2
  obtain ⟨p3, k3, rfl, l3, l3', -⟩ := sliceR_open q3
  obtain ⟨p4, k4, rfl, l4, l4', -⟩ := sliceR_open q4
  unfold maxLen at l1' l2' l3' l4'
  clear hx q0 q1 q2 q3 q4
  have HS := Lib.hid hS
  have HNB := Lib.hid _hn
  clear hS _hn
  have HP1 := Lib.hid (show ∀ W, Bel w W → aggR projR S W (.agg #[.int .i64 p.1, .slice p1 p.2.1.length k1, .slice p2 p.2.2.1.length k2, .slice p3 p.2.2.2.1.length k3, .slice p4 p.2.2.2.2.length k4]) p from fun W hW => aggR_mk (projR_good.bel HP.out hW HS.out))
  show Calls Try.prog 64 #[.agg #[.int .i64 p.1, .slice p1 p.2.1.length k1, .slice p2 p.2.2.1.length k2, .slice p3 p.2.2.2.1.length k3, .slice p4 p.2.2.2.2.length k4], .int .i64 a] w _
  go_enter Try.func64, Try.ntmps64
  obtain ⟨W0, hW0, hwW, hsz0, hbx⟩ : ∃ W0, W0 = w.alloc (.cells #[.int .i64 p.1, .slice p1 p.2.1.length k1, .slice p2 p.2.2.1.length k2, .slice p3 p.2.2.2.1.length k3, .slice p4 p.2.2.2.2.length k4] 34) ∧ Bel w W0 ∧ W0.heap.size = w.heap.size + 1 ∧ W0.cell? ⟨w.heap.size, 0, none⟩ = some (.int .i64 p.1) ∧ W0.cell? ⟨w.heap.size, 1, none⟩ = some (.slice p1 p.2.1.length k1) ∧ W0.cell? ⟨w.heap.size, 2, none⟩ = some (.slice p2 p.2.2.1.length k2) ∧ W0.cell? ⟨w.heap.size, 3, none⟩ = some (.slice p3 p.2.2.2.1.length k3) ∧ W0.cell? ⟨w.heap.size, 4, none⟩ = some (.slice p4 p.2.2.2.2.length k4) := ⟨_, rfl, by (repeat (first | assumption | exact Bel.refl _ | apply Bel.drewN | apply Bel.drew | apply Bel.alloc | refine Bel.trans ?_ (by assumption))), by simp, by simp [go_sem], by simp [go_sem], by simp [go_sem], by simp [go_sem], by simp [go_sem]⟩
  have HBX := Lib.hid (show ∀ W, Bel W0 W → W.cell? ⟨w.heap.size, 0, none⟩ = some (.int .i64 p.1) ∧ W.cell? ⟨w.heap.size, 1, none⟩ = some (.slice p1 p.2.1.length k1) ∧ W.cell? ⟨w.heap.size, 2, none⟩ = some (.slice p2 p.2.2.1.length k2) ∧ W.cell? ⟨w.heap.size, 3, none⟩ = some (.slice p3 p.2.2.2.1.length k3) ∧ W.cell? ⟨w.heap.size, 4, none⟩ = some (.slice p4 p.2.2.2.2.length k4) from fun W hW => keep5 hbx hW)
  clear hbx
  have HSZ0 := Lib.hid hsz0
  clear hsz0
  go_wp2_with fail
  rw [← hW0]
  clear hW0
  refine (sProjectOk_any _ p S _ (HP1.out _ (by (repeat (first | assumption | exact Bel.refl _ | apply Bel.drewN | apply Bel.drew | apply Bel.alloc | refine Bel.trans ?_ (by assumption))))) (fun b hb => Nat.lt_of_lt_of_le (HS.out b hb) (Bel.size (by (repeat (first | assumption | exact Bel.refl _ | apply Bel.drewN | apply Bel.drew | apply Bel.alloc | refine Bel.trans ?_ (by assumption))))))).mono ?_
  rintro e w1 ⟨rfl, g1⟩
  have G1 : Bel W0 w1 := by (repeat (first | assumption | exact Bel.refl _ | apply Bel.drewN | apply Bel.drew | apply Bel.alloc | refine Bel.trans ?_ (by assumption)))
  have G2 : Bel w w1 := hwW.trans G1
  obtain ⟨b0, b1, b2, b3, b4⟩ := HBX.out w1 G1
  cases hp : projOk p
  · have HD := Lib.hid (show intsR (New w w1) w1 [.slice none 0 0] (sucV p a) from by unfold sucV nbrV; rw [if_neg (by rw [hp]; simp)]; exact ⟨none, 0, rfl, Nat.le_refl _, Nat.zero_le _, fun i h => by simp at h⟩)
    clear hp
    go_wp2
    go_ret
    exact ⟨_, rfl, HD.out, G2⟩
  have hbd := projOk_bd hp
  have HPO := Lib.hid hp
  have HVV := Lib.hid (fun (h : inB a 0 ((p.2.1.length : Int) - 1) = true) => show sucV p a = sideV p a false from if_pos ⟨hp, h⟩)
  have HVN := Lib.hid (fun (h : inB a 0 ((p.2.1.length : Int) - 1) = false) => show sucV p a = [] from if_neg (by rw [h]; simp))
  clear hp
  cases ha : inB a 0 ((p.2.1.length : Int) - 1)
  · have HD := Lib.hid (show intsR (New w w1) w1 [.slice none 0 0] (sucV p a) from by rw [HVN.out ha]; exact ⟨none, 0, rfl, Nat.le_refl _, Nat.zero_le _, fun i h => by simp at h⟩)
    clear HVV HVN
    go_wp2_with (go_at_call 126; refine (l01In_any _ _ _ _).mono ?_; rintro e w' ⟨rfl, rfl⟩; rw [ha])
    go_ret
    exact ⟨_, rfl, HD.out, G2⟩
  · have HVV := Lib.hid (HVV.out ha)
    clear HVN
    go_wp2_with (go_at_call 126; refine (l01In_any _ _ _ _).mono ?_; rintro e w' ⟨rfl, rfl⟩; rw [ha])
    refine (sSide_any _ p S _ (HP1.out _ (by (repeat (first | assumption | exact Bel.refl _ | apply Bel.drewN | apply Bel.drew | apply Bel.alloc | refine Bel.trans ?_ (by assumption))))) (fun b hb => Nat.lt_of_lt_of_le (HS.out b hb) (Bel.size (by (repeat (first | assumption | exact Bel.refl _ | apply Bel.drewN | apply Bel.drew | apply Bel.alloc | refine Bel.trans ?_ (by assumption)))))) HNB.out a false HPO.out).mono ?_
    rintro e w2 ⟨g, off, c, rfl, hI, gB⟩
    have HRES := Lib.hid (show intsR (New w w2) w2 [.slice (some ⟨g, off, none⟩) (sideV p a false).length c] (sucV p a) from by rw [HVV.out]; exact intsR_good.mono hI (fun b hb => ⟨by have := (hb.resolve_left id).1; have := G2.size; omega, (hb.resolve_left id).2⟩))
    clear hI
    go_wp2
    go_ret
    exact ⟨_, rfl, HRES.out, G2.trans gB⟩


end Go.Proofs.Ytiaamddhocdhaaa
