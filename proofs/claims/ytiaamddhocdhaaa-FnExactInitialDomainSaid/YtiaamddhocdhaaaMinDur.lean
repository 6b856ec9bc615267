/- Contracts of chosen, MinDuration. -/
import Derived.Test.YtiaamddhocdhaaaOwn
import Derived.Test.YtiaamddhocdhaaaProjF
import Derived.Test.YtiaamddhocdhaaaHas
namespace Go.Proofs.Ytiaamddhocdhaaa
open Go.ChangeShapes Go.WideShapes Go.ChangeAt Go.RowKit
set_option linter.unusedVariables false

/-- The chosen ones of the first k modes. -/
def chosenTo (l : List ModeT) (sel : List Int) : Nat → List ModeT
  | 0 => []
  | k + 1 => if hasB k sel = true then chosenTo l sel k ++ [l.getD k zMode] else chosenTo l sel k
theorem chosenTo_le (l : List ModeT) (sel : List Int) : ∀ k, (chosenTo l sel k).length ≤ k := by
  intro k
  induction k with
  | zero => simp [chosenTo]
  | succ k ih => simp only [chosenTo]; split <;> (try simp) <;> omega
theorem chosenTo_yes {l : List ModeT} {sel : List Int} {k : Nat} (h : hasB k sel = true) : chosenTo l sel (k + 1) = chosenTo l sel k ++ [l.getD k zMode] := by simp only [chosenTo]; rw [if_pos h]
theorem chosenTo_no {l : List ModeT} {sel : List Int} {k : Nat} (h : hasB k sel = false) : chosenTo l sel (k + 1) = chosenTo l sel k := by simp only [chosenTo]; rw [if_neg (by rw [h]; simp)]
def minStep (a : Option Int) (m : ModeT) : Option Int := some (match a with | none => m.1 | some n => if m.1 < n then m.1 else n)
def minO (xs : List ModeT) : Option Int := xs.foldl minStep none
/-- The least duration of some modes, 0 if there is none. -/
def minD (xs : List ModeT) : Int := (minO xs).getD 0
theorem minO_snoc (xs : List ModeT) (m : ModeT) : minO (xs ++ [m]) = minStep (minO xs) m := by simp [minO]
theorem minO_some {xs : List ModeT} (h : xs ≠ []) : ∃ n, minO xs = some n := by
  rcases List.eq_nil_or_concat xs with rfl | ⟨ys, y, rfl⟩
  · exact absurd rfl h
  · exact ⟨_, by rw [List.concat_eq_append, minO_snoc]; rfl⟩
theorem minD_first (m : ModeT) : minD ([] ++ [m]) = m.1 := rfl
theorem minD_lt {xs : List ModeT} {m : ModeT} (h : xs.length ≠ 0) (hlt : m.1 < minD xs) : minD (xs ++ [m]) = m.1 := by
  obtain ⟨n, hn⟩ := minO_some (xs := xs) (by rintro rfl; simp at h)
  unfold minD at hlt ⊢
  rw [hn] at hlt
  rw [minO_snoc, hn]
  simp only [minStep, Option.getD_some] at hlt ⊢
  rw [if_pos hlt]
theorem minD_ge {xs : List ModeT} {m : ModeT} (h : xs.length ≠ 0) (hlt : ¬ m.1 < minD xs) : minD (xs ++ [m]) = minD xs := by
  obtain ⟨n, hn⟩ := minO_some (xs := xs) (by rintro rfl; simp at h)
  unfold minD at hlt ⊢
  rw [hn] at hlt
  rw [minO_snoc, hn]
  simp only [minStep, Option.getD_some] at hlt ⊢
  rw [if_neg hlt]
theorem minO_in : ∀ (n : Nat) (xs : List ModeT), xs.length = n → ∀ v, minO xs = some v → ∃ m, m ∈ xs ∧ v = m.1 := by
  intro n
  induction n with
  | zero => intro xs h v hv; obtain rfl := List.eq_nil_of_length_eq_zero h; simp [minO] at hv
  | succ n ih =>
    intro xs h v hv
    rcases List.eq_nil_or_concat xs with rfl | ⟨ys, y, rfl⟩
    · simp at h
    · rw [List.concat_eq_append] at h hv ⊢
      rw [minO_snoc] at hv
      simp only [minStep, Option.some.injEq] at hv
      cases hy : minO ys with
      | none => rw [hy] at hv; exact ⟨y, by simp, hv.symm⟩
      | some u =>
        rw [hy] at hv
        simp only at hv
        split at hv
        · exact ⟨y, by simp, hv.symm⟩
        · obtain ⟨m, h1, h2⟩ := ih ys (by simp at h; omega) u hy
          exact ⟨m, by simp [h1], by rw [← hv, h2]⟩
theorem chosenTo_in {l : List ModeT} {sel : List Int} {m : ModeT} : ∀ k, k ≤ l.length → m ∈ chosenTo l sel k → m ∈ l := by
  intro k
  induction k with
  | zero => intro _ h; simp [chosenTo] at h
  | succ k ih =>
    intro hk h
    simp only [chosenTo] at h
    split at h
    · rcases List.mem_append.1 h with h | h
      · exact ih (by omega) h
      · obtain rfl : m = l.getD k zMode := by simpa using h
        rw [List.getD_eq_getElem?_getD, List.getElem?_eq_getElem (by omega)]
        exact List.getElem_mem _
    · exact ih (by omega) h
/-- The least duration of an activity in some of its modes. -/
def minDur (l : List ModeT) (sel : List Int) : Int := minD (chosenTo l sel l.length)
theorem minDur_bd {l : List ModeT} {sel : List Int} (h : ∀ m, m ∈ l → 1 ≤ m.1 ∧ m.1 ≤ 12) : 0 ≤ minDur l sel ∧ minDur l sel ≤ 12 := by
  unfold minDur minD
  cases hm : minO (chosenTo l sel l.length) with
  | none => simp
  | some v =>
    obtain ⟨m, h1, rfl⟩ := minO_in _ _ rfl v hm
    have := h m (chosenTo_in _ (Nat.le_refl _) h1)
    simp only [Option.getD_some]
    omega

set_option maxHeartbeats 400000 in
theorem chosen_any (v : Value) (x : ActT) (S : Nat → Prop) (v1 : Value) (sel : List Int) (T : Nat → Prop) (w : World) (hx : aggR actR S w v x) (hS : ∀ b, S b → b < w.heap.size) (hs : intsR T w [v1] sel) (hT : ∀ b, T b → b < w.heap.size) (hn : x.2.2.length ≤ 1000000) :
    Calls Try.prog 182 #[v, v1] w fun e w' => ∃ q cap, e = .returned (.slice q (chosenTo x.2.2 sel x.2.2.length).length cap) ∧ modesR (fun b => S b ∨ New w w' b) w' [.slice q (chosenTo x.2.2 sel x.2.2.length).length cap] (chosenTo x.2.2 sel x.2.2.length) ∧ Bel w w' := by
  obtain ⟨cs, rfl, hx⟩ := hx
  have HXA := Lib.hid hx
  obtain ⟨c2, rfl, q0, q1, q2⟩ := actR_open hx
  have HM := Lib.hid q2
  obtain ⟨p2, k2, rfl, l2, l2', -⟩ := sliceR_open q2
  unfold maxLen at l2'
  have HS := Lib.hid hS
  clear hx q0 q1 q2 hS
  have HQ := Lib.hid (show ∀ W, Bel w W → intsR T W [v1] sel from fun W hW => intsR_good.bel hs hW hT)
  obtain ⟨sp, sk, rfl, -⟩ := sliceR_open hs
  clear hs hT
  show Calls Try.prog 182 #[.agg #[.string x.1, .int .i64 x.2.1, .slice p2 x.2.2.length k2], .slice sp sel.length sk] w _
  go_enter Try.func182, Try.ntmps182
  go_wp2_with fail
  go_loopw [5, 12] (fun o i wr => ∃ (k : Nat) (xs : List ModeT) (q : Option Addr) (cap : Nat), k ≤ x.2.2.length ∧ i = .int .i64 k ∧ o = .slice q xs.length cap ∧ xs = chosenTo x.2.2 sel k ∧ Own S 3 modeR 176 (w.heap.size + 1) wr q cap xs ∧ Bel w wr ∧ w.heap.size + 1 ≤ wr.heap.size) (fun _ i _ => x.2.2.length - (intOf i).toNat)
  case atStart => exact ⟨0, [], _, _, Nat.zero_le _, rfl, rfl, rfl, Own.empty (alloc_at (by simp)) (by simp), by (repeat (first | exact Bel.refl _ | apply Bel.drewN | apply Bel.drew | apply Bel.alloc | refine Bel.trans ?_ (by assumption))), by simp⟩
  case round =>
    obtain ⟨k, xs, q, cap, hk, rfl, rfl, hxs, hO, hB, hsz⟩ := hrel
    have hxl : xs.length ≤ k := by rw [hxs]; exact chosenTo_le _ _ _
    have HX2 := Lib.hid hxs; clear hxs
    by_cases hlt : k < x.2.2.length
    · have HAP := Lib.hid (show ∀ b, S b → ∀ a, q = some a → b ≠ a.block from by
        intro b hb a ha
        have h1 := HS.out b hb
        rcases hO.cases with ⟨h2, _⟩ | ⟨g, cur, h2, h3, _⟩
        · rw [h2] at ha; cases ha
        · rw [h2] at ha
          obtain rfl : _ = a := by simpa using ha
          intro h4
          simp only at h4
          omega)
      obtain ⟨b, off, ecs, ea, hrow, hel⟩ := sliceR_at zMode HM.out hlt
      obtain rfl : p2 = some ⟨b, off, none⟩ := ea
      generalize hX : x.2.2.getD k zMode = X at *
      have HX := Lib.hid hX; clear hX
      obtain ⟨ec1, ec2, rfl, eq0, eq1, eq2⟩ := modeR_open hel
      have HEL := Lib.hid hel
      obtain ⟨u0, un, rfl, -⟩ := sliceR_open eq1
      obtain ⟨y0, yn, rfl, -⟩ := sliceR_open eq2
      have ed0 := hB.cell (hrow 0 (by simp)).1
      have ed1 := hB.cell (hrow 1 (by simp)).1
      have ed2 := hB.cell (hrow 2 (by simp)).1
      simp only [List.getElem_cons_zero, List.getElem_cons_succ, Nat.add_zero] at ed0 ed1 ed2
      clear hrow hel eq1 eq2 eq0
      have a0 := fun o => ((Bel.refl wr).alloc o).cell ed0
      cases hb : hasB (k : Int) sel
      · have HNX := Lib.hid (show chosenTo x.2.2 sel (k + 1) = xs from by rw [HX2.out]; exact chosenTo_no hb)
        have HBk := Lib.hid hb; clear hb
        go_wp2_with (go_at_call 40; refine (iSetHas_any _ sel _ T _ (HQ.out _ (by (repeat (first | exact Bel.refl _ | apply Bel.drewN | apply Bel.drew | apply Bel.alloc | refine Bel.trans ?_ (by assumption)))))).mono ?_; rintro e w' ⟨rfl, rfl⟩; rw [HBk.out])
        go_roundw
        case rel => exact ⟨k + 1, xs, q, cap, by omega, by go_num, rfl, HNX.out.symm, hO.bel modeR_good (by (repeat (first | exact Bel.refl _ | apply Bel.drewN | apply Bel.drew | apply Bel.alloc | refine Bel.trans ?_ (by assumption)))), by (repeat (first | exact Bel.refl _ | apply Bel.drewN | apply Bel.drew | apply Bel.alloc | refine Bel.trans ?_ (by assumption))), by simp; omega⟩
        case measure => simp [intOf]; omega
      · have HNX := Lib.hid (show chosenTo x.2.2 sel (k + 1) = xs ++ [X] from by rw [HX2.out, ← HX.out]; exact chosenTo_yes hb)
        have HBk := Lib.hid hb; clear hb
        go_wp2_with (first | (go_at_call 40; refine (iSetHas_any _ sel _ T _ (HQ.out _ (by (repeat (first | exact Bel.refl _ | apply Bel.drewN | apply Bel.drew | apply Bel.alloc | refine Bel.trans ?_ (by assumption)))))).mono ?_; rintro e w' ⟨rfl, rfl⟩; rw [HBk.out]) | (at_builtin; refine wpList_app (n := 3) modeR_good _ rfl _ _ 73 rfl (.agg #[.int .i64 0, .slice none 0 0, .slice none 0 0]) 56 Try.underlying73 (by kernel_rfl) rfl (by decide) (by decide) q cap xs (X) rfl (hO.bel modeR_good (by (repeat (first | exact Bel.refl _ | apply Bel.drewN | apply Bel.drew | apply Bel.alloc | refine Bel.trans ?_ (by assumption))))) (wr.heap.size + 1) 1 [.int .i64 X.1, .slice u0 X.2.1.length un, .slice y0 X.2.2.length yn] rfl rfl (World.news_of_block (alloc_at (by simp))) (by intro u hu; simp at hu; rcases hu with rfl | rfl | rfl <;> rfl) (modeR_good.mono (modeR_good.bel HEL.out (by (repeat (first | exact Bel.refl _ | apply Bel.drewN | apply Bel.drew | apply Bel.alloc | refine Bel.trans ?_ (by assumption)))) HS.out) fun b hb => ⟨hb, Nat.lt_of_lt_of_le (HS.out b hb) (Bel.size (by (repeat (first | exact Bel.refl _ | apply Bel.drewN | apply Bel.drew | apply Bel.alloc | refine Bel.trans ?_ (by assumption))))), HAP.out b hb⟩) (by omega) (by first | omega | (simp; omega)) ?_; intro q' cap' w' hO' hBW hsz'))
        have HB := hBW w (by (repeat (first | exact Bel.refl _ | apply Bel.drewN | apply Bel.drew | apply Bel.alloc | refine Bel.trans ?_ (by assumption)))) (by omega)
        have hsz2 : w.heap.size + 1 ≤ w'.heap.size := by simp at hsz'; omega
        clear hBW hsz'
        go_roundw
        case rel => exact ⟨k + 1, xs ++ [X], q', cap', by omega, by go_num, by simp, HNX.out.symm, hO', HB, hsz2⟩
        case measure => simp [intOf]; omega
    · have hkn : k = x.2.2.length := by omega
      have HD := Lib.hid (show ∃ q2 cap2, Value.slice q xs.length cap = .slice q2 (chosenTo x.2.2 sel x.2.2.length).length cap2 ∧ modesR (fun b => S b ∨ New w wr b) wr [.slice q2 (chosenTo x.2.2 sel x.2.2.length).length cap2] (chosenTo x.2.2 sel x.2.2.length) from by
        rw [← hkn, ← HX2.out]
        exact ⟨q, cap, rfl, hO.done modeR_good (fun b h _ => .inl h) (fun b h1 h2 => .inr ⟨by omega, h2⟩)⟩)
      clear hkn
      go_wp2
      go_ret
      obtain ⟨q2, cap2, h1, h2⟩ := HD.out
      exact ⟨q2, cap2, congrArg Ending.returned h1, h2, hB⟩

theorem take_snoc {l : List ModeT} {k : Nat} (h : k < l.length) : l.take (k + 1) = l.take k ++ [l.getD k zMode] := by
  rw [List.take_succ_eq_append_getElem h]
  simp [List.getD, h]

set_option maxHeartbeats 400000 in
theorem iMinDuration_any (v : Value) (x : ActT) (S : Nat → Prop) (v1 : Value) (sel : List Int) (T : Nat → Prop) (w : World) (hx : aggR actR S w v x) (hS : ∀ b, S b → b < w.heap.size) (hs : intsR T w [v1] sel) (hT : ∀ b, T b → b < w.heap.size) (hn : x.2.2.length ≤ 1000000) :
    Calls Try.prog 157 #[v, v1] w fun e w' => e = .returned (.int .i64 (minDur x.2.2 sel)) ∧ Bel w w' := by
  obtain ⟨cs, rfl, hx⟩ := hx
  have HXA := Lib.hid hx
  obtain ⟨c2, rfl, q0, q1, q2⟩ := actR_open hx
  have HM := Lib.hid q2
  obtain ⟨p2, k2, rfl, l2, l2', -⟩ := sliceR_open q2
  unfold maxLen at l2'
  have HS := Lib.hid hS
  clear hx q0 q1 q2 hS
  have HQ := Lib.hid (show ∀ W, Bel w W → intsR T W [v1] sel from fun W hW => intsR_good.bel hs hW hT)
  obtain ⟨sp, sk, rfl, -⟩ := sliceR_open hs
  have hTT := hT
  clear hs hT
  have HQT := Lib.hid hTT
  clear hTT
  show Calls Try.prog 157 #[.agg #[.string x.1, .int .i64 x.2.1, .slice p2 x.2.2.length k2], .slice sp sel.length sk] w _
  go_enter Try.func157, Try.ntmps157
  go_wp2_with fail
  refine (chosen_any _ x S _ sel T _ (aggR_mk (actR_good.bel HXA.out (by (repeat (first | exact Bel.refl _ | apply Bel.drewN | apply Bel.drew | apply Bel.alloc | refine Bel.trans ?_ (by assumption)))) HS.out)) (fun b hb => Nat.lt_of_lt_of_le (HS.out b hb) (Bel.size (by (repeat (first | exact Bel.refl _ | apply Bel.drewN | apply Bel.drew | apply Bel.alloc | refine Bel.trans ?_ (by assumption)))))) (HQ.out _ (by (repeat (first | exact Bel.refl _ | apply Bel.drewN | apply Bel.drew | apply Bel.alloc | refine Bel.trans ?_ (by assumption))))) (fun b hb => Nat.lt_of_lt_of_le (HQT.out b hb) (Bel.size (by (repeat (first | exact Bel.refl _ | apply Bel.drewN | apply Bel.drew | apply Bel.alloc | refine Bel.trans ?_ (by assumption)))))) hn).mono ?_
  rintro e w1 ⟨q, cap, rfl, hL, g1⟩
  have hll := chosenTo_le x.2.2 sel x.2.2.length
  have HMD := Lib.hid (show minDur x.2.2 sel = minD (chosenTo x.2.2 sel x.2.2.length) from rfl)
  generalize chosenTo x.2.2 sel x.2.2.length = L at *
  have HL := Lib.hid hL
  clear hL
  have G1 : Bel w w1 := by (repeat (first | exact Bel.refl _ | apply Bel.drewN | apply Bel.drew | apply Bel.alloc | refine Bel.trans ?_ (by assumption)))
  go_wp2_with fail
  go_loopw [5, 12] (fun n i wr => ∃ (k : Nat) (c : Int), k ≤ L.length ∧ i = .int .i64 k ∧ n = .int .i64 c ∧ c = minD (L.take k) ∧ Bel w1 wr) (fun _ i _ => L.length - (intOf i).toNat)
  case atStart => exact ⟨0, 0, Nat.zero_le _, rfl, rfl, rfl, Bel.refl _⟩
  case round =>
    obtain ⟨k, c, hk, rfl, rfl, hc, hB⟩ := hrel
    have HT := Lib.hid hc; clear hc
    by_cases hlt : k < L.length
    · obtain ⟨b, off, ecs, ea, hrow, hel⟩ := sliceR_at zMode HL.out hlt
      obtain rfl : q = some ⟨b, off, none⟩ := ea
      generalize hX : L.getD k zMode = X at *
      have HX := Lib.hid hX; clear hX
      obtain ⟨ec1, ec2, rfl, eq0, eq1, eq2⟩ := modeR_open hel
      have HEL := Lib.hid hel
      obtain ⟨u0, un, rfl, -⟩ := sliceR_open eq1
      obtain ⟨y0, yn, rfl, -⟩ := sliceR_open eq2
      have ed0 := hB.cell (hrow 0 (by simp)).1
      have ed1 := hB.cell (hrow 1 (by simp)).1
      have ed2 := hB.cell (hrow 2 (by simp)).1
      simp only [List.getElem_cons_zero, List.getElem_cons_succ, Nat.add_zero] at ed0 ed1 ed2
      clear hrow hel eq1 eq2 eq0
      by_cases hk0 : k = 0
      · subst hk0
        simp only [Nat.zero_mul, Nat.add_zero] at ed0 ed1 ed2
        go_wp2
        go_roundw
        case rel => exact ⟨0 + 1, X.1, by omega, by go_num, rfl, by rw [take_snoc hlt, HX.out]; exact (by rw [List.take_zero]; rfl), by (repeat (first | exact Bel.refl _ | apply Bel.drewN | apply Bel.drew | apply Bel.alloc | refine Bel.trans ?_ (by assumption)))⟩
        case measure => simp [intOf]; omega
      have hkn : (((k : Nat) : Int) == 0) = false := beq_eq_false_iff_ne.2 (by omega)
      have htl : (L.take k).length ≠ 0 := by rw [List.length_take]; omega
      have HTL := Lib.hid htl; clear htl
      by_cases hd : X.1 < c
      · have HD := Lib.hid hd
        go_wp2
        go_roundw
        case rel => exact ⟨k + 1, X.1, by omega, by go_num, rfl, by rw [take_snoc hlt, HX.out]; exact (minD_lt HTL.out (by rw [← HT.out]; exact HD.out)).symm, by (repeat (first | exact Bel.refl _ | apply Bel.drewN | apply Bel.drew | apply Bel.alloc | refine Bel.trans ?_ (by assumption)))⟩
        case measure => simp [intOf]; omega
      · have HD := Lib.hid hd
        go_wp2
        go_roundw
        case rel => exact ⟨k + 1, c, by omega, by go_num, rfl, by rw [take_snoc hlt, HX.out]; exact (HT.out.trans (minD_ge HTL.out (by rw [← HT.out]; have := HD.out; omega)).symm), by (repeat (first | exact Bel.refl _ | apply Bel.drewN | apply Bel.drew | apply Bel.alloc | refine Bel.trans ?_ (by assumption)))⟩
        case measure => simp [intOf]; omega
    · have hkn : k = L.length := by omega
      have HD := Lib.hid (show c = minDur x.2.2 sel from by rw [HMD.out, HT.out, hkn, List.take_of_length_le (Nat.le_refl _)])
      clear hkn
      go_wp2
      go_ret
      exact ⟨ret_int HD.out, by (repeat (first | exact Bel.refl _ | apply Bel.drewN | apply Bel.drew | apply Bel.alloc | refine Bel.trans ?_ (by assumption)))⟩


end Go.Proofs.Ytiaamddhocdhaaa
