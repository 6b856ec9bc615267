/- SetDifference, both sides. -/
import Derived.Test.YthkcdmghchikjaaGreatSide
import Derived.Test.YthkcdmghchikjaaGreatApps
namespace Go.Proofs.YthkcdmghchikjaaGreat
open Go.ChangeShapes Go.WideShapes Go.ChangeAt Go.RowKit
set_option linter.unusedVariables false

theorem own_some2 {α : Type} {S : Nat → Prop} {n : Nat} {R : RepT α} {e : TypeId} {B : Nat} {w : World} {p : Option Addr} {cap : Nat} {xs : List α} (h : Own S n R e B w p cap xs) (hx : xs ≠ []) : p ≠ none := by
  rcases h.cases with ⟨_, _, h1⟩ | ⟨g, cur, h1, _⟩
  · exact absurd h1 hx
  · rw [h1]; simp
/-- What kept hands back: a list in new memory, not nil. -/
def KeptD (w : World) (xs : List Int) (e : Ending) (w' : World) : Prop := ∃ ad c, e = .returned (.slice (some ad) xs.length c) ∧ intsR (New w w') w' [.slice (some ad) xs.length c] xs ∧ Bel w w'
theorem filter_next2 {xs : List Int} {c : Int → Bool} {k : Nat} (h : k < xs.length) : (xs.take (k + 1)).filter c = (xs.take k).filter c ++ (if c (xs.getD k 0) = true then [xs.getD k 0] else []) := by
  rw [take_next h, List.filter_append]
  generalize xs.getD k 0 = X
  congr 1
  by_cases e : c X = true
  · rw [if_pos e]; simp [e]
  · rw [if_neg e]; simp [e]
set_option maxRecDepth 100000 in
set_option maxHeartbeats 1000000 in
theorem keptDiff_any (B0 : Nat) (c : Int → Bool) (v : Value) (xs : List Int) (T : Nat → Prop) (w : World) (hx : intsR T w [v] xs) (hT : ∀ b, T b → b < w.heap.size) (hl : xs.length ≤ 1000)
    (hcl : ∀ W, Bel w W → ∀ x, x ∈ xs → Calls Tryz.prog 120 #[.int .i64 x, .pointer (some ⟨B0, 0, none⟩)] W fun e w' => e = .returned (.bool (c x)) ∧ Bel W w') :
    Calls Tryz.prog 80 #[v, .func (.func 120) #[] #[.pointer (some ⟨B0, 0, none⟩)]] w (KeptD w (xs.filter c)) := by
  have HX := Lib.hid hx
  have HI := Lib.hid (ints_mem hx)
  have HCL := Lib.hid hcl
  obtain ⟨p0, c0, rfl, l0, l0', -⟩ := sliceR_open hx
  unfold maxLen at l0'
  clear hx hT hcl
  have hO0 : Own (fun _ => False) 1 intR 3 w.heap.size (w.alloc (.cells #[] 3)) (some ⟨w.heap.size, 0, none⟩) 0 [] := Own.empty (alloc_at rfl) (Nat.le_refl _)
  go_enter Tryz.func80, Tryz.ntmps80
  go_wp2_with fail
  go_loopw [5, 11] (fun o i wr => ∃ (k : Nat) (ys : List Int) (q1 : Option Addr) (c1 : Nat), k ≤ xs.length ∧ i = .int .i64 k ∧ o = .slice q1 ys.length c1 ∧ ys = (xs.take k).filter c ∧ Own (fun _ => False) 1 intR 3 w.heap.size wr q1 c1 ys ∧ q1 ≠ none ∧ Bel w wr) (fun _ i _ => xs.length - (intOf i).toNat)
  case atStart => exact ⟨0, [], _, _, Nat.zero_le _, rfl, rfl, by simp, hO0, by simp, by (repeat (first | assumption | exact Bel.refl _ | apply Bel.drewN | apply Bel.drew | apply Bel.alloc | refine Bel.trans ?_ (by assumption)))⟩
  case round =>
    clear hO0
    obtain ⟨k, ys, q1, c1, hk, rfl, rfl, hys, hO, hqn, hB⟩ := hrel
    have HYS := Lib.hid hys
    have hyl : ys.length ≤ k := by rw [hys]; exact Nat.le_trans (List.length_filter_le _ _) (by rw [List.length_take]; omega)
    have hwsz := hB.size
    clear hys
    by_cases hlt : k < xs.length
    · obtain ⟨b, off', e1, e2⟩ := intsR_at' HX.out hlt
      obtain rfl : p0 = some ⟨b, off', none⟩ := e1
      have e2 := hB.cell e2
      have hmem : xs.getD k 0 ∈ xs := by rw [List.getD_eq_getElem?_getD, List.getElem?_eq_getElem hlt, Option.getD_some]; exact List.getElem_mem hlt
      have HXI := Lib.hid (HI.out _ hmem)
      have HC := Lib.hid (HCL.out wr hB _ hmem)
      clear hmem
      have HSN := Lib.hid (filter_next2 (c := c) hlt)
      have hki : (k : Int) < (xs.length : Int) := by omega
      generalize xs.getD k 0 = X at *
      have HQN := Lib.hid hqn
      clear hqn
      go_wp2_with fail
      refine (HC.out).mono ?_
      rintro e w1 ⟨rfl, g1⟩
      have hO := hO.bel intR_good (show Bel wr w1 from by (repeat (first | assumption | exact Bel.refl _ | apply Bel.drewN | apply Bel.drew | apply Bel.alloc | refine Bel.trans ?_ (by assumption))))
      have hB1 := hB.trans (show Bel wr w1 from by (repeat (first | assumption | exact Bel.refl _ | apply Bel.drewN | apply Bel.drew | apply Bel.alloc | refine Bel.trans ?_ (by assumption))))
      have hwsz := hB1.size
      cases he : c X
      · have HSK := Lib.hid (show ys = (xs.take (k + 1)).filter c from by rw [HSN.out, HYS.out, he]; simp)
        clear he
        go_wp2_with fail
        go_roundw
        case rel => exact ⟨k + 1, ys, q1, c1, by omega, by go_num, rfl, HSK.out, hO, HQN.out, hB1⟩
        case measure => simp [intOf]; omega
      · have HSK := Lib.hid (show ys ++ [X] = (xs.take (k + 1)).filter c from by rw [HSN.out, HYS.out, he]; simp)
        clear he
        go_wp2_with ((at_builtin; refine wpList_app (n := 1) intR_good _ rfl _ _ 25 rfl (.int .i64 0) 8 Tryz.underlying25 (by kernel_rfl) rfl (by decide) (by decide) q1 c1 ys (X) rfl (hO.bel intR_good (by (repeat (first | assumption | exact Bel.refl _ | apply Bel.drewN | apply Bel.drew | apply Bel.alloc | refine Bel.trans ?_ (by assumption))))) _ 1 [.int .i64 X] rfl rfl (World.news_of_block (alloc_at (by simp))) (by intro u hu; simp at hu; subst hu; rfl) (intRep HXI.out) (by omega) (by first | omega | (simp; omega)) ?_; intro q' cap' w' hO' hBW hsz'))
        have HB := Lib.hid (hBW w (by (repeat (first | assumption | exact Bel.refl _ | apply Bel.drewN | apply Bel.drew | apply Bel.alloc | refine Bel.trans ?_ (by assumption)))) (Nat.le_refl _))
        clear hBW hsz'
        go_roundw
        case rel => exact ⟨k + 1, ys ++ [X], q', cap', by omega, by go_num, by simp, HSK.out, hO', own_some2 hO' (by simp), HB.out⟩
        case measure => simp [intOf]; omega
    · obtain rfl : k = xs.length := by omega
      obtain ⟨ad, rfl⟩ : ∃ ad, q1 = some ad := by
        cases q1 with
        | none => exact absurd rfl hqn
        | some ad => exact ⟨ad, rfl⟩
      clear hqn
      have HE := Lib.hid (show ys = xs.filter c from by rw [HYS.out, List.take_length])
      have HI2 := Lib.hid (show intsR (New w wr) wr [.slice (some ad) ys.length c1] ys from hO.done intR_good (fun _ hf => hf.elim) (fun b h1 h2 => ⟨h1, h2⟩))
      clear hO
      go_wp2
      go_ret
      exact ⟨ad, c1, by rw [← HE.out]; rfl, by rw [← HE.out]; exact HI2.out, hB⟩

def notB (b : List Int) (x : Int) : Bool := !hasB x b
def difL (a b : List Int) : List Int := a.filter (notB b)
theorem difL_le (a b : List Int) : (difL a b).length ≤ a.length := List.length_filter_le _ _
theorem difL_mem {a b : List Int} {x : Int} (h : x ∈ difL a b) : x ∈ a := (List.mem_filter.1 h).1
set_option maxRecDepth 100000 in
set_option maxHeartbeats 1000000 in
theorem diff1_any (B0 : Nat) (v2 : Value) (ys : List Int) (T : Nat → Prop) (x : Int) (w : World) (hy : intsR T w [v2] ys) (hT : ∀ b, T b → b < w.heap.size) (b0 : w.cell? ⟨B0, 0, none⟩ = some v2) :
    Calls Tryz.prog 120 #[.int .i64 x, .pointer (some ⟨B0, 0, none⟩)] w fun e w' => e = .returned (.bool (notB ys x)) ∧ Bel w w' := by
  have HY := Lib.hid hy
  obtain ⟨q0, c0, rfl, -, -, -⟩ := sliceR_open hy
  clear hy hT
  go_enter Tryz.func120, Tryz.ntmps120
  go_wp2_with fail
  refine (iSetHas_any _ ys x T _ HY.out).mono ?_
  rintro e w' ⟨rfl, rfl⟩
  go_wp2
  go_ret
  exact ⟨rfl, Bel.refl _⟩
set_option maxRecDepth 100000 in
set_option maxHeartbeats 1000000 in
theorem iSetDifference_any (v1 v2 : Value) (xs ys : List Int) (T1 T2 : Nat → Prop) (w : World) (hx : intsR T1 w [v1] xs) (hT1 : ∀ b, T1 b → b < w.heap.size) (hy : intsR T2 w [v2] ys) (hT2 : ∀ b, T2 b → b < w.heap.size) (hl : xs.length ≤ 12) :
    Calls Tryz.prog 69 #[v1, v2] w (SetR (fun _ => False) w (setL (difL xs ys))) := by
  have HX := Lib.hid hx
  have HY := Lib.hid hy
  have HT1 := Lib.hid hT1
  have HT2 := Lib.hid hT2
  obtain ⟨p0, c0, rfl, -, -, -⟩ := sliceR_open hx
  obtain ⟨q0, d0, rfl, -, -, -⟩ := sliceR_open hy
  clear hx hy hT1 hT2
  go_enter Tryz.func69, Tryz.ntmps69
  obtain ⟨W0, hW0, hwW, hsz0, hbx⟩ : ∃ W0, W0 = w.alloc (.cells #[.slice q0 ys.length d0] 25) ∧ Bel w W0 ∧ W0.heap.size = w.heap.size + 1 ∧ W0.cell? ⟨w.heap.size, 0, none⟩ = some (.slice q0 ys.length d0) := ⟨_, rfl, by (repeat (first | assumption | exact Bel.refl _ | apply Bel.drewN | apply Bel.drew | apply Bel.alloc | refine Bel.trans ?_ (by assumption))), by simp, by simp [go_sem]⟩
  have HBX := Lib.hid hbx
  have HSZ0 := Lib.hid hsz0
  clear hbx hsz0
  go_wp2_with fail
  rw [← hW0]
  clear hW0
  have hdl := difL_le xs ys
  refine (keptDiff_any w.heap.size (notB ys) _ xs T1 _ (intsR_good.bel HX.out hwW HT1.out) (fun b hb => Nat.lt_of_lt_of_le (HT1.out b hb) hwW.size) (by omega) (fun W hW x hxm => diff1_any w.heap.size _ ys T2 x W (intsR_good.bel HY.out (hwW.trans hW) HT2.out) (fun b hb => Nat.lt_of_lt_of_le (HT2.out b hb) (hwW.trans hW).size) (hW.cell HBX.out))).mono ?_
  rintro e w1 ⟨ad, c, rfl, hI, gB⟩
  have HI := Lib.hid (show intsR (New W0 w1) w1 [.slice (some ad) (difL xs ys).length c] (difL xs ys) from hI)
  clear hI
  have HEQ : xs.filter (notB ys) = difL xs ys := rfl
  rw [HEQ]
  clear HEQ
  go_wp2_with fail
  refine (iSetOf_any ad c (difL xs ys) _ _ HI.out (fun b hb => hb.2) (by omega)).mono ?_
  rintro e w2 ⟨g, off, c2, rfl, hI2, gB2⟩
  have HI2 := Lib.hid (show intsR (fun b => False ∨ New w w2 b) w2 [.slice (some ⟨g, off, none⟩) (setL (difL xs ys)).length c2] (setL (difL xs ys)) from intsR_good.mono hI2 (fun b hb => .inr ⟨by have := (hb.resolve_left id).1; have := gB.size; have := hwW.size; omega, (hb.resolve_left id).2⟩))
  clear hI2
  go_wp2
  go_ret
  exact ⟨g, off, c2, rfl, HI2.out, (hwW.trans gB).trans gB2⟩

set_option maxRecDepth 100000 in
set_option maxHeartbeats 1000000 in
theorem sSetDifference_any (v1 v2 : Value) (xs ys : List Int) (T1 T2 : Nat → Prop) (w : World) (hx : intsR T1 w [v1] xs) (hT1 : ∀ b, T1 b → b < w.heap.size) (hy : intsR T2 w [v2] ys) (hT2 : ∀ b, T2 b → b < w.heap.size) (hl : xs.length ≤ 12) :
    Calls Tryz.prog 65 #[v1, v2] w (SetR (fun _ => False) w (setL (difL xs ys))) := by
  have HX := Lib.hid hx
  have HI := Lib.hid (ints_mem hx)
  have HY := Lib.hid hy
  have HT2 := Lib.hid hT2
  obtain ⟨p0, c0, rfl, l0, l0', -⟩ := sliceR_open hx
  obtain ⟨q0, d0, rfl, -, -, -⟩ := sliceR_open hy
  unfold maxLen at l0'
  clear hx hy hT1 hT2
  have hO0 : Own (fun _ => False) 1 intR 3 w.heap.size (w.alloc (.cells #[] 3)) (some ⟨w.heap.size, 0, none⟩) 0 [] := Own.empty (alloc_at rfl) (Nat.le_refl _)
  go_enter Tryz.func65, Tryz.ntmps65
  go_wp2_with fail
  go_loopw [5, 11] (fun o i wr => ∃ (k : Nat) (zs : List Int) (q1 : Option Addr) (c1 : Nat), k ≤ xs.length ∧ i = .int .i64 k ∧ o = .slice q1 zs.length c1 ∧ zs = (xs.take k).filter (notB ys) ∧ Own (fun _ => False) 1 intR 3 w.heap.size wr q1 c1 zs ∧ Bel w wr) (fun _ i _ => xs.length - (intOf i).toNat)
  case atStart => exact ⟨0, [], _, _, Nat.zero_le _, rfl, rfl, by simp, hO0, by (repeat (first | assumption | exact Bel.refl _ | apply Bel.drewN | apply Bel.drew | apply Bel.alloc | refine Bel.trans ?_ (by assumption)))⟩
  case round =>
    clear hO0
    obtain ⟨k, zs, q1, c1, hk, rfl, rfl, hys, hO, hB⟩ := hrel
    have HYS := Lib.hid hys
    have hyl : zs.length ≤ k := by rw [hys]; exact Nat.le_trans (List.length_filter_le _ _) (by rw [List.length_take]; omega)
    have hwsz := hB.size
    clear hys
    by_cases hlt : k < xs.length
    · obtain ⟨b, off', e1, e2⟩ := intsR_at' HX.out hlt
      obtain rfl : p0 = some ⟨b, off', none⟩ := e1
      have e2 := hB.cell e2
      have hmem : xs.getD k 0 ∈ xs := by rw [List.getD_eq_getElem?_getD, List.getElem?_eq_getElem hlt, Option.getD_some]; exact List.getElem_mem hlt
      have HXI := Lib.hid (HI.out _ hmem)
      clear hmem
      have HSN := Lib.hid (filter_next2 (c := notB ys) hlt)
      have hki : (k : Int) < (xs.length : Int) := by omega
      generalize xs.getD k 0 = X at *
      obtain ⟨Wb, hWb⟩ : ∃ W, W = wr := ⟨wr, rfl⟩
      subst hWb
      go_wp2_with fail
      refine (sSetHas_any _ ys X T2 _ (intsR_good.bel HY.out hB HT2.out)).mono ?_
      rintro e w' ⟨rfl, rfl⟩
      cases he : hasB X ys
      · have HSK := Lib.hid (show zs ++ [X] = (xs.take (k + 1)).filter (notB ys) from by rw [HSN.out, HYS.out]; unfold notB; rw [he]; simp)
        clear he
        go_wp2_with ((at_builtin; refine wpList_app (n := 1) intR_good _ rfl _ _ 25 rfl (.int .i64 0) 8 Tryz.underlying25 (by kernel_rfl) rfl (by decide) (by decide) q1 c1 zs (X) rfl (hO.bel intR_good (by (repeat (first | assumption | exact Bel.refl _ | apply Bel.drewN | apply Bel.drew | apply Bel.alloc | refine Bel.trans ?_ (by assumption))))) _ 1 [.int .i64 X] rfl rfl (World.news_of_block (alloc_at (by simp))) (by intro u hu; simp at hu; subst hu; rfl) (intRep HXI.out) (by omega) (by first | omega | (simp; omega)) ?_; intro q' cap' w' hO' hBW hsz'))
        have HB := Lib.hid (hBW w (by (repeat (first | assumption | exact Bel.refl _ | apply Bel.drewN | apply Bel.drew | apply Bel.alloc | refine Bel.trans ?_ (by assumption)))) (Nat.le_refl _))
        clear hBW hsz'
        go_roundw
        case rel => exact ⟨k + 1, zs ++ [X], q', cap', by omega, by go_num, by simp, HSK.out, hO', HB.out⟩
        case measure => simp [intOf]; omega
      · have HSK := Lib.hid (show zs = (xs.take (k + 1)).filter (notB ys) from by rw [HSN.out, HYS.out]; unfold notB; rw [he]; simp)
        clear he
        go_wp2_with fail
        go_roundw
        case rel => exact ⟨k + 1, zs, q1, c1, by omega, by go_num, rfl, HSK.out, hO, hB⟩
        case measure => simp [intOf]; omega
    · obtain rfl : k = xs.length := by omega
      have HE := Lib.hid (show zs = difL xs ys from by rw [HYS.out, List.take_length]; rfl)
      have HI2 := Lib.hid (show intsR (New w wr) wr [.slice q1 zs.length c1] zs from hO.done intR_good (fun _ hf => hf.elim) (fun b h1 h2 => ⟨h1, h2⟩))
      clear hO
      go_wp2_with fail
      refine (sSetOf_any _ zs _ _ HI2.out (fun b hb => hb.2) (by omega)).mono ?_
      rintro e w2 ⟨g, off, c2, rfl, hI3, gB2⟩
      have HI3 := Lib.hid (show intsR (fun b => False ∨ New w w2 b) w2 [.slice (some ⟨g, off, none⟩) (setL zs).length c2] (setL zs) from intsR_good.mono hI3 (fun b hb => .inr ⟨by have := (hb.resolve_left id).1; omega, (hb.resolve_left id).2⟩))
      clear hI3
      go_wp2
      go_ret
      exact ⟨g, off, c2, by rw [← HE.out]; rfl, by rw [← HE.out]; exact HI3.out, hB.trans gB2⟩

end Go.Proofs.YthkcdmghchikjaaGreat
