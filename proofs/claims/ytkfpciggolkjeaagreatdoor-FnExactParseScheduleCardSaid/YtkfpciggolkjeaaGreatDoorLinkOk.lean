/- Contracts of linkOk and of the search among links. -/
import Derived.Test.YtkfpciggolkjeaaGreatDoorActIdx
namespace Go.Proofs.YtkfpciggolkjeaaGreatDoor
open Go.ChangeShapes Go.WideShapes Go.ChangeAt Go.RowKit
set_option linter.unusedVariables false

theorem hasActivity_any (d : Int) (p1 : Option Addr) (n1 k1 : Nat) (c2 c3 c4 : Value) (hn : n1 ≤ 9223372036854775807) (a : Int) (w : World) :
    Calls Tryz.prog 72 #[.agg #[.int .i64 d, .slice p1 n1 k1, c2, c3, c4], .int .i64 a] w fun e w' => e = .returned (.bool (inB a 0 (n1 - 1))) ∧ Bel w w' := by
  go_enter Tryz.func72, Tryz.ntmps72
  have hw : IntKind.i64.wrap ((n1 : Int) - 1) = (n1 : Int) - 1 := IntWalk.i64_in _ (by omega)
  clear hn
  go_wp2_with (go_at_call 71; refine (within_any _ _ _ _).mono ?_; rintro e w' ⟨rfl, rfl⟩)
  go_ret
  exact ⟨rfl, by (repeat (first | exact Bel.refl _ | apply Bel.drewN | apply Bel.drew | apply Bel.alloc | refine Bel.trans ?_ (by assumption)))⟩

set_option maxHeartbeats 800000 in
theorem linkOk_any (d : Int) (p1 : Option Addr) (n1 k1 : Nat) (c2 c3 c4 : Value) (hn : n1 ≤ 9223372036854775807) (a b : Int) (f : Bool) (l : Int) (w : World) :
    Calls Tryz.prog 110 #[.agg #[.int .i64 d, .slice p1 n1 k1, c2, c3, c4], .agg #[.int .i64 a, .int .i64 b, .bool f, .int .i64 l]] w fun e w' => e = .returned (.bool (inB a 0 (n1 - 1) && (inB b 0 (n1 - 1) && (!decide (a = b) && inB l (-60) 60)))) ∧ Bel w w' := by
  have hn := Lib.hid hn
  go_enter Tryz.func110, Tryz.ntmps110
  go_wp2_with fail
  refine (hasActivity_any _ _ _ _ _ _ _ hn.out _ _).mono ?_
  rintro e w1 ⟨rfl, g1⟩
  have a0 := g1.cell (p := ⟨w.heap.size, 0, none⟩) (v := .int .i64 d) (by simp [go_sem])
  have a1 := g1.cell (p := ⟨w.heap.size, 1, none⟩) (v := .slice p1 n1 k1) (by simp [go_sem])
  have a2 := g1.cell (p := ⟨w.heap.size, 2, none⟩) (v := c2) (by simp [go_sem])
  have a3 := g1.cell (p := ⟨w.heap.size, 3, none⟩) (v := c3) (by simp [go_sem])
  have a4 := g1.cell (p := ⟨w.heap.size, 4, none⟩) (v := c4) (by simp [go_sem])
  have b0 := g1.cell (p := ⟨w.heap.size + 1, 0, none⟩) (v := .int .i64 a) (by simp [go_sem])
  have b1 := g1.cell (p := ⟨w.heap.size + 1, 1, none⟩) (v := .int .i64 b) (by simp [go_sem])
  have b2 := g1.cell (p := ⟨w.heap.size + 1, 2, none⟩) (v := .bool f) (by simp [go_sem])
  have b3 := g1.cell (p := ⟨w.heap.size + 1, 3, none⟩) (v := .int .i64 l) (by simp [go_sem])
  have G1 : Bel w w1 := by (repeat (first | exact Bel.refl _ | apply Bel.drewN | apply Bel.drew | apply Bel.alloc | refine Bel.trans ?_ (by assumption)))
  cases h1 : inB a 0 (n1 - 1)
  · have HF := Lib.hid (show (inB a 0 (n1 - 1) && (inB b 0 (n1 - 1) && (!decide (a = b) && inB l (-60) 60))) = false from by rw [h1]; rfl)
    clear h1
    go_wp2_with (go_at_call 71; refine (within_any _ _ _ _).mono ?_; rintro e w' ⟨rfl, rfl⟩)
    go_ret
    exact ⟨ret_bool HF.out.symm, by (repeat (first | exact Bel.refl _ | apply Bel.drewN | apply Bel.drew | apply Bel.alloc | refine Bel.trans ?_ (by assumption)))⟩
  have h1' := Lib.hid h1; clear h1
  go_wp2_with fail
  refine (hasActivity_any _ _ _ _ _ _ _ hn.out _ _).mono ?_
  rintro e w2 ⟨rfl, g2⟩
  have a0 := g2.cell (p := ⟨w.heap.size, 0, none⟩) (v := .int .i64 d) (by assumption)
  have a1 := g2.cell (p := ⟨w.heap.size, 1, none⟩) (v := .slice p1 n1 k1) (by assumption)
  have a2 := g2.cell (p := ⟨w.heap.size, 2, none⟩) (v := c2) (by assumption)
  have a3 := g2.cell (p := ⟨w.heap.size, 3, none⟩) (v := c3) (by assumption)
  have a4 := g2.cell (p := ⟨w.heap.size, 4, none⟩) (v := c4) (by assumption)
  have b0 := g2.cell (p := ⟨w.heap.size + 1, 0, none⟩) (v := .int .i64 a) (by assumption)
  have b1 := g2.cell (p := ⟨w.heap.size + 1, 1, none⟩) (v := .int .i64 b) (by assumption)
  have b2 := g2.cell (p := ⟨w.heap.size + 1, 2, none⟩) (v := .bool f) (by assumption)
  have b3 := g2.cell (p := ⟨w.heap.size + 1, 3, none⟩) (v := .int .i64 l) (by assumption)
  have G2 : Bel w w2 := by (repeat (first | exact Bel.refl _ | apply Bel.drewN | apply Bel.drew | apply Bel.alloc | refine Bel.trans ?_ (by assumption)))
  cases h2 : inB b 0 (n1 - 1)
  · have HF := Lib.hid (show (inB a 0 (n1 - 1) && (inB b 0 (n1 - 1) && (!decide (a = b) && inB l (-60) 60))) = false from by rw [h2]; simp)
    clear h2
    go_wp2_with (go_at_call 71; refine (within_any _ _ _ _).mono ?_; rintro e w' ⟨rfl, rfl⟩)
    go_ret
    exact ⟨ret_bool HF.out.symm, by (repeat (first | exact Bel.refl _ | apply Bel.drewN | apply Bel.drew | apply Bel.alloc | refine Bel.trans ?_ (by assumption)))⟩
  have h2' := Lib.hid h2; clear h2
  by_cases h3 : a = b
  · have z : (a != b) = false := by simp [h3]
    have HF := Lib.hid (show (inB a 0 (n1 - 1) && (inB b 0 (n1 - 1) && (!decide (a = b) && inB l (-60) 60))) = false from by rw [decide_eq_true h3]; simp)
    clear h3
    go_wp2_with (go_at_call 71; refine (within_any _ _ _ _).mono ?_; rintro e w' ⟨rfl, rfl⟩)
    go_ret
    exact ⟨ret_bool HF.out.symm, by (repeat (first | exact Bel.refl _ | apply Bel.drewN | apply Bel.drew | apply Bel.alloc | refine Bel.trans ?_ (by assumption)))⟩
  have z : (a != b) = true := by simp [h3]
  have HF := Lib.hid (show (inB a 0 (n1 - 1) && (inB b 0 (n1 - 1) && (!decide (a = b) && inB l (-60) 60))) = inB l (-60) 60 from by rw [h1'.out, h2'.out, decide_eq_false h3]; rfl)
  clear h3
  go_wp2_with (go_at_call 71; refine (within_any _ _ _ _).mono ?_; rintro e w' ⟨rfl, rfl⟩)
  go_ret
  exact ⟨ret_bool HF.out.symm, by (repeat (first | exact Bel.refl _ | apply Bel.drewN | apply Bel.drew | apply Bel.alloc | refine Bel.trans ?_ (by assumption)))⟩

theorem closLink_any (d : Int) (p1 : Option Addr) (n1 k1 : Nat) (c2 c3 c4 : Value) (hn : n1 ≤ 9223372036854775807) (a b : Int) (f : Bool) (l : Int) (B : Nat) (w : World) (h0 : w.cell? ⟨B, 0, none⟩ = some (.int .i64 d)) (h1 : w.cell? ⟨B, 1, none⟩ = some (.slice p1 n1 k1)) (h2 : w.cell? ⟨B, 2, none⟩ = some (c2)) (h3 : w.cell? ⟨B, 3, none⟩ = some (c3)) (h4 : w.cell? ⟨B, 4, none⟩ = some (c4)) :
    Calls Tryz.prog 109 #[.agg #[.int .i64 a, .int .i64 b, .bool f, .int .i64 l], .pointer (some ⟨B, 0, none⟩)] w fun e w' => e = .returned (.bool (!(inB a 0 (n1 - 1) && (inB b 0 (n1 - 1) && (!decide (a = b) && inB l (-60) 60))))) ∧ Bel w w' := by
  have a0 := fun o => ((Bel.refl w).alloc o).cell h0
  have a1 := fun o => ((Bel.refl w).alloc o).cell h1
  have a2 := fun o => ((Bel.refl w).alloc o).cell h2
  have a3 := fun o => ((Bel.refl w).alloc o).cell h3
  have a4 := fun o => ((Bel.refl w).alloc o).cell h4
  clear h0 h1 h2 h3 h4
  have hn := Lib.hid hn
  go_enter Tryz.func109, Tryz.ntmps109
  go_wp2_with fail
  refine (linkOk_any _ _ _ _ _ _ _ hn.out _ _ _ _ _).mono ?_
  rintro e w1 ⟨rfl, g1⟩
  generalize hz : (inB a 0 (n1 - 1) && (inB b 0 (n1 - 1) && (!decide (a = b) && inB l (-60) 60))) = z
  have HZ := Lib.hid hz; clear hz
  go_wp2
  go_ret
  exact ⟨ret_bool (by rw [HZ.out]), by (repeat (first | exact Bel.refl _ | apply Bel.drewN | apply Bel.drew | apply Bel.alloc | refine Bel.trans ?_ (by assumption)))⟩

set_option maxHeartbeats 400000 in
theorem indexLink_any (d : Int) (p1 : Option Addr) (n1 k1 : Nat) (c2 c3 c4 : Value) (hn : n1 ≤ 9223372036854775807) (v : Value) (xs : List LinkT) (S : Nat → Prop) (B : Nat) (w : World) (hx : linksR S w [v] xs) (hS : ∀ b, S b → b < w.heap.size) (h0 : w.cell? ⟨B, 0, none⟩ = some (.int .i64 d)) (h1 : w.cell? ⟨B, 1, none⟩ = some (.slice p1 n1 k1)) (h2 : w.cell? ⟨B, 2, none⟩ = some (c2)) (h3 : w.cell? ⟨B, 3, none⟩ = some (c3)) (h4 : w.cell? ⟨B, 4, none⟩ = some (c4)) :
    Calls Tryz.prog 130 #[v, .func (.func 109) #[] #[.pointer (some ⟨B, 0, none⟩)]] w fun e w' => ∃ r : Int, e = .returned (.int .i64 r) ∧ decide (0 ≤ r) = !(List.range xs.length).all (fun i => linkOkB n1 (xs.getD i zLink)) ∧ Bel w w' := by
  have HM := Lib.hid hx
  have HS := Lib.hid hS
  have hn := Lib.hid hn
  have H0 := Lib.hid h0
  have H1 := Lib.hid h1
  have H2 := Lib.hid h2
  have H3 := Lib.hid h3
  have H4 := Lib.hid h4
  obtain ⟨p2, k2, hv, l2, l2', hr⟩ := sliceR_open hx
  clear hr
  subst hv
  unfold maxLen at l2'
  clear hx hS h0 h1 h2 h3 h4
  go_enter Tryz.func130, Tryz.ntmps130
  go_wp2_with fail
  go_loopw [8] (fun i wr => ∃ (k : Nat), k ≤ xs.length ∧ i = .int .i64 k ∧ (∀ j, j < k → linkOkB n1 (xs.getD j zLink) = true) ∧ Bel w wr) (fun i _ => xs.length - (intOf i).toNat)
  case atStart => exact ⟨0, Nat.zero_le _, rfl, fun j hj => by omega, by (repeat (first | exact Bel.refl _ | apply Bel.drewN | apply Bel.drew | apply Bel.alloc | refine Bel.trans ?_ (by assumption)))⟩
  case round =>
    obtain ⟨k, hk, rfl, hall, hB⟩ := hrel
    have HA := Lib.hid hall; clear hall
    by_cases hlt : k < xs.length
    · obtain ⟨b, off, ecs, ea, hrow, hel⟩ := sliceR_at zLink HM.out hlt
      obtain rfl : p2 = some ⟨b, off, none⟩ := ea
      generalize hX : xs.getD k zLink = X at *
      have HX := Lib.hid hX; clear hX
      obtain ⟨rfl, eq0, eq1, eq3⟩ := linkR_open hel
      obtain ⟨xa, xb, xf, xl⟩ := X
      have ed0 := hB.cell (hrow 0 (by simp)).1
      have ed1 := hB.cell (hrow 1 (by simp)).1
      have ed2 := hB.cell (hrow 2 (by simp)).1
      have ed3 := hB.cell (hrow 3 (by simp)).1
      simp only [List.getElem_cons_zero, List.getElem_cons_succ, Nat.add_zero] at ed0 ed1 ed2 ed3
      clear hrow hel eq0 eq1 eq3
      cases h : linkOkB n1 (xa, xb, xf, xl)
      · have H := Lib.hid h; clear h
        have HE := Lib.hid (show (List.range xs.length).all (fun i => linkOkB n1 (xs.getD i zLink)) = false from all_false (c := fun i => linkOkB n1 (xs.getD i zLink)) hlt (by rw [HX.out]; exact H.out))
        go_wp2_with fail
        refine (closLink_any d p1 n1 k1 c2 c3 c4 hn.out _ _ _ _ B _ (hB.cell H0.out) (hB.cell H1.out) (hB.cell H2.out) (hB.cell H3.out) (hB.cell H4.out)).mono ?_
        rintro e w1 ⟨rfl, g1⟩
        rw [show (!(inB xa 0 (n1 - 1) && (inB xb 0 (n1 - 1) && (!decide (xa = xb) && inB xl (-60) 60)))) = true from by rw [show (inB xa 0 (n1 - 1) && (inB xb 0 (n1 - 1) && (!decide (xa = xb) && inB xl (-60) 60))) = false from H.out]; rfl]
        have G : Bel w w1 := by (repeat (first | exact Bel.refl _ | apply Bel.drewN | apply Bel.drew | apply Bel.alloc | refine Bel.trans ?_ (by assumption)))
        go_wp2
        go_ret
        exact ⟨(k : Int), rfl, by rw [HE.out]; simp, G⟩
      · have H := Lib.hid h; clear h
        go_wp2_with fail
        refine (closLink_any d p1 n1 k1 c2 c3 c4 hn.out _ _ _ _ B _ (hB.cell H0.out) (hB.cell H1.out) (hB.cell H2.out) (hB.cell H3.out) (hB.cell H4.out)).mono ?_
        rintro e w1 ⟨rfl, g1⟩
        rw [show (!(inB xa 0 (n1 - 1) && (inB xb 0 (n1 - 1) && (!decide (xa = xb) && inB xl (-60) 60)))) = false from by rw [show (inB xa 0 (n1 - 1) && (inB xb 0 (n1 - 1) && (!decide (xa = xb) && inB xl (-60) 60))) = true from H.out]; rfl]
        have G : Bel w w1 := by (repeat (first | exact Bel.refl _ | apply Bel.drewN | apply Bel.drew | apply Bel.alloc | refine Bel.trans ?_ (by assumption)))
        go_wp2
        go_roundw
        case rel =>
          refine ⟨k + 1, by omega, by go_num, fun j hj => ?_, G⟩
          by_cases e : j < k
          · exact HA.out j e
          · obtain rfl : j = k := by omega
            rw [HX.out]; exact H.out
        case measure => simp [intOf]; omega
    · have HE := Lib.hid (show (List.range xs.length).all (fun i => linkOkB n1 (xs.getD i zLink)) = true from all_true (c := fun i => linkOkB n1 (xs.getD i zLink)) fun j hj => HA.out j (by omega))
      go_wp2
      go_ret
      exact ⟨-1, rfl, by rw [HE.out]; rfl, hB⟩

theorem containsLink_any (d : Int) (p1 : Option Addr) (n1 k1 : Nat) (c2 c3 c4 : Value) (hn : n1 ≤ 9223372036854775807) (v : Value) (xs : List LinkT) (S : Nat → Prop) (B : Nat) (w : World) (hx : linksR S w [v] xs) (hS : ∀ b, S b → b < w.heap.size) (h0 : w.cell? ⟨B, 0, none⟩ = some (.int .i64 d)) (h1 : w.cell? ⟨B, 1, none⟩ = some (.slice p1 n1 k1)) (h2 : w.cell? ⟨B, 2, none⟩ = some (c2)) (h3 : w.cell? ⟨B, 3, none⟩ = some (c3)) (h4 : w.cell? ⟨B, 4, none⟩ = some (c4)) :
    Calls Tryz.prog 108 #[v, .func (.func 109) #[] #[.pointer (some ⟨B, 0, none⟩)]] w fun e w' => e = .returned (.bool (!(List.range xs.length).all (fun i => linkOkB n1 (xs.getD i zLink)))) ∧ Bel w w' := by
  have HM := Lib.hid hx
  have HS := Lib.hid hS
  have hn := Lib.hid hn
  have H0 := Lib.hid h0
  have H1 := Lib.hid h1
  have H2 := Lib.hid h2
  have H3 := Lib.hid h3
  have H4 := Lib.hid h4
  clear hx hS h0 h1 h2 h3 h4
  go_enter Tryz.func108, Tryz.ntmps108
  go_wp2_with fail
  refine (indexLink_any d p1 n1 k1 c2 c3 c4 hn.out v xs S B _ HM.out HS.out H0.out H1.out H2.out H3.out H4.out).mono ?_
  rintro e w1 ⟨r, rfl, hr, g1⟩
  have HR := Lib.hid hr; clear hr
  go_wp2
  go_ret
  exact ⟨ret_bool (by first | exact HR.out | (rw [← HR.out]; simp)), g1⟩

end Go.Proofs.YtkfpciggolkjeaaGreatDoor
