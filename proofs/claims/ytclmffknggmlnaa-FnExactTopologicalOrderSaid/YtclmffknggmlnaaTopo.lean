/- Contracts of TopologicalOrder. -/
import Derived.Test.YtclmffknggmlnaaTopoF
import Derived.Test.YtclmffknggmlnaaOwn2
import Derived.Test.YtclmffknggmlnaaHas
namespace Go.Proofs.Ytclmffknggmlnaa
open Go.ChangeShapes Go.WideShapes Go.ChangeAt Go.RowKit
set_option linter.unusedVariables false

set_option maxHeartbeats 400000 in
theorem closBar_any (p : ProjT) (S : Nat → Prop) (p1 : Option Addr) (k1 : Nat) (p2 : Option Addr) (k2 : Nat) (p3 : Option Addr) (k3 : Nat) (p4 : Option Addr) (k4 : Nat) (done : List Int) (q : Option Addr) (cap : Nat) (V : Nat → Prop) (BP BO BI : Nat) (i : Int) (k : LinkT) (w : World) (hx : projR S w [.int .i64 p.1, .slice p1 p.2.1.length k1, .slice p2 p.2.2.1.length k2, .slice p3 p.2.2.2.1.length k3, .slice p4 p.2.2.2.2.length k4] p) (hS : ∀ b, S b → b < w.heap.size) (hp : projOk p = true) (hd : intsR V w [.slice q done.length cap] done) (hV : ∀ b, V b → b < w.heap.size) (hb : w.cell? ⟨BP, 0, none⟩ = some (.int .i64 p.1) ∧ w.cell? ⟨BP, 1, none⟩ = some (.slice p1 p.2.1.length k1) ∧ w.cell? ⟨BP, 2, none⟩ = some (.slice p2 p.2.2.1.length k2) ∧ w.cell? ⟨BP, 3, none⟩ = some (.slice p3 p.2.2.2.1.length k3) ∧ w.cell? ⟨BP, 4, none⟩ = some (.slice p4 p.2.2.2.2.length k4) ∧ w.cell? ⟨BO, 0, none⟩ = some (.slice q done.length cap) ∧ w.cell? ⟨BI, 0, none⟩ = some (.int .i64 i)) (hk : linkOkB p.2.1.length k = true) :
    Calls Try.prog 74 #[.agg #[.int .i64 k.1, .int .i64 k.2.1, .bool k.2.2.1, .int .i64 k.2.2.2], .pointer (some ⟨BI, 0, none⟩), .pointer (some ⟨BP, 0, none⟩), .pointer (some ⟨BO, 0, none⟩)] w fun e w' => e = .returned (.bool (barsB p done i k)) ∧ Bel w w' := by
  have HP := Lib.hid hx
  have HS := Lib.hid hS
  have HPO := Lib.hid hp
  have HD := Lib.hid hd
  have HV := Lib.hid hV
  have HK := Lib.hid hk
  obtain ⟨b0, b1, b2, b3, b4, bo, bi⟩ := hb
  have ab0 := fun o => ((Bel.refl w).alloc o).cell b0
  have ab1 := fun o => ((Bel.refl w).alloc o).cell b1
  have ab2 := fun o => ((Bel.refl w).alloc o).cell b2
  have ab3 := fun o => ((Bel.refl w).alloc o).cell b3
  have ab4 := fun o => ((Bel.refl w).alloc o).cell b4
  have abo := fun o => ((Bel.refl w).alloc o).cell bo
  have abi := fun o => ((Bel.refl w).alloc o).cell bi
  clear hx hS hp hd hV hk
  go_enter Try.func74, Try.ntmps74
  by_cases h1 : k.2.1 = i
  rotate_left
  · have z1 : (k.2.1 == i) = false := by simpa using h1
    have HF := Lib.hid (show barsB p done i k = false from by unfold barsB; rw [decide_eq_false h1]; rfl)
    clear h1
    go_wp2
    go_ret
    exact ⟨ret_bool HF.out.symm, by (repeat (first | assumption | exact Bel.refl _ | apply Bel.drewN | apply Bel.drew | apply Bel.alloc | refine Bel.trans ?_ (by assumption)))⟩
  have z1 : (k.2.1 == i) = true := by simpa using h1
  have HF1 := Lib.hid (show barsB p done i k = (decide (0 < fullGapV p k) && !hasB k.1 done) from by unfold barsB; rw [decide_eq_true h1]; rfl)
  clear h1
  go_wp2_with fail
  refine (fullGap_any _ p S k _ (aggR_mk (projR_good.bel HP.out (by (repeat (first | assumption | exact Bel.refl _ | apply Bel.drewN | apply Bel.drew | apply Bel.alloc | refine Bel.trans ?_ (by assumption)))) HS.out)) (fun b hb => Nat.lt_of_lt_of_le (HS.out b hb) (Bel.size (by (repeat (first | assumption | exact Bel.refl _ | apply Bel.drewN | apply Bel.drew | apply Bel.alloc | refine Bel.trans ?_ (by assumption)))))) HPO.out HK.out).mono ?_
  rintro e w1 ⟨rfl, g1⟩
  have bo := g1.cell (abo _)
  have kc0 := g1.cell (p := ⟨w.heap.size, 0, none⟩) (v := .int .i64 k.1) (by simp [go_sem])
  have kc1 := g1.cell (p := ⟨w.heap.size, 1, none⟩) (v := .int .i64 k.2.1) (by simp [go_sem])
  have kc2 := g1.cell (p := ⟨w.heap.size, 2, none⟩) (v := .bool k.2.2.1) (by simp [go_sem])
  have kc3 := g1.cell (p := ⟨w.heap.size, 3, none⟩) (v := .int .i64 k.2.2.2) (by simp [go_sem])
  have G1 : Bel w w1 := by (repeat (first | assumption | exact Bel.refl _ | apply Bel.drewN | apply Bel.drew | apply Bel.alloc | refine Bel.trans ?_ (by assumption)))
  clear ab0 ab1 ab2 ab3 ab4 abo abi b0 b1 b2 b3 b4 bi
  by_cases h2 : 0 < fullGapV p k
  rotate_left
  · have HF := Lib.hid (show barsB p done i k = false from by rw [HF1.out, decide_eq_false h2]; rfl)
    generalize fullGapV p k = G at *
    go_wp2
    go_ret
    exact ⟨ret_bool HF.out.symm, by (repeat (first | assumption | exact Bel.refl _ | apply Bel.drewN | apply Bel.drew | apply Bel.alloc | refine Bel.trans ?_ (by assumption)))⟩
  have HF := Lib.hid (show barsB p done i k = !hasB k.1 done from by rw [HF1.out, decide_eq_true h2]; rfl)
  clear HF1
  generalize fullGapV p k = G at *
  go_wp2_with fail
  refine (containsInts_any _ done _ V _ (intsR_good.bel HD.out (by (repeat (first | assumption | exact Bel.refl _ | apply Bel.drewN | apply Bel.drew | apply Bel.alloc | refine Bel.trans ?_ (by assumption)))) HV.out)).mono ?_
  rintro e w2 ⟨rfl, rfl⟩
  go_wp2
  go_ret
  exact ⟨ret_bool HF.out.symm, by (repeat (first | assumption | exact Bel.refl _ | apply Bel.drewN | apply Bel.drew | apply Bel.alloc | refine Bel.trans ?_ (by assumption)))⟩

set_option maxHeartbeats 400000 in
theorem indexBar_any (c : Nat → Bool) (B0 B1 B2 : Nat) (v : Value) (xs : List LinkT) (S : Nat → Prop) (w : World) (hx : linksR S w [v] xs) (hS : ∀ b, S b → b < w.heap.size)
    (hcl : ∀ W, Bel w W → ∀ j, j < xs.length → Calls Try.prog 74 #[.agg #[.int .i64 (xs.getD j zLink).1, .int .i64 (xs.getD j zLink).2.1, .bool (xs.getD j zLink).2.2.1, .int .i64 (xs.getD j zLink).2.2.2], .pointer (some ⟨B0, 0, none⟩), .pointer (some ⟨B1, 0, none⟩), .pointer (some ⟨B2, 0, none⟩)] W fun e w' => e = .returned (.bool (c j)) ∧ Bel W w') :
    Calls Try.prog 116 #[v, .func (.func 74) #[] #[.pointer (some ⟨B0, 0, none⟩), .pointer (some ⟨B1, 0, none⟩), .pointer (some ⟨B2, 0, none⟩)]] w fun e w' => e = .returned (.int .i64 (idxV c xs.length)) ∧ Bel w w' := by
  have HM := Lib.hid hx
  have HS := Lib.hid hS
  have HCL := Lib.hid hcl
  obtain ⟨p2, k2, hv, l2, l2', hr⟩ := sliceR_open hx
  clear hr
  subst hv
  unfold maxLen at l2'
  clear hx hS hcl
  go_enter Try.func116, Try.ntmps116
  go_wp2_with fail
  go_loopw [8] (fun i wr => ∃ (k : Nat), k ≤ xs.length ∧ i = .int .i64 k ∧ (∀ j, j < k → c j = false) ∧ Bel w wr) (fun i _ => xs.length - (intOf i).toNat)
  case atStart => exact ⟨0, Nat.zero_le _, rfl, fun j hj => by omega, by (repeat (first | assumption | exact Bel.refl _ | apply Bel.drewN | apply Bel.drew | apply Bel.alloc | refine Bel.trans ?_ (by assumption)))⟩
  case round =>
    obtain ⟨k, hk, rfl, hall, hB⟩ := hrel
    have HA := Lib.hid hall; clear hall
    by_cases hlt : k < xs.length
    · obtain ⟨b, off, ecs, ea, hrow, hel⟩ := sliceR_at zLink HM.out hlt
      obtain rfl : p2 = some ⟨b, off, none⟩ := ea
      have HC := Lib.hid (HCL.out wr hB k hlt)
      generalize xs.getD k zLink = X at *
      obtain ⟨rfl, eq0, eq1, eq3⟩ := linkR_open hel
      have ed := fun i hi => hB.cell (hrow i hi).1
      have ed0 := ed 0 (by simp)
      have ed1 := ed 1 (by simp)
      have ed2 := ed 2 (by simp)
      have ed3 := ed 3 (by simp)
      simp only [List.getElem_cons_zero, List.getElem_cons_succ, Nat.add_zero] at ed0 ed1 ed2 ed3
      clear hrow hel eq0 eq1 eq3 ed
      go_wp2_with fail
      refine (HC.out).mono ?_
      rintro e w1 ⟨rfl, g1⟩
      have G : Bel w w1 := by (repeat (first | assumption | exact Bel.refl _ | apply Bel.drewN | apply Bel.drew | apply Bel.alloc | refine Bel.trans ?_ (by assumption)))
      cases hb : c k
      · have HBk := Lib.hid hb; clear hb
        go_wp2
        go_roundw
        case rel =>
          refine ⟨k + 1, by omega, by go_num, fun j hj => ?_, G⟩
          by_cases e : j < k
          · exact HA.out j e
          · obtain rfl : j = k := by omega
            exact HBk.out
        case measure => simp [intOf]; omega
      · have HE := Lib.hid (show idxV c xs.length = k from by unfold idxV; rw [idxV_hit hlt hb HA.out])
        clear hb
        go_wp2
        go_ret
        exact ⟨ret_int HE.out.symm, G⟩
    · have HE := Lib.hid (show idxV c xs.length = -1 from by unfold idxV; rw [idxV_miss fun j hj => HA.out j (by omega)])
      go_wp2
      go_ret
      exact ⟨ret_int HE.out.symm, hB⟩

theorem containsBar_any (c : Nat → Bool) (B0 B1 B2 : Nat) (v : Value) (xs : List LinkT) (S : Nat → Prop) (w : World) (hx : linksR S w [v] xs) (hS : ∀ b, S b → b < w.heap.size)
    (hcl : ∀ W, Bel w W → ∀ j, j < xs.length → Calls Try.prog 74 #[.agg #[.int .i64 (xs.getD j zLink).1, .int .i64 (xs.getD j zLink).2.1, .bool (xs.getD j zLink).2.2.1, .int .i64 (xs.getD j zLink).2.2.2], .pointer (some ⟨B0, 0, none⟩), .pointer (some ⟨B1, 0, none⟩), .pointer (some ⟨B2, 0, none⟩)] W fun e w' => e = .returned (.bool (c j)) ∧ Bel W w') :
    Calls Try.prog 73 #[v, .func (.func 74) #[] #[.pointer (some ⟨B0, 0, none⟩), .pointer (some ⟨B1, 0, none⟩), .pointer (some ⟨B2, 0, none⟩)]] w fun e w' => e = .returned (.bool ((List.range xs.length).any c)) ∧ Bel w w' := by
  have HM := Lib.hid hx
  have HS := Lib.hid hS
  have HCL := Lib.hid hcl
  clear hx hS hcl
  have HF : (idxV c xs.length = -1 ∧ (List.range xs.length).any c = false) ∨ (0 ≤ idxV c xs.length ∧ (List.range xs.length).any c = true) := by
    unfold idxV
    cases h : (List.range xs.length).find? c with
    | none => exact Or.inl ⟨rfl, any_miss fun j hj => by simpa using List.find?_eq_none.1 h j (List.mem_range.2 hj)⟩
    | some k => exact Or.inr ⟨Int.natCast_nonneg k, any_hit (List.mem_range.1 (List.mem_of_find?_eq_some h)) (List.find?_some h)⟩
  go_enter Try.func73, Try.ntmps73
  go_wp2_with fail
  refine (indexBar_any c B0 B1 B2 v xs S _ HM.out HS.out HCL.out).mono ?_
  rintro e w1 ⟨rfl, g1⟩
  generalize idxV c xs.length = r at *
  rcases HF with ⟨rfl, hf⟩ | ⟨hr, hf⟩
  · have H := Lib.hid hf; clear hf
    go_wp2
    go_ret
    exact ⟨ret_bool H.out.symm, g1⟩
  · have H := Lib.hid hf; clear hf
    go_wp2
    go_ret
    exact ⟨ret_bool (by rw [H.out]; first | done | simpa using hr), g1⟩

set_option maxHeartbeats 400000 in
theorem closFree_any (p : ProjT) (S : Nat → Prop) (p1 : Option Addr) (k1 : Nat) (p2 : Option Addr) (k2 : Nat) (p3 : Option Addr) (k3 : Nat) (p4 : Option Addr) (k4 : Nat) (done : List Int) (q : Option Addr) (cap : Nat) (V : Nat → Prop) (BP BO : Nat) (j : Nat) (ec : Value) (w : World) (hx : projR S w [.int .i64 p.1, .slice p1 p.2.1.length k1, .slice p2 p.2.2.1.length k2, .slice p3 p.2.2.2.1.length k3, .slice p4 p.2.2.2.2.length k4] p) (hS : ∀ b, S b → b < w.heap.size) (hp : projOk p = true) (hd : intsR V w [.slice q done.length cap] done) (hV : ∀ b, V b → b < w.heap.size) (hb : w.cell? ⟨BP, 0, none⟩ = some (.int .i64 p.1) ∧ w.cell? ⟨BP, 1, none⟩ = some (.slice p1 p.2.1.length k1) ∧ w.cell? ⟨BP, 2, none⟩ = some (.slice p2 p.2.2.1.length k2) ∧ w.cell? ⟨BP, 3, none⟩ = some (.slice p3 p.2.2.2.1.length k3) ∧ w.cell? ⟨BP, 4, none⟩ = some (.slice p4 p.2.2.2.2.length k4) ∧ w.cell? ⟨BO, 0, none⟩ = some (.slice q done.length cap)) (hj : j < p.2.1.length) :
    Calls Try.prog 70 #[.agg #[.string (p.2.1.getD j zAct).1, .int .i64 (p.2.1.getD j zAct).2.1, ec], .pointer (some ⟨BP, 0, none⟩), .pointer (some ⟨BO, 0, none⟩)] w fun e w' => e = .returned (.bool (freeB p done j)) ∧ Bel w w' := by
  have HP := Lib.hid hx
  have HS := Lib.hid hS
  have HPO := Lib.hid hp
  have HD := Lib.hid hd
  have HV := Lib.hid hV
  have HNM := Lib.hid (projOk_name hp hj)
  have HBX := Lib.hid hb
  obtain ⟨b0, b1, b2, b3, b4, bo⟩ := hb
  have HQ := Lib.hid (show linksR S w [.slice p2 p.2.2.1.length k2] p.2.2.1 from by
    obtain ⟨c1, c2, c3, c4, ez, q0, q1, q2, q3, q4⟩ := projR_open hx
    simp at ez
    obtain ⟨rfl, rfl, rfl, rfl⟩ := ez
    exact q2)
  have ab0 := fun o => ((Bel.refl w).alloc o).cell b0
  have ab1 := fun o => ((Bel.refl w).alloc o).cell b1
  have ab2 := fun o => ((Bel.refl w).alloc o).cell b2
  have ab3 := fun o => ((Bel.refl w).alloc o).cell b3
  have ab4 := fun o => ((Bel.refl w).alloc o).cell b4
  have abo := fun o => ((Bel.refl w).alloc o).cell bo
  clear hx hS hp hd hV hj
  generalize p.2.1.getD j zAct = X at *
  go_enter Try.func70, Try.ntmps70
  go_wp2_with fail
  refine (iActivityIndex_any _ p X.1 S _ (aggR_mk (projR_good.bel HP.out (by (repeat (first | assumption | exact Bel.refl _ | apply Bel.drewN | apply Bel.drew | apply Bel.alloc | refine Bel.trans ?_ (by assumption)))) HS.out)) (fun b hb => Nat.lt_of_lt_of_le (HS.out b hb) (Bel.size (by (repeat (first | assumption | exact Bel.refl _ | apply Bel.drewN | apply Bel.drew | apply Bel.alloc | refine Bel.trans ?_ (by assumption))))))).mono ?_
  rintro e w1 ⟨rfl, g1⟩
  rw [HNM.out]
  have b0 := g1.cell (ab0 _)
  have b1 := g1.cell (ab1 _)
  have b2 := g1.cell (ab2 _)
  have b3 := g1.cell (ab3 _)
  have b4 := g1.cell (ab4 _)
  have bo := g1.cell (abo _)
  have G1 : Bel w w1 := by (repeat (first | assumption | exact Bel.refl _ | apply Bel.drewN | apply Bel.drew | apply Bel.alloc | refine Bel.trans ?_ (by assumption)))
  clear ab0 ab1 ab2 ab3 ab4 abo
  have ab0 := fun o => ((Bel.refl w1).alloc o).cell b0
  have ab1 := fun o => ((Bel.refl w1).alloc o).cell b1
  have ab2 := fun o => ((Bel.refl w1).alloc o).cell b2
  have ab3 := fun o => ((Bel.refl w1).alloc o).cell b3
  have ab4 := fun o => ((Bel.refl w1).alloc o).cell b4
  have abo := fun o => ((Bel.refl w1).alloc o).cell bo
  go_wp2_with fail
  refine (containsInts_any _ done _ V _ (intsR_good.bel HD.out (by (repeat (first | assumption | exact Bel.refl _ | apply Bel.drewN | apply Bel.drew | apply Bel.alloc | refine Bel.trans ?_ (by assumption)))) HV.out)).mono ?_
  rintro e w2 ⟨rfl, rfl⟩
  cases hh : hasB (j : Int) done
  rotate_left
  · have HF := Lib.hid (show freeB p done j = false from by unfold freeB; rw [hh]; rfl)
    clear hh
    go_wp2
    go_ret
    exact ⟨ret_bool HF.out.symm, by (repeat (first | assumption | exact Bel.refl _ | apply Bel.drewN | apply Bel.drew | apply Bel.alloc | refine Bel.trans ?_ (by assumption)))⟩
  have HF := Lib.hid (show freeB p done j = !(List.range p.2.2.1.length).any (fun n => barsB p done (j : Int) (p.2.2.1.getD n zLink)) from by unfold freeB readyB; rw [hh]; rfl)
  clear hh
  go_wp2_with fail
  refine (containsBar_any (fun n => barsB p done (j : Int) (p.2.2.1.getD n zLink)) _ _ _ _ p.2.2.1 S _ (linksR_good.bel HQ.out (by (repeat (first | assumption | exact Bel.refl _ | apply Bel.drewN | apply Bel.drew | apply Bel.alloc | refine Bel.trans ?_ (by assumption)))) HS.out) (fun b hb => Nat.lt_of_lt_of_le (HS.out b hb) (Bel.size (by (repeat (first | assumption | exact Bel.refl _ | apply Bel.drewN | apply Bel.drew | apply Bel.alloc | refine Bel.trans ?_ (by assumption)))))) ?_).mono ?_
  · intro W hW n hn
    exact closBar_any p S p1 k1 p2 k2 p3 k3 p4 k4 done q cap V BP BO w1.heap.size (j : Int) (p.2.2.1.getD n zLink) W (projR_good.bel HP.out (by (repeat (first | assumption | exact Bel.refl _ | apply Bel.drewN | apply Bel.drew | apply Bel.alloc | refine Bel.trans ?_ (by assumption)))) HS.out) (fun b hb => Nat.lt_of_lt_of_le (HS.out b hb) (Bel.size (by (repeat (first | assumption | exact Bel.refl _ | apply Bel.drewN | apply Bel.drew | apply Bel.alloc | refine Bel.trans ?_ (by assumption)))))) HPO.out (intsR_good.bel HD.out (by (repeat (first | assumption | exact Bel.refl _ | apply Bel.drewN | apply Bel.drew | apply Bel.alloc | refine Bel.trans ?_ (by assumption)))) HV.out) (fun b hb => Nat.lt_of_lt_of_le (HV.out b hb) (Bel.size (by (repeat (first | assumption | exact Bel.refl _ | apply Bel.drewN | apply Bel.drew | apply Bel.alloc | refine Bel.trans ?_ (by assumption)))))) ⟨hW.cell (ab0 _), hW.cell (ab1 _), hW.cell (ab2 _), hW.cell (ab3 _), hW.cell (ab4 _), hW.cell (abo _), hW.cell (by simp [go_sem])⟩ (projOk_link HPO.out hn)
  rintro e w3 ⟨rfl, g3⟩
  generalize (List.range p.2.2.1.length).any (fun n => barsB p done (j : Int) (p.2.2.1.getD n zLink)) = z at *
  go_wp2
  go_ret
  exact ⟨ret_bool HF.out.symm, by (repeat (first | assumption | exact Bel.refl _ | apply Bel.drewN | apply Bel.drew | apply Bel.alloc | refine Bel.trans ?_ (by assumption)))⟩

set_option maxHeartbeats 400000 in
theorem indexFree_any (c : Nat → Bool) (B0 B1 : Nat) (v : Value) (xs : List ActT) (S : Nat → Prop) (w : World) (hx : actsR S w [v] xs) (hS : ∀ b, S b → b < w.heap.size)
    (hcl : ∀ W, Bel w W → ∀ j, j < xs.length → ∀ ec : Value, Calls Try.prog 70 #[.agg #[.string (xs.getD j zAct).1, .int .i64 (xs.getD j zAct).2.1, ec], .pointer (some ⟨B0, 0, none⟩), .pointer (some ⟨B1, 0, none⟩)] W fun e w' => e = .returned (.bool (c j)) ∧ Bel W w') :
    Calls Try.prog 69 #[v, .func (.func 70) #[] #[.pointer (some ⟨B0, 0, none⟩), .pointer (some ⟨B1, 0, none⟩)]] w fun e w' => e = .returned (.int .i64 (idxV c xs.length)) ∧ Bel w w' := by
  have HM := Lib.hid hx
  have HS := Lib.hid hS
  have HCL := Lib.hid hcl
  obtain ⟨p2, k2, hv, l2, l2', hr⟩ := sliceR_open hx
  clear hr
  subst hv
  unfold maxLen at l2'
  clear hx hS hcl
  go_enter Try.func69, Try.ntmps69
  go_wp2_with fail
  go_loopw [8] (fun i wr => ∃ (k : Nat), k ≤ xs.length ∧ i = .int .i64 k ∧ (∀ j, j < k → c j = false) ∧ Bel w wr) (fun i _ => xs.length - (intOf i).toNat)
  case atStart => exact ⟨0, Nat.zero_le _, rfl, fun j hj => by omega, by (repeat (first | assumption | exact Bel.refl _ | apply Bel.drewN | apply Bel.drew | apply Bel.alloc | refine Bel.trans ?_ (by assumption)))⟩
  case round =>
    obtain ⟨k, hk, rfl, hall, hB⟩ := hrel
    have HA := Lib.hid hall; clear hall
    by_cases hlt : k < xs.length
    · obtain ⟨b, off, ecs, ea, hrow, hel⟩ := sliceR_at zAct HM.out hlt
      obtain rfl : p2 = some ⟨b, off, none⟩ := ea
      have HC := Lib.hid (HCL.out wr hB k hlt)
      generalize xs.getD k zAct = X at *
      obtain ⟨ec2, rfl, eq0, eq1, eq2⟩ := actR_open hel
      have ed := fun i hi => hB.cell (hrow i hi).1
      have ed0 := ed 0 (by simp)
      have ed1 := ed 1 (by simp)
      have ed2 := ed 2 (by simp)
      simp only [List.getElem_cons_zero, List.getElem_cons_succ, Nat.add_zero] at ed0 ed1 ed2
      clear hrow hel eq0 eq1 eq2 ed
      go_wp2_with fail
      refine (HC.out _).mono ?_
      rintro e w1 ⟨rfl, g1⟩
      have G : Bel w w1 := by (repeat (first | assumption | exact Bel.refl _ | apply Bel.drewN | apply Bel.drew | apply Bel.alloc | refine Bel.trans ?_ (by assumption)))
      cases hb : c k
      · have HBk := Lib.hid hb; clear hb
        go_wp2
        go_roundw
        case rel =>
          refine ⟨k + 1, by omega, by go_num, fun j hj => ?_, G⟩
          by_cases e : j < k
          · exact HA.out j e
          · obtain rfl : j = k := by omega
            exact HBk.out
        case measure => simp [intOf]; omega
      · have HE := Lib.hid (show idxV c xs.length = k from by unfold idxV; rw [idxV_hit hlt hb HA.out])
        clear hb
        go_wp2
        go_ret
        exact ⟨ret_int HE.out.symm, G⟩
    · have HE := Lib.hid (show idxV c xs.length = -1 from by unfold idxV; rw [idxV_miss fun j hj => HA.out j (by omega)])
      go_wp2
      go_ret
      exact ⟨ret_int HE.out.symm, hB⟩

end Go.Proofs.Ytclmffknggmlnaa
