/- Contract of the program's TopologicalOrder. -/
import Derived.Test.YtclmffknggmlnaaTopo2
namespace Go.Proofs.Ytclmffknggmlnaa
open Go.ChangeShapes Go.WideShapes Go.ChangeAt Go.RowKit
set_option linter.unusedVariables false

set_option maxHeartbeats 1000000 in
theorem iTopologicalOrder_any (v : Value) (p : ProjT) (S : Nat → Prop) (w : World) (hx : aggR projR S w v p) (hS : ∀ b, S b → b < w.heap.size) (_hn : bulkProject p ≤ 1048576) :
    Calls Try.prog 32 #[v] w (FreshP intsR w (topoV p) (topoB p)) := by
  obtain ⟨cs, rfl, hx⟩ := hx
  obtain ⟨c1, c2, c3, c4, rfl, q0, q1, q2, q3, q4⟩ := projR_open hx
  have Q1 := Lib.hid q1
  have Q2 := Lib.hid q2
  have Q3 := Lib.hid q3
  have Q4 := Lib.hid q4
  have HP := Lib.hid hx
  obtain ⟨p1, k1, rfl, l1, l1', -⟩ := sliceR_open q1
  obtain ⟨p2, k2, rfl, l2, l2', -⟩ := sliceR_open q2
  obtain ⟨p3, k3, rfl, l3, l3', -⟩ := sliceR_open q3
  obtain ⟨p4, k4, rfl, l4, l4', -⟩ := sliceR_open q4
  unfold maxLen at l1' l2' l3' l4'
  clear hx q0 q1 q2 q3 q4
  have HS := Lib.hid hS
  have HN := Lib.hid _hn
  clear hS _hn
  have HP1 := Lib.hid (show ∀ W, Bel w W → aggR projR S W (.agg #[.int .i64 p.1, .slice p1 p.2.1.length k1, .slice p2 p.2.2.1.length k2, .slice p3 p.2.2.2.1.length k3, .slice p4 p.2.2.2.2.length k4]) p from fun W hW => aggR_mk (projR_good.bel HP.out hW HS.out))
  show Calls Try.prog 32 #[.agg #[.int .i64 p.1, .slice p1 p.2.1.length k1, .slice p2 p.2.2.1.length k2, .slice p3 p.2.2.2.1.length k3, .slice p4 p.2.2.2.2.length k4]] w _
  go_enter Try.func32, Try.ntmps32
  go_wp2_with fail
  refine (iProjectOk_any _ p S _ (HP1.out _ (by (repeat (first | assumption | exact Bel.refl _ | apply Bel.drewN | apply Bel.drew | apply Bel.alloc | refine Bel.trans ?_ (by assumption))))) (fun b hb => Nat.lt_of_lt_of_le (HS.out b hb) (Bel.size (by (repeat (first | assumption | exact Bel.refl _ | apply Bel.drewN | apply Bel.drew | apply Bel.alloc | refine Bel.trans ?_ (by assumption))))))).mono ?_
  rintro e w1 ⟨rfl, g1⟩
  have b0 := g1.cell (p := ⟨w.heap.size, 0, none⟩) (v := .int .i64 p.1) (by simp [go_sem])
  have b1 := g1.cell (p := ⟨w.heap.size, 1, none⟩) (v := .slice p1 p.2.1.length k1) (by simp [go_sem])
  have b2 := g1.cell (p := ⟨w.heap.size, 2, none⟩) (v := .slice p2 p.2.2.1.length k2) (by simp [go_sem])
  have b3 := g1.cell (p := ⟨w.heap.size, 3, none⟩) (v := .slice p3 p.2.2.2.1.length k3) (by simp [go_sem])
  have b4 := g1.cell (p := ⟨w.heap.size, 4, none⟩) (v := .slice p4 p.2.2.2.2.length k4) (by simp [go_sem])
  have KX := Lib.hid (show ∀ W, Bel w1 W → W.cell? ⟨w.heap.size, 0, none⟩ = some (.int .i64 p.1) ∧ W.cell? ⟨w.heap.size, 1, none⟩ = some (.slice p1 p.2.1.length k1) ∧ W.cell? ⟨w.heap.size, 2, none⟩ = some (.slice p2 p.2.2.1.length k2) ∧ W.cell? ⟨w.heap.size, 3, none⟩ = some (.slice p3 p.2.2.2.1.length k3) ∧ W.cell? ⟨w.heap.size, 4, none⟩ = some (.slice p4 p.2.2.2.2.length k4) from fun W hW => ⟨hW.cell b0, hW.cell b1, hW.cell b2, hW.cell b3, hW.cell b4⟩)
  have G1 : Bel w w1 := by (repeat (first | assumption | exact Bel.refl _ | apply Bel.drewN | apply Bel.drew | apply Bel.alloc | refine Bel.trans ?_ (by assumption)))
  clear b0 b1 b2 b3 b4
  cases hp : projOk p
  · have HV := Lib.hid (topo_no hp).2
    have HTB := Lib.hid (topo_no hp).1
    clear hp
    go_wp2
    go_ret2
    exact ⟨.slice none 0 0, by rw [HTB.out]; rfl, by rw [HV.out]; exact ⟨none, 0, rfl, Nat.le_refl _, Nat.zero_le _, fun i hi => absurd hi (Nat.not_lt_zero _)⟩, by (repeat (first | assumption | exact Bel.refl _ | apply Bel.drewN | apply Bel.drew | apply Bel.alloc | refine Bel.trans ?_ (by assumption)))⟩
  have HPO := Lib.hid hp; clear hp
  have hpl := (projOk_bd HPO.out).2.1
  obtain ⟨b0, b1, b2, b3, b4⟩ := KX.out w1 (Bel.refl _)
  have hsz1 := G1.size
  have ab0 := fun o => ((Bel.refl w1).alloc o).cell b0
  have aab0 := fun o o' => (((Bel.refl w1).alloc o).alloc o').cell b0
  have ab1 := fun o => ((Bel.refl w1).alloc o).cell b1
  have aab1 := fun o o' => (((Bel.refl w1).alloc o).alloc o').cell b1
  have ab2 := fun o => ((Bel.refl w1).alloc o).cell b2
  have aab2 := fun o o' => (((Bel.refl w1).alloc o).alloc o').cell b2
  have ab3 := fun o => ((Bel.refl w1).alloc o).cell b3
  have aab3 := fun o o' => (((Bel.refl w1).alloc o).alloc o').cell b3
  have ab4 := fun o => ((Bel.refl w1).alloc o).cell b4
  have aab4 := fun o o' => (((Bel.refl w1).alloc o).alloc o').cell b4
  go_wp2_with fail
  clear b0 b1 b2 b3 b4 ab0 ab1 ab2 ab3 ab4 aab0 aab1 aab2 aab3 aab4
  go_loopw [13] (fun i wr => ∃ (k : Nat) (ys : List Int) (q : Option Addr) (cap : Nat), k ≤ p.2.1.length ∧ i = .int .i64 k ∧ ys = topoR p k ∧ ys.length = k ∧ Own (fun _ => False) 1 intR 3 w1.heap.size wr q cap ys ∧ Blk wr (w1.heap.size + 1) 25 [.slice q ys.length cap] ∧ (∀ a, q = some a → w1.heap.size + 1 ≠ a.block) ∧ Bel w1 wr) (fun i _ => p.2.1.length - (intOf i).toNat)
  case atStart => exact ⟨0, [], some ⟨w1.heap.size, 0, none⟩, 0, Nat.zero_le _, rfl, rfl, rfl, (Own.empty (alloc_at rfl) (Nat.le_refl _)).bel intR_good (by (repeat (first | assumption | exact Bel.refl _ | apply Bel.drewN | apply Bel.drew | apply Bel.alloc | refine Bel.trans ?_ (by assumption)))), Blk.new' _ (by simp), (fun a ha => by cases ha; exact Nat.succ_ne_self _), by (repeat (first | assumption | exact Bel.refl _ | apply Bel.drewN | apply Bel.drew | apply Bel.alloc | refine Bel.trans ?_ (by assumption)))⟩
  case round =>
    obtain ⟨k, ys, q, cap, hk, rfl, hys, hyl, hO, hBk, hne, hB⟩ := hrel
    obtain ⟨wo, hwo⟩ : ∃ W, W = wr := ⟨wr, rfl⟩
    subst hwo
    have HY := Lib.hid hys; clear hys
    have HYL := Lib.hid hyl
    have hyk : ys.length ≤ k := by omega
    clear hyl
    have HNE := Lib.hid hne; clear hne
    have hszr := hB.size
    have hltB := hBk.lt
    have HBK := Lib.hid hBk
    have hcO := hBk.cellv (j := 0) (by simp)
    simp only [List.getElem_cons_zero] at hcO
    clear hBk
    obtain ⟨b0, b1, b2, b3, b4⟩ := KX.out wo hB
    have hBw : Bel w wo := G1.trans hB
    have HD := Lib.hid (hO.done (T := New w1 wo) intR_good (fun b h _ => h.elim) (fun b h1 h2 => ⟨h1, h2⟩))
    by_cases hlt : k < p.2.1.length
    · go_wp2_with fail
      refine (indexFree_any (freeB p ys) w.heap.size (w1.heap.size + 1) _ p.2.1 S _ (actsR_good.bel Q1.out hBw HS.out) (fun b hb => Nat.lt_of_lt_of_le (HS.out b hb) hBw.size) ?_).mono ?_
      · intro W hW j hj ec
        exact closFree_any p S p1 k1 p2 k2 p3 k3 p4 k4 ys q cap (New w1 wo) w.heap.size (w1.heap.size + 1) j ec W (projR_good.bel HP.out (by (repeat (first | assumption | exact Bel.refl _ | apply Bel.drewN | apply Bel.drew | apply Bel.alloc | refine Bel.trans ?_ (by assumption)))) HS.out) (fun b hb => Nat.lt_of_lt_of_le (HS.out b hb) (Bel.size (by (repeat (first | assumption | exact Bel.refl _ | apply Bel.drewN | apply Bel.drew | apply Bel.alloc | refine Bel.trans ?_ (by assumption)))))) HPO.out (intsR_good.bel HD.out hW (fun b hb => hb.2)) (fun b hb => Nat.lt_of_lt_of_le hb.2 hW.size) ⟨hW.cell b0, hW.cell b1, hW.cell b2, hW.cell b3, hW.cell b4, hW.cell hcO⟩ hj
      rintro e w2 ⟨rfl, g2⟩
      have G2 : Bel w1 w2 := hB.trans g2
      cases hf : (List.range p.2.1.length).find? (freeB p ys) with
      | none =>
        have HT := Lib.hid (topo_stop hlt (by rw [← HY.out]; exact hf))
        have HI := Lib.hid (show idxV (freeB p ys) p.2.1.length = -1 from by unfold idxV; rw [hf])
        clear hf
        rw [HI.out]
        go_wp2
        go_ret2
        exact ⟨.slice none 0 0, by rw [HT.out.1]; rfl, by rw [HT.out.2]; exact ⟨none, 0, rfl, Nat.le_refl _, Nat.zero_le _, fun i hi => absurd hi (Nat.not_lt_zero _)⟩, by (repeat (first | assumption | exact Bel.refl _ | apply Bel.drewN | apply Bel.drew | apply Bel.alloc | refine Bel.trans ?_ (by assumption)))⟩
      | some a =>
        have hal : a < p.2.1.length := List.mem_range.1 (List.mem_of_find?_eq_some hf)
        have HN := Lib.hid (show topoR p (k + 1) = ys ++ [(a : Int)] from by rw [HY.out]; exact topoR_yes (by rw [← HY.out]; exact hf))
        have HI := Lib.hid (show idxV (freeB p ys) p.2.1.length = a from by unfold idxV; rw [hf])
        clear hf
        rw [HI.out]
        have hcO := g2.cell hcO
        have hsz2 := g2.size
        have hBk2 := Lib.hid (HBK.out.bel g2)
        have hcA := fun o => ((Bel.refl w2).alloc o).cell hcO
        go_wp2_with (at_builtin; refine wpList_app2 (n := 1) intR_good _ rfl _ _ 25 rfl (.int .i64 0) 8 Try.underlying25 (by kernel_rfl) rfl (by decide) (by decide) q cap ys ((a : Int)) rfl (hO.bel intR_good (by (repeat (first | assumption | exact Bel.refl _ | apply Bel.drewN | apply Bel.drew | apply Bel.alloc | refine Bel.trans ?_ (by assumption))))) _ 1 [.int .i64 (a : Int)] rfl rfl (World.news_of_block (alloc_at (by simp))) (by intro u hu; simp at hu; subst hu; rfl) (intRep (by unfold I64; omega)) (by omega) (by first | omega | (simp; omega)) ?_; intro q' cap' w' hO' hBW hsz' hOT'; obtain ⟨hh1, hh2⟩ := hOT' (w1.heap.size + 1) (by simp; omega) HNE.out; have hBk3 : Blk w' (w1.heap.size + 1) 25 [.slice q ys.length cap] := (hBk2.out.alloc _).of hh1; have hc3 := hBk3.cellv (j := 0) (by simp); simp only [List.getElem_cons_zero] at hc3; have hf3 := hBk3.frozen 0; have HB3 := Lib.hid hBk3; have HH2 := Lib.hid hh2; have HB := hBW w1 (by (repeat (first | assumption | exact Bel.refl _ | apply Bel.drewN | apply Bel.drew | apply Bel.alloc | refine Bel.trans ?_ (by assumption)))) (Nat.le_refl _); have HO' := Lib.hid hO'; clear hBW hsz' hOT' hh1 hBk3 hh2 hO')
        go_roundw
        case rel => exact ⟨k + 1, ys ++ [(a : Int)], q', cap', by omega, by go_num, HN.out.symm, by simp [HYL.out], HO'.out.setAt intR_good HH2.out _ _, by simpa using HB3.out.set 0 _, HH2.out, HB.set (Nat.le_succ _) _⟩
        case measure => simp [intOf]; omega
    · have hkn : k = p.2.1.length := by omega
      have HYF := Lib.hid (show ys = topoR p p.2.1.length from by rw [HY.out, hkn])
      have HT := Lib.hid (topo_full HPO.out (by rw [← HYF.out, HYL.out, hkn]))
      clear hkn
      go_wp2
      go_ret2
      exact ⟨.slice q ys.length cap, by rw [HT.out.1]; rfl, by rw [HT.out.2, ← HYF.out]; exact intsR_good.mono HD.out (fun b hb => ⟨Nat.le_trans hsz1 hb.1, hb.2⟩), by (repeat (first | assumption | exact Bel.refl _ | apply Bel.drewN | apply Bel.drew | apply Bel.alloc | refine Bel.trans ?_ (by assumption)))⟩

end Go.Proofs.Ytclmffknggmlnaa
