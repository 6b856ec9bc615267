/- Contract of impl.InitialDomain. -/
import Derived.Test.YtiaamddhocdhaaaInitF
import Derived.Test.YtiaamddhocdhaaaHeldM
import Derived.Test.YtiaamddhocdhaaaProjOk
import Derived.Test.YtiaamddhocdhaaaOwnS
import Derived.Deep.Cut
import Derived.Conc.WalkWords
import Derived.Deep.DrawnRows
import Derived.Deep.DeepCutAuto
import Derived.Test.YtiaamddhocdhaaaInitS
namespace Go.Proofs.Ytiaamddhocdhaaa
open Go.ChangeShapes Go.WideShapes Go.ChangeAt Go.RowKit
set_option linter.unusedVariables false

theorem allocK {w : World} {g : Nat} {o o' : Obj} (h : w.heap[g]? = some o) : (w.alloc o').heap[g]? = some o := by
  have hlt := (Array.getElem?_eq_some_iff.1 h).1
  rw [← h]
  show (w.heap.push _)[g]? = _
  rw [Array.getElem?_push, if_neg (by omega)]
theorem drewK {w : World} {g : Nat} {o : Obj} (h : w.heap[g]? = some o) : w.drew.heap[g]? = some o := h
set_option maxRecDepth 100000 in
set_option maxHeartbeats 8000000 in
theorem iInitialDomain_any (v : Value) (p : ProjT) (S : Nat → Prop) (w : World) (hx : aggR projR S w v p) (hS : ∀ b, S b → b < w.heap.size) (_hn : bulkProject p ≤ 1048576) :
    Calls Try.prog 48 #[v] w (FreshA domM w (initV p)) := by
  obtain ⟨cs, rfl, hx⟩ := hx
  obtain ⟨c1, c2, c3, c4, rfl, q0, q1, q2, q3, q4⟩ := projR_open hx
  have Q1 := Lib.hid q1
  have Q2 := Lib.hid q2
  have Q3 := Lib.hid q3
  have Q4 := Lib.hid q4
  have HP := Lib.hid hx
  obtain ⟨p1, k1, rfl, l1, l1', -⟩ := sliceR_open q1
  obtain ⟨p2, k2, rfl, l2, l2', -⟩ := sliceR_open q2
  obtain ⟨p3, k3, rfl, l3, l3', -⟩ := sliceR_open q3
  obtain ⟨p4, k4, rfl, l4, l4', -⟩ := sliceR_open q4
  unfold maxLen at l1' l2' l3' l4'
  clear hx q0 q1 q2 q3 q4
  have HS := Lib.hid hS
  have HNB := Lib.hid _hn
  clear hS _hn
  show Calls Try.prog 48 #[.agg #[.int .i64 p.1, .slice p1 p.2.1.length k1, .slice p2 p.2.2.1.length k2, .slice p3 p.2.2.2.1.length k3, .slice p4 p.2.2.2.2.length k4]] w _
  have HPR := Lib.hid (show ∀ W, Bel w W → aggR projR S W (.agg #[.int .i64 p.1, .slice p1 p.2.1.length k1, .slice p2 p.2.2.1.length k2, .slice p3 p.2.2.2.1.length k3, .slice p4 p.2.2.2.2.length k4]) p ∧ (∀ b, S b → b < W.heap.size) from fun W hW => ⟨aggR_mk (projR_good.bel HP.out hW HS.out), fun b hb => Nat.lt_of_lt_of_le (HS.out b hb) hW.size⟩)
  go_enter Try.func48, Try.ntmps48
  obtain ⟨W0, hW0⟩ : ∃ W, W = ((w.alloc (.cells #[.int .i64 p.1, .slice p1 p.2.1.length k1, .slice p2 p.2.2.1.length k2, .slice p3 p.2.2.2.1.length k3, .slice p4 p.2.2.2.2.length k4] 34)).alloc (.cells #[.slice none 0 0, .slice none 0 0, .slice none 0 0] 84)).alloc (.cells #[.slice none 0 0, .slice none 0 0, .slice none 0 0] 84) := ⟨_, rfl⟩
  have HBR := Lib.hid (show Blk W0 (w.heap.size + 1) 84 [.slice none 0 0, .slice none 0 0, .slice none 0 0] from by rw [hW0]; exact (Blk.new' (w := w.alloc (.cells #[.int .i64 p.1, .slice p1 p.2.1.length k1, .slice p2 p.2.2.1.length k2, .slice p3 p.2.2.2.1.length k3, .slice p4 p.2.2.2.2.length k4] 34)) [.slice none 0 0, .slice none 0 0, .slice none 0 0] (by simp)).alloc _)
  have HBS := Lib.hid (show Blk W0 (w.heap.size + 1 + 1) 84 [.slice none 0 0, .slice none 0 0, .slice none 0 0] from by rw [hW0]; exact Blk.new' _ (by simp))
  have HBP := Lib.hid (show Blk W0 w.heap.size 34 [.int .i64 p.1, .slice p1 p.2.1.length k1, .slice p2 p.2.2.1.length k2, .slice p3 p.2.2.2.1.length k3, .slice p4 p.2.2.2.2.length k4] from by rw [hW0]; exact ((Blk.new' _ rfl).alloc _).alloc _)
  have hB0 : Bel w W0 := by rw [hW0]; (repeat (first | assumption | exact Bel.refl _ | apply Bel.drewN | apply Bel.drew | apply Bel.alloc | refine Bel.trans ?_ (by assumption)))
  have hz0 : (w.heap.size + 1 + 1 + 1) ≤ W0.heap.size := by rw [hW0]; simp
  have HW0 := Lib.hid hW0
  clear hW0
  go_wp2_with fail
  rw [← HW0.out]
  refine (iProjectOk_any _ p S _ (HPR.out _ (by (repeat (first | assumption | exact Bel.refl _ | apply Bel.drewN | apply Bel.drew | apply Bel.alloc | refine Bel.trans ?_ (by assumption))))).1 (HPR.out _ (by (repeat (first | assumption | exact Bel.refl _ | apply Bel.drewN | apply Bel.drew | apply Bel.alloc | refine Bel.trans ?_ (by assumption))))).2).mono ?_
  rintro e w1 ⟨rfl, g1⟩
  have G1 : Bel W0 w1 := by (repeat (first | assumption | exact Bel.refl _ | apply Bel.drewN | apply Bel.drew | apply Bel.alloc | refine Bel.trans ?_ (by assumption)))
  have HBRz := Lib.hid (HBR.out.bel G1)
  have HBSz := Lib.hid (HBS.out.bel G1)
  have HBPz := Lib.hid (HBP.out.bel G1)
  have hz1 := G1.size
  clear g1
  cases hb : projOk p
  · have HIV := Lib.hid (show initV p = ([], [], []) from by unfold initV; rw [hb]; rfl)
    have s0_ := HBSz.out.cellv (j := 0) (by simp)
    have s1_ := HBSz.out.cellv (j := 1) (by simp)
    have s2_ := HBSz.out.cellv (j := 2) (by simp)
    simp only [List.getElem_cons_zero, List.getElem_cons_succ] at s0_ s1_ s2_
    have r0_ := HBRz.out.cellv (j := 0) (by simp)
    have r1_ := HBRz.out.cellv (j := 1) (by simp)
    have r2_ := HBRz.out.cellv (j := 2) (by simp)
    simp only [List.getElem_cons_zero, List.getElem_cons_succ] at r0_ r1_ r2_
    have fr0 := HBRz.out.frozen 0
    have fr1 := HBRz.out.frozen 1
    have fr2 := HBRz.out.frozen 2
    go_wp2_with fail
    have HBW := Lib.hid ((((Below.refl (w.heap.size + 1) w1).setCell (p := ⟨w.heap.size + 1, 0, none⟩) (Nat.le_refl _) (.slice none 0 0)).setCell (p := ⟨w.heap.size + 1, 1, none⟩) (Nat.le_refl _) (.slice none 0 0)).setCell (p := ⟨w.heap.size + 1, 2, none⟩) (Nat.le_refl _) (.slice none 0 0))
    have HIF := Lib.hid (show Hi (w.heap.size + 1 + 1) w1 (((w1.setCell ⟨w.heap.size + 1, 0, none⟩ (.slice none 0 0)).setCell ⟨w.heap.size + 1, 1, none⟩ (.slice none 0 0)).setCell ⟨w.heap.size + 1, 2, none⟩ (.slice none 0 0)) from ((((Hi.refl (w.heap.size + 1 + 1) w1).set (q := w.heap.size + 1) (j := 0) (.slice none 0 0) (.inl (by omega))).set (q := w.heap.size + 1) (j := 1) (.slice none 0 0) (.inl (by omega))).set (q := w.heap.size + 1) (j := 2) (.slice none 0 0) (.inl (by omega))))
    have HBF := Lib.hid (((HBRz.out.set 0 (.slice none 0 0)).set 1 (.slice none 0 0)).set 2 (.slice none 0 0))
    have HGF := Lib.hid (show Bel w (((w1.setCell ⟨w.heap.size + 1, 0, none⟩ (.slice none 0 0)).setCell ⟨w.heap.size + 1, 1, none⟩ (.slice none 0 0)).setCell ⟨w.heap.size + 1, 2, none⟩ (.slice none 0 0)) ∧ True from ⟨Below.trans (hB0.trans G1) (Below.mono HBW.out (by omega)), trivial⟩)
    generalize (((w1.setCell ⟨w.heap.size + 1, 0, none⟩ (.slice none 0 0)).setCell ⟨w.heap.size + 1, 1, none⟩ (.slice none 0 0)).setCell ⟨w.heap.size + 1, 2, none⟩ (.slice none 0 0)) = WF at *
    have d0 := HBF.out.cellv (j := 0) (by simp)
    have d1 := HBF.out.cellv (j := 1) (by simp)
    have d2 := HBF.out.cellv (j := 2) (by simp)
    simp only [List.set_cons_zero, List.set_cons_succ, List.getElem_cons_zero, List.getElem_cons_succ] at d0 d1 d2
    have hz := HIF.out.1
    have GD : domM (New w WF) WF [.slice none 0 0, .slice none 0 0, .slice none 0 0] (initV p) := by rw [HIV.out]; exact domM_nil _ _
    have BF := HGF.out.1
    clear HBF HBW
    exact bodyPost_ret (v := .agg #[.slice none 0 0, .slice none 0 0, .slice none 0 0]) (by simp [results, Try.results48, go_sem, d0, d1, d2]) rfl ⟨[.slice none 0 0, .slice none 0 0, .slice none 0 0], rfl, GD, BF⟩
  · have HPO := Lib.hid hb
    have hpb := projOk_bd hb
    have g01 := HBPz.out.cellv (j := 1) (by simp)
    simp only [List.getElem_cons_zero, List.getElem_cons_succ] at g01
    have hB0 : Bel w w1 := hB0.trans G1
    clear hb
    go_wp2_with fail
    go_loopw [14] (fun i wr => ∃ (k : Nat) (X Y : List Int) (VS : List Value) (RS : List (List Int)) (q1 : Option Addr) (c1 : Nat) (q2 : Option Addr) (c2 : Nat) (q3 : Option Addr) (c3 : Nat) (G : Nat → Nat → Prop), k ≤ p.2.1.length ∧ i = .int .i64 k ∧ X = initX k ∧ Y = initY p k ∧ RS = initR p k ∧ Blk wr (w.heap.size + 1 + 1) 84 [.slice q1 X.length c1, .slice q2 Y.length c2, .slice q3 VS.length c3] ∧ Blk wr (w.heap.size + 1) 84 [.slice none 0 0, .slice none 0 0, .slice none 0 0] ∧ Blk wr w.heap.size 34 [.int .i64 p.1, .slice p1 p.2.1.length k1, .slice p2 p.2.2.1.length k2, .slice p3 p.2.2.2.1.length k3, .slice p4 p.2.2.2.2.length k4] ∧ Dom3 3 25 (w.heap.size + 1 + 1 + 1) wr X Y VS RS q1 c1 q2 c2 q3 c3 G ∧ Bel w wr) (fun i _ => p.2.1.length - (intOf i).toNat)
    case atStart => exact ⟨0, [], [], [], [], none, 0, none, 0, none, 0, fun _ _ => False, Nat.zero_le _, rfl, rfl, rfl, rfl, HBSz.out, HBRz.out, HBPz.out, Dom3.nil _, hB0⟩
    case round =>
      clear G1 g01
      clear hB0
      obtain ⟨k, X, Y, VS, RS, q1, c1, q2, c2, q3, c3, G, hk, rfl, hX, hY, hR, hbs, hbr, hbp, hD, hB⟩ := hrel
      have hxl : X.length = k := by rw [hX, initX_length]
      have hyl : Y.length = k := by rw [hY, initY_length]
      have hvl : VS.length = k := by rw [hD.len, hR, initR_length p hk]
      have hxb : X.length ≤ 6 := by omega
      have hyb : Y.length ≤ 6 := by omega
      have hvb : VS.length ≤ 6 := by omega
      clear hxl hyl hvl
      have HX := Lib.hid hX
      have HY := Lib.hid hY
      have HR := Lib.hid hR
      have HD0 := Lib.hid hD
      have HBS0 := Lib.hid hbs
      have HBR0 := Lib.hid hbr
      have HBP0 := Lib.hid hbp
      have HG0 := Lib.hid (show Bel w wr ∧ True from ⟨hB, trivial⟩)
      have hzr := hbs.lt
      have hle1 := hD.o1.le
      have hle2 := hD.o2.le
      have hle3 := hD.o3.le
      unfold maxLen at hle1 hle2 hle3
      clear hX hY hR hbs hbr hbp hD
      by_cases hlt : k < p.2.1.length
      · skip
        obtain ⟨ab, ao, acs, rfl, arow, ael⟩ := sliceR_at zAct Q1.out hlt
        obtain ⟨ac2, rfl, aq0, aq1, aq2⟩ := actR_open ael
        have hml := projOk_modes HPO.out hlt
        have HRS := Lib.hid (initR_succ p hlt)
        generalize p.2.1.getD k zAct = XA at *
        obtain ⟨am, amk, rfl, aml, aml', -⟩ := sliceR_open aq2
        unfold maxLen at aml'
        have HEL := Lib.hid ael
        have e0 := hB.cell (arow 0 (by simp)).1
        have e1 := hB.cell (arow 1 (by simp)).1
        have e2 := hB.cell (arow 2 (by simp)).1
        simp only [List.getElem_cons_zero, List.getElem_cons_succ, Nat.add_zero] at e0 e1 e2
        clear arow ael aq0 aq1 aq2 hB
        obtain ⟨BA, hBA⟩ : ∃ n, n = wr.heap.size := ⟨_, rfl⟩
        obtain ⟨W1, hW1⟩ : ∃ W, W = wr.alloc (.cells #[.string XA.1, .int .i64 XA.2.1, .slice am XA.2.2.length amk] 75) := ⟨_, rfl⟩
        have HBA1 := Lib.hid (show Blk W1 BA 75 [.string XA.1, .int .i64 XA.2.1, .slice am XA.2.2.length amk] from by rw [hW1]; exact Blk.new' _ hBA)
        have HL1 := Lib.hid (show Bel wr W1 ∧ True from ⟨by rw [hW1]; (repeat (first | assumption | exact Bel.refl _ | apply Bel.drewN | apply Bel.drew | apply Bel.alloc | refine Bel.trans ?_ (by assumption))), trivial⟩)
        have hz1 : wr.heap.size ≤ W1.heap.size := HL1.out.1.size
        have hBAs : wr.heap.size ≤ BA ∧ BA ≤ wr.heap.size := by omega
        have HD1 := Lib.hid (HD0.out.bel HL1.out.1)
        have HBS1 := Lib.hid (HBS0.out.bel HL1.out.1)
        have HBR1 := Lib.hid (HBR0.out.bel HL1.out.1)
        have HBP1 := Lib.hid (HBP0.out.bel HL1.out.1)
        have HG1 := Lib.hid (show Bel w W1 ∧ True from ⟨HG0.out.1.trans HL1.out.1, trivial⟩)
        have HW1 := Lib.hid hW1
        have HBAQ := Lib.hid hBA
        have hki : (k : Int) < (p.2.1.length : Int) := by omega
        have hdb := hpb.2.2.2.2.2
        have hwd : IntKind.i64.wrap (p.1 - 1) = p.1 - 1 := IntWalk.i64_in _ (by omega)
        clear hBA hW1
        have kc : ∀ (U : World), Blk U (w.heap.size + 1 + 1) 84 [.slice q1 X.length c1, .slice q2 Y.length c2, .slice q3 VS.length c3] → Blk U w.heap.size 34 [.int .i64 p.1, .slice (some ⟨ab, ao, none⟩) p.2.1.length k1, .slice p2 p.2.2.1.length k2, .slice p3 p.2.2.2.1.length k3, .slice p4 p.2.2.2.2.length k4] → Blk U BA 75 [.string XA.1, .int .i64 XA.2.1, .slice am XA.2.2.length amk] → ∀ W, Bel U W → W.cell? ⟨w.heap.size + 1 + 1, 0, none⟩ = some (.slice q1 X.length c1) ∧ W.cell? ⟨w.heap.size + 1 + 1, 1, none⟩ = some (.slice q2 Y.length c2) ∧ W.cell? ⟨w.heap.size + 1 + 1, 2, none⟩ = some (.slice q3 VS.length c3) ∧ W.cell? ⟨w.heap.size, 0, none⟩ = some (.int .i64 p.1) ∧ W.cell? ⟨BA, 0, none⟩ = some (.string XA.1) ∧ W.cell? ⟨BA, 1, none⟩ = some (.int .i64 XA.2.1) ∧ W.cell? ⟨BA, 2, none⟩ = some (.slice am XA.2.2.length amk) := fun U h1 h2 h3 W hW => ⟨hW.cell (by have h := h1.cellv (j := 0) (by simp); simpa using h), hW.cell (by have h := h1.cellv (j := 1) (by simp); simpa using h), hW.cell (by have h := h1.cellv (j := 2) (by simp); simpa using h), hW.cell (by have h := h2.cellv (j := 0) (by simp); simpa using h), hW.cell (by have h := h3.cellv (j := 0) (by simp); simpa using h), hW.cell (by have h := h3.cellv (j := 1) (by simp); simpa using h), hW.cell (by have h := h3.cellv (j := 2) (by simp); simpa using h)⟩
        have kc := fun {U : World} => kc U
        have KC1 := Lib.hid (kc HBS1.out HBP1.out HBA1.out)
        have hWW : Bel W1 W1 := Bel.refl _
        go_upto_region 7 with (fail)
        rw [← HW1.out, ← HBAQ.out]
        clear e0 e1 e2
        refine wp_region_heldM (S := (fun W => W.cell? ⟨w.heap.size + 1 + 1, 0, none⟩ = some (.slice q1 X.length c1) ∧ W.cell? ⟨w.heap.size + 1 + 1, 1, none⟩ = some (.slice q2 Y.length c2) ∧ W.cell? ⟨w.heap.size + 1 + 1, 2, none⟩ = some (.slice q3 VS.length c3) ∧ W.cell? ⟨w.heap.size, 0, none⟩ = some (.int .i64 p.1) ∧ W.cell? ⟨BA, 0, none⟩ = some (.string XA.1) ∧ W.cell? ⟨BA, 1, none⟩ = some (.int .i64 XA.2.1) ∧ W.cell? ⟨BA, 2, none⟩ = some (.slice am XA.2.2.length amk))) (m := 18) (by kernel_rfl) ?_ (fun hHeld => ?_)
        · ((try dsimp only); (first | (with_reducible exact KC6.out _ (by (repeat (first | assumption | exact Bel.refl _ | apply Bel.drewN | apply Bel.drew | apply Bel.alloc | refine Bel.trans ?_ (by assumption))))) | (with_reducible exact KC4.out _ (by (repeat (first | assumption | exact Bel.refl _ | apply Bel.drewN | apply Bel.drew | apply Bel.alloc | refine Bel.trans ?_ (by assumption))))) | (with_reducible exact KC2.out _ (by (repeat (first | assumption | exact Bel.refl _ | apply Bel.drewN | apply Bel.drew | apply Bel.alloc | refine Bel.trans ?_ (by assumption))))) | (with_reducible exact KC1.out _ (by (repeat (first | assumption | exact Bel.refl _ | apply Bel.drewN | apply Bel.drew | apply Bel.alloc | refine Bel.trans ?_ (by assumption)))))))
        refine wpAnyM_take (i := 0) (v := ?_) rfl (by kernel_rfl) (by kernel_rfl) (by kernel_rfl) (by kernel_rfl) (fun _ _ _ h => h) (Or.inl ⟨by rfl, ?_⟩) (by assumption) ?_
        rotate_left
        · (intro w hSw; (try dsimp only at hSw); go_simp <;> with_reducible rfl)
        try walk_nrm
        refine wpAnyM_take (i := 1) (v := ?_) rfl (by kernel_rfl) (by kernel_rfl) (by kernel_rfl) (by kernel_rfl) (fun _ _ _ h => h) (Or.inl ⟨by rfl, ?_⟩) (by assumption) ?_
        rotate_left
        · (intro w hSw; (try dsimp only at hSw); go_simp <;> with_reducible rfl)
        try walk_nrm
        refine wpAnyM_take (i := 4) (v := ?_) rfl (by kernel_rfl) (by kernel_rfl) (by kernel_rfl) (by kernel_rfl) (fun _ _ _ h => h) (Or.inl ⟨by rfl, ?_⟩) (by assumption) ?_
        rotate_left
        · (intro w hSw; (try dsimp only at hSw); go_simp <;> with_reducible rfl)
        try walk_nrm
        refine wpAnyM_take (i := 5) (v := ?_) rfl (by kernel_rfl) (by kernel_rfl) (by kernel_rfl) (by kernel_rfl) (fun _ _ _ h => h) (Or.inl ⟨by rfl, ?_⟩) (by assumption) ?_
        rotate_left
        · (intro w hSw; (try dsimp only at hSw); go_simp <;> with_reducible rfl)
        try walk_nrm
        refine wpAnyM_take (i := 6) (v := ?_) rfl (by kernel_rfl) (by kernel_rfl) (by kernel_rfl) (by kernel_rfl) (fun _ _ _ h => h) (Or.inl ⟨by rfl, ?_⟩) (by assumption) ?_
        rotate_left
        · (intro w hSw; (try dsimp only at hSw); go_simp <;> with_reducible rfl)
        try walk_nrm
        refine wpAnyM_take (i := 7) (v := ?_) rfl (by kernel_rfl) (by kernel_rfl) (by kernel_rfl) (by kernel_rfl) (fun _ _ _ h => h) (Or.inl ⟨by rfl, ?_⟩) (by assumption) ?_
        rotate_left
        · (intro w hSw; (try dsimp only at hSw); go_simp <;> with_reducible rfl)
        try walk_nrm
        refine wpAnyM_take (i := 8) (v := ?_) rfl (by kernel_rfl) (by kernel_rfl) (by kernel_rfl) (by kernel_rfl) (fun _ _ _ h => h) (Or.inl ⟨by rfl, ?_⟩) (by assumption) ?_
        rotate_left
        · (intro w hSw; (try dsimp only at hSw); go_simp <;> with_reducible rfl)
        try walk_nrm
        refine wpAnyM_take (i := 11) (v := ?_) rfl (by kernel_rfl) (by kernel_rfl) (by kernel_rfl) (by kernel_rfl) (fun _ _ _ h => h) (Or.inl ⟨by rfl, ?_⟩) (by assumption) ?_
        rotate_left
        · (intro w hSw; (try dsimp only at hSw); go_simp <;> with_reducible rfl)
        try walk_nrm
        refine wpAnyM_take (i := 12) (v := ?_) rfl (by kernel_rfl) (by kernel_rfl) (by kernel_rfl) (by kernel_rfl) (fun _ _ _ h => h) (Or.inl ⟨by rfl, ?_⟩) (by assumption) ?_
        rotate_left
        · (intro w hSw; (try dsimp only at hSw); go_simp <;> with_reducible rfl)
        try walk_nrm
        refine wpAnyM_take (i := 13) (v := ?_) rfl (by kernel_rfl) (by kernel_rfl) (by kernel_rfl) (by kernel_rfl) (fun _ _ _ h => h) (Or.inl ⟨by rfl, ?_⟩) (by assumption) ?_
        rotate_left
        · (intro w hSw; (try dsimp only at hSw); go_simp <;> with_reducible rfl)
        try walk_nrm
        refine wpAnyM_ready (rs := [2, 9]) (by kernel_rfl) (by simp) ?_
        refine AllReadyM.cons rfl (fun K hK => ?_) ?_
        · go_simp
          refine hK.out _ _ ?_ (fun hHeld => ?_)
          · ((try dsimp only); (first | (with_reducible exact KC6.out _ (by (repeat (first | assumption | exact Bel.refl _ | apply Bel.drewN | apply Bel.drew | apply Bel.alloc | refine Bel.trans ?_ (by assumption))))) | (with_reducible exact KC4.out _ (by (repeat (first | assumption | exact Bel.refl _ | apply Bel.drewN | apply Bel.drew | apply Bel.alloc | refine Bel.trans ?_ (by assumption))))) | (with_reducible exact KC2.out _ (by (repeat (first | assumption | exact Bel.refl _ | apply Bel.drewN | apply Bel.drew | apply Bel.alloc | refine Bel.trans ?_ (by assumption))))) | (with_reducible exact KC1.out _ (by (repeat (first | assumption | exact Bel.refl _ | apply Bel.drewN | apply Bel.drew | apply Bel.alloc | refine Bel.trans ?_ (by assumption)))))))
          clear hK K
          try walk_nrm
          refine wpAnyM_ready (rs := [3, 9]) (by kernel_rfl) (by simp) ?_
          refine AllReadyM.cons rfl (fun K hK => ?_) ?_
          · (refine step_appG (o := ⟨some 21, _, _, _, _, _⟩) (n := 1) intR_good _ (by rfl) _ _ 25 (by rfl) (.int .i64 0) 8 Try.underlying25 (by kernel_rfl) rfl (by decide) (by decide) q1 c1 X (0) (by rfl) (HD1.out.o1.bel intR_good (by (repeat (first | assumption | exact Bel.refl _ | apply Bel.drewN | apply Bel.drew | apply Bel.alloc | refine Bel.trans ?_ (by assumption))))) _ 1 [.int .i64 0] (by rfl) rfl (World.news_of_block (by first | (first | exact alloc_at (by simp) | (with_reducible exact drewK (alloc_at (by simp))) | exact allocK (alloc_at (by simp)) | (with_reducible exact drewK (allocK (alloc_at (by simp))))) | (rw [HK2.out _ (by first | omega | (simp; done) | (simp; omega)) (by first | omega | (simp; done) | (simp; omega))]; (first | exact alloc_at (by simp) | (with_reducible exact drewK (alloc_at (by simp))) | exact allocK (alloc_at (by simp)) | (with_reducible exact drewK (allocK (alloc_at (by simp)))))))) (by intro u hu; simp at hu; subst hu; rfl) (intRep (by unfold I64; decide)) (by omega) (by first | omega | (simp; omega)) ?_; intro qx cx wA hOA hBA hFA; have HD2 := Lib.hid (((HD1.out.bel (by (repeat (first | assumption | exact Bel.refl _ | apply Bel.drewN | apply Bel.drew | apply Bel.alloc | refine Bel.trans ?_ (by assumption)))))).push1 hOA (Below.size hBA) hFA); have HBS2 := Lib.hid ((HBS1.out.bel (by (repeat (first | assumption | exact Bel.refl _ | apply Bel.drewN | apply Bel.drew | apply Bel.alloc | refine Bel.trans ?_ (by assumption))))).belowD hBA (by omega)); have HBR2 := Lib.hid ((HBR1.out.bel (by (repeat (first | assumption | exact Bel.refl _ | apply Bel.drewN | apply Bel.drew | apply Bel.alloc | refine Bel.trans ?_ (by assumption))))).belowD hBA (by omega)); have HBP2 := Lib.hid ((HBP1.out.bel (by (repeat (first | assumption | exact Bel.refl _ | apply Bel.drewN | apply Bel.drew | apply Bel.alloc | refine Bel.trans ?_ (by assumption))))).belowD hBA (by omega)); have HBA2 := Lib.hid ((HBA1.out.bel (by (repeat (first | assumption | exact Bel.refl _ | apply Bel.drewN | apply Bel.drew | apply Bel.alloc | refine Bel.trans ?_ (by assumption))))).farA hFA (fun ⟨a, ha, e⟩ => by have := (HD0.out.o1.lt ha).2; omega)); have HG2 := Lib.hid (show Bel w wA ∧ True from ⟨Below.trans (Bel.trans HG1.out.1 (by (repeat (first | assumption | exact Bel.refl _ | apply Bel.drewN | apply Bel.drew | apply Bel.alloc | refine Bel.trans ?_ (by assumption))))) (Below.mono hBA (by omega)), trivial⟩); have hz2 := (show W1.heap.size ≤ wA.heap.size from (by have := Below.size hBA; (try simp only [World.size_alloc, World.size_drew] at *); omega)); have HK2 := Lib.hid (fun (b : Nat) (h1 : wr.heap.size ≤ b) h2 => (hFA b h2 (fun a ha e => by have := (HD0.out.o1.lt ha).2; omega)).1); have KC2 := Lib.hid (kc HBS2.out HBP2.out HBA2.out); clear hOA hBA hFA)
            refine hK.out _ _ ?_ (fun hHeld => ?_)
            · ((try dsimp only); (first | (with_reducible exact KC6.out _ (by (repeat (first | assumption | exact Bel.refl _ | apply Bel.drewN | apply Bel.drew | apply Bel.alloc | refine Bel.trans ?_ (by assumption))))) | (with_reducible exact KC4.out _ (by (repeat (first | assumption | exact Bel.refl _ | apply Bel.drewN | apply Bel.drew | apply Bel.alloc | refine Bel.trans ?_ (by assumption))))) | (with_reducible exact KC2.out _ (by (repeat (first | assumption | exact Bel.refl _ | apply Bel.drewN | apply Bel.drew | apply Bel.alloc | refine Bel.trans ?_ (by assumption))))) | (with_reducible exact KC1.out _ (by (repeat (first | assumption | exact Bel.refl _ | apply Bel.drewN | apply Bel.drew | apply Bel.alloc | refine Bel.trans ?_ (by assumption)))))))
            clear hK K
            try walk_nrm
            refine wpAnyM_take (i := 17) (v := ?_) rfl (by kernel_rfl) (by kernel_rfl) (by kernel_rfl) (by kernel_rfl) (fun _ _ _ h => h) (Or.inl ⟨by rfl, ?_⟩) (by assumption) ?_
            rotate_left
            · (intro w hSw; (try dsimp only at hSw); go_simp <;> with_reducible rfl)
            try walk_nrm
            refine wpAnyM_ready (rs := [9]) (by kernel_rfl) (by simp) ?_
            refine AllReadyM.cons rfl (fun K hK => ?_) AllReadyM.nil
            · go_simp
              refine hK.out _ _ ?_ (fun hHeld => ?_)
              · ((try dsimp only); (first | (with_reducible exact KC6.out _ (by (repeat (first | assumption | exact Bel.refl _ | apply Bel.drewN | apply Bel.drew | apply Bel.alloc | refine Bel.trans ?_ (by assumption))))) | (with_reducible exact KC4.out _ (by (repeat (first | assumption | exact Bel.refl _ | apply Bel.drewN | apply Bel.drew | apply Bel.alloc | refine Bel.trans ?_ (by assumption))))) | (with_reducible exact KC2.out _ (by (repeat (first | assumption | exact Bel.refl _ | apply Bel.drewN | apply Bel.drew | apply Bel.alloc | refine Bel.trans ?_ (by assumption))))) | (with_reducible exact KC1.out _ (by (repeat (first | assumption | exact Bel.refl _ | apply Bel.drewN | apply Bel.drew | apply Bel.alloc | refine Bel.trans ?_ (by assumption)))))))
              clear hK K
              try walk_nrm
              refine wpAnyM_ready (rs := [10]) (by kernel_rfl) (by simp) ?_
              refine AllReadyM.cons rfl (fun K hK => ?_) AllReadyM.nil
              · (refine step_appG (o := ⟨some 28, _, _, _, _, _⟩) (n := 1) intR_good _ (by rfl) _ _ 25 (by rfl) (.int .i64 0) 8 Try.underlying25 (by kernel_rfl) rfl (by decide) (by decide) q2 c2 Y (p.1 - 1) (by rfl) (HD2.out.o2.bel intR_good (by (repeat (first | assumption | exact Bel.refl _ | apply Bel.drewN | apply Bel.drew | apply Bel.alloc | refine Bel.trans ?_ (by assumption))))) _ 1 [.int .i64 (p.1 - 1)] (by rfl) rfl (World.news_of_block (by first | (first | exact alloc_at (by simp) | (with_reducible exact drewK (alloc_at (by simp))) | exact allocK (alloc_at (by simp)) | (with_reducible exact drewK (allocK (alloc_at (by simp))))) | (rw [HK2.out _ (by first | omega | (simp; done) | (simp; omega)) (by first | omega | (simp; done) | (simp; omega))]; (first | exact alloc_at (by simp) | (with_reducible exact drewK (alloc_at (by simp))) | exact allocK (alloc_at (by simp)) | (with_reducible exact drewK (allocK (alloc_at (by simp)))))))) (by intro u hu; simp at hu; subst hu; rfl) (intRep (by unfold I64; omega)) (by omega) (by first | omega | (simp; omega)) ?_; intro qy cy wB hOA hBA hFA; have HD4 := Lib.hid (((HD2.out.bel (by (repeat (first | assumption | exact Bel.refl _ | apply Bel.drewN | apply Bel.drew | apply Bel.alloc | refine Bel.trans ?_ (by assumption)))))).push2 hOA (Below.size hBA) hFA); have HBS4 := Lib.hid ((HBS2.out.bel (by (repeat (first | assumption | exact Bel.refl _ | apply Bel.drewN | apply Bel.drew | apply Bel.alloc | refine Bel.trans ?_ (by assumption))))).belowD hBA (by omega)); have HBR4 := Lib.hid ((HBR2.out.bel (by (repeat (first | assumption | exact Bel.refl _ | apply Bel.drewN | apply Bel.drew | apply Bel.alloc | refine Bel.trans ?_ (by assumption))))).belowD hBA (by omega)); have HBP4 := Lib.hid ((HBP2.out.bel (by (repeat (first | assumption | exact Bel.refl _ | apply Bel.drewN | apply Bel.drew | apply Bel.alloc | refine Bel.trans ?_ (by assumption))))).belowD hBA (by omega)); have HBA4 := Lib.hid ((HBA2.out.bel (by (repeat (first | assumption | exact Bel.refl _ | apply Bel.drewN | apply Bel.drew | apply Bel.alloc | refine Bel.trans ?_ (by assumption))))).farA hFA (fun ⟨a, ha, e⟩ => by have := (HD0.out.o2.lt ha).2; omega)); have HG4 := Lib.hid (show Bel w wB ∧ True from ⟨Below.trans (Bel.trans HG2.out.1 (by (repeat (first | assumption | exact Bel.refl _ | apply Bel.drewN | apply Bel.drew | apply Bel.alloc | refine Bel.trans ?_ (by assumption))))) (Below.mono hBA (by omega)), trivial⟩); have hz4 := (show wA.heap.size ≤ wB.heap.size from (by have := Below.size hBA; (try simp only [World.size_alloc, World.size_drew] at *); omega)); have HK4 := Lib.hid (fun (b : Nat) (h1 : wr.heap.size ≤ b) h2 => (hFA b h2 (fun a ha e => by have := (HD0.out.o2.lt ha).2; omega)).1); have KC4 := Lib.hid (kc HBS4.out HBP4.out HBA4.out); clear hOA hBA hFA)
                refine hK.out _ _ ?_ (fun hHeld => ?_)
                · ((try dsimp only); (first | (with_reducible exact KC6.out _ (by (repeat (first | assumption | exact Bel.refl _ | apply Bel.drewN | apply Bel.drew | apply Bel.alloc | refine Bel.trans ?_ (by assumption))))) | (with_reducible exact KC4.out _ (by (repeat (first | assumption | exact Bel.refl _ | apply Bel.drewN | apply Bel.drew | apply Bel.alloc | refine Bel.trans ?_ (by assumption))))) | (with_reducible exact KC2.out _ (by (repeat (first | assumption | exact Bel.refl _ | apply Bel.drewN | apply Bel.drew | apply Bel.alloc | refine Bel.trans ?_ (by assumption))))) | (with_reducible exact KC1.out _ (by (repeat (first | assumption | exact Bel.refl _ | apply Bel.drewN | apply Bel.drew | apply Bel.alloc | refine Bel.trans ?_ (by assumption)))))))
                clear hK K
                try walk_nrm
                refine wpAnyM_ready (rs := [14]) (by kernel_rfl) (by simp) ?_
                refine AllReadyM.cons rfl (fun K hK => ?_) AllReadyM.nil
                · go_simp
                  (go_at_call 37; (with_reducible refine (iModeIndexes_any _ XA S _ (aggR_mk (actR_good.bel HEL.out (Bel.trans HG4.out.1 (by (repeat (first | assumption | exact Bel.refl _ | apply Bel.drewN | apply Bel.drew | apply Bel.alloc | refine Bel.trans ?_ (by assumption))))) HS.out)) (by omega)).mono ?_); rintro e w5 ⟨vm, rfl, hr, g5⟩; obtain ⟨rp, rk, rfl, -⟩ := sliceR_open hr; have G5 := (show Bel wB w5 from (by (repeat (first | assumption | exact Bel.refl _ | apply Bel.drewN | apply Bel.drew | apply Bel.alloc | refine Bel.trans ?_ (by assumption))))); have HRG := Lib.hid (intsR_good.mono hr (T := New wB w5) (fun b hb => ⟨by have := hb.1; (try simp only [World.size_alloc, World.size_drew] at this); omega, hb.2⟩)); have hzw := G5.size; clear hr g5)
                  try go_wp2_with fail
                  refine hK.out _ _ ?_ (fun hHeld => ?_)
                  · ((try dsimp only); (first | (with_reducible exact KC6.out _ (by (repeat (first | assumption | exact Bel.refl _ | apply Bel.drewN | apply Bel.drew | apply Bel.alloc | refine Bel.trans ?_ (by assumption))))) | (with_reducible exact KC4.out _ (by (repeat (first | assumption | exact Bel.refl _ | apply Bel.drewN | apply Bel.drew | apply Bel.alloc | refine Bel.trans ?_ (by assumption))))) | (with_reducible exact KC2.out _ (by (repeat (first | assumption | exact Bel.refl _ | apply Bel.drewN | apply Bel.drew | apply Bel.alloc | refine Bel.trans ?_ (by assumption))))) | (with_reducible exact KC1.out _ (by (repeat (first | assumption | exact Bel.refl _ | apply Bel.drewN | apply Bel.drew | apply Bel.alloc | refine Bel.trans ?_ (by assumption)))))))
                  clear hK K
                  try walk_nrm
                  refine wpAnyM_ready (rs := [15]) (by kernel_rfl) (by simp) ?_
                  refine AllReadyM.cons rfl (fun K hK => ?_) AllReadyM.nil
                  · go_simp
                    refine hK.out _ _ ?_ (fun hHeld => ?_)
                    · ((try dsimp only); (first | (with_reducible exact KC6.out _ (by (repeat (first | assumption | exact Bel.refl _ | apply Bel.drewN | apply Bel.drew | apply Bel.alloc | refine Bel.trans ?_ (by assumption))))) | (with_reducible exact KC4.out _ (by (repeat (first | assumption | exact Bel.refl _ | apply Bel.drewN | apply Bel.drew | apply Bel.alloc | refine Bel.trans ?_ (by assumption))))) | (with_reducible exact KC2.out _ (by (repeat (first | assumption | exact Bel.refl _ | apply Bel.drewN | apply Bel.drew | apply Bel.alloc | refine Bel.trans ?_ (by assumption))))) | (with_reducible exact KC1.out _ (by (repeat (first | assumption | exact Bel.refl _ | apply Bel.drewN | apply Bel.drew | apply Bel.alloc | refine Bel.trans ?_ (by assumption)))))))
                    clear hK K
                    try walk_nrm
                    refine wpAnyM_ready (rs := [16]) (by kernel_rfl) (by simp) ?_
                    refine AllReadyM.cons rfl (fun K hK => ?_) AllReadyM.nil
                    · (refine step_appG (o := ⟨some 34, _, _, _, _, _⟩) (n := 1) valR_good _ (by rfl) _ _ 63 (by rfl) (.slice none 0 0) 24 Try.underlying63 (by kernel_rfl) rfl (by decide) (by decide) q3 c3 VS (.slice rp (rangeL XA.2.2.length).length rk) (by rfl) (HD4.out.o3.bel valR_good (by (repeat (first | assumption | exact Bel.refl _ | apply Bel.drewN | apply Bel.drew | apply Bel.alloc | refine Bel.trans ?_ (by assumption))))) _ 1 [.slice rp (rangeL XA.2.2.length).length rk] (by rfl) rfl (World.news_of_block (by first | (first | exact alloc_at (by simp) | (with_reducible exact drewK (alloc_at (by simp))) | exact allocK (alloc_at (by simp)) | (with_reducible exact drewK (allocK (alloc_at (by simp))))) | (rw [HK2.out _ (by first | omega | (simp; done) | (simp; omega)) (by first | omega | (simp; done) | (simp; omega))]; (first | exact alloc_at (by simp) | (with_reducible exact drewK (alloc_at (by simp))) | exact allocK (alloc_at (by simp)) | (with_reducible exact drewK (allocK (alloc_at (by simp)))))))) (by intro u hu; simp at hu; subst hu; rfl) rfl (by omega) (by first | omega | (simp; omega)) ?_; intro qv cv wC hOA hBA hFA; have HDm := Lib.hid (HD4.out.bel (w' := (w5.alloc (.cells #[.slice rp (rangeL XA.2.2.length).length rk] 25))) (by (repeat (first | assumption | exact Bel.refl _ | apply Bel.drewN | apply Bel.drew | apply Bel.alloc | refine Bel.trans ?_ (by assumption))))); have hfr := HD4.out.fresh (w' := (w5.alloc (.cells #[.slice rp (rangeL XA.2.2.length).length rk] 25))) (g := New wB w5) (by omega) (fun b hb => ⟨hb.1, Nat.lt_of_lt_of_le hb.2 (Bel.size ((Bel.refl w5).alloc _))⟩); have hrr := intsR_good.bel HRG.out ((Bel.refl w5).alloc (.cells #[.slice rp (rangeL XA.2.2.length).length rk] 25)) (fun b hb => hb.2); have HD6 := Lib.hid ((HDm.out).push3 hfr hrr hOA (Below.size hBA) hFA); have HBS6 := Lib.hid ((HBS4.out.bel (by (repeat (first | assumption | exact Bel.refl _ | apply Bel.drewN | apply Bel.drew | apply Bel.alloc | refine Bel.trans ?_ (by assumption))))).belowD hBA (by omega)); have HBR6 := Lib.hid ((HBR4.out.bel (by (repeat (first | assumption | exact Bel.refl _ | apply Bel.drewN | apply Bel.drew | apply Bel.alloc | refine Bel.trans ?_ (by assumption))))).belowD hBA (by omega)); have HBP6 := Lib.hid ((HBP4.out.bel (by (repeat (first | assumption | exact Bel.refl _ | apply Bel.drewN | apply Bel.drew | apply Bel.alloc | refine Bel.trans ?_ (by assumption))))).belowD hBA (by omega)); have HBA6 := Lib.hid ((HBA4.out.bel (by (repeat (first | assumption | exact Bel.refl _ | apply Bel.drewN | apply Bel.drew | apply Bel.alloc | refine Bel.trans ?_ (by assumption))))).farA hFA (fun ⟨a, ha, e⟩ => by have := (HD0.out.o3.lt ha).2; omega)); have HG6 := Lib.hid (show Bel w wC ∧ True from ⟨Below.trans (Bel.trans HG4.out.1 (by (repeat (first | assumption | exact Bel.refl _ | apply Bel.drewN | apply Bel.drew | apply Bel.alloc | refine Bel.trans ?_ (by assumption))))) (Below.mono hBA (by omega)), trivial⟩); have hz6 := (show wB.heap.size ≤ wC.heap.size from (by have := Below.size hBA; have := G5.size; (try simp only [World.size_alloc, World.size_drew] at *); omega)); have HK6 := Lib.hid (fun (b : Nat) (h1 : wr.heap.size ≤ b) h2 => (hFA b h2 (fun a ha e => by have := (HD0.out.o3.lt ha).2; omega)).1); have KC6 := Lib.hid (kc HBS6.out HBP6.out HBA6.out); clear hOA hBA hFA; clear hfr hrr; have fs0 := HBS6.out.frozen 0; have fs1 := HBS6.out.frozen 1; have fs2 := HBS6.out.frozen 2; obtain ⟨sz0, sz1, sz2, -⟩ := KC6.out wC (Bel.refl _))
                      refine hK.out _ _ ?_ (fun hHeld => ?_)
                      · ((try dsimp only); (first | (with_reducible exact KC6.out _ (by (repeat (first | assumption | exact Bel.refl _ | apply Bel.drewN | apply Bel.drew | apply Bel.alloc | refine Bel.trans ?_ (by assumption))))) | (with_reducible exact KC4.out _ (by (repeat (first | assumption | exact Bel.refl _ | apply Bel.drewN | apply Bel.drew | apply Bel.alloc | refine Bel.trans ?_ (by assumption))))) | (with_reducible exact KC2.out _ (by (repeat (first | assumption | exact Bel.refl _ | apply Bel.drewN | apply Bel.drew | apply Bel.alloc | refine Bel.trans ?_ (by assumption))))) | (with_reducible exact KC1.out _ (by (repeat (first | assumption | exact Bel.refl _ | apply Bel.drewN | apply Bel.drew | apply Bel.alloc | refine Bel.trans ?_ (by assumption)))))))
                      clear hK K
                      try walk_nrm
                      refine wpAnyM_ready (rs := [18]) (by kernel_rfl) (by simp) ?_
                      refine AllReadyM.free rfl (by kernel_rfl) (fun K hK => ?_) AllReadyM.nil
                      · go_simp
                        refine hK.out _ _ ?_
                        clear hK K
                        try walk_nrm
                        refine wpAnyM_ready (rs := [19]) (by kernel_rfl) (by simp) ?_
                        refine AllReadyM.free rfl (by kernel_rfl) (fun K hK => ?_) AllReadyM.nil
                        · go_simp
                          refine hK.out _ _ ?_
                          clear hK K
                          try walk_nrm
                          refine wpAnyM_ready (rs := [20]) (by kernel_rfl) (by simp) ?_
                          refine AllReadyM.free rfl (by kernel_rfl) (fun K hK => ?_) AllReadyM.nil
                          · go_simp
                            refine hK.out _ _ ?_
                            clear hK K
                            try walk_nrm
                            refine wpAnyM_ready (rs := [21]) (by kernel_rfl) (by simp) ?_
                            refine AllReadyM.free rfl (by kernel_rfl) (fun K hK => ?_) AllReadyM.nil
                            · go_simp
                              refine hK.out _ _ ?_
                              clear hK K
                              try walk_nrm
                              refine wpAnyM_ready (rs := [22]) (by kernel_rfl) (by simp) ?_
                              refine AllReadyM.free rfl (by kernel_rfl) (fun K hK => ?_) AllReadyM.nil
                              · go_simp
                                refine hK.out _ _ ?_
                                clear hK K
                                try walk_nrm
                                refine wpAnyM_done (by kernel_rfl) ?_ _
                                go_wp2_with fail
                                go_roundw
                                case rel => exact ⟨k + 1, _, _, _, _, _, _, _, _, _, _, _, by omega, by go_num, by rw [initX_succ, ← HX.out], by rw [initY_succ, ← HY.out], by rw [HRS.out, ← HR.out], by rw [List.length_append, List.length_append, List.length_append]; exact (((HBS6.out.set 0 (.slice qx (X.length + 1) cx)).set 1 (.slice qy (Y.length + 1) cy)).set 2 (.slice qv (VS.length + 1) cv)), (((HBR6.out.setAt (q := w.heap.size + 1 + 1) (by omega) 0 (.slice qx (X.length + 1) cx)).setAt (q := w.heap.size + 1 + 1) (by omega) 1 (.slice qy (Y.length + 1) cy)).setAt (q := w.heap.size + 1 + 1) (by omega) 2 (.slice qv (VS.length + 1) cv)), (((HBP6.out.setAt (q := w.heap.size + 1 + 1) (by omega) 0 (.slice qx (X.length + 1) cx)).setAt (q := w.heap.size + 1 + 1) (by omega) 1 (.slice qy (Y.length + 1) cy)).setAt (q := w.heap.size + 1 + 1) (by omega) 2 (.slice qv (VS.length + 1) cv)), HD6.out.hi ((((Hi.refl (w.heap.size + 1 + 1 + 1) wC).set (q := w.heap.size + 1 + 1) (j := 0) (.slice qx (X.length + 1) cx) (.inl (by omega))).set (q := w.heap.size + 1 + 1) (j := 1) (.slice qy (Y.length + 1) cy) (.inl (by omega))).set (q := w.heap.size + 1 + 1) (j := 2) (.slice qv (VS.length + 1) cv) (.inl (by omega))), (((HG6.out.1.set (p := ⟨w.heap.size + 1 + 1, 0, none⟩) (show w.heap.size ≤ w.heap.size + 1 + 1 from by omega) (.slice qx (X.length + 1) cx)).set (p := ⟨w.heap.size + 1 + 1, 1, none⟩) (show w.heap.size ≤ w.heap.size + 1 + 1 from by omega) (.slice qy (Y.length + 1) cy)).set (p := ⟨w.heap.size + 1 + 1, 2, none⟩) (show w.heap.size ≤ w.heap.size + 1 + 1 from by omega) (.slice qv (VS.length + 1) cv))⟩
                                case measure => (simp [intOf] <;> omega)
          refine AllReadyM.cons rfl (fun K hK => ?_) AllReadyM.nil
          · go_simp
            refine hK.out _ _ ?_ (fun hHeld => ?_)
            · ((try dsimp only); (first | (with_reducible exact KC6.out _ (by (repeat (first | assumption | exact Bel.refl _ | apply Bel.drewN | apply Bel.drew | apply Bel.alloc | refine Bel.trans ?_ (by assumption))))) | (with_reducible exact KC4.out _ (by (repeat (first | assumption | exact Bel.refl _ | apply Bel.drewN | apply Bel.drew | apply Bel.alloc | refine Bel.trans ?_ (by assumption))))) | (with_reducible exact KC2.out _ (by (repeat (first | assumption | exact Bel.refl _ | apply Bel.drewN | apply Bel.drew | apply Bel.alloc | refine Bel.trans ?_ (by assumption))))) | (with_reducible exact KC1.out _ (by (repeat (first | assumption | exact Bel.refl _ | apply Bel.drewN | apply Bel.drew | apply Bel.alloc | refine Bel.trans ?_ (by assumption)))))))
            clear hK K
            try walk_nrm
            refine wpAnyM_ready (rs := [3]) (by kernel_rfl) (by simp) ?_
            refine AllReadyM.cons rfl (fun K hK => ?_) AllReadyM.nil
            · (refine step_appG (o := ⟨some 21, _, _, _, _, _⟩) (n := 1) intR_good _ (by rfl) _ _ 25 (by rfl) (.int .i64 0) 8 Try.underlying25 (by kernel_rfl) rfl (by decide) (by decide) q1 c1 X (0) (by rfl) (HD1.out.o1.bel intR_good (by (repeat (first | assumption | exact Bel.refl _ | apply Bel.drewN | apply Bel.drew | apply Bel.alloc | refine Bel.trans ?_ (by assumption))))) _ 1 [.int .i64 0] (by rfl) rfl (World.news_of_block (by first | (first | exact alloc_at (by simp) | (with_reducible exact drewK (alloc_at (by simp))) | exact allocK (alloc_at (by simp)) | (with_reducible exact drewK (allocK (alloc_at (by simp))))) | (rw [HK2.out _ (by first | omega | (simp; done) | (simp; omega)) (by first | omega | (simp; done) | (simp; omega))]; (first | exact alloc_at (by simp) | (with_reducible exact drewK (alloc_at (by simp))) | exact allocK (alloc_at (by simp)) | (with_reducible exact drewK (allocK (alloc_at (by simp)))))))) (by intro u hu; simp at hu; subst hu; rfl) (intRep (by unfold I64; decide)) (by omega) (by first | omega | (simp; omega)) ?_; intro qx cx wA hOA hBA hFA; have HD2 := Lib.hid (((HD1.out.bel (by (repeat (first | assumption | exact Bel.refl _ | apply Bel.drewN | apply Bel.drew | apply Bel.alloc | refine Bel.trans ?_ (by assumption)))))).push1 hOA (Below.size hBA) hFA); have HBS2 := Lib.hid ((HBS1.out.bel (by (repeat (first | assumption | exact Bel.refl _ | apply Bel.drewN | apply Bel.drew | apply Bel.alloc | refine Bel.trans ?_ (by assumption))))).belowD hBA (by omega)); have HBR2 := Lib.hid ((HBR1.out.bel (by (repeat (first | assumption | exact Bel.refl _ | apply Bel.drewN | apply Bel.drew | apply Bel.alloc | refine Bel.trans ?_ (by assumption))))).belowD hBA (by omega)); have HBP2 := Lib.hid ((HBP1.out.bel (by (repeat (first | assumption | exact Bel.refl _ | apply Bel.drewN | apply Bel.drew | apply Bel.alloc | refine Bel.trans ?_ (by assumption))))).belowD hBA (by omega)); have HBA2 := Lib.hid ((HBA1.out.bel (by (repeat (first | assumption | exact Bel.refl _ | apply Bel.drewN | apply Bel.drew | apply Bel.alloc | refine Bel.trans ?_ (by assumption))))).farA hFA (fun ⟨a, ha, e⟩ => by have := (HD0.out.o1.lt ha).2; omega)); have HG2 := Lib.hid (show Bel w wA ∧ True from ⟨Below.trans (Bel.trans HG1.out.1 (by (repeat (first | assumption | exact Bel.refl _ | apply Bel.drewN | apply Bel.drew | apply Bel.alloc | refine Bel.trans ?_ (by assumption))))) (Below.mono hBA (by omega)), trivial⟩); have hz2 := (show W1.heap.size ≤ wA.heap.size from (by have := Below.size hBA; (try simp only [World.size_alloc, World.size_drew] at *); omega)); have HK2 := Lib.hid (fun (b : Nat) (h1 : wr.heap.size ≤ b) h2 => (hFA b h2 (fun a ha e => by have := (HD0.out.o1.lt ha).2; omega)).1); have KC2 := Lib.hid (kc HBS2.out HBP2.out HBA2.out); clear hOA hBA hFA)
              refine hK.out _ _ ?_ (fun hHeld => ?_)
              · ((try dsimp only); (first | (with_reducible exact KC6.out _ (by (repeat (first | assumption | exact Bel.refl _ | apply Bel.drewN | apply Bel.drew | apply Bel.alloc | refine Bel.trans ?_ (by assumption))))) | (with_reducible exact KC4.out _ (by (repeat (first | assumption | exact Bel.refl _ | apply Bel.drewN | apply Bel.drew | apply Bel.alloc | refine Bel.trans ?_ (by assumption))))) | (with_reducible exact KC2.out _ (by (repeat (first | assumption | exact Bel.refl _ | apply Bel.drewN | apply Bel.drew | apply Bel.alloc | refine Bel.trans ?_ (by assumption))))) | (with_reducible exact KC1.out _ (by (repeat (first | assumption | exact Bel.refl _ | apply Bel.drewN | apply Bel.drew | apply Bel.alloc | refine Bel.trans ?_ (by assumption)))))))
              clear hK K
              try walk_nrm
              refine wpAnyM_take (i := 17) (v := ?_) rfl (by kernel_rfl) (by kernel_rfl) (by kernel_rfl) (by kernel_rfl) (fun _ _ _ h => h) (Or.inl ⟨by rfl, ?_⟩) (by assumption) ?_
              rotate_left
              · (intro w hSw; (try dsimp only at hSw); go_simp <;> with_reducible rfl)
              try walk_nrm
              refine wpAnyM_ready (rs := [10]) (by kernel_rfl) (by simp) ?_
              refine AllReadyM.cons rfl (fun K hK => ?_) AllReadyM.nil
              · (refine step_appG (o := ⟨some 28, _, _, _, _, _⟩) (n := 1) intR_good _ (by rfl) _ _ 25 (by rfl) (.int .i64 0) 8 Try.underlying25 (by kernel_rfl) rfl (by decide) (by decide) q2 c2 Y (p.1 - 1) (by rfl) (HD2.out.o2.bel intR_good (by (repeat (first | assumption | exact Bel.refl _ | apply Bel.drewN | apply Bel.drew | apply Bel.alloc | refine Bel.trans ?_ (by assumption))))) _ 1 [.int .i64 (p.1 - 1)] (by rfl) rfl (World.news_of_block (by first | (first | exact alloc_at (by simp) | (with_reducible exact drewK (alloc_at (by simp))) | exact allocK (alloc_at (by simp)) | (with_reducible exact drewK (allocK (alloc_at (by simp))))) | (rw [HK2.out _ (by first | omega | (simp; done) | (simp; omega)) (by first | omega | (simp; done) | (simp; omega))]; (first | exact alloc_at (by simp) | (with_reducible exact drewK (alloc_at (by simp))) | exact allocK (alloc_at (by simp)) | (with_reducible exact drewK (allocK (alloc_at (by simp)))))))) (by intro u hu; simp at hu; subst hu; rfl) (intRep (by unfold I64; omega)) (by omega) (by first | omega | (simp; omega)) ?_; intro qy cy wB hOA hBA hFA; have HD4 := Lib.hid (((HD2.out.bel (by (repeat (first | assumption | exact Bel.refl _ | apply Bel.drewN | apply Bel.drew | apply Bel.alloc | refine Bel.trans ?_ (by assumption)))))).push2 hOA (Below.size hBA) hFA); have HBS4 := Lib.hid ((HBS2.out.bel (by (repeat (first | assumption | exact Bel.refl _ | apply Bel.drewN | apply Bel.drew | apply Bel.alloc | refine Bel.trans ?_ (by assumption))))).belowD hBA (by omega)); have HBR4 := Lib.hid ((HBR2.out.bel (by (repeat (first | assumption | exact Bel.refl _ | apply Bel.drewN | apply Bel.drew | apply Bel.alloc | refine Bel.trans ?_ (by assumption))))).belowD hBA (by omega)); have HBP4 := Lib.hid ((HBP2.out.bel (by (repeat (first | assumption | exact Bel.refl _ | apply Bel.drewN | apply Bel.drew | apply Bel.alloc | refine Bel.trans ?_ (by assumption))))).belowD hBA (by omega)); have HBA4 := Lib.hid ((HBA2.out.bel (by (repeat (first | assumption | exact Bel.refl _ | apply Bel.drewN | apply Bel.drew | apply Bel.alloc | refine Bel.trans ?_ (by assumption))))).farA hFA (fun ⟨a, ha, e⟩ => by have := (HD0.out.o2.lt ha).2; omega)); have HG4 := Lib.hid (show Bel w wB ∧ True from ⟨Below.trans (Bel.trans HG2.out.1 (by (repeat (first | assumption | exact Bel.refl _ | apply Bel.drewN | apply Bel.drew | apply Bel.alloc | refine Bel.trans ?_ (by assumption))))) (Below.mono hBA (by omega)), trivial⟩); have hz4 := (show wA.heap.size ≤ wB.heap.size from (by have := Below.size hBA; (try simp only [World.size_alloc, World.size_drew] at *); omega)); have HK4 := Lib.hid (fun (b : Nat) (h1 : wr.heap.size ≤ b) h2 => (hFA b h2 (fun a ha e => by have := (HD0.out.o2.lt ha).2; omega)).1); have KC4 := Lib.hid (kc HBS4.out HBP4.out HBA4.out); clear hOA hBA hFA)
                refine hK.out _ _ ?_ (fun hHeld => ?_)
                · ((try dsimp only); (first | (with_reducible exact KC6.out _ (by (repeat (first | assumption | exact Bel.refl _ | apply Bel.drewN | apply Bel.drew | apply Bel.alloc | refine Bel.trans ?_ (by assumption))))) | (with_reducible exact KC4.out _ (by (repeat (first | assumption | exact Bel.refl _ | apply Bel.drewN | apply Bel.drew | apply Bel.alloc | refine Bel.trans ?_ (by assumption))))) | (with_reducible exact KC2.out _ (by (repeat (first | assumption | exact Bel.refl _ | apply Bel.drewN | apply Bel.drew | apply Bel.alloc | refine Bel.trans ?_ (by assumption))))) | (with_reducible exact KC1.out _ (by (repeat (first | assumption | exact Bel.refl _ | apply Bel.drewN | apply Bel.drew | apply Bel.alloc | refine Bel.trans ?_ (by assumption)))))))
                clear hK K
                try walk_nrm
                refine wpAnyM_ready (rs := [14]) (by kernel_rfl) (by simp) ?_
                refine AllReadyM.cons rfl (fun K hK => ?_) AllReadyM.nil
                · go_simp
                  (go_at_call 37; (with_reducible refine (iModeIndexes_any _ XA S _ (aggR_mk (actR_good.bel HEL.out (Bel.trans HG4.out.1 (by (repeat (first | assumption | exact Bel.refl _ | apply Bel.drewN | apply Bel.drew | apply Bel.alloc | refine Bel.trans ?_ (by assumption))))) HS.out)) (by omega)).mono ?_); rintro e w5 ⟨vm, rfl, hr, g5⟩; obtain ⟨rp, rk, rfl, -⟩ := sliceR_open hr; have G5 := (show Bel wB w5 from (by (repeat (first | assumption | exact Bel.refl _ | apply Bel.drewN | apply Bel.drew | apply Bel.alloc | refine Bel.trans ?_ (by assumption))))); have HRG := Lib.hid (intsR_good.mono hr (T := New wB w5) (fun b hb => ⟨by have := hb.1; (try simp only [World.size_alloc, World.size_drew] at this); omega, hb.2⟩)); have hzw := G5.size; clear hr g5)
                  try go_wp2_with fail
                  refine hK.out _ _ ?_ (fun hHeld => ?_)
                  · ((try dsimp only); (first | (with_reducible exact KC6.out _ (by (repeat (first | assumption | exact Bel.refl _ | apply Bel.drewN | apply Bel.drew | apply Bel.alloc | refine Bel.trans ?_ (by assumption))))) | (with_reducible exact KC4.out _ (by (repeat (first | assumption | exact Bel.refl _ | apply Bel.drewN | apply Bel.drew | apply Bel.alloc | refine Bel.trans ?_ (by assumption))))) | (with_reducible exact KC2.out _ (by (repeat (first | assumption | exact Bel.refl _ | apply Bel.drewN | apply Bel.drew | apply Bel.alloc | refine Bel.trans ?_ (by assumption))))) | (with_reducible exact KC1.out _ (by (repeat (first | assumption | exact Bel.refl _ | apply Bel.drewN | apply Bel.drew | apply Bel.alloc | refine Bel.trans ?_ (by assumption)))))))
                  clear hK K
                  try walk_nrm
                  refine wpAnyM_ready (rs := [15]) (by kernel_rfl) (by simp) ?_
                  refine AllReadyM.cons rfl (fun K hK => ?_) AllReadyM.nil
                  · go_simp
                    refine hK.out _ _ ?_ (fun hHeld => ?_)
                    · ((try dsimp only); (first | (with_reducible exact KC6.out _ (by (repeat (first | assumption | exact Bel.refl _ | apply Bel.drewN | apply Bel.drew | apply Bel.alloc | refine Bel.trans ?_ (by assumption))))) | (with_reducible exact KC4.out _ (by (repeat (first | assumption | exact Bel.refl _ | apply Bel.drewN | apply Bel.drew | apply Bel.alloc | refine Bel.trans ?_ (by assumption))))) | (with_reducible exact KC2.out _ (by (repeat (first | assumption | exact Bel.refl _ | apply Bel.drewN | apply Bel.drew | apply Bel.alloc | refine Bel.trans ?_ (by assumption))))) | (with_reducible exact KC1.out _ (by (repeat (first | assumption | exact Bel.refl _ | apply Bel.drewN | apply Bel.drew | apply Bel.alloc | refine Bel.trans ?_ (by assumption)))))))
                    clear hK K
                    try walk_nrm
                    refine wpAnyM_ready (rs := [16]) (by kernel_rfl) (by simp) ?_
                    refine AllReadyM.cons rfl (fun K hK => ?_) AllReadyM.nil
                    · (refine step_appG (o := ⟨some 34, _, _, _, _, _⟩) (n := 1) valR_good _ (by rfl) _ _ 63 (by rfl) (.slice none 0 0) 24 Try.underlying63 (by kernel_rfl) rfl (by decide) (by decide) q3 c3 VS (.slice rp (rangeL XA.2.2.length).length rk) (by rfl) (HD4.out.o3.bel valR_good (by (repeat (first | assumption | exact Bel.refl _ | apply Bel.drewN | apply Bel.drew | apply Bel.alloc | refine Bel.trans ?_ (by assumption))))) _ 1 [.slice rp (rangeL XA.2.2.length).length rk] (by rfl) rfl (World.news_of_block (by first | (first | exact alloc_at (by simp) | (with_reducible exact drewK (alloc_at (by simp))) | exact allocK (alloc_at (by simp)) | (with_reducible exact drewK (allocK (alloc_at (by simp))))) | (rw [HK2.out _ (by first | omega | (simp; done) | (simp; omega)) (by first | omega | (simp; done) | (simp; omega))]; (first | exact alloc_at (by simp) | (with_reducible exact drewK (alloc_at (by simp))) | exact allocK (alloc_at (by simp)) | (with_reducible exact drewK (allocK (alloc_at (by simp)))))))) (by intro u hu; simp at hu; subst hu; rfl) rfl (by omega) (by first | omega | (simp; omega)) ?_; intro qv cv wC hOA hBA hFA; have HDm := Lib.hid (HD4.out.bel (w' := (w5.alloc (.cells #[.slice rp (rangeL XA.2.2.length).length rk] 25))) (by (repeat (first | assumption | exact Bel.refl _ | apply Bel.drewN | apply Bel.drew | apply Bel.alloc | refine Bel.trans ?_ (by assumption))))); have hfr := HD4.out.fresh (w' := (w5.alloc (.cells #[.slice rp (rangeL XA.2.2.length).length rk] 25))) (g := New wB w5) (by omega) (fun b hb => ⟨hb.1, Nat.lt_of_lt_of_le hb.2 (Bel.size ((Bel.refl w5).alloc _))⟩); have hrr := intsR_good.bel HRG.out ((Bel.refl w5).alloc (.cells #[.slice rp (rangeL XA.2.2.length).length rk] 25)) (fun b hb => hb.2); have HD6 := Lib.hid ((HDm.out).push3 hfr hrr hOA (Below.size hBA) hFA); have HBS6 := Lib.hid ((HBS4.out.bel (by (repeat (first | assumption | exact Bel.refl _ | apply Bel.drewN | apply Bel.drew | apply Bel.alloc | refine Bel.trans ?_ (by assumption))))).belowD hBA (by omega)); have HBR6 := Lib.hid ((HBR4.out.bel (by (repeat (first | assumption | exact Bel.refl _ | apply Bel.drewN | apply Bel.drew | apply Bel.alloc | refine Bel.trans ?_ (by assumption))))).belowD hBA (by omega)); have HBP6 := Lib.hid ((HBP4.out.bel (by (repeat (first | assumption | exact Bel.refl _ | apply Bel.drewN | apply Bel.drew | apply Bel.alloc | refine Bel.trans ?_ (by assumption))))).belowD hBA (by omega)); have HBA6 := Lib.hid ((HBA4.out.bel (by (repeat (first | assumption | exact Bel.refl _ | apply Bel.drewN | apply Bel.drew | apply Bel.alloc | refine Bel.trans ?_ (by assumption))))).farA hFA (fun ⟨a, ha, e⟩ => by have := (HD0.out.o3.lt ha).2; omega)); have HG6 := Lib.hid (show Bel w wC ∧ True from ⟨Below.trans (Bel.trans HG4.out.1 (by (repeat (first | assumption | exact Bel.refl _ | apply Bel.drewN | apply Bel.drew | apply Bel.alloc | refine Bel.trans ?_ (by assumption))))) (Below.mono hBA (by omega)), trivial⟩); have hz6 := (show wB.heap.size ≤ wC.heap.size from (by have := Below.size hBA; have := G5.size; (try simp only [World.size_alloc, World.size_drew] at *); omega)); have HK6 := Lib.hid (fun (b : Nat) (h1 : wr.heap.size ≤ b) h2 => (hFA b h2 (fun a ha e => by have := (HD0.out.o3.lt ha).2; omega)).1); have KC6 := Lib.hid (kc HBS6.out HBP6.out HBA6.out); clear hOA hBA hFA; clear hfr hrr; have fs0 := HBS6.out.frozen 0; have fs1 := HBS6.out.frozen 1; have fs2 := HBS6.out.frozen 2; obtain ⟨sz0, sz1, sz2, -⟩ := KC6.out wC (Bel.refl _))
                      refine hK.out _ _ ?_ (fun hHeld => ?_)
                      · ((try dsimp only); (first | (with_reducible exact KC6.out _ (by (repeat (first | assumption | exact Bel.refl _ | apply Bel.drewN | apply Bel.drew | apply Bel.alloc | refine Bel.trans ?_ (by assumption))))) | (with_reducible exact KC4.out _ (by (repeat (first | assumption | exact Bel.refl _ | apply Bel.drewN | apply Bel.drew | apply Bel.alloc | refine Bel.trans ?_ (by assumption))))) | (with_reducible exact KC2.out _ (by (repeat (first | assumption | exact Bel.refl _ | apply Bel.drewN | apply Bel.drew | apply Bel.alloc | refine Bel.trans ?_ (by assumption))))) | (with_reducible exact KC1.out _ (by (repeat (first | assumption | exact Bel.refl _ | apply Bel.drewN | apply Bel.drew | apply Bel.alloc | refine Bel.trans ?_ (by assumption)))))))
                      clear hK K
                      try walk_nrm
                      refine wpAnyM_ready (rs := [18]) (by kernel_rfl) (by simp) ?_
                      refine AllReadyM.free rfl (by kernel_rfl) (fun K hK => ?_) AllReadyM.nil
                      · go_simp
                        refine hK.out _ _ ?_
                        clear hK K
                        try walk_nrm
                        refine wpAnyM_ready (rs := [19]) (by kernel_rfl) (by simp) ?_
                        refine AllReadyM.free rfl (by kernel_rfl) (fun K hK => ?_) AllReadyM.nil
                        · go_simp
                          refine hK.out _ _ ?_
                          clear hK K
                          try walk_nrm
                          refine wpAnyM_ready (rs := [20]) (by kernel_rfl) (by simp) ?_
                          refine AllReadyM.free rfl (by kernel_rfl) (fun K hK => ?_) AllReadyM.nil
                          · go_simp
                            refine hK.out _ _ ?_
                            clear hK K
                            try walk_nrm
                            refine wpAnyM_ready (rs := [21]) (by kernel_rfl) (by simp) ?_
                            refine AllReadyM.free rfl (by kernel_rfl) (fun K hK => ?_) AllReadyM.nil
                            · go_simp
                              refine hK.out _ _ ?_
                              clear hK K
                              try walk_nrm
                              refine wpAnyM_ready (rs := [22]) (by kernel_rfl) (by simp) ?_
                              refine AllReadyM.free rfl (by kernel_rfl) (fun K hK => ?_) AllReadyM.nil
                              · go_simp
                                refine hK.out _ _ ?_
                                clear hK K
                                try walk_nrm
                                refine wpAnyM_done (by kernel_rfl) ?_ _
                                go_wp2_with fail
                                go_roundw
                                case rel => exact ⟨k + 1, _, _, _, _, _, _, _, _, _, _, _, by omega, by go_num, by rw [initX_succ, ← HX.out], by rw [initY_succ, ← HY.out], by rw [HRS.out, ← HR.out], by rw [List.length_append, List.length_append, List.length_append]; exact (((HBS6.out.set 0 (.slice qx (X.length + 1) cx)).set 1 (.slice qy (Y.length + 1) cy)).set 2 (.slice qv (VS.length + 1) cv)), (((HBR6.out.setAt (q := w.heap.size + 1 + 1) (by omega) 0 (.slice qx (X.length + 1) cx)).setAt (q := w.heap.size + 1 + 1) (by omega) 1 (.slice qy (Y.length + 1) cy)).setAt (q := w.heap.size + 1 + 1) (by omega) 2 (.slice qv (VS.length + 1) cv)), (((HBP6.out.setAt (q := w.heap.size + 1 + 1) (by omega) 0 (.slice qx (X.length + 1) cx)).setAt (q := w.heap.size + 1 + 1) (by omega) 1 (.slice qy (Y.length + 1) cy)).setAt (q := w.heap.size + 1 + 1) (by omega) 2 (.slice qv (VS.length + 1) cv)), HD6.out.hi ((((Hi.refl (w.heap.size + 1 + 1 + 1) wC).set (q := w.heap.size + 1 + 1) (j := 0) (.slice qx (X.length + 1) cx) (.inl (by omega))).set (q := w.heap.size + 1 + 1) (j := 1) (.slice qy (Y.length + 1) cy) (.inl (by omega))).set (q := w.heap.size + 1 + 1) (j := 2) (.slice qv (VS.length + 1) cv) (.inl (by omega))), (((HG6.out.1.set (p := ⟨w.heap.size + 1 + 1, 0, none⟩) (show w.heap.size ≤ w.heap.size + 1 + 1 from by omega) (.slice qx (X.length + 1) cx)).set (p := ⟨w.heap.size + 1 + 1, 1, none⟩) (show w.heap.size ≤ w.heap.size + 1 + 1 from by omega) (.slice qy (Y.length + 1) cy)).set (p := ⟨w.heap.size + 1 + 1, 2, none⟩) (show w.heap.size ≤ w.heap.size + 1 + 1 from by omega) (.slice qv (VS.length + 1) cv))⟩
                                case measure => (simp [intOf] <;> omega)
        refine AllReadyM.cons rfl (fun K hK => ?_) AllReadyM.nil
        · go_simp
          refine hK.out _ _ ?_ (fun hHeld => ?_)
          · ((try dsimp only); (first | (with_reducible exact KC6.out _ (by (repeat (first | assumption | exact Bel.refl _ | apply Bel.drewN | apply Bel.drew | apply Bel.alloc | refine Bel.trans ?_ (by assumption))))) | (with_reducible exact KC4.out _ (by (repeat (first | assumption | exact Bel.refl _ | apply Bel.drewN | apply Bel.drew | apply Bel.alloc | refine Bel.trans ?_ (by assumption))))) | (with_reducible exact KC2.out _ (by (repeat (first | assumption | exact Bel.refl _ | apply Bel.drewN | apply Bel.drew | apply Bel.alloc | refine Bel.trans ?_ (by assumption))))) | (with_reducible exact KC1.out _ (by (repeat (first | assumption | exact Bel.refl _ | apply Bel.drewN | apply Bel.drew | apply Bel.alloc | refine Bel.trans ?_ (by assumption)))))))
          clear hK K
          try walk_nrm
          refine wpAnyM_ready (rs := [2]) (by kernel_rfl) (by simp) ?_
          refine AllReadyM.cons rfl (fun K hK => ?_) AllReadyM.nil
          · go_simp
            refine hK.out _ _ ?_ (fun hHeld => ?_)
            · ((try dsimp only); (first | (with_reducible exact KC6.out _ (by (repeat (first | assumption | exact Bel.refl _ | apply Bel.drewN | apply Bel.drew | apply Bel.alloc | refine Bel.trans ?_ (by assumption))))) | (with_reducible exact KC4.out _ (by (repeat (first | assumption | exact Bel.refl _ | apply Bel.drewN | apply Bel.drew | apply Bel.alloc | refine Bel.trans ?_ (by assumption))))) | (with_reducible exact KC2.out _ (by (repeat (first | assumption | exact Bel.refl _ | apply Bel.drewN | apply Bel.drew | apply Bel.alloc | refine Bel.trans ?_ (by assumption))))) | (with_reducible exact KC1.out _ (by (repeat (first | assumption | exact Bel.refl _ | apply Bel.drewN | apply Bel.drew | apply Bel.alloc | refine Bel.trans ?_ (by assumption)))))))
            clear hK K
            try walk_nrm
            refine wpAnyM_ready (rs := [3]) (by kernel_rfl) (by simp) ?_
            refine AllReadyM.cons rfl (fun K hK => ?_) AllReadyM.nil
            · (refine step_appG (o := ⟨some 21, _, _, _, _, _⟩) (n := 1) intR_good _ (by rfl) _ _ 25 (by rfl) (.int .i64 0) 8 Try.underlying25 (by kernel_rfl) rfl (by decide) (by decide) q1 c1 X (0) (by rfl) (HD1.out.o1.bel intR_good (by (repeat (first | assumption | exact Bel.refl _ | apply Bel.drewN | apply Bel.drew | apply Bel.alloc | refine Bel.trans ?_ (by assumption))))) _ 1 [.int .i64 0] (by rfl) rfl (World.news_of_block (by first | (first | exact alloc_at (by simp) | (with_reducible exact drewK (alloc_at (by simp))) | exact allocK (alloc_at (by simp)) | (with_reducible exact drewK (allocK (alloc_at (by simp))))) | (rw [HK2.out _ (by first | omega | (simp; done) | (simp; omega)) (by first | omega | (simp; done) | (simp; omega))]; (first | exact alloc_at (by simp) | (with_reducible exact drewK (alloc_at (by simp))) | exact allocK (alloc_at (by simp)) | (with_reducible exact drewK (allocK (alloc_at (by simp)))))))) (by intro u hu; simp at hu; subst hu; rfl) (intRep (by unfold I64; decide)) (by omega) (by first | omega | (simp; omega)) ?_; intro qx cx wA hOA hBA hFA; have HD2 := Lib.hid (((HD1.out.bel (by (repeat (first | assumption | exact Bel.refl _ | apply Bel.drewN | apply Bel.drew | apply Bel.alloc | refine Bel.trans ?_ (by assumption)))))).push1 hOA (Below.size hBA) hFA); have HBS2 := Lib.hid ((HBS1.out.bel (by (repeat (first | assumption | exact Bel.refl _ | apply Bel.drewN | apply Bel.drew | apply Bel.alloc | refine Bel.trans ?_ (by assumption))))).belowD hBA (by omega)); have HBR2 := Lib.hid ((HBR1.out.bel (by (repeat (first | assumption | exact Bel.refl _ | apply Bel.drewN | apply Bel.drew | apply Bel.alloc | refine Bel.trans ?_ (by assumption))))).belowD hBA (by omega)); have HBP2 := Lib.hid ((HBP1.out.bel (by (repeat (first | assumption | exact Bel.refl _ | apply Bel.drewN | apply Bel.drew | apply Bel.alloc | refine Bel.trans ?_ (by assumption))))).belowD hBA (by omega)); have HBA2 := Lib.hid ((HBA1.out.bel (by (repeat (first | assumption | exact Bel.refl _ | apply Bel.drewN | apply Bel.drew | apply Bel.alloc | refine Bel.trans ?_ (by assumption))))).farA hFA (fun ⟨a, ha, e⟩ => by have := (HD0.out.o1.lt ha).2; omega)); have HG2 := Lib.hid (show Bel w wA ∧ True from ⟨Below.trans (Bel.trans HG1.out.1 (by (repeat (first | assumption | exact Bel.refl _ | apply Bel.drewN | apply Bel.drew | apply Bel.alloc | refine Bel.trans ?_ (by assumption))))) (Below.mono hBA (by omega)), trivial⟩); have hz2 := (show W1.heap.size ≤ wA.heap.size from (by have := Below.size hBA; (try simp only [World.size_alloc, World.size_drew] at *); omega)); have HK2 := Lib.hid (fun (b : Nat) (h1 : wr.heap.size ≤ b) h2 => (hFA b h2 (fun a ha e => by have := (HD0.out.o1.lt ha).2; omega)).1); have KC2 := Lib.hid (kc HBS2.out HBP2.out HBA2.out); clear hOA hBA hFA)
              refine hK.out _ _ ?_ (fun hHeld => ?_)
              · ((try dsimp only); (first | (with_reducible exact KC6.out _ (by (repeat (first | assumption | exact Bel.refl _ | apply Bel.drewN | apply Bel.drew | apply Bel.alloc | refine Bel.trans ?_ (by assumption))))) | (with_reducible exact KC4.out _ (by (repeat (first | assumption | exact Bel.refl _ | apply Bel.drewN | apply Bel.drew | apply Bel.alloc | refine Bel.trans ?_ (by assumption))))) | (with_reducible exact KC2.out _ (by (repeat (first | assumption | exact Bel.refl _ | apply Bel.drewN | apply Bel.drew | apply Bel.alloc | refine Bel.trans ?_ (by assumption))))) | (with_reducible exact KC1.out _ (by (repeat (first | assumption | exact Bel.refl _ | apply Bel.drewN | apply Bel.drew | apply Bel.alloc | refine Bel.trans ?_ (by assumption)))))))
              clear hK K
              try walk_nrm
              refine wpAnyM_take (i := 17) (v := ?_) rfl (by kernel_rfl) (by kernel_rfl) (by kernel_rfl) (by kernel_rfl) (fun _ _ _ h => h) (Or.inl ⟨by rfl, ?_⟩) (by assumption) ?_
              rotate_left
              · (intro w hSw; (try dsimp only at hSw); go_simp <;> with_reducible rfl)
              try walk_nrm
              refine wpAnyM_ready (rs := [10]) (by kernel_rfl) (by simp) ?_
              refine AllReadyM.cons rfl (fun K hK => ?_) AllReadyM.nil
              · (refine step_appG (o := ⟨some 28, _, _, _, _, _⟩) (n := 1) intR_good _ (by rfl) _ _ 25 (by rfl) (.int .i64 0) 8 Try.underlying25 (by kernel_rfl) rfl (by decide) (by decide) q2 c2 Y (p.1 - 1) (by rfl) (HD2.out.o2.bel intR_good (by (repeat (first | assumption | exact Bel.refl _ | apply Bel.drewN | apply Bel.drew | apply Bel.alloc | refine Bel.trans ?_ (by assumption))))) _ 1 [.int .i64 (p.1 - 1)] (by rfl) rfl (World.news_of_block (by first | (first | exact alloc_at (by simp) | (with_reducible exact drewK (alloc_at (by simp))) | exact allocK (alloc_at (by simp)) | (with_reducible exact drewK (allocK (alloc_at (by simp))))) | (rw [HK2.out _ (by first | omega | (simp; done) | (simp; omega)) (by first | omega | (simp; done) | (simp; omega))]; (first | exact alloc_at (by simp) | (with_reducible exact drewK (alloc_at (by simp))) | exact allocK (alloc_at (by simp)) | (with_reducible exact drewK (allocK (alloc_at (by simp)))))))) (by intro u hu; simp at hu; subst hu; rfl) (intRep (by unfold I64; omega)) (by omega) (by first | omega | (simp; omega)) ?_; intro qy cy wB hOA hBA hFA; have HD4 := Lib.hid (((HD2.out.bel (by (repeat (first | assumption | exact Bel.refl _ | apply Bel.drewN | apply Bel.drew | apply Bel.alloc | refine Bel.trans ?_ (by assumption)))))).push2 hOA (Below.size hBA) hFA); have HBS4 := Lib.hid ((HBS2.out.bel (by (repeat (first | assumption | exact Bel.refl _ | apply Bel.drewN | apply Bel.drew | apply Bel.alloc | refine Bel.trans ?_ (by assumption))))).belowD hBA (by omega)); have HBR4 := Lib.hid ((HBR2.out.bel (by (repeat (first | assumption | exact Bel.refl _ | apply Bel.drewN | apply Bel.drew | apply Bel.alloc | refine Bel.trans ?_ (by assumption))))).belowD hBA (by omega)); have HBP4 := Lib.hid ((HBP2.out.bel (by (repeat (first | assumption | exact Bel.refl _ | apply Bel.drewN | apply Bel.drew | apply Bel.alloc | refine Bel.trans ?_ (by assumption))))).belowD hBA (by omega)); have HBA4 := Lib.hid ((HBA2.out.bel (by (repeat (first | assumption | exact Bel.refl _ | apply Bel.drewN | apply Bel.drew | apply Bel.alloc | refine Bel.trans ?_ (by assumption))))).farA hFA (fun ⟨a, ha, e⟩ => by have := (HD0.out.o2.lt ha).2; omega)); have HG4 := Lib.hid (show Bel w wB ∧ True from ⟨Below.trans (Bel.trans HG2.out.1 (by (repeat (first | assumption | exact Bel.refl _ | apply Bel.drewN | apply Bel.drew | apply Bel.alloc | refine Bel.trans ?_ (by assumption))))) (Below.mono hBA (by omega)), trivial⟩); have hz4 := (show wA.heap.size ≤ wB.heap.size from (by have := Below.size hBA; (try simp only [World.size_alloc, World.size_drew] at *); omega)); have HK4 := Lib.hid (fun (b : Nat) (h1 : wr.heap.size ≤ b) h2 => (hFA b h2 (fun a ha e => by have := (HD0.out.o2.lt ha).2; omega)).1); have KC4 := Lib.hid (kc HBS4.out HBP4.out HBA4.out); clear hOA hBA hFA)
                refine hK.out _ _ ?_ (fun hHeld => ?_)
                · ((try dsimp only); (first | (with_reducible exact KC6.out _ (by (repeat (first | assumption | exact Bel.refl _ | apply Bel.drewN | apply Bel.drew | apply Bel.alloc | refine Bel.trans ?_ (by assumption))))) | (with_reducible exact KC4.out _ (by (repeat (first | assumption | exact Bel.refl _ | apply Bel.drewN | apply Bel.drew | apply Bel.alloc | refine Bel.trans ?_ (by assumption))))) | (with_reducible exact KC2.out _ (by (repeat (first | assumption | exact Bel.refl _ | apply Bel.drewN | apply Bel.drew | apply Bel.alloc | refine Bel.trans ?_ (by assumption))))) | (with_reducible exact KC1.out _ (by (repeat (first | assumption | exact Bel.refl _ | apply Bel.drewN | apply Bel.drew | apply Bel.alloc | refine Bel.trans ?_ (by assumption)))))))
                clear hK K
                try walk_nrm
                refine wpAnyM_ready (rs := [14]) (by kernel_rfl) (by simp) ?_
                refine AllReadyM.cons rfl (fun K hK => ?_) AllReadyM.nil
                · go_simp
                  (go_at_call 37; (with_reducible refine (iModeIndexes_any _ XA S _ (aggR_mk (actR_good.bel HEL.out (Bel.trans HG4.out.1 (by (repeat (first | assumption | exact Bel.refl _ | apply Bel.drewN | apply Bel.drew | apply Bel.alloc | refine Bel.trans ?_ (by assumption))))) HS.out)) (by omega)).mono ?_); rintro e w5 ⟨vm, rfl, hr, g5⟩; obtain ⟨rp, rk, rfl, -⟩ := sliceR_open hr; have G5 := (show Bel wB w5 from (by (repeat (first | assumption | exact Bel.refl _ | apply Bel.drewN | apply Bel.drew | apply Bel.alloc | refine Bel.trans ?_ (by assumption))))); have HRG := Lib.hid (intsR_good.mono hr (T := New wB w5) (fun b hb => ⟨by have := hb.1; (try simp only [World.size_alloc, World.size_drew] at this); omega, hb.2⟩)); have hzw := G5.size; clear hr g5)
                  try go_wp2_with fail
                  refine hK.out _ _ ?_ (fun hHeld => ?_)
                  · ((try dsimp only); (first | (with_reducible exact KC6.out _ (by (repeat (first | assumption | exact Bel.refl _ | apply Bel.drewN | apply Bel.drew | apply Bel.alloc | refine Bel.trans ?_ (by assumption))))) | (with_reducible exact KC4.out _ (by (repeat (first | assumption | exact Bel.refl _ | apply Bel.drewN | apply Bel.drew | apply Bel.alloc | refine Bel.trans ?_ (by assumption))))) | (with_reducible exact KC2.out _ (by (repeat (first | assumption | exact Bel.refl _ | apply Bel.drewN | apply Bel.drew | apply Bel.alloc | refine Bel.trans ?_ (by assumption))))) | (with_reducible exact KC1.out _ (by (repeat (first | assumption | exact Bel.refl _ | apply Bel.drewN | apply Bel.drew | apply Bel.alloc | refine Bel.trans ?_ (by assumption)))))))
                  clear hK K
                  try walk_nrm
                  refine wpAnyM_ready (rs := [15]) (by kernel_rfl) (by simp) ?_
                  refine AllReadyM.cons rfl (fun K hK => ?_) AllReadyM.nil
                  · go_simp
                    refine hK.out _ _ ?_ (fun hHeld => ?_)
                    · ((try dsimp only); (first | (with_reducible exact KC6.out _ (by (repeat (first | assumption | exact Bel.refl _ | apply Bel.drewN | apply Bel.drew | apply Bel.alloc | refine Bel.trans ?_ (by assumption))))) | (with_reducible exact KC4.out _ (by (repeat (first | assumption | exact Bel.refl _ | apply Bel.drewN | apply Bel.drew | apply Bel.alloc | refine Bel.trans ?_ (by assumption))))) | (with_reducible exact KC2.out _ (by (repeat (first | assumption | exact Bel.refl _ | apply Bel.drewN | apply Bel.drew | apply Bel.alloc | refine Bel.trans ?_ (by assumption))))) | (with_reducible exact KC1.out _ (by (repeat (first | assumption | exact Bel.refl _ | apply Bel.drewN | apply Bel.drew | apply Bel.alloc | refine Bel.trans ?_ (by assumption)))))))
                    clear hK K
                    try walk_nrm
                    refine wpAnyM_ready (rs := [16]) (by kernel_rfl) (by simp) ?_
                    refine AllReadyM.cons rfl (fun K hK => ?_) AllReadyM.nil
                    · (refine step_appG (o := ⟨some 34, _, _, _, _, _⟩) (n := 1) valR_good _ (by rfl) _ _ 63 (by rfl) (.slice none 0 0) 24 Try.underlying63 (by kernel_rfl) rfl (by decide) (by decide) q3 c3 VS (.slice rp (rangeL XA.2.2.length).length rk) (by rfl) (HD4.out.o3.bel valR_good (by (repeat (first | assumption | exact Bel.refl _ | apply Bel.drewN | apply Bel.drew | apply Bel.alloc | refine Bel.trans ?_ (by assumption))))) _ 1 [.slice rp (rangeL XA.2.2.length).length rk] (by rfl) rfl (World.news_of_block (by first | (first | exact alloc_at (by simp) | (with_reducible exact drewK (alloc_at (by simp))) | exact allocK (alloc_at (by simp)) | (with_reducible exact drewK (allocK (alloc_at (by simp))))) | (rw [HK2.out _ (by first | omega | (simp; done) | (simp; omega)) (by first | omega | (simp; done) | (simp; omega))]; (first | exact alloc_at (by simp) | (with_reducible exact drewK (alloc_at (by simp))) | exact allocK (alloc_at (by simp)) | (with_reducible exact drewK (allocK (alloc_at (by simp)))))))) (by intro u hu; simp at hu; subst hu; rfl) rfl (by omega) (by first | omega | (simp; omega)) ?_; intro qv cv wC hOA hBA hFA; have HDm := Lib.hid (HD4.out.bel (w' := (w5.alloc (.cells #[.slice rp (rangeL XA.2.2.length).length rk] 25))) (by (repeat (first | assumption | exact Bel.refl _ | apply Bel.drewN | apply Bel.drew | apply Bel.alloc | refine Bel.trans ?_ (by assumption))))); have hfr := HD4.out.fresh (w' := (w5.alloc (.cells #[.slice rp (rangeL XA.2.2.length).length rk] 25))) (g := New wB w5) (by omega) (fun b hb => ⟨hb.1, Nat.lt_of_lt_of_le hb.2 (Bel.size ((Bel.refl w5).alloc _))⟩); have hrr := intsR_good.bel HRG.out ((Bel.refl w5).alloc (.cells #[.slice rp (rangeL XA.2.2.length).length rk] 25)) (fun b hb => hb.2); have HD6 := Lib.hid ((HDm.out).push3 hfr hrr hOA (Below.size hBA) hFA); have HBS6 := Lib.hid ((HBS4.out.bel (by (repeat (first | assumption | exact Bel.refl _ | apply Bel.drewN | apply Bel.drew | apply Bel.alloc | refine Bel.trans ?_ (by assumption))))).belowD hBA (by omega)); have HBR6 := Lib.hid ((HBR4.out.bel (by (repeat (first | assumption | exact Bel.refl _ | apply Bel.drewN | apply Bel.drew | apply Bel.alloc | refine Bel.trans ?_ (by assumption))))).belowD hBA (by omega)); have HBP6 := Lib.hid ((HBP4.out.bel (by (repeat (first | assumption | exact Bel.refl _ | apply Bel.drewN | apply Bel.drew | apply Bel.alloc | refine Bel.trans ?_ (by assumption))))).belowD hBA (by omega)); have HBA6 := Lib.hid ((HBA4.out.bel (by (repeat (first | assumption | exact Bel.refl _ | apply Bel.drewN | apply Bel.drew | apply Bel.alloc | refine Bel.trans ?_ (by assumption))))).farA hFA (fun ⟨a, ha, e⟩ => by have := (HD0.out.o3.lt ha).2; omega)); have HG6 := Lib.hid (show Bel w wC ∧ True from ⟨Below.trans (Bel.trans HG4.out.1 (by (repeat (first | assumption | exact Bel.refl _ | apply Bel.drewN | apply Bel.drew | apply Bel.alloc | refine Bel.trans ?_ (by assumption))))) (Below.mono hBA (by omega)), trivial⟩); have hz6 := (show wB.heap.size ≤ wC.heap.size from (by have := Below.size hBA; have := G5.size; (try simp only [World.size_alloc, World.size_drew] at *); omega)); have HK6 := Lib.hid (fun (b : Nat) (h1 : wr.heap.size ≤ b) h2 => (hFA b h2 (fun a ha e => by have := (HD0.out.o3.lt ha).2; omega)).1); have KC6 := Lib.hid (kc HBS6.out HBP6.out HBA6.out); clear hOA hBA hFA; clear hfr hrr; have fs0 := HBS6.out.frozen 0; have fs1 := HBS6.out.frozen 1; have fs2 := HBS6.out.frozen 2; obtain ⟨sz0, sz1, sz2, -⟩ := KC6.out wC (Bel.refl _))
                      refine hK.out _ _ ?_ (fun hHeld => ?_)
                      · ((try dsimp only); (first | (with_reducible exact KC6.out _ (by (repeat (first | assumption | exact Bel.refl _ | apply Bel.drewN | apply Bel.drew | apply Bel.alloc | refine Bel.trans ?_ (by assumption))))) | (with_reducible exact KC4.out _ (by (repeat (first | assumption | exact Bel.refl _ | apply Bel.drewN | apply Bel.drew | apply Bel.alloc | refine Bel.trans ?_ (by assumption))))) | (with_reducible exact KC2.out _ (by (repeat (first | assumption | exact Bel.refl _ | apply Bel.drewN | apply Bel.drew | apply Bel.alloc | refine Bel.trans ?_ (by assumption))))) | (with_reducible exact KC1.out _ (by (repeat (first | assumption | exact Bel.refl _ | apply Bel.drewN | apply Bel.drew | apply Bel.alloc | refine Bel.trans ?_ (by assumption)))))))
                      clear hK K
                      try walk_nrm
                      refine wpAnyM_ready (rs := [18]) (by kernel_rfl) (by simp) ?_
                      refine AllReadyM.free rfl (by kernel_rfl) (fun K hK => ?_) AllReadyM.nil
                      · go_simp
                        refine hK.out _ _ ?_
                        clear hK K
                        try walk_nrm
                        refine wpAnyM_ready (rs := [19]) (by kernel_rfl) (by simp) ?_
                        refine AllReadyM.free rfl (by kernel_rfl) (fun K hK => ?_) AllReadyM.nil
                        · go_simp
                          refine hK.out _ _ ?_
                          clear hK K
                          try walk_nrm
                          refine wpAnyM_ready (rs := [20]) (by kernel_rfl) (by simp) ?_
                          refine AllReadyM.free rfl (by kernel_rfl) (fun K hK => ?_) AllReadyM.nil
                          · go_simp
                            refine hK.out _ _ ?_
                            clear hK K
                            try walk_nrm
                            refine wpAnyM_ready (rs := [21]) (by kernel_rfl) (by simp) ?_
                            refine AllReadyM.free rfl (by kernel_rfl) (fun K hK => ?_) AllReadyM.nil
                            · go_simp
                              refine hK.out _ _ ?_
                              clear hK K
                              try walk_nrm
                              refine wpAnyM_ready (rs := [22]) (by kernel_rfl) (by simp) ?_
                              refine AllReadyM.free rfl (by kernel_rfl) (fun K hK => ?_) AllReadyM.nil
                              · go_simp
                                refine hK.out _ _ ?_
                                clear hK K
                                try walk_nrm
                                refine wpAnyM_done (by kernel_rfl) ?_ _
                                go_wp2_with fail
                                go_roundw
                                case rel => exact ⟨k + 1, _, _, _, _, _, _, _, _, _, _, _, by omega, by go_num, by rw [initX_succ, ← HX.out], by rw [initY_succ, ← HY.out], by rw [HRS.out, ← HR.out], by rw [List.length_append, List.length_append, List.length_append]; exact (((HBS6.out.set 0 (.slice qx (X.length + 1) cx)).set 1 (.slice qy (Y.length + 1) cy)).set 2 (.slice qv (VS.length + 1) cv)), (((HBR6.out.setAt (q := w.heap.size + 1 + 1) (by omega) 0 (.slice qx (X.length + 1) cx)).setAt (q := w.heap.size + 1 + 1) (by omega) 1 (.slice qy (Y.length + 1) cy)).setAt (q := w.heap.size + 1 + 1) (by omega) 2 (.slice qv (VS.length + 1) cv)), (((HBP6.out.setAt (q := w.heap.size + 1 + 1) (by omega) 0 (.slice qx (X.length + 1) cx)).setAt (q := w.heap.size + 1 + 1) (by omega) 1 (.slice qy (Y.length + 1) cy)).setAt (q := w.heap.size + 1 + 1) (by omega) 2 (.slice qv (VS.length + 1) cv)), HD6.out.hi ((((Hi.refl (w.heap.size + 1 + 1 + 1) wC).set (q := w.heap.size + 1 + 1) (j := 0) (.slice qx (X.length + 1) cx) (.inl (by omega))).set (q := w.heap.size + 1 + 1) (j := 1) (.slice qy (Y.length + 1) cy) (.inl (by omega))).set (q := w.heap.size + 1 + 1) (j := 2) (.slice qv (VS.length + 1) cv) (.inl (by omega))), (((HG6.out.1.set (p := ⟨w.heap.size + 1 + 1, 0, none⟩) (show w.heap.size ≤ w.heap.size + 1 + 1 from by omega) (.slice qx (X.length + 1) cx)).set (p := ⟨w.heap.size + 1 + 1, 1, none⟩) (show w.heap.size ≤ w.heap.size + 1 + 1 from by omega) (.slice qy (Y.length + 1) cy)).set (p := ⟨w.heap.size + 1 + 1, 2, none⟩) (show w.heap.size ≤ w.heap.size + 1 + 1 from by omega) (.slice qv (VS.length + 1) cv))⟩
                                case measure => (simp [intOf] <;> omega)
      · skip
        obtain rfl : p.2.1.length = k := by omega
        have HIV := Lib.hid (show initV p = (X, Y, RS) from by unfold initV; rw [if_pos HPO.out, HX.out, HY.out, HR.out])
        have s0_ := HBS0.out.cellv (j := 0) (by simp)
        have s1_ := HBS0.out.cellv (j := 1) (by simp)
        have s2_ := HBS0.out.cellv (j := 2) (by simp)
        simp only [List.getElem_cons_zero, List.getElem_cons_succ] at s0_ s1_ s2_
        have r0_ := HBR0.out.cellv (j := 0) (by simp)
        have r1_ := HBR0.out.cellv (j := 1) (by simp)
        have r2_ := HBR0.out.cellv (j := 2) (by simp)
        simp only [List.getElem_cons_zero, List.getElem_cons_succ] at r0_ r1_ r2_
        have fr0 := HBR0.out.frozen 0
        have fr1 := HBR0.out.frozen 1
        have fr2 := HBR0.out.frozen 2
        have HFD := Lib.hid (domM_good.mono HD0.out.done (T := fun b => w.heap.size + 1 + 1 < b ∧ b < wr.heap.size) (fun b hb => ⟨by have := hb.1; omega, hb.2⟩))
        clear hB
        go_wp2_with fail
        have HBW := Lib.hid ((((Below.refl (w.heap.size + 1) wr).setCell (p := ⟨w.heap.size + 1, 0, none⟩) (Nat.le_refl _) (.slice q1 X.length c1)).setCell (p := ⟨w.heap.size + 1, 1, none⟩) (Nat.le_refl _) (.slice q2 Y.length c2)).setCell (p := ⟨w.heap.size + 1, 2, none⟩) (Nat.le_refl _) (.slice q3 VS.length c3))
        have HIF := Lib.hid ((((Hi.refl (w.heap.size + 1 + 1) wr).set (q := w.heap.size + 1) (j := 0) (.slice q1 X.length c1) (.inl (by omega))).set (q := w.heap.size + 1) (j := 1) (.slice q2 Y.length c2) (.inl (by omega))).set (q := w.heap.size + 1) (j := 2) (.slice q3 VS.length c3) (.inl (by omega)))
        have HBF := Lib.hid (((HBR0.out.set 0 (.slice q1 X.length c1)).set 1 (.slice q2 Y.length c2)).set 2 (.slice q3 VS.length c3))
        have HGF := Lib.hid (show Bel w (((wr.setCell ⟨w.heap.size + 1, 0, none⟩ (.slice q1 X.length c1)).setCell ⟨w.heap.size + 1, 1, none⟩ (.slice q2 Y.length c2)).setCell ⟨w.heap.size + 1, 2, none⟩ (.slice q3 VS.length c3)) ∧ True from ⟨Below.trans HG0.out.1 (Below.mono HBW.out (by omega)), trivial⟩)
        generalize (((wr.setCell ⟨w.heap.size + 1, 0, none⟩ (.slice q1 X.length c1)).setCell ⟨w.heap.size + 1, 1, none⟩ (.slice q2 Y.length c2)).setCell ⟨w.heap.size + 1, 2, none⟩ (.slice q3 VS.length c3)) = WF at *
        have d0 := HBF.out.cellv (j := 0) (by simp)
        have d1 := HBF.out.cellv (j := 1) (by simp)
        have d2 := HBF.out.cellv (j := 2) (by simp)
        simp only [List.set_cons_zero, List.set_cons_succ, List.getElem_cons_zero, List.getElem_cons_succ] at d0 d1 d2
        have hz := HIF.out.1
        have GD := domM_good.mono (domM_good.stay HFD.out (fun b hb => HIF.out.2 b (by have := hb.1; omega) hb.2)) (T := New w WF) (fun b hb => ⟨by have := hb.1; omega, by have := hb.2; omega⟩)
        have BF := HGF.out.1
        clear HBF HBW
        exact bodyPost_ret (v := .agg #[.slice q1 X.length c1, .slice q2 Y.length c2, .slice q3 VS.length c3]) (by simp [results, Try.results48, go_sem, d0, d1, d2]) rfl ⟨[.slice q1 X.length c1, .slice q2 Y.length c2, .slice q3 VS.length c3], rfl, by rw [HIV.out]; exact GD, BF⟩

end Go.Proofs.Ytiaamddhocdhaaa
