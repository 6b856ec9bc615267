/- Contracts of spec.l12Of, spec.InitialDomain. -/
import Derived.Test.YtiaamddhocdhaaaInitF
import Derived.Test.YtiaamddhocdhaaaHeldM
import Derived.Test.YtiaamddhocdhaaaProjOk
import Derived.Test.YtiaamddhocdhaaaOwnS
import Derived.Deep.Cut
import Derived.Conc.WalkWords
import Derived.Deep.DrawnRows
import Derived.Deep.DeepCutAuto
namespace Go.Proofs.Ytiaamddhocdhaaa
open Go.ChangeShapes Go.WideShapes Go.ChangeAt Go.RowKit
set_option linter.unusedVariables false

set_option maxRecDepth 100000 in
set_option maxHeartbeats 4000000 in
theorem l12Of_any (v : Value) (p : ProjT) (S : Nat → Prop) (w : World) (hx : aggR projR S w v p) (hS : ∀ b, S b → b < w.heap.size) (hp : projOk p = true) :
    Calls Try.prog 115 #[v] w (FreshA domM w (initV p)) := by
  obtain ⟨cs, rfl, hx⟩ := hx
  obtain ⟨c1, c2, c3, c4, rfl, q0, q1, q2, q3, q4⟩ := projR_open hx
  have Q1 := Lib.hid q1
  have Q2 := Lib.hid q2
  have Q3 := Lib.hid q3
  have Q4 := Lib.hid q4
  have HP := Lib.hid hx
  obtain ⟨p1, k1, rfl, l1, l1', -⟩ := sliceR_open q1
  obtain ⟨p2, k2, rfl, l2, l2', -⟩ := sliceR_open q2
  obtain ⟨p3, k3, rfl, l3, l3', -⟩ := sliceR_open q3
  obtain ⟨p4, k4, rfl, l4, l4', -⟩ := sliceR_open q4
  unfold maxLen at l1' l2' l3' l4'
  clear hx q0 q1 q2 q3 q4
  have HPO := Lib.hid hp
  have hpb := projOk_bd hp
  have hx1 := hp
  clear hp hx1
  have HS := Lib.hid hS
  clear hS
  show Calls Try.prog 115 #[.agg #[.int .i64 p.1, .slice p1 p.2.1.length k1, .slice p2 p.2.2.1.length k2, .slice p3 p.2.2.2.1.length k3, .slice p4 p.2.2.2.2.length k4]] w _
  go_enter Try.func115, Try.ntmps115
  obtain ⟨W0, hW0⟩ : ∃ W, W = ((w.alloc (.cells #[.int .i64 p.1, .slice p1 p.2.1.length k1, .slice p2 p.2.2.1.length k2, .slice p3 p.2.2.2.1.length k3, .slice p4 p.2.2.2.2.length k4] 34)).alloc (.cells #[.slice none 0 0, .slice none 0 0, .slice none 0 0] 84)).alloc (.cells #[.slice none 0 0, .slice none 0 0, .slice none 0 0] 84) := ⟨_, rfl⟩
  have HBR := Lib.hid (show Blk W0 (w.heap.size + 1) 84 [.slice none 0 0, .slice none 0 0, .slice none 0 0] from by rw [hW0]; exact (Blk.new' (w := w.alloc (.cells #[.int .i64 p.1, .slice p1 p.2.1.length k1, .slice p2 p.2.2.1.length k2, .slice p3 p.2.2.2.1.length k3, .slice p4 p.2.2.2.2.length k4] 34)) [.slice none 0 0, .slice none 0 0, .slice none 0 0] (by simp)).alloc _)
  have HBS := Lib.hid (show Blk W0 (w.heap.size + 1 + 1) 84 [.slice none 0 0, .slice none 0 0, .slice none 0 0] from by rw [hW0]; exact Blk.new' _ (by simp))
  have HBP := Lib.hid (show Blk W0 w.heap.size 34 [.int .i64 p.1, .slice p1 p.2.1.length k1, .slice p2 p.2.2.1.length k2, .slice p3 p.2.2.2.1.length k3, .slice p4 p.2.2.2.2.length k4] from by rw [hW0]; exact ((Blk.new' _ rfl).alloc _).alloc _)
  have hB0 : Bel w W0 := by rw [hW0]; (repeat (first | assumption | exact Bel.refl _ | apply Bel.drewN | apply Bel.drew | apply Bel.alloc | refine Bel.trans ?_ (by assumption)))
  have hz0 : (w.heap.size + 1 + 1 + 1) ≤ W0.heap.size := by rw [hW0]; simp
  have HW0 := Lib.hid hW0
  clear hW0
  go_wp2_with fail
  rw [← HW0.out]
  go_loopw [10] (fun i wr => ∃ (k : Nat) (X Y : List Int) (VS : List Value) (RS : List (List Int)) (q1 : Option Addr) (c1 : Nat) (q2 : Option Addr) (c2 : Nat) (q3 : Option Addr) (c3 : Nat) (G : Nat → Nat → Prop), k ≤ p.2.1.length ∧ i = .int .i64 k ∧ X = initX k ∧ Y = initY p k ∧ RS = initR p k ∧ Blk wr (w.heap.size + 1 + 1) 84 [.slice q1 X.length c1, .slice q2 Y.length c2, .slice q3 VS.length c3] ∧ Blk wr (w.heap.size + 1) 84 [.slice none 0 0, .slice none 0 0, .slice none 0 0] ∧ Blk wr w.heap.size 34 [.int .i64 p.1, .slice p1 p.2.1.length k1, .slice p2 p.2.2.1.length k2, .slice p3 p.2.2.2.1.length k3, .slice p4 p.2.2.2.2.length k4] ∧ Dom3 3 25 (w.heap.size + 1 + 1 + 1) wr X Y VS RS q1 c1 q2 c2 q3 c3 G ∧ Bel w wr) (fun i _ => p.2.1.length - (intOf i).toNat)
  case atStart => exact ⟨0, [], [], [], [], none, 0, none, 0, none, 0, fun _ _ => False, Nat.zero_le _, rfl, rfl, rfl, rfl, HBS.out, HBR.out, HBP.out, Dom3.nil _, hB0⟩
  case round =>
    clear hB0
    obtain ⟨k, X, Y, VS, RS, q1, c1, q2, c2, q3, c3, G, hk, rfl, hX, hY, hR, hbs, hbr, hbp, hD, hB⟩ := hrel
    have hxl : X.length = k := by rw [hX, initX_length]
    have hyl : Y.length = k := by rw [hY, initY_length]
    have hvl : VS.length = k := by rw [hD.len, hR, initR_length p hk]
    have hxb : X.length ≤ 6 := by omega
    have hyb : Y.length ≤ 6 := by omega
    have hvb : VS.length ≤ 6 := by omega
    clear hxl hyl hvl
    have HX := Lib.hid hX
    have HY := Lib.hid hY
    have HR := Lib.hid hR
    have HD0 := Lib.hid hD
    have HBS0 := Lib.hid hbs
    have HBR0 := Lib.hid hbr
    have HBP0 := Lib.hid hbp
    have HG0 := Lib.hid (show Bel w wr ∧ True from ⟨hB, trivial⟩)
    have hzr := hbs.lt
    have hle1 := hD.o1.le
    have hle2 := hD.o2.le
    have hle3 := hD.o3.le
    unfold maxLen at hle1 hle2 hle3
    clear hX hY hR hbs hbr hbp hD
    by_cases hlt : k < p.2.1.length
    · skip
      obtain ⟨ab, ao, acs, rfl, arow, ael⟩ := sliceR_at zAct Q1.out hlt
      obtain ⟨ac2, rfl, aq0, aq1, aq2⟩ := actR_open ael
      have hml := projOk_modes HPO.out hlt
      have HRS := Lib.hid (initR_succ p hlt)
      generalize p.2.1.getD k zAct = XA at *
      obtain ⟨am, amk, rfl, aml, aml', -⟩ := sliceR_open aq2
      unfold maxLen at aml'
      have HEL := Lib.hid ael
      have e0 := hB.cell (arow 0 (by simp)).1
      have e1 := hB.cell (arow 1 (by simp)).1
      have e2 := hB.cell (arow 2 (by simp)).1
      simp only [List.getElem_cons_zero, List.getElem_cons_succ, Nat.add_zero] at e0 e1 e2
      clear arow ael aq0 aq1 aq2 hB
      obtain ⟨BA, hBA⟩ : ∃ n, n = wr.heap.size := ⟨_, rfl⟩
      obtain ⟨W1, hW1⟩ : ∃ W, W = wr.alloc (.cells #[.string XA.1, .int .i64 XA.2.1, .slice am XA.2.2.length amk] 75) := ⟨_, rfl⟩
      have HBA1 := Lib.hid (show Blk W1 BA 75 [.string XA.1, .int .i64 XA.2.1, .slice am XA.2.2.length amk] from by rw [hW1]; exact Blk.new' _ hBA)
      have HL1 := Lib.hid (show Bel wr W1 ∧ True from ⟨by rw [hW1]; (repeat (first | assumption | exact Bel.refl _ | apply Bel.drewN | apply Bel.drew | apply Bel.alloc | refine Bel.trans ?_ (by assumption))), trivial⟩)
      have hz1 : wr.heap.size ≤ W1.heap.size := HL1.out.1.size
      have hBAs : wr.heap.size ≤ BA ∧ BA ≤ wr.heap.size := by omega
      have HD1 := Lib.hid (HD0.out.bel HL1.out.1)
      have HBS1 := Lib.hid (HBS0.out.bel HL1.out.1)
      have HBR1 := Lib.hid (HBR0.out.bel HL1.out.1)
      have HBP1 := Lib.hid (HBP0.out.bel HL1.out.1)
      have HG1 := Lib.hid (show Bel w W1 ∧ True from ⟨HG0.out.1.trans HL1.out.1, trivial⟩)
      have HW1 := Lib.hid hW1
      have HBAQ := Lib.hid hBA
      have hki : (k : Int) < (p.2.1.length : Int) := by omega
      have hdb := hpb.2.2.2.2.2
      have hwd : IntKind.i64.wrap (p.1 - 1) = p.1 - 1 := IntWalk.i64_in _ (by omega)
      clear hBA hW1
      go_upto_region 5 with (fail)
      rw [← HW1.out, ← HBAQ.out]
      have s0 := HBS1.out.cellv (j := 0) (by simp)
      simp only [List.getElem_cons_zero] at s0
      go_upto_region 6 with ((at_builtin; refine wpList_appG (n := 1) intR_good _ rfl _ _ 25 rfl (.int .i64 0) 8 Try.underlying25 (by kernel_rfl) rfl (by decide) (by decide) q1 c1 X (0) rfl (HD1.out.o1.bel intR_good (by (repeat (first | assumption | exact Bel.refl _ | apply Bel.drewN | apply Bel.drew | apply Bel.alloc | refine Bel.trans ?_ (by assumption))))) _ 1 [.int .i64 0] rfl rfl (World.news_of_block (alloc_at (by first | rfl | (simp; done) | (simp; omega)))) (by intro u hu; simp at hu; subst hu; rfl) (intRep (by unfold I64; decide)) (by omega) (by first | omega | (simp; omega)) ?_; intro qx cx wA hOA hBA hFA; have HD2 := Lib.hid ((HD1.out.bel (by (repeat (first | assumption | exact Bel.refl _ | apply Bel.drewN | apply Bel.drew | apply Bel.alloc | refine Bel.trans ?_ (by assumption))))).push1 hOA (Below.size hBA) hFA); have HBS2 := Lib.hid ((HBS1.out.bel (by (repeat (first | assumption | exact Bel.refl _ | apply Bel.drewN | apply Bel.drew | apply Bel.alloc | refine Bel.trans ?_ (by assumption))))).belowD hBA (by omega)); have HBR2 := Lib.hid ((HBR1.out.bel (by (repeat (first | assumption | exact Bel.refl _ | apply Bel.drewN | apply Bel.drew | apply Bel.alloc | refine Bel.trans ?_ (by assumption))))).belowD hBA (by omega)); have HBP2 := Lib.hid ((HBP1.out.bel (by (repeat (first | assumption | exact Bel.refl _ | apply Bel.drewN | apply Bel.drew | apply Bel.alloc | refine Bel.trans ?_ (by assumption))))).belowD hBA (by omega)); have HBA2 := Lib.hid ((HBA1.out.bel (by (repeat (first | assumption | exact Bel.refl _ | apply Bel.drewN | apply Bel.drew | apply Bel.alloc | refine Bel.trans ?_ (by assumption))))).farA hFA (fun ⟨a, ha, e⟩ => by have := (HD0.out.o1.lt ha).2; omega)); have HG2 := Lib.hid (show Bel w wA ∧ True from ⟨Below.trans (Bel.trans HG1.out.1 (by (repeat (first | assumption | exact Bel.refl _ | apply Bel.drewN | apply Bel.drew | apply Bel.alloc | refine Bel.trans ?_ (by assumption))))) (Below.mono hBA (by omega)), trivial⟩); have hz2 := (show W1.heap.size ≤ wA.heap.size from (by have := Below.size hBA; (try simp only [World.size_alloc] at this); omega)); have sx1 := HBS2.out.cellv (j := 0) (by simp); have fs1 := HBS2.out.frozen 0; simp only [List.getElem_cons_zero] at sx1; clear hOA hBA hFA))
      clear s0 e0 e1 e2
      have HD3 := Lib.hid (HD2.out.hi ((Hi.refl (w.heap.size + 1 + 1 + 1) wA).set (q := w.heap.size + 1 + 1) (j := 0) (.slice qx (X.length + 1) cx) (.inl (by omega))))
      have HBS3 := Lib.hid (HBS2.out.set 0 (.slice qx (X.length + 1) cx))
      have HBR3 := Lib.hid (HBR2.out.setAt (q := w.heap.size + 1 + 1) (by omega) 0 (.slice qx (X.length + 1) cx))
      have HBP3 := Lib.hid (HBP2.out.setAt (q := w.heap.size + 1 + 1) (by omega) 0 (.slice qx (X.length + 1) cx))
      have HBA3 := Lib.hid (HBA2.out.setAt (q := w.heap.size + 1 + 1) (by omega) 0 (.slice qx (X.length + 1) cx))
      have HG3 := Lib.hid (show Bel w (wA.setCell ⟨w.heap.size + 1 + 1, 0, none⟩ (.slice qx (X.length + 1) cx)) ∧ True from ⟨HG2.out.1.set (p := ⟨w.heap.size + 1 + 1, 0, none⟩) (show w.heap.size ≤ w.heap.size + 1 + 1 from by omega) (.slice qx (X.length + 1) cx), trivial⟩)
      have hz3 : wA.heap.size ≤ (wA.setCell ⟨w.heap.size + 1 + 1, 0, none⟩ (.slice qx (X.length + 1) cx)).heap.size := by simp [World.setCell]
      simp only [List.set_cons_zero] at HBS3
      generalize (wA.setCell ⟨w.heap.size + 1 + 1, 0, none⟩ (.slice qx (X.length + 1) cx)) = W3 at *
      clear sx1 fs1
      have s1 := HBS3.out.cellv (j := 1) (by simp)
      have g0 := HBP3.out.cellv (j := 0) (by simp)
      simp only [List.getElem_cons_zero, List.getElem_cons_succ] at s1 g0
      go_upto_region 7 with ((at_builtin; refine wpList_appG (n := 1) intR_good _ rfl _ _ 25 rfl (.int .i64 0) 8 Try.underlying25 (by kernel_rfl) rfl (by decide) (by decide) q2 c2 Y (p.1 - 1) rfl (HD3.out.o2.bel intR_good (by (repeat (first | assumption | exact Bel.refl _ | apply Bel.drewN | apply Bel.drew | apply Bel.alloc | refine Bel.trans ?_ (by assumption))))) _ 1 [.int .i64 (p.1 - 1)] rfl rfl (World.news_of_block (alloc_at (by first | rfl | (simp; done) | (simp; omega)))) (by intro u hu; simp at hu; subst hu; rfl) (intRep (by unfold I64; omega)) (by omega) (by first | omega | (simp; omega)) ?_; intro qy cy wA hOA hBA hFA; have HD4 := Lib.hid ((HD3.out.bel (by (repeat (first | assumption | exact Bel.refl _ | apply Bel.drewN | apply Bel.drew | apply Bel.alloc | refine Bel.trans ?_ (by assumption))))).push2 hOA (Below.size hBA) hFA); have HBS4 := Lib.hid ((HBS3.out.bel (by (repeat (first | assumption | exact Bel.refl _ | apply Bel.drewN | apply Bel.drew | apply Bel.alloc | refine Bel.trans ?_ (by assumption))))).belowD hBA (by omega)); have HBR4 := Lib.hid ((HBR3.out.bel (by (repeat (first | assumption | exact Bel.refl _ | apply Bel.drewN | apply Bel.drew | apply Bel.alloc | refine Bel.trans ?_ (by assumption))))).belowD hBA (by omega)); have HBP4 := Lib.hid ((HBP3.out.bel (by (repeat (first | assumption | exact Bel.refl _ | apply Bel.drewN | apply Bel.drew | apply Bel.alloc | refine Bel.trans ?_ (by assumption))))).belowD hBA (by omega)); have HBA4 := Lib.hid ((HBA3.out.bel (by (repeat (first | assumption | exact Bel.refl _ | apply Bel.drewN | apply Bel.drew | apply Bel.alloc | refine Bel.trans ?_ (by assumption))))).farA hFA (fun ⟨a, ha, e⟩ => by have := (HD0.out.o2.lt ha).2; omega)); have HG4 := Lib.hid (show Bel w wA ∧ True from ⟨Below.trans (Bel.trans HG3.out.1 (by (repeat (first | assumption | exact Bel.refl _ | apply Bel.drewN | apply Bel.drew | apply Bel.alloc | refine Bel.trans ?_ (by assumption))))) (Below.mono hBA (by omega)), trivial⟩); have hz4 := (show W3.heap.size ≤ wA.heap.size from (by have := Below.size hBA; (try simp only [World.size_alloc] at this); omega)); have sx2 := HBS4.out.cellv (j := 1) (by simp); have fs2 := HBS4.out.frozen 1; simp only [List.getElem_cons_zero, List.getElem_cons_succ] at sx2; clear hOA hBA hFA))
      clear s1 g0
      have HD5 := Lib.hid (HD4.out.hi ((Hi.refl (w.heap.size + 1 + 1 + 1) wA).set (q := w.heap.size + 1 + 1) (j := 1) (.slice qy (Y.length + 1) cy) (.inl (by omega))))
      have HBS5 := Lib.hid (HBS4.out.set 1 (.slice qy (Y.length + 1) cy))
      have HBR5 := Lib.hid (HBR4.out.setAt (q := w.heap.size + 1 + 1) (by omega) 1 (.slice qy (Y.length + 1) cy))
      have HBP5 := Lib.hid (HBP4.out.setAt (q := w.heap.size + 1 + 1) (by omega) 1 (.slice qy (Y.length + 1) cy))
      have HBA5 := Lib.hid (HBA4.out.setAt (q := w.heap.size + 1 + 1) (by omega) 1 (.slice qy (Y.length + 1) cy))
      have HG5 := Lib.hid (show Bel w (wA.setCell ⟨w.heap.size + 1 + 1, 1, none⟩ (.slice qy (Y.length + 1) cy)) ∧ True from ⟨HG4.out.1.set (p := ⟨w.heap.size + 1 + 1, 1, none⟩) (show w.heap.size ≤ w.heap.size + 1 + 1 from by omega) (.slice qy (Y.length + 1) cy), trivial⟩)
      have hz5 : wA.heap.size ≤ (wA.setCell ⟨w.heap.size + 1 + 1, 1, none⟩ (.slice qy (Y.length + 1) cy)).heap.size := by simp [World.setCell]
      simp only [List.set_cons_zero, List.set_cons_succ] at HBS5
      generalize (wA.setCell ⟨w.heap.size + 1 + 1, 1, none⟩ (.slice qy (Y.length + 1) cy)) = W5 at *
      clear sx2 fs2
      have s2 := HBS5.out.cellv (j := 2) (by simp)
      have t0 := HBA5.out.cellv (j := 0) (by simp)
      have t1 := HBA5.out.cellv (j := 1) (by simp)
      have t2 := HBA5.out.cellv (j := 2) (by simp)
      simp only [List.getElem_cons_zero, List.getElem_cons_succ] at s2 t0 t1 t2
      have G55 : Bel W5 W5 := Bel.refl _
      refine wp_region_heldM (S := (fun W => W.cell? ⟨w.heap.size + 1 + 1, 2, none⟩ = some (.slice q3 VS.length c3) ∧ W.cell? ⟨BA, 0, none⟩ = some (.string XA.1) ∧ W.cell? ⟨BA, 1, none⟩ = some (.int .i64 XA.2.1) ∧ W.cell? ⟨BA, 2, none⟩ = some (.slice am XA.2.2.length amk))) (m := 7) (by kernel_rfl) ?_ (fun hHeld => ?_)
      · ((try dsimp only); (first | exact ⟨s2, t0, t1, t2⟩ | exact ⟨m3, m0, m1, m2⟩ | exact ⟨n3, n0, n1, n2⟩ | exact ⟨((Bel.refl _).alloc _).cell m3, ((Bel.refl _).alloc _).cell m0, ((Bel.refl _).alloc _).cell m1, ((Bel.refl _).alloc _).cell m2⟩))
      refine wpAnyM_take (i := 0) (v := ?_) rfl (by kernel_rfl) (by kernel_rfl) (by kernel_rfl) (by kernel_rfl) (fun _ _ _ h => h) (Or.inl ⟨by rfl, ?_⟩) (by assumption) ?_
      rotate_left
      · (intro w hSw; (try dsimp only at hSw); go_simp <;> with_reducible rfl)
      try walk_nrm
      refine wpAnyM_take (i := 1) (v := ?_) rfl (by kernel_rfl) (by kernel_rfl) (by kernel_rfl) (by kernel_rfl) (fun _ _ _ h => h) (Or.inl ⟨by rfl, ?_⟩) (by assumption) ?_
      rotate_left
      · (intro w hSw; (try dsimp only at hSw); go_simp <;> with_reducible rfl)
      try walk_nrm
      refine wpAnyM_take (i := 2) (v := ?_) rfl (by kernel_rfl) (by kernel_rfl) (by kernel_rfl) (by kernel_rfl) (fun _ _ _ h => h) (Or.inl ⟨by rfl, ?_⟩) (by assumption) ?_
      rotate_left
      · (intro w hSw; (try dsimp only at hSw); go_simp <;> with_reducible rfl)
      try walk_nrm
      refine wpAnyM_ready (rs := [3]) (by kernel_rfl) (by simp) ?_
      refine AllReadyM.cons rfl (fun K hK => ?_) AllReadyM.nil
      · go_simp
        (go_at_call 162; (with_reducible refine (sModeIndexes_any _ XA S _ (aggR_mk (actR_good.bel HEL.out (Bel.trans HG5.out.1 (by (repeat (first | assumption | exact Bel.refl _ | apply Bel.drewN | apply Bel.drew | apply Bel.alloc | refine Bel.trans ?_ (by assumption))))) HS.out)) (by omega)).mono ?_); rintro e w5 ⟨vm, rfl, hr, g5⟩; obtain ⟨rp, rk, rfl, -⟩ := sliceR_open hr; have HRG := Lib.hid hr; have G5 := (show Bel W5 w5 from (by (repeat (first | assumption | exact Bel.refl _ | apply Bel.drewN | apply Bel.drew | apply Bel.alloc | refine Bel.trans ?_ (by assumption))))); have hzw := G5.size; clear hr g5; have m3 := (by have h := (HBS5.out.bel G5).cellv (j := 2) (by simp); simpa using h : w5.cell? ⟨w.heap.size + 1 + 1, 2, none⟩ = some (.slice q3 VS.length c3)); have m0 := (by have h := (HBA5.out.bel G5).cellv (j := 0) (by simp); simpa using h : w5.cell? ⟨BA, 0, none⟩ = some (.string XA.1)); have m1 := (by have h := (HBA5.out.bel G5).cellv (j := 1) (by simp); simpa using h : w5.cell? ⟨BA, 1, none⟩ = some (.int .i64 XA.2.1)); have m2 := (by have h := (HBA5.out.bel G5).cellv (j := 2) (by simp); simpa using h : w5.cell? ⟨BA, 2, none⟩ = some (.slice am XA.2.2.length amk)))
        try go_wp2_with fail
        refine hK.out _ _ ?_ (fun hHeld => ?_)
        · ((try dsimp only); (first | exact ⟨s2, t0, t1, t2⟩ | exact ⟨m3, m0, m1, m2⟩ | exact ⟨n3, n0, n1, n2⟩ | exact ⟨((Bel.refl _).alloc _).cell m3, ((Bel.refl _).alloc _).cell m0, ((Bel.refl _).alloc _).cell m1, ((Bel.refl _).alloc _).cell m2⟩))
        clear hK K
        try walk_nrm
        refine wpAnyM_ready (rs := [4]) (by kernel_rfl) (by simp) ?_
        refine AllReadyM.cons rfl (fun K hK => ?_) AllReadyM.nil
        · go_simp
          refine hK.out _ _ ?_ (fun hHeld => ?_)
          · ((try dsimp only); (first | exact ⟨s2, t0, t1, t2⟩ | exact ⟨m3, m0, m1, m2⟩ | exact ⟨n3, n0, n1, n2⟩ | exact ⟨((Bel.refl _).alloc _).cell m3, ((Bel.refl _).alloc _).cell m0, ((Bel.refl _).alloc _).cell m1, ((Bel.refl _).alloc _).cell m2⟩))
          clear hK K
          try walk_nrm
          refine wpAnyM_ready (rs := [5]) (by kernel_rfl) (by simp) ?_
          refine AllReadyM.cons rfl (fun K hK => ?_) AllReadyM.nil
          · (refine step_appG (o := ⟨some 32, _, _, _, _, _⟩) (n := 1) valR_good _ (by rfl) _ _ 63 (by rfl) (.slice none 0 0) 24 Try.underlying63 (by kernel_rfl) rfl (by decide) (by decide) q3 c3 VS (.slice rp (rangeL XA.2.2.length).length rk) (by rfl) (HD5.out.o3.bel valR_good (by (repeat (first | assumption | exact Bel.refl _ | apply Bel.drewN | apply Bel.drew | apply Bel.alloc | refine Bel.trans ?_ (by assumption))))) _ 1 [.slice rp (rangeL XA.2.2.length).length rk] (by rfl) rfl (World.news_of_block (alloc_at (by first | rfl | (simp; done) | (simp; omega)))) (by intro u hu; simp at hu; subst hu; rfl) rfl (by omega) (by first | omega | (simp; omega)) ?_; intro qv cv wA hOA hBA hFA; have HDm := Lib.hid (HD5.out.bel (w' := w5.alloc (.cells #[.slice rp (rangeL XA.2.2.length).length rk] 25)) (by (repeat (first | assumption | exact Bel.refl _ | apply Bel.drewN | apply Bel.drew | apply Bel.alloc | refine Bel.trans ?_ (by assumption))))); have hfr := HD5.out.fresh (w' := w5.alloc (.cells #[.slice rp (rangeL XA.2.2.length).length rk] 25)) (g := New W5 w5) (by omega) (fun b hb => ⟨hb.1, Nat.lt_of_lt_of_le hb.2 (Bel.size ((Bel.refl w5).alloc _))⟩); have hrr := intsR_good.bel HRG.out ((Bel.refl w5).alloc (.cells #[.slice rp (rangeL XA.2.2.length).length rk] 25)) (fun b hb => hb.2); have HD6 := Lib.hid (HDm.out.push3 hfr hrr hOA (Below.size hBA) hFA); have HBS6 := Lib.hid ((HBS5.out.bel (w' := w5.alloc (.cells #[.slice rp (rangeL XA.2.2.length).length rk] 25)) (by (repeat (first | assumption | exact Bel.refl _ | apply Bel.drewN | apply Bel.drew | apply Bel.alloc | refine Bel.trans ?_ (by assumption))))).belowD hBA (by omega)); have HBR6 := Lib.hid ((HBR5.out.bel (w' := w5.alloc (.cells #[.slice rp (rangeL XA.2.2.length).length rk] 25)) (by (repeat (first | assumption | exact Bel.refl _ | apply Bel.drewN | apply Bel.drew | apply Bel.alloc | refine Bel.trans ?_ (by assumption))))).belowD hBA (by omega)); have HBP6 := Lib.hid ((HBP5.out.bel (w' := w5.alloc (.cells #[.slice rp (rangeL XA.2.2.length).length rk] 25)) (by (repeat (first | assumption | exact Bel.refl _ | apply Bel.drewN | apply Bel.drew | apply Bel.alloc | refine Bel.trans ?_ (by assumption))))).belowD hBA (by omega)); have HBA6 := Lib.hid ((HBA5.out.bel (w' := w5.alloc (.cells #[.slice rp (rangeL XA.2.2.length).length rk] 25)) (by (repeat (first | assumption | exact Bel.refl _ | apply Bel.drewN | apply Bel.drew | apply Bel.alloc | refine Bel.trans ?_ (by assumption))))).farA hFA (fun ⟨a, ha, e⟩ => by have := (HD0.out.o3.lt ha).2; omega)); have HG6 := Lib.hid (show Bel w wA ∧ True from ⟨Below.trans (Bel.trans HG5.out.1 (by (repeat (first | assumption | exact Bel.refl _ | apply Bel.drewN | apply Bel.drew | apply Bel.alloc | refine Bel.trans ?_ (by assumption))))) (Below.mono hBA (by omega)), trivial⟩); have hz6 := (show W5.heap.size ≤ wA.heap.size from (by have := Below.size hBA; have := G5.size; (try simp only [World.size_alloc] at *); omega)); have sx3 := HBS6.out.cellv (j := 2) (by simp); have fs3 := HBS6.out.frozen 2; simp only [List.getElem_cons_zero, List.getElem_cons_succ] at sx3; clear hOA hBA hFA hfr hrr; have n3 := (by have h := HBS6.out.cellv (j := 2) (by simp); simpa using h : wA.cell? ⟨w.heap.size + 1 + 1, 2, none⟩ = some (.slice q3 VS.length c3)); have n0 := (by have h := HBA6.out.cellv (j := 0) (by simp); simpa using h : wA.cell? ⟨BA, 0, none⟩ = some (.string XA.1)); have n1 := (by have h := HBA6.out.cellv (j := 1) (by simp); simpa using h : wA.cell? ⟨BA, 1, none⟩ = some (.int .i64 XA.2.1)); have n2 := (by have h := HBA6.out.cellv (j := 2) (by simp); simpa using h : wA.cell? ⟨BA, 2, none⟩ = some (.slice am XA.2.2.length amk)))
            refine hK.out _ _ ?_ (fun hHeld => ?_)
            · ((try dsimp only); (first | exact ⟨s2, t0, t1, t2⟩ | exact ⟨m3, m0, m1, m2⟩ | exact ⟨n3, n0, n1, n2⟩ | exact ⟨((Bel.refl _).alloc _).cell m3, ((Bel.refl _).alloc _).cell m0, ((Bel.refl _).alloc _).cell m1, ((Bel.refl _).alloc _).cell m2⟩))
            clear hK K
            try walk_nrm
            refine wpAnyM_take (i := 6) (v := ?_) rfl (by kernel_rfl) (by kernel_rfl) (by kernel_rfl) (by kernel_rfl) (fun _ _ _ h => h) (Or.inl ⟨by rfl, ?_⟩) (by assumption) ?_
            rotate_left
            · (intro w hSw; (try dsimp only at hSw); go_simp <;> with_reducible rfl)
            try walk_nrm
            refine wpAnyM_ready (rs := [7]) (by kernel_rfl) (by simp) ?_
            refine AllReadyM.free rfl (by kernel_rfl) (fun K hK => ?_) AllReadyM.nil
            · go_simp
              refine hK.out _ _ ?_
              clear hK K
              try walk_nrm
              refine wpAnyM_done (by kernel_rfl) ?_ _
              clear sx3 fs3
              go_wp2_with fail
              go_roundw
              case rel => exact ⟨k + 1, _, _, _, _, _, _, _, _, _, _, _, by omega, by go_num, by rw [initX_succ, ← HX.out], by rw [initY_succ, ← HY.out], by rw [HRS.out, ← HR.out], by rw [List.length_append, List.length_append, List.length_append]; exact (HBS6.out.set 2 (.slice qv (VS.length + 1) cv)), HBR6.out.setAt (q := w.heap.size + 1 + 1) (by omega) 2 _, HBP6.out.setAt (q := w.heap.size + 1 + 1) (by omega) 2 _, HD6.out.hi ((Hi.refl (w.heap.size + 1 + 1 + 1) wA).set (q := w.heap.size + 1 + 1) (j := 2) _ (.inl (by omega))), HG6.out.1.set (p := ⟨w.heap.size + 1 + 1, 2, none⟩) (show w.heap.size ≤ w.heap.size + 1 + 1 from by omega) _⟩
              case measure => (simp [intOf] <;> omega)
    · skip
      obtain rfl : p.2.1.length = k := by omega
      have HIV := Lib.hid (show initV p = (X, Y, RS) from by unfold initV; rw [if_pos HPO.out, HX.out, HY.out, HR.out])
      have s0_ := HBS0.out.cellv (j := 0) (by simp)
      have s1_ := HBS0.out.cellv (j := 1) (by simp)
      have s2_ := HBS0.out.cellv (j := 2) (by simp)
      simp only [List.getElem_cons_zero, List.getElem_cons_succ] at s0_ s1_ s2_
      have r0_ := HBR0.out.cellv (j := 0) (by simp)
      have r1_ := HBR0.out.cellv (j := 1) (by simp)
      have r2_ := HBR0.out.cellv (j := 2) (by simp)
      simp only [List.getElem_cons_zero, List.getElem_cons_succ] at r0_ r1_ r2_
      have fr0 := HBR0.out.frozen 0
      have fr1 := HBR0.out.frozen 1
      have fr2 := HBR0.out.frozen 2
      have HFD := Lib.hid (domM_good.mono HD0.out.done (T := fun b => w.heap.size + 1 + 1 < b ∧ b < wr.heap.size) (fun b hb => ⟨by have := hb.1; omega, hb.2⟩))
      clear hB
      go_wp2_with fail
      have HBW := Lib.hid ((((Below.refl (w.heap.size + 1) wr).setCell (p := ⟨w.heap.size + 1, 0, none⟩) (Nat.le_refl _) (.slice q1 X.length c1)).setCell (p := ⟨w.heap.size + 1, 1, none⟩) (Nat.le_refl _) (.slice q2 Y.length c2)).setCell (p := ⟨w.heap.size + 1, 2, none⟩) (Nat.le_refl _) (.slice q3 VS.length c3))
      have HIF := Lib.hid ((((Hi.refl (w.heap.size + 1 + 1) wr).set (q := w.heap.size + 1) (j := 0) (.slice q1 X.length c1) (.inl (by omega))).set (q := w.heap.size + 1) (j := 1) (.slice q2 Y.length c2) (.inl (by omega))).set (q := w.heap.size + 1) (j := 2) (.slice q3 VS.length c3) (.inl (by omega)))
      have HBF := Lib.hid (((HBR0.out.set 0 (.slice q1 X.length c1)).set 1 (.slice q2 Y.length c2)).set 2 (.slice q3 VS.length c3))
      have HGF := Lib.hid (show Bel w (((wr.setCell ⟨w.heap.size + 1, 0, none⟩ (.slice q1 X.length c1)).setCell ⟨w.heap.size + 1, 1, none⟩ (.slice q2 Y.length c2)).setCell ⟨w.heap.size + 1, 2, none⟩ (.slice q3 VS.length c3)) ∧ True from ⟨Below.trans HG0.out.1 (Below.mono HBW.out (by omega)), trivial⟩)
      generalize (((wr.setCell ⟨w.heap.size + 1, 0, none⟩ (.slice q1 X.length c1)).setCell ⟨w.heap.size + 1, 1, none⟩ (.slice q2 Y.length c2)).setCell ⟨w.heap.size + 1, 2, none⟩ (.slice q3 VS.length c3)) = WF at *
      have d0 := HBF.out.cellv (j := 0) (by simp)
      have d1 := HBF.out.cellv (j := 1) (by simp)
      have d2 := HBF.out.cellv (j := 2) (by simp)
      simp only [List.set_cons_zero, List.set_cons_succ, List.getElem_cons_zero, List.getElem_cons_succ] at d0 d1 d2
      have hz := HIF.out.1
      have GD := domM_good.mono (domM_good.stay HFD.out (fun b hb => HIF.out.2 b (by have := hb.1; omega) hb.2)) (T := New w WF) (fun b hb => ⟨by have := hb.1; omega, by have := hb.2; omega⟩)
      have BF := HGF.out.1
      clear HBF HBW
      exact bodyPost_ret (v := .agg #[.slice q1 X.length c1, .slice q2 Y.length c2, .slice q3 VS.length c3]) (by simp [results, Try.results115, go_sem, d0, d1, d2]) rfl ⟨[.slice q1 X.length c1, .slice q2 Y.length c2, .slice q3 VS.length c3], rfl, by rw [HIV.out]; exact GD, BF⟩

set_option maxHeartbeats 2000000 in
theorem sInitialDomain_any (v : Value) (p : ProjT) (S : Nat → Prop) (w : World) (hx : aggR projR S w v p) (hS : ∀ b, S b → b < w.heap.size) (_hn : bulkProject p ≤ 1048576) :
    Calls Try.prog 47 #[v] w (FreshA domM w (initV p)) := by
  obtain ⟨cs, rfl, hx⟩ := hx
  obtain ⟨c1, c2, c3, c4, rfl, q0, q1, q2, q3, q4⟩ := projR_open hx
  have Q1 := Lib.hid q1
  have Q2 := Lib.hid q2
  have Q3 := Lib.hid q3
  have Q4 := Lib.hid q4
  have HP := Lib.hid hx
  obtain ⟨p1, k1, rfl, l1, l1', -⟩ := sliceR_open q1
  obtain ⟨p2, k2, rfl, l2, l2', -⟩ := sliceR_open q2
  obtain ⟨p3, k3, rfl, l3, l3', -⟩ := sliceR_open q3
  obtain ⟨p4, k4, rfl, l4, l4', -⟩ := sliceR_open q4
  unfold maxLen at l1' l2' l3' l4'
  clear hx q0 q1 q2 q3 q4
  have HS := Lib.hid hS
  have HNB := Lib.hid _hn
  clear hS _hn
  show Calls Try.prog 47 #[.agg #[.int .i64 p.1, .slice p1 p.2.1.length k1, .slice p2 p.2.2.1.length k2, .slice p3 p.2.2.2.1.length k3, .slice p4 p.2.2.2.2.length k4]] w _
  go_enter Try.func47, Try.ntmps47
  obtain ⟨W0, hW0⟩ : ∃ W, W = (w.alloc (.cells #[.int .i64 p.1, .slice p1 p.2.1.length k1, .slice p2 p.2.2.1.length k2, .slice p3 p.2.2.2.1.length k3, .slice p4 p.2.2.2.2.length k4] 34)).alloc (.cells #[.slice none 0 0, .slice none 0 0, .slice none 0 0] 84) := ⟨_, rfl⟩
  have HBR := Lib.hid (show Blk W0 (w.heap.size + 1) 84 [.slice none 0 0, .slice none 0 0, .slice none 0 0] from by rw [hW0]; exact Blk.new' _ (by simp))
  have HBP := Lib.hid (show Blk W0 w.heap.size 34 [.int .i64 p.1, .slice p1 p.2.1.length k1, .slice p2 p.2.2.1.length k2, .slice p3 p.2.2.2.1.length k3, .slice p4 p.2.2.2.2.length k4] from by rw [hW0]; exact (Blk.new' _ rfl).alloc _)
  have hB0 : Bel w W0 := by rw [hW0]; (repeat (first | assumption | exact Bel.refl _ | apply Bel.drewN | apply Bel.drew | apply Bel.alloc | refine Bel.trans ?_ (by assumption)))
  have hz0 : w.heap.size + 2 ≤ W0.heap.size := by rw [hW0]; simp
  have HW0 := Lib.hid hW0
  clear hW0
  have HPR := Lib.hid (show ∀ W, Bel w W → aggR projR S W (.agg #[.int .i64 p.1, .slice p1 p.2.1.length k1, .slice p2 p.2.2.1.length k2, .slice p3 p.2.2.2.1.length k3, .slice p4 p.2.2.2.2.length k4]) p ∧ (∀ b, S b → b < W.heap.size) from fun W hW => ⟨aggR_mk (projR_good.bel HP.out hW HS.out), fun b hb => Nat.lt_of_lt_of_le (HS.out b hb) hW.size⟩)
  go_wp2_with fail
  rw [← HW0.out]
  refine (sProjectOk_any _ p S _ (HPR.out _ (by (repeat (first | assumption | exact Bel.refl _ | apply Bel.drewN | apply Bel.drew | apply Bel.alloc | refine Bel.trans ?_ (by assumption))))).1 (HPR.out _ (by (repeat (first | assumption | exact Bel.refl _ | apply Bel.drewN | apply Bel.drew | apply Bel.alloc | refine Bel.trans ?_ (by assumption))))).2).mono ?_
  rintro e w1 ⟨rfl, g1⟩
  have HBRz := Lib.hid (HBR.out.bel (show Bel W0 w1 from by (repeat (first | assumption | exact Bel.refl _ | apply Bel.drewN | apply Bel.drew | apply Bel.alloc | refine Bel.trans ?_ (by assumption)))))
  have HBP1 := Lib.hid (HBP.out.bel (show Bel W0 w1 from by (repeat (first | assumption | exact Bel.refl _ | apply Bel.drewN | apply Bel.drew | apply Bel.alloc | refine Bel.trans ?_ (by assumption)))))
  have hz1 := g1.size
  have G1 : Bel W0 w1 := by (repeat (first | assumption | exact Bel.refl _ | apply Bel.drewN | apply Bel.drew | apply Bel.alloc | refine Bel.trans ?_ (by assumption)))
  have b0_ := HBP1.out.cellv (j := 0) (by simp)
  have b1_ := HBP1.out.cellv (j := 1) (by simp)
  have b2_ := HBP1.out.cellv (j := 2) (by simp)
  have b3_ := HBP1.out.cellv (j := 3) (by simp)
  have b4_ := HBP1.out.cellv (j := 4) (by simp)
  simp only [List.getElem_cons_zero, List.getElem_cons_succ] at b0_ b1_ b2_ b3_ b4_
  have r0_ := HBRz.out.cellv (j := 0) (by simp)
  have r1_ := HBRz.out.cellv (j := 1) (by simp)
  have r2_ := HBRz.out.cellv (j := 2) (by simp)
  simp only [List.getElem_cons_zero, List.getElem_cons_succ] at r0_ r1_ r2_
  have fr0 := HBRz.out.frozen 0
  have fr1 := HBRz.out.frozen 1
  have fr2 := HBRz.out.frozen 2
  clear g1
  cases hb : projOk p
  · have HIV := Lib.hid (show initV p = ([], [], []) from by unfold initV; rw [hb]; rfl)
    go_wp2_with fail
    have HBW := Lib.hid ((((Below.refl (w.heap.size + 1) w1).setCell (p := ⟨w.heap.size + 1, 0, none⟩) (Nat.le_refl _) (.slice none 0 0)).setCell (p := ⟨w.heap.size + 1, 1, none⟩) (Nat.le_refl _) (.slice none 0 0)).setCell (p := ⟨w.heap.size + 1, 2, none⟩) (Nat.le_refl _) (.slice none 0 0))
    have HIF := Lib.hid (show Hi (w.heap.size + 1 + 1) w1 (((w1.setCell ⟨w.heap.size + 1, 0, none⟩ (.slice none 0 0)).setCell ⟨w.heap.size + 1, 1, none⟩ (.slice none 0 0)).setCell ⟨w.heap.size + 1, 2, none⟩ (.slice none 0 0)) from ((((Hi.refl (w.heap.size + 1 + 1) w1).set (q := w.heap.size + 1) (j := 0) (.slice none 0 0) (.inl (by omega))).set (q := w.heap.size + 1) (j := 1) (.slice none 0 0) (.inl (by omega))).set (q := w.heap.size + 1) (j := 2) (.slice none 0 0) (.inl (by omega))))
    have HBF := Lib.hid (((HBRz.out.set 0 (.slice none 0 0)).set 1 (.slice none 0 0)).set 2 (.slice none 0 0))
    have HGF := Lib.hid (show Bel w (((w1.setCell ⟨w.heap.size + 1, 0, none⟩ (.slice none 0 0)).setCell ⟨w.heap.size + 1, 1, none⟩ (.slice none 0 0)).setCell ⟨w.heap.size + 1, 2, none⟩ (.slice none 0 0)) ∧ True from ⟨Below.trans (hB0.trans G1) (Below.mono HBW.out (by omega)), trivial⟩)
    generalize (((w1.setCell ⟨w.heap.size + 1, 0, none⟩ (.slice none 0 0)).setCell ⟨w.heap.size + 1, 1, none⟩ (.slice none 0 0)).setCell ⟨w.heap.size + 1, 2, none⟩ (.slice none 0 0)) = WF at *
    have d0 := HBF.out.cellv (j := 0) (by simp)
    have d1 := HBF.out.cellv (j := 1) (by simp)
    have d2 := HBF.out.cellv (j := 2) (by simp)
    simp only [List.set_cons_zero, List.set_cons_succ, List.getElem_cons_zero, List.getElem_cons_succ] at d0 d1 d2
    have hz := HIF.out.1
    have GD : domM (New w WF) WF [.slice none 0 0, .slice none 0 0, .slice none 0 0] (initV p) := by rw [HIV.out]; exact domM_nil _ _
    have BF := HGF.out.1
    clear HBF HBW
    exact bodyPost_ret (v := .agg #[.slice none 0 0, .slice none 0 0, .slice none 0 0]) (by simp [results, Try.results47, go_sem, d0, d1, d2]) rfl ⟨[.slice none 0 0, .slice none 0 0, .slice none 0 0], rfl, GD, BF⟩
  · have HPO := Lib.hid hb
    go_wp2_with fail
    refine (l12Of_any _ p S _ (HPR.out _ (by (repeat (first | assumption | exact Bel.refl _ | apply Bel.drewN | apply Bel.drew | apply Bel.alloc | refine Bel.trans ?_ (by assumption))))).1 (HPR.out _ (by (repeat (first | assumption | exact Bel.refl _ | apply Bel.drewN | apply Bel.drew | apply Bel.alloc | refine Bel.trans ?_ (by assumption))))).2 HPO.out).mono ?_
    rintro e w2 ⟨cs, rfl, hr, g2⟩
    have HR2 := Lib.hid hr
    have HBRy := Lib.hid (HBRz.out.bel (show Bel w1 w2 from by (repeat (first | assumption | exact Bel.refl _ | apply Bel.drewN | apply Bel.drew | apply Bel.alloc | refine Bel.trans ?_ (by assumption)))))
    have G2 : Bel w1 w2 := by (repeat (first | assumption | exact Bel.refl _ | apply Bel.drewN | apply Bel.drew | apply Bel.alloc | refine Bel.trans ?_ (by assumption)))
    have hz2 := G2.size
    obtain ⟨y0, y1, y2, S1, S2, S3, rfl, h0, h1, h2, -⟩ := hr
    obtain ⟨a0, b0, rfl, -⟩ := sliceR_open h0
    obtain ⟨a1, b1, rfl, -⟩ := sliceR_open h1
    obtain ⟨a2, b2, rfl, -⟩ := matR_open h2
    clear h0 h1 h2 r0_ fr0 r1_ fr1 r2_ fr2 g2
    have r0_ := HBRy.out.cellv (j := 0) (by simp)
    have r1_ := HBRy.out.cellv (j := 1) (by simp)
    have r2_ := HBRy.out.cellv (j := 2) (by simp)
    simp only [List.getElem_cons_zero, List.getElem_cons_succ] at r0_ r1_ r2_
    have fr0 := HBRy.out.frozen 0
    have fr1 := HBRy.out.frozen 1
    have fr2 := HBRy.out.frozen 2
    go_wp2_with fail
    have HBW := Lib.hid ((((Below.refl (w.heap.size + 1) w2).setCell (p := ⟨w.heap.size + 1, 0, none⟩) (Nat.le_refl _) (.slice a0 (initV p).1.length b0)).setCell (p := ⟨w.heap.size + 1, 1, none⟩) (Nat.le_refl _) (.slice a1 (initV p).2.1.length b1)).setCell (p := ⟨w.heap.size + 1, 2, none⟩) (Nat.le_refl _) (.slice a2 (initV p).2.2.length b2))
    have HIF := Lib.hid (show Hi (w.heap.size + 1 + 1) w2 (((w2.setCell ⟨w.heap.size + 1, 0, none⟩ (.slice a0 (initV p).1.length b0)).setCell ⟨w.heap.size + 1, 1, none⟩ (.slice a1 (initV p).2.1.length b1)).setCell ⟨w.heap.size + 1, 2, none⟩ (.slice a2 (initV p).2.2.length b2)) from ((((Hi.refl (w.heap.size + 1 + 1) w2).set (q := w.heap.size + 1) (j := 0) (.slice a0 (initV p).1.length b0) (.inl (by omega))).set (q := w.heap.size + 1) (j := 1) (.slice a1 (initV p).2.1.length b1) (.inl (by omega))).set (q := w.heap.size + 1) (j := 2) (.slice a2 (initV p).2.2.length b2) (.inl (by omega))))
    have HBF := Lib.hid (((HBRy.out.set 0 (.slice a0 (initV p).1.length b0)).set 1 (.slice a1 (initV p).2.1.length b1)).set 2 (.slice a2 (initV p).2.2.length b2))
    have HGF := Lib.hid (show Bel w (((w2.setCell ⟨w.heap.size + 1, 0, none⟩ (.slice a0 (initV p).1.length b0)).setCell ⟨w.heap.size + 1, 1, none⟩ (.slice a1 (initV p).2.1.length b1)).setCell ⟨w.heap.size + 1, 2, none⟩ (.slice a2 (initV p).2.2.length b2)) ∧ True from ⟨Below.trans ((hB0.trans G1).trans G2) (Below.mono HBW.out (by omega)), trivial⟩)
    generalize (((w2.setCell ⟨w.heap.size + 1, 0, none⟩ (.slice a0 (initV p).1.length b0)).setCell ⟨w.heap.size + 1, 1, none⟩ (.slice a1 (initV p).2.1.length b1)).setCell ⟨w.heap.size + 1, 2, none⟩ (.slice a2 (initV p).2.2.length b2)) = WF at *
    have d0 := HBF.out.cellv (j := 0) (by simp)
    have d1 := HBF.out.cellv (j := 1) (by simp)
    have d2 := HBF.out.cellv (j := 2) (by simp)
    simp only [List.set_cons_zero, List.set_cons_succ, List.getElem_cons_zero, List.getElem_cons_succ] at d0 d1 d2
    have hz := HIF.out.1
    have GD := domM_good.mono (domM_good.stay HR2.out (fun b hb => HIF.out.2 b (by have := hb.1; (try simp only [World.size_alloc] at this); omega) hb.2)) (T := New w WF) (fun b hb => ⟨by have := hb.1; (try simp only [World.size_alloc] at this); omega, by have := hb.2; omega⟩)
    have BF := HGF.out.1
    clear HBF HBW
    exact bodyPost_ret (v := .agg #[.slice a0 (initV p).1.length b0, .slice a1 (initV p).2.1.length b1, .slice a2 (initV p).2.2.length b2]) (by simp [results, Try.results47, go_sem, d0, d1, d2]) rfl ⟨[.slice a0 (initV p).1.length b0, .slice a1 (initV p).2.1.length b1, .slice a2 (initV p).2.2.length b2], rfl, GD, BF⟩

end Go.Proofs.Ytiaamddhocdhaaa
