/- Texts laid together: Draw5 Draw6 Make Draw8 ViolC ViolE RulesF Sign FaultF. -/
import Derived.Test.YtiaamddhocdhaaaDraw4
import Derived.Deep.RegionHeld3
import Derived.Test.YtiaamddhocdhaaaViolP
import Derived.Test.YtiaamddhocdhaaaViolD
import Derived.Test.YtiaamddhocdhaaaIn

/- Draw5 -/
section
namespace Go.Proofs.Ytiaamddhocdhaaa
open Go.ChangeShapes Go.WideShapes Go.ChangeAt Go.RowKit
set_option linter.unusedVariables false

theorem Own.row {α : Type} {n : Nat} {R : RepT α} {e : TypeId} {B : Nat} {w w' : World} {p : Option Addr} {cap : Nat} {xs : List α} (h : Own (fun _ => False) n R e B w p cap xs) (gd : Good R) (hk : ∀ a, p = some a → w'.heap[a.block]? = w.heap[a.block]?) : Own (fun _ => False) n R e B w' p cap xs := by
  obtain ⟨cells, ⟨h1, h2⟩, h3⟩ := h
  refine ⟨cells, ⟨h1, ?_⟩, fun i hi => ?_⟩
  · rcases h2 with h2 | ⟨g, cap', cur, h4, h5, h6, h7⟩
    · exact .inl h2
    · obtain ⟨rfl, _, _⟩ : p = some ⟨g, 0, none⟩ ∧ xs.length = xs.length ∧ cap = cap' := by simpa using h4
      exact .inr ⟨g, cap', cur, h4, h5, by rw [hk _ rfl]; exact h6, h7⟩
  · obtain ⟨ecs, e1, e2, e3⟩ := h3 i hi
    exact ⟨ecs, e1, e2, gd.mono (gd.stay e3 fun b hb' => hb'.1.elim) fun b hb' => hb'.1.elim⟩
/-- Two slices in rows of their own. -/
def Apart (p q : Option Addr) : Prop := ∀ a b, p = some a → q = some b → a.block ≠ b.block
theorem sliceR_atS {α : Type} {n : Nat} {R : RepT α} {S : Nat → Prop} {w : World} {p : Option Addr} {l c : Nat} {xs : List α} (d : α) (h : sliceR n R S w [.slice p l c] xs) {i : Nat} (hi : i < xs.length) :
    ∃ b off ecs, p = some ⟨b, off, none⟩ ∧ S b ∧ RowAt w b (off + i * n) ecs ∧ R S w ecs (xs.getD i d) := by
  obtain ⟨p', cap', e0, _, _, h4⟩ := h
  obtain ⟨rfl, _, _⟩ : p = p' ∧ l = xs.length ∧ c = cap' := by simpa using e0
  obtain ⟨b, off, ecs, e1, e2, e3, e4, e5⟩ := h4 i hi
  have e7 : xs.getD i d = xs[i] := by simp [List.getD, hi]
  rw [e7]
  exact ⟨b, off, ecs, e1, e2, e4, e5⟩
theorem drop_cons {α : Type} (l : List α) (d : α) {k : Nat} (h : k < l.length) : l.drop k = l.getD k d :: l.drop (k + 1) := by
  rw [List.drop_eq_getElem_cons h]
  simp [List.getD, h]
set_option maxRecDepth 100000 in
set_option maxHeartbeats 8000000 in
theorem l09Draw_any (cb : Nat) (C : List Int) (s : StT) (v : Value) (p : ProjT) (S : Nat → Prop) (w : World) (h : Cur w cb C s) (hx : aggR projR S w v p) (hS : ∀ b, S b → b < w.heap.size ∧ b ≠ cb) (hp : projOk p = true) :
    Calls Try.prog 80 #[.pointer (some ⟨cb, 0, none⟩), v] w (DrA schR cb C w (schV C p s)) := by
  obtain ⟨cs, rfl, hx⟩ := hx
  obtain ⟨c1, c2, c3, c4, rfl, q0, q1, q2, q3, q4⟩ := projR_open hx
  have Q1 := Lib.hid q1
  have Q2 := Lib.hid q2
  have Q3 := Lib.hid q3
  have Q4 := Lib.hid q4
  have HP := Lib.hid hx
  obtain ⟨p1, k1, rfl, l1, l1', -⟩ := sliceR_open q1
  obtain ⟨p2, k2, rfl, l2, l2', -⟩ := sliceR_open q2
  obtain ⟨p3, k3, rfl, l3, l3', -⟩ := sliceR_open q3
  obtain ⟨p4, k4, rfl, l4, l4', -⟩ := sliceR_open q4
  unfold maxLen at l1' l2' l3' l4'
  clear hx q0 q1 q2 q3 q4
  have HS := Lib.hid hS
  have HPO := Lib.hid hp
  have hpb := projOk_bd hp
  have HLT := Lib.hid h.lt
  have hc := h
  have hltc := h.lt
  clear h hS hp
  show Calls Try.prog 80 #[.pointer (some ⟨cb, 0, none⟩), .agg #[.int .i64 p.1, .slice p1 p.2.1.length k1, .slice p2 p.2.2.1.length k2, .slice p3 p.2.2.2.1.length k3, .slice p4 p.2.2.2.2.length k4]] w _
  go_enter Try.func80, Try.ntmps80
  have HBR := Lib.hid (show Blk (((w.alloc (.cells #[.int .i64 p.1, .slice p1 p.2.1.length k1, .slice p2 p.2.2.1.length k2, .slice p3 p.2.2.2.1.length k3, .slice p4 p.2.2.2.2.length k4] 34)).alloc (.cells #[.slice none 0 0, .slice none 0 0] 41)).alloc (.cells #[.slice none 0 0, .slice none 0 0] 41)) (w.heap.size + 1) 41 [.slice none 0 0, .slice none 0 0] from (Blk.new' (w := w.alloc (.cells #[.int .i64 p.1, .slice p1 p.2.1.length k1, .slice p2 p.2.2.1.length k2, .slice p3 p.2.2.2.1.length k3, .slice p4 p.2.2.2.2.length k4] 34)) [.slice none 0 0, .slice none 0 0] (by simp)).alloc _)
  have HBS := Lib.hid (show Blk (((w.alloc (.cells #[.int .i64 p.1, .slice p1 p.2.1.length k1, .slice p2 p.2.2.1.length k2, .slice p3 p.2.2.2.1.length k3, .slice p4 p.2.2.2.2.length k4] 34)).alloc (.cells #[.slice none 0 0, .slice none 0 0] 41)).alloc (.cells #[.slice none 0 0, .slice none 0 0] 41)) (w.heap.size + 1 + 1) 41 [.slice none 0 0, .slice none 0 0] from Blk.new' _ (by simp))
  obtain ⟨W0, hW0⟩ : ∃ W, W = ((w.alloc (.cells #[.int .i64 p.1, .slice p1 p.2.1.length k1, .slice p2 p.2.2.1.length k2, .slice p3 p.2.2.2.1.length k3, .slice p4 p.2.2.2.2.length k4] 34)).alloc (.cells #[.slice none 0 0, .slice none 0 0] 41)).alloc (.cells #[.slice none 0 0, .slice none 0 0] 41) := ⟨_, rfl⟩
  rw [← hW0] at HBR HBS
  have hB0 : Bel w W0 := by rw [hW0]; (repeat (first | assumption | exact Bel.refl _ | apply Bel.drewN | apply Bel.drew | apply Bel.alloc | refine Bel.trans ?_ (by assumption)))
  have hsz0 : W0.heap.size = w.heap.size + 3 := by rw [hW0]; simp
  have HZ := Lib.hid (show w.heap.size + 1 + 1 + 1 ≤ W0.heap.size from by omega)
  have HW0 := Lib.hid hW0
  have hcW := hc.bel hB0
  have hdW : Dr cb w W0 := Dr.ofBel hB0
  clear hsz0 hW0 hc
  go_wp2_with fail
  rw [← HW0.out]
  go_loopw [6, 8, 9, 14] (fun a _ _ i wr => ∃ (k : Nat) (X Y : List Int) (at_ : Int) (st : StT) (q1 : Option Addr) (c1 : Nat) (q2 : Option Addr) (c2 : Nat), k ≤ p.2.1.length ∧ i = .int .i64 k ∧ a = .int .i64 at_ ∧ X.length = k ∧ Y.length = k ∧ 0 ≤ at_ ∧ at_ ≤ 5 * k ∧ Blk wr (w.heap.size + 1 + 1) 41 [.slice q1 X.length c1, .slice q2 Y.length c2] ∧ Blk wr (w.heap.size + 1) 41 [.slice none 0 0, .slice none 0 0] ∧ Own (fun _ => False) 1 intR 3 (w.heap.size + 1 + 1 + 1) wr q1 c1 X ∧ Own (fun _ => False) 1 intR 3 (w.heap.size + 1 + 1 + 1) wr q2 c2 Y ∧ Apart q1 q2 ∧ Cur wr cb C st ∧ schTo C (p.2.1.drop k) at_ X Y st = schV C p s ∧ Dr cb w wr) (fun _ _ _ i _ => p.2.1.length - (intOf i).toNat)
  case atStart => exact ⟨0, [], [], 0, s, none, 0, none, 0, Nat.zero_le _, rfl, rfl, rfl, rfl, Int.le_refl _, by omega, HBS.out, HBR.out, Own.nil _, Own.nil _, (fun _ _ h _ => by cases h), hcW, rfl, hdW⟩
  case round =>
    clear hcW hdW hB0
    obtain ⟨k, X, Y, at_, st, q1, c1, q2, c2, hk, rfl, rfl, hxl, hyl, hat0, hat1, hbs, hbr, hO1, hO2, hap, hc, heq, hd⟩ := hrel
    have HBSr := Lib.hid hbs
    have HBRr := Lib.hid hbr
    have HEQ := Lib.hid heq
    have HXL := Lib.hid hxl
    have HYL := Lib.hid hyl
    have hwsz := hd.size
    have hbsl := hbs.lt
    have hle1 := hO1.le
    have hle2 := hO2.le
    unfold maxLen at hle1 hle2
    clear hbs hbr heq hxl hyl
    by_cases hlt : k < p.2.1.length
    · skip
      obtain ⟨ab, ao, acs, rfl, hSab, arow, ael⟩ := sliceR_atS zAct Q1.out hlt
      obtain ⟨ac2, rfl, aq0, aq1, aq2⟩ := actR_open ael
      have hml := projOk_modes HPO.out hlt
      have HDC := Lib.hid (drop_cons p.2.1 zAct hlt)
      generalize p.2.1.getD k zAct = XA at *
      obtain ⟨am, amk, rfl, aml, aml', -⟩ := sliceR_open aq2
      unfold maxLen at aml'
      have hSb := HS.out _ hSab
      have e0 := hd.cell (arow 0 (by simp)).1 hSb.2
      have e1 := hd.cell (arow 1 (by simp)).1 hSb.2
      have e2 := hd.cell (arow 2 (by simp)).1 hSb.2
      simp only [List.getElem_cons_zero, List.getElem_cons_succ, Nat.add_zero] at e0 e1 e2
      clear arow ael aq0 aq1 aq2
      have HEQ := Lib.hid (show schTo C (p.2.1.drop (k + 1)) (at_ + (schD C XA at_ st).1) (X ++ [(schN C at_ st).1]) (Y ++ [(schM C XA at_ st).1]) (schD C XA at_ st).2 = schV C p s from by rw [← HEQ.out, HDC.out]; rfl)
      obtain ⟨w0, hw0⟩ : ∃ W, W = wr := ⟨wr, rfl⟩
      subst hw0
      obtain ⟨BA, hBA⟩ : ∃ n, n = w0.heap.size := ⟨_, rfl⟩
      obtain ⟨W1, hW1⟩ : ∃ W, W = w0.alloc (.cells #[.string XA.1, .int .i64 XA.2.1, .slice am XA.2.2.length amk] 75) := ⟨_, rfl⟩
      have HBA := Lib.hid (show Blk W1 BA 75 [.string XA.1, .int .i64 XA.2.1, .slice am XA.2.2.length amk] from by rw [hW1]; exact Blk.new' _ hBA)
      have hcW := hc.bel (w' := W1) (by rw [hW1]; (repeat (first | assumption | exact Bel.refl _ | apply Bel.drewN | apply Bel.drew | apply Bel.alloc | refine Bel.trans ?_ (by assumption))))
      have hdW : Dr cb w0 W1 := by rw [hW1]; exact (Dr.refl _ _).alloc _
      have hBAs : w0.heap.size ≤ BA ∧ BA ≤ w0.heap.size := by rw [hBA]; exact ⟨Nat.le_refl _, Nat.le_refl _⟩
      have HW1 := Lib.hid hW1
      have HBAQ := Lib.hid hBA
      have hki : (k : Int) < (p.2.1.length : Int) := by omega
      clear hBA hW1 hc
      go_wp2_with fail
      rw [← HW1.out, ← HBAQ.out]
      refine (l01Once_any cb C st 3 _ hcW (by omega)).mono ?_
      rintro e w4 ⟨rfl, hc4, hd4⟩
      have HBA4 := Lib.hid (HBA.out.dr hd4 (by omega))
      have hd04 := hdW.trans hd4
      clear hcW hdW hd4
      go_upto_if 20 with (fail)
      go_cut [9] (fun s9 wx => s9 = .int .i64 (schN C at_ st).1 ∧ Cur wx cb C (schN C at_ st).2 ∧ Dr cb w0 wx ∧ Blk wx BA 75 [.string XA.1, .int .i64 XA.2.1, .slice am XA.2.2.length amk])
      case first =>
        cases ho : (onceV C 3 st).1
        · have HRV := Lib.hid (show schN C at_ st = (at_, (onceV C 3 st).2) from by unfold schN; rw [ho]; rfl)
          go_wp2_with fail
          go_meet
          exact ⟨by rw [HRV.out], by rw [HRV.out]; exact hc4, hd04, HBA4.out⟩
        · have HRV := Lib.hid (show schN C at_ st = belowV C 12 (onceV C 3 st).2 from by unfold schN; rw [ho]; rfl)
          go_wp2_with fail
          refine (l01Below_any cb C _ 12 _ hc4 (by omega)).mono ?_
          rintro e w5 ⟨rfl, hc5, hd5⟩
          have HBA5 := Lib.hid (HBA4.out.dr hd5 (by omega))
          have HC5 := Lib.hid hc5
          have HD5 := Lib.hid (hd04.trans hd5)
          clear hc5 hd5
          go_wp2_with fail
          go_meet
          exact ⟨by rw [HRV.out], by rw [HRV.out]; exact HC5.out, HD5.out, HBA5.out⟩
      case rest =>
        obtain ⟨rfl, hc9, hd9, hba9⟩ := hcut
        have HC9 := Lib.hid hc9
        have HBA9 := Lib.hid hba9
        have HD9 := Lib.hid (hd.trans hd9)
        have HI9 := Lib.hid (show Hi (w.heap.size + 1 + 1 + 1) w0 wc from Hi.ofDr hd9 (by omega))
        have HBS9 := Lib.hid (HBSr.out.dr hd9 (by omega))
        have HBR9 := Lib.hid (HBRr.out.dr hd9 (by omega))
        have hzwc := hd9.size
        have hbal := HBA9.out.lt
        have HNI := Lib.hid (show I64 (schN C at_ st).1 from by
          unfold schN
          split
          · have := belowV_in C 12 (onceV C 3 st).2 (by decide)
            unfold I64; omega
          · unfold I64; simp only; omega)
        have s0 := HBS9.out.cellv (j := 0) (by simp)
        simp only [List.getElem_cons_zero] at s0
        have HO1 := Lib.hid hO1
        have hap := hap
        clear hc9 hd9 hba9 hc4 hd04
        go_wp2_with ((at_builtin; refine wpList_appG (n := 1) intR_good _ rfl _ _ 25 rfl (.int .i64 0) 8 Try.underlying25 (by kernel_rfl) rfl (by decide) (by decide) q1 c1 X ((schN C at_ st).1) rfl (hO1.hi intR_good (HI9.out.trans (Hi.ofBel (by (repeat (first | assumption | exact Bel.refl _ | apply Bel.drewN | apply Bel.drew | apply Bel.alloc | refine Bel.trans ?_ (by assumption)))))) (fun _ h => h.elim)) _ 1 [.int .i64 (schN C at_ st).1] rfl rfl (World.news_of_block (alloc_at (by first | rfl | (simp; done) | (simp; omega)))) (by intro u hu; simp at hu; subst hu; rfl) (intRep HNI.out) (by have := HXL.out; omega) (by first | omega | (simp; omega)) ?_; intro qx cx wA hOA hBA hFA; have HX1 := Lib.hid hOA; have hfarB := fun (b : Nat) (hb : b < wc.heap.size) (hq : ∀ a, q1 = some a → b ≠ a.block) => (hFA b (by simp; omega) hq); have HY1 := Lib.hid (((hO2.hi intR_good HI9.out (fun _ h => h.elim)).row intR_good (w' := wA) (fun a ha => ((hFA a.block (by have := (hO2.lt ha).2; have := HI9.out.1; simp; omega) (fun a' ha' hh => hap a' a ha' ha hh.symm)).1).trans (((Bel.refl wc).alloc (.cells #[.int .i64 (schN C at_ st).1] 3)).block (by have := (hO2.lt ha).2; have := HI9.out.1; omega))))); have HAP1 := Lib.hid (show Apart qx q2 from fun a b ha hb hh => by have h1 := hfarB b.block (by have := (hO2.lt hb).2; have := HI9.out.1; omega) (fun a' ha' hh' => hap a' b ha' hb hh'.symm); exact h1.2 a ha hh.symm); have HBSx := Lib.hid ((HBS9.out.alloc (.cells #[.int .i64 (schN C at_ st).1] 3)).below hBA (by omega)); have HBRx := Lib.hid ((HBR9.out.alloc (.cells #[.int .i64 (schN C at_ st).1] 3)).below hBA (by omega)); have HBAx := Lib.hid (show Blk wA BA 75 [.string XA.1, .int .i64 XA.2.1, .slice am XA.2.2.length amk] from (by have h1 := hfarB BA (by have := HBA9.out.lt; omega) (fun a ha hh => by have := (hO1.lt ha).2; omega); have h2 := (HBA9.out.alloc (.cells #[.int .i64 (schN C at_ st).1] 3)); unfold Blk at h2 ⊢; rw [h1.1]; exact h2)); have hCA := Lib.hid ((HC9.out.bel (w' := wc.alloc (.cells #[.int .i64 (schN C at_ st).1] 3)) (by (repeat (first | assumption | exact Bel.refl _ | apply Bel.drewN | apply Bel.drew | apply Bel.alloc | refine Bel.trans ?_ (by assumption))))).below hBA (by omega)); have hDA := Lib.hid ((HD9.out.alloc (.cells #[.int .i64 (schN C at_ st).1] 3)).below' hBA (by omega)); have hzA : wc.heap.size ≤ wA.heap.size := (by have := hBA.size; (try simp only [World.size_alloc] at this); omega); have sx0 := HBSx.out.cellv (j := 0) (by simp); have fsx0 := HBSx.out.frozen 0; simp only [List.getElem_cons_zero] at sx0; clear hOA hBA hFA hfarB))
        have HBSW := Lib.hid (show Blk (wA.setCell ⟨w.heap.size + 1 + 1, 0, none⟩ (.slice qx (X.length + 1) cx)) (w.heap.size + 1 + 1) 41 [.slice qx (X.length + 1) cx, .slice q2 Y.length c2] from HBSx.out.set 0 (.slice qx (X.length + 1) cx))
        have HBRW := Lib.hid (HBRx.out.setAt (q := w.heap.size + 1 + 1) (by omega) 0 (.slice qx (X.length + 1) cx))
        have HBAW := Lib.hid (HBAx.out.setAt (q := w.heap.size + 1 + 1) (by omega) 0 (.slice qx (X.length + 1) cx))
        have HCW := Lib.hid (hCA.out.below ((Below.refl (w.heap.size + 1 + 1) wA).setCell (p := ⟨w.heap.size + 1 + 1, 0, none⟩) (Nat.le_refl _) (.slice qx (X.length + 1) cx)) (by omega))
        have HDW := Lib.hid (hDA.out.set (q := w.heap.size + 1 + 1) (j := 0) (.slice qx (X.length + 1) cx) (by omega))
        have hiS := ((Hi.refl (w.heap.size + 1 + 1 + 1) wA).set (j := 0) (.slice qx (X.length + 1) cx) (q := w.heap.size + 1 + 1) (.inl (by omega)))
        have HXW := Lib.hid (HX1.out.hi intR_good hiS (fun _ h => h.elim))
        have HYW := Lib.hid (HY1.out.hi intR_good hiS (fun _ h => h.elim))
        have HAPW := Lib.hid HAP1.out
        have HBAY := Lib.hid (show ∀ a, q2 = some a → BA ≠ a.block from fun a ha => by have := (hO2.lt ha).2; omega)
        have hzWW : wA.heap.size ≤ (wA.setCell ⟨w.heap.size + 1 + 1, 0, none⟩ (.slice qx (X.length + 1) cx)).heap.size := hiS.1
        generalize wA.setCell ⟨w.heap.size + 1 + 1, 0, none⟩ (.slice qx (X.length + 1) cx) = WW at *
        have bm := belowV_in C (XA.2.2.length : Int) (schN C at_ st).2 (by omega)
        have HMI := Lib.hid (show I64 (schM C XA at_ st).1 from by unfold schM I64; omega)
        have s1 := HBSW.out.cellv (j := 1) (by simp)
        have s2 := HBAW.out.cellv (j := 2) (by simp)
        simp only [List.getElem_cons_zero, List.getElem_cons_succ] at s1 s2
        have t1 := s1
        have hszW := HDW.out.size
        have HXLq := HXL
        clear sx0 fsx0 e0 e1 e2 s0 hiS
        refine wp_region_held_drew (S := (fun W => W.cell? ⟨BA, 2, none⟩ = some (.slice am XA.2.2.length amk))) (by kernel_rfl) ?_ (fun hHeld => ?_)
        · ((try dsimp only); (first | exact s2 | exact u2 | exact ((Bel.refl _).alloc _).cell u2 | exact v2 | exact (Dr.put (Dr.refl _ _) _ _).cell v2 (by omega)))
        refine wpAnyH_take (i := 0) (v := ?_) rfl (by kernel_rfl) (by kernel_rfl) (by kernel_rfl) (fun _ _ _ h => h) (Or.inl ⟨by rfl, ?_⟩) (by assumption) ?_
        rotate_left
        · (intro w hSw; (try dsimp only at hSw); go_simp <;> with_reducible rfl)
        try walk_nrm
        refine wpAnyH_take (i := 2) (v := ?_) rfl (by kernel_rfl) (by kernel_rfl) (by kernel_rfl) (fun _ _ _ h => h) (Or.inl ⟨by rfl, ?_⟩) (by assumption) ?_
        rotate_left
        · (intro w hSw; (try dsimp only at hSw); go_simp <;> with_reducible rfl)
        try walk_nrm
        refine wpAnyH_take (i := 3) (v := ?_) rfl (by kernel_rfl) (by kernel_rfl) (by kernel_rfl) (fun _ _ _ h => h) (Or.inl ⟨by rfl, ?_⟩) (by assumption) ?_
        rotate_left
        · (intro w hSw; (try dsimp only at hSw); go_simp <;> with_reducible rfl)
        try walk_nrm
        refine wpAnyH_take (i := 4) (v := ?_) rfl (by kernel_rfl) (by kernel_rfl) (by kernel_rfl) (fun _ _ _ h => h) (Or.inl ⟨by rfl, ?_⟩) (by assumption) ?_
        rotate_left
        · (intro w hSw; (try dsimp only at hSw); go_simp <;> with_reducible rfl)
        try walk_nrm
        refine wpAnyH_take (i := 5) (v := ?_) rfl (by kernel_rfl) (by kernel_rfl) (by kernel_rfl) (fun _ _ _ h => h) (Or.inl ⟨by rfl, ?_⟩) (by assumption) ?_
        rotate_left
        · (intro w hSw; (try dsimp only at hSw); go_simp <;> with_reducible rfl)
        try walk_nrm
        refine wpAnyH_ready (rs := [1, 6]) (by kernel_rfl) (by simp) ?_
        refine AllReadyH.cons rfl (fun K hK => ?_) ?_
        · go_simp
          refine hK.out _ _ ?_ (fun hHeld => ?_)
          · ((try dsimp only); (first | exact s2 | exact u2 | exact ((Bel.refl _).alloc _).cell u2 | exact v2 | exact (Dr.put (Dr.refl _ _) _ _).cell v2 (by omega)))
          clear hK K
          try walk_nrm
          refine wpAnyH_ready (rs := [6]) (by kernel_rfl) (by simp) ?_
          refine AllReadyH.cons rfl (fun K hK => ?_) AllReadyH.nil
          · go_simp
            (go_at_call 139; (with_reducible refine (l01Below_any cb C (schN C at_ st).2 XA.2.2.length _ (HCW.out.bel (by (repeat (first | assumption | exact Bel.refl _ | apply Bel.drewN | apply Bel.drew | apply Bel.alloc | refine Bel.trans ?_ (by assumption))))) (by omega)).mono ?_); rintro e w5 ⟨rfl, hc5, hd5⟩; have hd5 := (Dr.ofBel (cb := cb) (a := WW) (by (repeat (first | assumption | exact Bel.refl _ | apply Bel.drewN | apply Bel.drew | apply Bel.alloc | refine Bel.trans ?_ (by assumption))))).trans hd5; have HBS5 := Lib.hid (HBSW.out.dr hd5 (by omega)); have HBA5 := Lib.hid (HBAW.out.dr hd5 (by omega)); have t1 := HBS5.out.cellv (j := 1) (by simp); have u2 := HBA5.out.cellv (j := 2) (by simp); simp only [List.getElem_cons_zero, List.getElem_cons_succ] at t1 u2; have s1 := t1; have s1a := fun o => ((Bel.refl w5).alloc o).cell t1; have hi5 := Hi.ofDr (B := w.heap.size + 1 + 1 + 1) hd5 (by omega); have hz5 := hd5.size; have HC5 := Lib.hid hc5; clear hc5)
            try go_wp2_with fail
            refine hK.out _ _ ?_ (fun hHeld => ?_)
            · ((try dsimp only); (first | exact s2 | exact u2 | exact ((Bel.refl _).alloc _).cell u2 | exact v2 | exact (Dr.put (Dr.refl _ _) _ _).cell v2 (by omega)))
            clear hK K
            try walk_nrm
            refine wpAnyH_ready (rs := [7]) (by kernel_rfl) (by simp) ?_
            refine AllReadyH.cons rfl (fun K hK => ?_) AllReadyH.nil
            · go_simp
              refine hK.out _ _ ?_ (fun hHeld => ?_)
              · ((try dsimp only); (first | exact s2 | exact u2 | exact ((Bel.refl _).alloc _).cell u2 | exact v2 | exact (Dr.put (Dr.refl _ _) _ _).cell v2 (by omega)))
              clear hK K
              try walk_nrm
              refine wpAnyH_ready (rs := [8]) (by kernel_rfl) (by simp) ?_
              refine AllReadyH.cons rfl (fun K hK => ?_) AllReadyH.nil
              · (refine step_appG (o := ⟨some 37, _, _, _, _, _⟩) (n := 1) intR_good _ (by rfl) _ _ 25 (by rfl) (.int .i64 0) 8 Try.underlying25 (by kernel_rfl) rfl (by decide) (by decide) q2 c2 Y ((schM C XA at_ st).1) (by rfl) (HYW.out.hi intR_good (hi5.trans (Hi.ofBel (by (repeat (first | assumption | exact Bel.refl _ | apply Bel.drewN | apply Bel.drew | apply Bel.alloc | refine Bel.trans ?_ (by assumption)))))) (fun _ h => h.elim)) _ 1 [.int .i64 (schM C XA at_ st).1] (by rfl) rfl (World.news_of_block (alloc_at (by first | rfl | (simp; done) | (simp; omega)))) (by intro u hu; simp at hu; subst hu; rfl) (intRep HMI.out) (by have := HYL.out; omega) (by first | omega | (simp; omega)) ?_; intro q' cap' wA hOA hBA hFA; have HY2 := Lib.hid hOA; have HX2 := Lib.hid (((HXW.out.hi intR_good hi5 (fun _ h => h.elim)).row intR_good (w' := wA) (fun a ha => ((hFA a.block (by have := (HXW.out.lt ha).2; simp; omega) (fun a' ha' hh => HAPW.out a a' ha ha' hh)).1).trans (((Bel.refl w5).alloc (.cells #[.int .i64 (schM C XA at_ st).1] 3)).block (by have := (HXW.out.lt ha).2; omega))))); have HAP2 := Lib.hid (show Apart qx q' from fun a b ha hb hh => (hFA a.block (by have := (HXW.out.lt ha).2; simp; omega) (fun a' ha' hh' => HAPW.out a a' ha ha' hh')).2 b hb hh); have HBSx := Lib.hid ((HBS5.out.alloc (.cells #[.int .i64 (schM C XA at_ st).1] 3)).below hBA (by omega)); have HBRx := Lib.hid (((HBRW.out.dr hd5 (by omega)).alloc (.cells #[.int .i64 (schM C XA at_ st).1] 3)).below hBA (by omega)); have v2 := (show wA.cell? ⟨BA, 2, none⟩ = some (.slice am XA.2.2.length amk) from (by have h1 := hFA BA (by have := HBA5.out.lt; simp; omega) (fun a ha hh => HBAY.out a ha hh); have h2 := (HBA5.out.alloc (.cells #[.int .i64 (schM C XA at_ st).1] 3)); rw [World.cell?_of_block (w := w5.alloc (.cells #[.int .i64 (schM C XA at_ st).1] 3)) (a := ⟨BA, 2, none⟩) h1.1]; exact (by have := h2.cellv (j := 2) (by simp); simpa using this))); have sx1 := HBSx.out.cellv (j := 1) (by simp); have fsx1 := HBSx.out.frozen 1; simp only [List.getElem_cons_zero, List.getElem_cons_succ] at sx1; have hCA := Lib.hid ((HC5.out.bel (w' := w5.alloc (.cells #[.int .i64 (schM C XA at_ st).1] 3)) (by (repeat (first | assumption | exact Bel.refl _ | apply Bel.drewN | apply Bel.drew | apply Bel.alloc | refine Bel.trans ?_ (by assumption))))).below hBA (by omega)); have hDA := Lib.hid (((HDW.out.trans hd5).alloc (.cells #[.int .i64 (schM C XA at_ st).1] 3)).below' hBA (by omega)); have hzA := (show w5.heap.size ≤ wA.heap.size from (by have := hBA.size; (try simp only [World.size_alloc] at this); omega)); clear hOA hBA hFA)
                refine hK.out _ _ ?_ (fun hHeld => ?_)
                · ((try dsimp only); (first | exact s2 | exact u2 | exact ((Bel.refl _).alloc _).cell u2 | exact v2 | exact (Dr.put (Dr.refl _ _) _ _).cell v2 (by omega)))
                clear hK K
                try walk_nrm
                refine wpAnyH_take (i := 9) (v := ?_) rfl (by kernel_rfl) (by kernel_rfl) (by kernel_rfl) (fun _ _ _ h => h) (Or.inl ⟨by rfl, ?_⟩) (by assumption) ?_
                rotate_left
                · (intro w hSw; (try dsimp only at hSw); go_simp <;> with_reducible rfl)
                try walk_nrm
                refine wpAnyH_ready (rs := [10]) (by kernel_rfl) (by simp) ?_
                refine AllReadyH.cons rfl (fun K hK => ?_) AllReadyH.nil
                · go_simp
                  refine hK.out _ _ ?_ (fun hHeld => ?_)
                  · ((try dsimp only); (first | exact s2 | exact u2 | exact ((Bel.refl _).alloc _).cell u2 | exact v2 | exact (Dr.put (Dr.refl _ _) _ _).cell v2 (by omega)))
                  clear hK K
                  try walk_nrm
                  refine wpAnyH_done (by kernel_rfl) ?_ _
                  go_wp2_with fail
                  refine (l01Below_any cb C (schM C XA at_ st).2 5 _ (hCA.out.below ((Below.refl (w.heap.size + 1 + 1) wA).setCell (Nat.le_refl _) _) (by omega)) (by omega)).mono ?_
                  rintro e w6 ⟨rfl, hc6, hd6⟩
                  have HC6 := Lib.hid hc6
                  have HBS6 := Lib.hid ((HBSx.out.set 1 (.slice q' (Y.length + 1) cap')).dr hd6 (by omega))
                  have HBR6 := Lib.hid ((HBRx.out.setAt (q := w.heap.size + 1 + 1) (by omega) 1 (.slice q' (Y.length + 1) cap')).dr hd6 (by omega))
                  have HI6 := Lib.hid (((Hi.refl (w.heap.size + 1 + 1 + 1) wA).set (j := 1) (.slice q' (Y.length + 1) cap') (q := w.heap.size + 1 + 1) (.inl (by omega))).trans (Hi.ofDr hd6 (by omega)))
                  have HX6 := Lib.hid (HX2.out.hi intR_good HI6.out (fun _ h => h.elim))
                  have HY6 := Lib.hid (HY2.out.hi intR_good HI6.out (fun _ h => h.elim))
                  have HD6 := Lib.hid ((hDA.out.set (q := w.heap.size + 1 + 1) (j := 1) (.slice q' (Y.length + 1) cap') (by omega)).trans hd6)
                  have b5 := belowV_in C 5 (schM C XA at_ st).2 (by decide)
                  have hwa : IntKind.i64.wrap (at_ + (belowV C 5 (schM C XA at_ st).2).1) = at_ + (belowV C 5 (schM C XA at_ st).2).1 := IntWalk.i64_in _ (by omega)
                  have HSD := Lib.hid (show schD C XA at_ st = belowV C 5 (schM C XA at_ st).2 from rfl)
                  clear hc6 hd6
                  go_wp2_with fail
                  go_roundw
                  case rel => exact ⟨k + 1, X ++ [(schN C at_ st).1], Y ++ [(schM C XA at_ st).1], at_ + (schD C XA at_ st).1, (schD C XA at_ st).2, qx, cx, q', cap', by omega, by go_num, by rw [HSD.out], by simp [HXL.out], by simp [HYL.out], by rw [HSD.out]; omega, by rw [HSD.out]; omega, by rw [List.length_append, List.length_append]; exact HBS6.out, HBR6.out, by exact HX6.out, by exact HY6.out, HAP2.out, by rw [HSD.out]; exact HC6.out, HEQ.out, HD6.out⟩
                  case measure => (simp [intOf] <;> omega)
        refine AllReadyH.cons rfl (fun K hK => ?_) AllReadyH.nil
        · go_simp
          (go_at_call 139; (with_reducible refine (l01Below_any cb C (schN C at_ st).2 XA.2.2.length _ (HCW.out.bel (by (repeat (first | assumption | exact Bel.refl _ | apply Bel.drewN | apply Bel.drew | apply Bel.alloc | refine Bel.trans ?_ (by assumption))))) (by omega)).mono ?_); rintro e w5 ⟨rfl, hc5, hd5⟩; have hd5 := (Dr.ofBel (cb := cb) (a := WW) (by (repeat (first | assumption | exact Bel.refl _ | apply Bel.drewN | apply Bel.drew | apply Bel.alloc | refine Bel.trans ?_ (by assumption))))).trans hd5; have HBS5 := Lib.hid (HBSW.out.dr hd5 (by omega)); have HBA5 := Lib.hid (HBAW.out.dr hd5 (by omega)); have t1 := HBS5.out.cellv (j := 1) (by simp); have u2 := HBA5.out.cellv (j := 2) (by simp); simp only [List.getElem_cons_zero, List.getElem_cons_succ] at t1 u2; have s1 := t1; have s1a := fun o => ((Bel.refl w5).alloc o).cell t1; have hi5 := Hi.ofDr (B := w.heap.size + 1 + 1 + 1) hd5 (by omega); have hz5 := hd5.size; have HC5 := Lib.hid hc5; clear hc5)
          try go_wp2_with fail
          refine hK.out _ _ ?_ (fun hHeld => ?_)
          · ((try dsimp only); (first | exact s2 | exact u2 | exact ((Bel.refl _).alloc _).cell u2 | exact v2 | exact (Dr.put (Dr.refl _ _) _ _).cell v2 (by omega)))
          clear hK K
          try walk_nrm
          refine wpAnyH_ready (rs := [1, 7]) (by kernel_rfl) (by simp) ?_
          refine AllReadyH.cons rfl (fun K hK => ?_) ?_
          · go_simp
            refine hK.out _ _ ?_ (fun hHeld => ?_)
            · ((try dsimp only); (first | exact s2 | exact u2 | exact ((Bel.refl _).alloc _).cell u2 | exact v2 | exact (Dr.put (Dr.refl _ _) _ _).cell v2 (by omega)))
            clear hK K
            try walk_nrm
            refine wpAnyH_ready (rs := [7]) (by kernel_rfl) (by simp) ?_
            refine AllReadyH.cons rfl (fun K hK => ?_) AllReadyH.nil
            · go_simp
              refine hK.out _ _ ?_ (fun hHeld => ?_)
              · ((try dsimp only); (first | exact s2 | exact u2 | exact ((Bel.refl _).alloc _).cell u2 | exact v2 | exact (Dr.put (Dr.refl _ _) _ _).cell v2 (by omega)))
              clear hK K
              try walk_nrm
              refine wpAnyH_ready (rs := [8]) (by kernel_rfl) (by simp) ?_
              refine AllReadyH.cons rfl (fun K hK => ?_) AllReadyH.nil
              · (refine step_appG (o := ⟨some 37, _, _, _, _, _⟩) (n := 1) intR_good _ (by rfl) _ _ 25 (by rfl) (.int .i64 0) 8 Try.underlying25 (by kernel_rfl) rfl (by decide) (by decide) q2 c2 Y ((schM C XA at_ st).1) (by rfl) (HYW.out.hi intR_good (hi5.trans (Hi.ofBel (by (repeat (first | assumption | exact Bel.refl _ | apply Bel.drewN | apply Bel.drew | apply Bel.alloc | refine Bel.trans ?_ (by assumption)))))) (fun _ h => h.elim)) _ 1 [.int .i64 (schM C XA at_ st).1] (by rfl) rfl (World.news_of_block (alloc_at (by first | rfl | (simp; done) | (simp; omega)))) (by intro u hu; simp at hu; subst hu; rfl) (intRep HMI.out) (by have := HYL.out; omega) (by first | omega | (simp; omega)) ?_; intro q' cap' wA hOA hBA hFA; have HY2 := Lib.hid hOA; have HX2 := Lib.hid (((HXW.out.hi intR_good hi5 (fun _ h => h.elim)).row intR_good (w' := wA) (fun a ha => ((hFA a.block (by have := (HXW.out.lt ha).2; simp; omega) (fun a' ha' hh => HAPW.out a a' ha ha' hh)).1).trans (((Bel.refl w5).alloc (.cells #[.int .i64 (schM C XA at_ st).1] 3)).block (by have := (HXW.out.lt ha).2; omega))))); have HAP2 := Lib.hid (show Apart qx q' from fun a b ha hb hh => (hFA a.block (by have := (HXW.out.lt ha).2; simp; omega) (fun a' ha' hh' => HAPW.out a a' ha ha' hh')).2 b hb hh); have HBSx := Lib.hid ((HBS5.out.alloc (.cells #[.int .i64 (schM C XA at_ st).1] 3)).below hBA (by omega)); have HBRx := Lib.hid (((HBRW.out.dr hd5 (by omega)).alloc (.cells #[.int .i64 (schM C XA at_ st).1] 3)).below hBA (by omega)); have v2 := (show wA.cell? ⟨BA, 2, none⟩ = some (.slice am XA.2.2.length amk) from (by have h1 := hFA BA (by have := HBA5.out.lt; simp; omega) (fun a ha hh => HBAY.out a ha hh); have h2 := (HBA5.out.alloc (.cells #[.int .i64 (schM C XA at_ st).1] 3)); rw [World.cell?_of_block (w := w5.alloc (.cells #[.int .i64 (schM C XA at_ st).1] 3)) (a := ⟨BA, 2, none⟩) h1.1]; exact (by have := h2.cellv (j := 2) (by simp); simpa using this))); have sx1 := HBSx.out.cellv (j := 1) (by simp); have fsx1 := HBSx.out.frozen 1; simp only [List.getElem_cons_zero, List.getElem_cons_succ] at sx1; have hCA := Lib.hid ((HC5.out.bel (w' := w5.alloc (.cells #[.int .i64 (schM C XA at_ st).1] 3)) (by (repeat (first | assumption | exact Bel.refl _ | apply Bel.drewN | apply Bel.drew | apply Bel.alloc | refine Bel.trans ?_ (by assumption))))).below hBA (by omega)); have hDA := Lib.hid (((HDW.out.trans hd5).alloc (.cells #[.int .i64 (schM C XA at_ st).1] 3)).below' hBA (by omega)); have hzA := (show w5.heap.size ≤ wA.heap.size from (by have := hBA.size; (try simp only [World.size_alloc] at this); omega)); clear hOA hBA hFA)
                refine hK.out _ _ ?_ (fun hHeld => ?_)
                · ((try dsimp only); (first | exact s2 | exact u2 | exact ((Bel.refl _).alloc _).cell u2 | exact v2 | exact (Dr.put (Dr.refl _ _) _ _).cell v2 (by omega)))
                clear hK K
                try walk_nrm
                refine wpAnyH_take (i := 9) (v := ?_) rfl (by kernel_rfl) (by kernel_rfl) (by kernel_rfl) (fun _ _ _ h => h) (Or.inl ⟨by rfl, ?_⟩) (by assumption) ?_
                rotate_left
                · (intro w hSw; (try dsimp only at hSw); go_simp <;> with_reducible rfl)
                try walk_nrm
                refine wpAnyH_ready (rs := [10]) (by kernel_rfl) (by simp) ?_
                refine AllReadyH.cons rfl (fun K hK => ?_) AllReadyH.nil
                · go_simp
                  refine hK.out _ _ ?_ (fun hHeld => ?_)
                  · ((try dsimp only); (first | exact s2 | exact u2 | exact ((Bel.refl _).alloc _).cell u2 | exact v2 | exact (Dr.put (Dr.refl _ _) _ _).cell v2 (by omega)))
                  clear hK K
                  try walk_nrm
                  refine wpAnyH_done (by kernel_rfl) ?_ _
                  go_wp2_with fail
                  refine (l01Below_any cb C (schM C XA at_ st).2 5 _ (hCA.out.below ((Below.refl (w.heap.size + 1 + 1) wA).setCell (Nat.le_refl _) _) (by omega)) (by omega)).mono ?_
                  rintro e w6 ⟨rfl, hc6, hd6⟩
                  have HC6 := Lib.hid hc6
                  have HBS6 := Lib.hid ((HBSx.out.set 1 (.slice q' (Y.length + 1) cap')).dr hd6 (by omega))
                  have HBR6 := Lib.hid ((HBRx.out.setAt (q := w.heap.size + 1 + 1) (by omega) 1 (.slice q' (Y.length + 1) cap')).dr hd6 (by omega))
                  have HI6 := Lib.hid (((Hi.refl (w.heap.size + 1 + 1 + 1) wA).set (j := 1) (.slice q' (Y.length + 1) cap') (q := w.heap.size + 1 + 1) (.inl (by omega))).trans (Hi.ofDr hd6 (by omega)))
                  have HX6 := Lib.hid (HX2.out.hi intR_good HI6.out (fun _ h => h.elim))
                  have HY6 := Lib.hid (HY2.out.hi intR_good HI6.out (fun _ h => h.elim))
                  have HD6 := Lib.hid ((hDA.out.set (q := w.heap.size + 1 + 1) (j := 1) (.slice q' (Y.length + 1) cap') (by omega)).trans hd6)
                  have b5 := belowV_in C 5 (schM C XA at_ st).2 (by decide)
                  have hwa : IntKind.i64.wrap (at_ + (belowV C 5 (schM C XA at_ st).2).1) = at_ + (belowV C 5 (schM C XA at_ st).2).1 := IntWalk.i64_in _ (by omega)
                  have HSD := Lib.hid (show schD C XA at_ st = belowV C 5 (schM C XA at_ st).2 from rfl)
                  clear hc6 hd6
                  go_wp2_with fail
                  go_roundw
                  case rel => exact ⟨k + 1, X ++ [(schN C at_ st).1], Y ++ [(schM C XA at_ st).1], at_ + (schD C XA at_ st).1, (schD C XA at_ st).2, qx, cx, q', cap', by omega, by go_num, by rw [HSD.out], by simp [HXL.out], by simp [HYL.out], by rw [HSD.out]; omega, by rw [HSD.out]; omega, by rw [List.length_append, List.length_append]; exact HBS6.out, HBR6.out, by exact HX6.out, by exact HY6.out, HAP2.out, by rw [HSD.out]; exact HC6.out, HEQ.out, HD6.out⟩
                  case measure => (simp [intOf] <;> omega)
          refine AllReadyH.cons rfl (fun K hK => ?_) AllReadyH.nil
          · go_simp
            refine hK.out _ _ ?_ (fun hHeld => ?_)
            · ((try dsimp only); (first | exact s2 | exact u2 | exact ((Bel.refl _).alloc _).cell u2 | exact v2 | exact (Dr.put (Dr.refl _ _) _ _).cell v2 (by omega)))
            clear hK K
            try walk_nrm
            refine wpAnyH_ready (rs := [1]) (by kernel_rfl) (by simp) ?_
            refine AllReadyH.cons rfl (fun K hK => ?_) AllReadyH.nil
            · go_simp
              refine hK.out _ _ ?_ (fun hHeld => ?_)
              · ((try dsimp only); (first | exact s2 | exact u2 | exact ((Bel.refl _).alloc _).cell u2 | exact v2 | exact (Dr.put (Dr.refl _ _) _ _).cell v2 (by omega)))
              clear hK K
              try walk_nrm
              refine wpAnyH_ready (rs := [8]) (by kernel_rfl) (by simp) ?_
              refine AllReadyH.cons rfl (fun K hK => ?_) AllReadyH.nil
              · (refine step_appG (o := ⟨some 37, _, _, _, _, _⟩) (n := 1) intR_good _ (by rfl) _ _ 25 (by rfl) (.int .i64 0) 8 Try.underlying25 (by kernel_rfl) rfl (by decide) (by decide) q2 c2 Y ((schM C XA at_ st).1) (by rfl) (HYW.out.hi intR_good (hi5.trans (Hi.ofBel (by (repeat (first | assumption | exact Bel.refl _ | apply Bel.drewN | apply Bel.drew | apply Bel.alloc | refine Bel.trans ?_ (by assumption)))))) (fun _ h => h.elim)) _ 1 [.int .i64 (schM C XA at_ st).1] (by rfl) rfl (World.news_of_block (alloc_at (by first | rfl | (simp; done) | (simp; omega)))) (by intro u hu; simp at hu; subst hu; rfl) (intRep HMI.out) (by have := HYL.out; omega) (by first | omega | (simp; omega)) ?_; intro q' cap' wA hOA hBA hFA; have HY2 := Lib.hid hOA; have HX2 := Lib.hid (((HXW.out.hi intR_good hi5 (fun _ h => h.elim)).row intR_good (w' := wA) (fun a ha => ((hFA a.block (by have := (HXW.out.lt ha).2; simp; omega) (fun a' ha' hh => HAPW.out a a' ha ha' hh)).1).trans (((Bel.refl w5).alloc (.cells #[.int .i64 (schM C XA at_ st).1] 3)).block (by have := (HXW.out.lt ha).2; omega))))); have HAP2 := Lib.hid (show Apart qx q' from fun a b ha hb hh => (hFA a.block (by have := (HXW.out.lt ha).2; simp; omega) (fun a' ha' hh' => HAPW.out a a' ha ha' hh')).2 b hb hh); have HBSx := Lib.hid ((HBS5.out.alloc (.cells #[.int .i64 (schM C XA at_ st).1] 3)).below hBA (by omega)); have HBRx := Lib.hid (((HBRW.out.dr hd5 (by omega)).alloc (.cells #[.int .i64 (schM C XA at_ st).1] 3)).below hBA (by omega)); have v2 := (show wA.cell? ⟨BA, 2, none⟩ = some (.slice am XA.2.2.length amk) from (by have h1 := hFA BA (by have := HBA5.out.lt; simp; omega) (fun a ha hh => HBAY.out a ha hh); have h2 := (HBA5.out.alloc (.cells #[.int .i64 (schM C XA at_ st).1] 3)); rw [World.cell?_of_block (w := w5.alloc (.cells #[.int .i64 (schM C XA at_ st).1] 3)) (a := ⟨BA, 2, none⟩) h1.1]; exact (by have := h2.cellv (j := 2) (by simp); simpa using this))); have sx1 := HBSx.out.cellv (j := 1) (by simp); have fsx1 := HBSx.out.frozen 1; simp only [List.getElem_cons_zero, List.getElem_cons_succ] at sx1; have hCA := Lib.hid ((HC5.out.bel (w' := w5.alloc (.cells #[.int .i64 (schM C XA at_ st).1] 3)) (by (repeat (first | assumption | exact Bel.refl _ | apply Bel.drewN | apply Bel.drew | apply Bel.alloc | refine Bel.trans ?_ (by assumption))))).below hBA (by omega)); have hDA := Lib.hid (((HDW.out.trans hd5).alloc (.cells #[.int .i64 (schM C XA at_ st).1] 3)).below' hBA (by omega)); have hzA := (show w5.heap.size ≤ wA.heap.size from (by have := hBA.size; (try simp only [World.size_alloc] at this); omega)); clear hOA hBA hFA)
                refine hK.out _ _ ?_ (fun hHeld => ?_)
                · ((try dsimp only); (first | exact s2 | exact u2 | exact ((Bel.refl _).alloc _).cell u2 | exact v2 | exact (Dr.put (Dr.refl _ _) _ _).cell v2 (by omega)))
                clear hK K
                try walk_nrm
                refine wpAnyH_take (i := 9) (v := ?_) rfl (by kernel_rfl) (by kernel_rfl) (by kernel_rfl) (fun _ _ _ h => h) (Or.inl ⟨by rfl, ?_⟩) (by assumption) ?_
                rotate_left
                · (intro w hSw; (try dsimp only at hSw); go_simp <;> with_reducible rfl)
                try walk_nrm
                refine wpAnyH_ready (rs := [10]) (by kernel_rfl) (by simp) ?_
                refine AllReadyH.cons rfl (fun K hK => ?_) AllReadyH.nil
                · go_simp
                  refine hK.out _ _ ?_ (fun hHeld => ?_)
                  · ((try dsimp only); (first | exact s2 | exact u2 | exact ((Bel.refl _).alloc _).cell u2 | exact v2 | exact (Dr.put (Dr.refl _ _) _ _).cell v2 (by omega)))
                  clear hK K
                  try walk_nrm
                  refine wpAnyH_done (by kernel_rfl) ?_ _
                  go_wp2_with fail
                  refine (l01Below_any cb C (schM C XA at_ st).2 5 _ (hCA.out.below ((Below.refl (w.heap.size + 1 + 1) wA).setCell (Nat.le_refl _) _) (by omega)) (by omega)).mono ?_
                  rintro e w6 ⟨rfl, hc6, hd6⟩
                  have HC6 := Lib.hid hc6
                  have HBS6 := Lib.hid ((HBSx.out.set 1 (.slice q' (Y.length + 1) cap')).dr hd6 (by omega))
                  have HBR6 := Lib.hid ((HBRx.out.setAt (q := w.heap.size + 1 + 1) (by omega) 1 (.slice q' (Y.length + 1) cap')).dr hd6 (by omega))
                  have HI6 := Lib.hid (((Hi.refl (w.heap.size + 1 + 1 + 1) wA).set (j := 1) (.slice q' (Y.length + 1) cap') (q := w.heap.size + 1 + 1) (.inl (by omega))).trans (Hi.ofDr hd6 (by omega)))
                  have HX6 := Lib.hid (HX2.out.hi intR_good HI6.out (fun _ h => h.elim))
                  have HY6 := Lib.hid (HY2.out.hi intR_good HI6.out (fun _ h => h.elim))
                  have HD6 := Lib.hid ((hDA.out.set (q := w.heap.size + 1 + 1) (j := 1) (.slice q' (Y.length + 1) cap') (by omega)).trans hd6)
                  have b5 := belowV_in C 5 (schM C XA at_ st).2 (by decide)
                  have hwa : IntKind.i64.wrap (at_ + (belowV C 5 (schM C XA at_ st).2).1) = at_ + (belowV C 5 (schM C XA at_ st).2).1 := IntWalk.i64_in _ (by omega)
                  have HSD := Lib.hid (show schD C XA at_ st = belowV C 5 (schM C XA at_ st).2 from rfl)
                  clear hc6 hd6
                  go_wp2_with fail
                  go_roundw
                  case rel => exact ⟨k + 1, X ++ [(schN C at_ st).1], Y ++ [(schM C XA at_ st).1], at_ + (schD C XA at_ st).1, (schD C XA at_ st).2, qx, cx, q', cap', by omega, by go_num, by rw [HSD.out], by simp [HXL.out], by simp [HYL.out], by rw [HSD.out]; omega, by rw [HSD.out]; omega, by rw [List.length_append, List.length_append]; exact HBS6.out, HBR6.out, by exact HX6.out, by exact HY6.out, HAP2.out, by rw [HSD.out]; exact HC6.out, HEQ.out, HD6.out⟩
                  case measure => (simp [intOf] <;> omega)
    · obtain rfl : p.2.1.length = k := by omega
      have HSV := Lib.hid (show schV C p s = ((X, Y), st) from by rw [← HEQ.out, List.drop_length]; rfl)
      have FX := Lib.hid (hO1.done (T := fun b => w.heap.size + 1 + 1 < b ∧ b < wr.heap.size) intR_good (fun _ h _ => h.elim) (fun b h1 h2 => ⟨by omega, h2⟩))
      have FY := Lib.hid (hO2.done (T := fun b => w.heap.size + 1 + 1 < b ∧ b < wr.heap.size) intR_good (fun _ h _ => h.elim) (fun b h1 h2 => ⟨by omega, h2⟩))
      have HC := Lib.hid hc
      have HD := Lib.hid hd
      have s0 := HBSr.out.cellv (j := 0) (by simp)
      have s1 := HBSr.out.cellv (j := 1) (by simp)
      simp only [List.getElem_cons_zero, List.getElem_cons_succ] at s0 s1
      have r0 := HBRr.out.cellv (j := 0) (by simp)
      have r1 := HBRr.out.cellv (j := 1) (by simp)
      simp only [List.getElem_cons_zero, List.getElem_cons_succ] at r0 r1
      have fr0 := HBRr.out.frozen 0
      have fr1 := HBRr.out.frozen 1
      clear hO1 hO2 hc hd
      go_wp2_with fail
      have HBW := Lib.hid (((Below.refl (w.heap.size + 1) wr).setCell (p := ⟨w.heap.size + 1, 0, none⟩) (Nat.le_refl _) (.slice q1 X.length c1)).setCell (p := ⟨w.heap.size + 1, 1, none⟩) (Nat.le_refl _) (.slice q2 Y.length c2))
      have HIF := Lib.hid (((Hi.refl (w.heap.size + 1 + 1) wr).set (q := w.heap.size + 1) (j := 0) (.slice q1 X.length c1) (.inl (by omega))).set (q := w.heap.size + 1) (j := 1) (.slice q2 Y.length c2) (.inl (by omega)))
      have HBF := Lib.hid ((HBRr.out.set 0 (.slice q1 X.length c1)).set 1 (.slice q2 Y.length c2))
      generalize ((wr.setCell ⟨w.heap.size + 1, 0, none⟩ (.slice q1 X.length c1)).setCell ⟨w.heap.size + 1, 1, none⟩ (.slice q2 Y.length c2)) = WF at *
      have c0 := HBF.out.cellv (j := 0) (by simp)
      have c1' := HBF.out.cellv (j := 1) (by simp)
      simp only [List.set_cons_zero, List.set_cons_succ, List.getElem_cons_zero, List.getElem_cons_succ] at c0 c1'
      have hz := HIF.out.1
      have GX := intsR_good.mono (intsR_good.stay FX.out (fun b hb => HIF.out.2 b (by have := hb.1; omega) hb.2)) (T := New w WF) (fun b hb => ⟨by have := hb.1; omega, by have := hb.2; omega⟩)
      have GY := intsR_good.mono (intsR_good.stay FY.out (fun b hb => HIF.out.2 b (by have := hb.1; omega) hb.2)) (T := New w WF) (fun b hb => ⟨by have := hb.1; omega, by have := hb.2; omega⟩)
      have HCW := HC.out.below HBW.out (by omega)
      have HDW := HD.out.below' HBW.out (by omega)
      clear HBF HBW HXL HYL
      exact bodyPost_ret (v := .agg #[.slice q1 X.length c1, .slice q2 Y.length c2]) (by simp [results, Try.results80, go_sem, c0, c1']) rfl ⟨[.slice q1 X.length c1, .slice q2 Y.length c2], rfl, by rw [HSV.out]; exact ⟨_, _, rfl, GX, GY⟩, by rw [HSV.out]; exact HCW, HDW⟩

end Go.Proofs.Ytiaamddhocdhaaa
end

/- Draw6 -/
section
namespace Go.Proofs.Ytiaamddhocdhaaa
open Go.ChangeShapes Go.WideShapes Go.ChangeAt Go.RowKit
set_option linter.unusedVariables false

set_option maxRecDepth 100000 in
set_option maxHeartbeats 4000000 in
theorem l11Draw_any (cb : Nat) (C : List Int) (s : StT) (v : Value) (p : ProjT) (S : Nat → Prop) (w : World) (h : Cur w cb C s) (hx : aggR projR S w v p) (hS : ∀ b, S b → b < w.heap.size ∧ b ≠ cb) (hp : projOk p = true) :
    Calls Try.prog 81 #[.pointer (some ⟨cb, 0, none⟩), v] w (fun e w' => e = .returned (.agg #[.int .i64 (litD C p s).1.1, .int .i64 (litD C p s).1.2.1, .int .i64 (litD C p s).1.2.2]) ∧ Cur w' cb C (litD C p s).2 ∧ Dr cb w w') := by
  obtain ⟨cs, rfl, hx⟩ := hx
  obtain ⟨c1, c2, c3, c4, rfl, q0, q1, q2, q3, q4⟩ := projR_open hx
  have Q1 := Lib.hid q1
  have Q2 := Lib.hid q2
  have Q3 := Lib.hid q3
  have Q4 := Lib.hid q4
  have HP := Lib.hid hx
  obtain ⟨p1, k1, rfl, l1, l1', -⟩ := sliceR_open q1
  obtain ⟨p2, k2, rfl, l2, l2', -⟩ := sliceR_open q2
  obtain ⟨p3, k3, rfl, l3, l3', -⟩ := sliceR_open q3
  obtain ⟨p4, k4, rfl, l4, l4', -⟩ := sliceR_open q4
  unfold maxLen at l1' l2' l3' l4'
  clear hx q0 q1 q2 q3 q4
  have HS := Lib.hid hS
  have HPO := Lib.hid hp
  have hpb := projOk_bd hp
  have hltc := h.lt
  have hc := h
  clear h hS hp
  show Calls Try.prog 81 #[.pointer (some ⟨cb, 0, none⟩), .agg #[.int .i64 p.1, .slice p1 p.2.1.length k1, .slice p2 p.2.2.1.length k2, .slice p3 p.2.2.2.1.length k3, .slice p4 p.2.2.2.2.length k4]] w _
  go_enter Try.func81, Try.ntmps81
  obtain ⟨W0, hW0⟩ : ∃ W, W = (w.alloc (.cells #[.int .i64 p.1, .slice p1 p.2.1.length k1, .slice p2 p.2.2.1.length k2, .slice p3 p.2.2.2.1.length k3, .slice p4 p.2.2.2.2.length k4] 34)).alloc (.cells #[.int .i64 0, .int .i64 0, .int .i64 0] 44) := ⟨_, rfl⟩
  have HBR := Lib.hid (show Blk W0 (w.heap.size + 1) 44 [.int .i64 0, .int .i64 0, .int .i64 0] from by rw [hW0]; exact Blk.new' _ (by simp))
  have HBP := Lib.hid (show Blk W0 w.heap.size 34 [.int .i64 p.1, .slice p1 p.2.1.length k1, .slice p2 p.2.2.1.length k2, .slice p3 p.2.2.2.1.length k3, .slice p4 p.2.2.2.2.length k4] from by rw [hW0]; exact (Blk.new' _ rfl).alloc _)
  have hB0 : Bel w W0 := by rw [hW0]; (repeat (first | assumption | exact Bel.refl _ | apply Bel.drewN | apply Bel.drew | apply Bel.alloc | refine Bel.trans ?_ (by assumption)))
  have hcW := hc.bel hB0
  have hdW : Dr cb w W0 := Dr.ofBel hB0
  have HW0 := Lib.hid hW0
  clear hW0 hc hB0
  have bA := belowV_in C (p.2.1.length : Int) s (by omega)
  go_wp2_with fail
  rw [← HW0.out]
  refine (l01Below_any cb C s p.2.1.length _ hcW (by omega)).mono ?_
  rintro e w1 ⟨rfl, hc1, hd1⟩
  have hd01 := hdW.trans hd1
  have HBR1 := Lib.hid (HBR.out.dr hd1 (by omega))
  have HBP1 := Lib.hid (HBP.out.dr hd1 (by omega))
  rw [show (belowV C (p.2.1.length : Int) s).1 = (litA C p s).1 from rfl] at bA ⊢
  have hc1 : Cur w1 cb C (litA C p s).2 := hc1
  obtain ⟨a, ha⟩ := Int.eq_ofNat_of_zero_le bA.1
  have halt : a < p.2.1.length := by omega
  have HA := Lib.hid ha
  clear ha
  clear hcW hdW hd1
  go_wp2_with fail
  refine (l01Once_any cb C (litA C p s).2 4 _ hc1 (by omega)).mono ?_
  rintro e w2 ⟨rfl, hcO, hd2⟩
  have hd02 := hd01.trans hd2
  have HBR2 := Lib.hid (HBR1.out.dr hd2 (by omega))
  have HBP2 := Lib.hid (HBP1.out.dr hd2 (by omega))
  have hcO : Cur w2 cb C (litO C p s).2 := hcO
  rw [show (onceV C 4 (litA C p s).2).1 = (litO C p s).1 from rfl]
  have bK := belowV_in C 2 (litO C p s).2 (by decide)
  rw [show (belowV C 2 (litO C p s).2).1 = (litK C p s).1 from rfl] at bK
  have hsz2 := hd02.size
  have hlr2 := HBR2.out.lt
  clear hc1 hd01 hd2
  cases ho : (litO C p s).1
  · have HRV := Lib.hid (show litD C p s = ((1 + (litK C p s).1, (litA C p s).1, (litW C p s).1), (litW C p s).2) from by unfold litD; rw [ho]; rfl)
    have hLW : litW C p s = belowV C 10 (litK C p s).2 := by unfold litW; rw [ho]; rfl
    have hw1 : IntKind.i64.wrap (1 + (litK C p s).1) = 1 + (litK C p s).1 := IntWalk.i64_in _ (by omega)
    have HLW := Lib.hid hLW
    clear hLW
    go_wp2_with fail
    refine (l01Below_any cb C (litO C p s).2 2 _ hcO (by omega)).mono ?_
    rintro e w3 ⟨rfl, hc3, hd3⟩
    rw [show (belowV C 2 (litO C p s).2).1 = (litK C p s).1 from rfl]
    have hc3 : Cur w3 cb C (litK C p s).2 := hc3
    go_wp2_with fail
    refine (l01Below_any cb C (litK C p s).2 10 _ hc3 (by omega)).mono ?_
    rintro e w4 ⟨rfl, hc4, hd4⟩
    rw [← HLW.out]
    have HC4 := Lib.hid (show Cur w4 cb C (litW C p s).2 from by rw [HLW.out]; exact hc4)
    have HBR4 := Lib.hid ((HBR2.out.dr hd3 (by omega)).dr hd4 (by omega))
    have HD4 := Lib.hid ((hd02.trans hd3).trans hd4)
    have r0 := HBR4.out.cellv (j := 0) (by simp); have r1 := HBR4.out.cellv (j := 1) (by simp); have r2 := HBR4.out.cellv (j := 2) (by simp); simp only [List.getElem_cons_zero, List.getElem_cons_succ] at r0 r1 r2; have f0 := HBR4.out.frozen 0; have f1 := HBR4.out.frozen 1; have f2 := HBR4.out.frozen 2
    clear hc4 hc3 hcO hd3 hd4 hd02
    go_wp2_with fail
    have HBW := Lib.hid ((((Below.refl (w.heap.size + 1) w4).setCell (p := ⟨w.heap.size + 1, 0, none⟩) (Nat.le_refl _) (.int .i64 (1 + (litK C p s).1))).setCell (p := ⟨w.heap.size + 1, 1, none⟩) (Nat.le_refl _) (.int .i64 (litA C p s).1)).setCell (p := ⟨w.heap.size + 1, 2, none⟩) (Nat.le_refl _) (.int .i64 (litW C p s).1))
    have HBF := Lib.hid (((HBR4.out.set 0 (.int .i64 (1 + (litK C p s).1))).set 1 (.int .i64 (litA C p s).1)).set 2 (.int .i64 (litW C p s).1))
    generalize (((w4.setCell ⟨w.heap.size + 1, 0, none⟩ (.int .i64 (1 + (litK C p s).1))).setCell ⟨w.heap.size + 1, 1, none⟩ (.int .i64 (litA C p s).1)).setCell ⟨w.heap.size + 1, 2, none⟩ (.int .i64 (litW C p s).1)) = WF at *
    have c0 := HBF.out.cellv (j := 0) (by simp)
    have c1 := HBF.out.cellv (j := 1) (by simp)
    have c2 := HBF.out.cellv (j := 2) (by simp)
    simp only [List.set_cons_zero, List.set_cons_succ, List.getElem_cons_zero, List.getElem_cons_succ] at c0 c1 c2
    have HCW := HC4.out.below HBW.out (by omega)
    have HDW := HD4.out.below' HBW.out (by omega)
    clear HBF HBW
    exact bodyPost_ret (v := .agg #[.int .i64 (1 + (litK C p s).1), .int .i64 (litA C p s).1, .int .i64 (litW C p s).1]) (by simp [results, Try.results81, go_sem, c0, c1, c2]) rfl ⟨by rw [HRV.out], by rw [HRV.out]; exact HCW, HDW⟩
  · have HRV := Lib.hid (show litD C p s = ((3 + (litK C p s).1, (litA C p s).1, (litW C p s).1), (litW C p s).2) from by unfold litD; rw [ho]; rfl)
    have hLW : litW C p s = belowV C (p.2.1.getD (litA C p s).1.toNat zAct).2.2.length (litK C p s).2 := by unfold litW; rw [ho]; rfl
    have hw1 : IntKind.i64.wrap (3 + (litK C p s).1) = 3 + (litK C p s).1 := IntWalk.i64_in _ (by omega)
    have hlt := halt
    have hta : (litA C p s).1.toNat = a := by rw [HA.out]; rfl
    rw [hta] at hLW
    obtain ⟨ab, ao, acs, rfl, hSab, arow, ael⟩ := sliceR_atS zAct Q1.out hlt
    obtain ⟨ac2, rfl, aq0, aq1, aq2⟩ := actR_open ael
    have hml := projOk_modes HPO.out hlt
    generalize p.2.1.getD a zAct = XA at *
    obtain ⟨am, amk, rfl, aml, aml', -⟩ := sliceR_open aq2
    unfold maxLen at aml'
    have hSb := HS.out _ hSab
    have hne := hSb.2
    have g2 := hd02.cell (arow 2 (by simp)).1 hSb.2
    have g1 := HBP2.out.cellv (j := 1) (by simp)
    simp only [List.getElem_cons_zero, List.getElem_cons_succ] at g1 g2
    have HLW := Lib.hid (show (belowV C (XA.2.2.length : Int) (litK C p s).2).1 = (litW C p s).1 ∧ (litW C p s).2 = (belowV C (XA.2.2.length : Int) (litK C p s).2).2 from by rw [hLW]; exact ⟨rfl, rfl⟩)
    have ha' : (litA C p s).1 = (a : Int) := HA.out
    have hia : (a : Int) < (p.2.1.length : Int) := by omega
    rw [ha'] at HRV
    have hblt := hSb.1
    clear arow ael aq0 aq1 aq2 hLW hta ho bA
    rw [ha']
    clear ha'
    go_wp2_with fail
    refine wp_region_held_drew (S := (fun W => W.cell? ⟨w.heap.size, 1, none⟩ = some (.slice (some ⟨ab, ao, none⟩) p.2.1.length k1) ∧ W.cell? ⟨ab, ao + a * 3 + 2, none⟩ = some (.slice am XA.2.2.length amk))) (by kernel_rfl) ?_ (fun hHeld => ?_)
    · ((try dsimp only); (first | exact ⟨g1, g2⟩ | exact ⟨k1, k2⟩ | exact ⟨m1, m2⟩ | exact ⟨cell_setAt (cell_setAt (cell_setAt m1 (by omega) _) (by omega) _) (by omega) _, cell_setAt (cell_setAt (cell_setAt m2 (by omega) _) (by omega) _) (by omega) _⟩))
    refine wpAnyH_take (i := 0) (v := ?_) rfl (by kernel_rfl) (by kernel_rfl) (by kernel_rfl) (fun _ _ _ h => h) (Or.inl ⟨by rfl, ?_⟩) (by assumption) ?_
    rotate_left
    · (intro w hSw; (try dsimp only at hSw); go_simp <;> with_reducible rfl)
    try walk_nrm
    refine wpAnyH_take (i := 3) (v := ?_) rfl (by kernel_rfl) (by kernel_rfl) (by kernel_rfl) (fun _ _ _ h => h) (Or.inl ⟨by rfl, ?_⟩) (by assumption) ?_
    rotate_left
    · (intro w hSw; (try dsimp only at hSw); go_simp <;> with_reducible rfl)
    try walk_nrm
    refine wpAnyH_take (i := 4) (v := ?_) rfl (by kernel_rfl) (by kernel_rfl) (by kernel_rfl) (fun _ _ _ h => h) (Or.inl ⟨by rfl, ?_⟩) (by assumption) ?_
    rotate_left
    · (intro w hSw; (try dsimp only at hSw); go_simp <;> with_reducible rfl)
    try walk_nrm
    refine wpAnyH_take (i := 5) (v := ?_) rfl (by kernel_rfl) (by kernel_rfl) (by kernel_rfl) (fun _ _ _ h => h) (Or.inl ⟨by rfl, ?_⟩) (by assumption) ?_
    rotate_left
    · (intro w hSw; (try dsimp only at hSw); go_simp <;> with_reducible rfl)
    try walk_nrm
    refine wpAnyH_take (i := 6) (v := ?_) rfl (by kernel_rfl) (by kernel_rfl) (by kernel_rfl) (fun _ _ _ h => h) (Or.inl ⟨by rfl, ?_⟩) (by assumption) ?_
    rotate_left
    · (intro w hSw; (try dsimp only at hSw); go_simp <;> with_reducible rfl)
    try walk_nrm
    refine wpAnyH_take (i := 7) (v := ?_) rfl (by kernel_rfl) (by kernel_rfl) (by kernel_rfl) (fun _ _ _ h => h) (Or.inl ⟨by rfl, ?_⟩) (by assumption) ?_
    rotate_left
    · (intro w hSw; (try dsimp only at hSw); go_simp <;> with_reducible rfl)
    try walk_nrm
    refine wpAnyH_take (i := 8) (v := ?_) rfl (by kernel_rfl) (by kernel_rfl) (by kernel_rfl) (fun _ _ _ h => h) (Or.inl ⟨by rfl, ?_⟩) (by assumption) ?_
    rotate_left
    · (intro w hSw; (try dsimp only at hSw); go_simp <;> with_reducible rfl)
    try walk_nrm
    refine wpAnyH_take (i := 9) (v := ?_) rfl (by kernel_rfl) (by kernel_rfl) (by kernel_rfl) (fun _ _ _ h => h) (Or.inl ⟨by rfl, ?_⟩) (by assumption) ?_
    rotate_left
    · (intro w hSw; (try dsimp only at hSw); go_simp <;> with_reducible rfl)
    try walk_nrm
    refine wpAnyH_take (i := 10) (v := ?_) rfl (by kernel_rfl) (by kernel_rfl) (by kernel_rfl) (fun _ _ _ h => h) (Or.inl ⟨by rfl, ?_⟩) (by assumption) ?_
    rotate_left
    · (intro w hSw; (try dsimp only at hSw); go_simp <;> with_reducible rfl)
    try walk_nrm
    refine wpAnyH_take (i := 11) (v := ?_) rfl (by kernel_rfl) (by kernel_rfl) (by kernel_rfl) (fun _ _ _ h => h) (Or.inl ⟨by rfl, ?_⟩) (by assumption) ?_
    rotate_left
    · (intro w hSw; (try dsimp only at hSw); go_simp <;> with_reducible rfl)
    try walk_nrm
    refine wpAnyH_ready (rs := [1]) (by kernel_rfl) (by simp) ?_
    refine AllReadyH.cons rfl (fun K hK => ?_) AllReadyH.nil
    · go_simp
      (go_at_call 139; (with_reducible refine (l01Below_any cb C (litO C p s).2 2 _ (hcO.bel (by (repeat (first | assumption | exact Bel.refl _ | apply Bel.drewN | apply Bel.drew | apply Bel.alloc | refine Bel.trans ?_ (by assumption))))) (by omega)).mono ?_); rintro e w3 ⟨rfl, hc3, hd3⟩; have hd3 := (Dr.ofBel (cb := cb) (a := w2) (by (repeat (first | assumption | exact Bel.refl _ | apply Bel.drewN | apply Bel.drew | apply Bel.alloc | refine Bel.trans ?_ (by assumption))))).trans hd3; have k1 := hd3.cell g1 (by omega); have k2 := hd3.cell g2 hne; have hc3 : Cur w3 cb C (litK C p s).2 := hc3; rw [show (belowV C 2 (litO C p s).2).1 = (litK C p s).1 from rfl])
      try go_wp2_with fail
      refine hK.out _ _ ?_ (fun hHeld => ?_)
      · ((try dsimp only); (first | exact ⟨g1, g2⟩ | exact ⟨k1, k2⟩ | exact ⟨m1, m2⟩ | exact ⟨cell_setAt (cell_setAt (cell_setAt m1 (by omega) _) (by omega) _) (by omega) _, cell_setAt (cell_setAt (cell_setAt m2 (by omega) _) (by omega) _) (by omega) _⟩))
      clear hK K
      try walk_nrm
      refine wpAnyH_take (i := 2) (v := ?_) rfl (by kernel_rfl) (by kernel_rfl) (by kernel_rfl) (fun _ _ _ h => h) (Or.inl ⟨by rfl, ?_⟩) (by assumption) ?_
      rotate_left
      · (intro w hSw; (try dsimp only at hSw); go_simp <;> with_reducible rfl)
      try walk_nrm
      refine wpAnyH_ready (rs := [12]) (by kernel_rfl) (by simp) ?_
      refine AllReadyH.cons rfl (fun K hK => ?_) AllReadyH.nil
      · go_simp
        (go_at_call 139; (with_reducible refine (l01Below_any cb C (litK C p s).2 XA.2.2.length _ (hc3.bel (by (repeat (first | assumption | exact Bel.refl _ | apply Bel.drewN | apply Bel.drew | apply Bel.alloc | refine Bel.trans ?_ (by assumption))))) (by omega)).mono ?_); rintro e w4 ⟨rfl, hc4, hd4⟩; have m1 := hd4.cell k1 (by omega); have m2 := hd4.cell k2 hne; rw [HLW.out.1]; have HC4 := Lib.hid (show Cur w4 cb C (litW C p s).2 from by rw [HLW.out.2]; exact hc4); have HBR4 := Lib.hid ((HBR2.out.dr hd3 (by omega)).dr hd4 (by omega)); have HD4 := Lib.hid ((hd02.trans hd3).trans hd4); have r0 := HBR4.out.cellv (j := 0) (by simp); have r1 := HBR4.out.cellv (j := 1) (by simp); have r2 := HBR4.out.cellv (j := 2) (by simp); simp only [List.getElem_cons_zero, List.getElem_cons_succ] at r0 r1 r2; have f0 := HBR4.out.frozen 0; have f1 := HBR4.out.frozen 1; have f2 := HBR4.out.frozen 2; clear hc4)
        try go_wp2_with fail
        refine hK.out _ _ ?_ (fun hHeld => ?_)
        · ((try dsimp only); (first | exact ⟨g1, g2⟩ | exact ⟨k1, k2⟩ | exact ⟨m1, m2⟩ | exact ⟨cell_setAt (cell_setAt (cell_setAt m1 (by omega) _) (by omega) _) (by omega) _, cell_setAt (cell_setAt (cell_setAt m2 (by omega) _) (by omega) _) (by omega) _⟩))
        clear hK K
        try walk_nrm
        refine wpAnyH_take (i := 13) (v := ?_) rfl (by kernel_rfl) (by kernel_rfl) (by kernel_rfl) (fun _ _ _ h => h) (Or.inl ⟨by rfl, ?_⟩) (by assumption) ?_
        rotate_left
        · (intro w hSw; (try dsimp only at hSw); go_simp <;> with_reducible rfl)
        try walk_nrm
        refine wpAnyH_ready (rs := [14]) (by kernel_rfl) (by simp) ?_
        refine AllReadyH.cons rfl (fun K hK => ?_) AllReadyH.nil
        · go_simp
          refine hK.out _ _ ?_ (fun hHeld => ?_)
          · ((try dsimp only); (first | exact ⟨g1, g2⟩ | exact ⟨k1, k2⟩ | exact ⟨m1, m2⟩ | exact ⟨cell_setAt (cell_setAt (cell_setAt m1 (by omega) _) (by omega) _) (by omega) _, cell_setAt (cell_setAt (cell_setAt m2 (by omega) _) (by omega) _) (by omega) _⟩))
          clear hK K
          try walk_nrm
          refine wpAnyH_done (by kernel_rfl) ?_ _
          go_wp2_with fail
          have HBW := Lib.hid ((((Below.refl (w.heap.size + 1) w4).setCell (p := ⟨w.heap.size + 1, 0, none⟩) (Nat.le_refl _) (.int .i64 (3 + (litK C p s).1))).setCell (p := ⟨w.heap.size + 1, 1, none⟩) (Nat.le_refl _) (.int .i64 (a : Int))).setCell (p := ⟨w.heap.size + 1, 2, none⟩) (Nat.le_refl _) (.int .i64 (litW C p s).1))
          have HBF := Lib.hid (((HBR4.out.set 0 (.int .i64 (3 + (litK C p s).1))).set 1 (.int .i64 (a : Int))).set 2 (.int .i64 (litW C p s).1))
          generalize (((w4.setCell ⟨w.heap.size + 1, 0, none⟩ (.int .i64 (3 + (litK C p s).1))).setCell ⟨w.heap.size + 1, 1, none⟩ (.int .i64 (a : Int))).setCell ⟨w.heap.size + 1, 2, none⟩ (.int .i64 (litW C p s).1)) = WF at *
          have c0 := HBF.out.cellv (j := 0) (by simp)
          have c1 := HBF.out.cellv (j := 1) (by simp)
          have c2 := HBF.out.cellv (j := 2) (by simp)
          simp only [List.set_cons_zero, List.set_cons_succ, List.getElem_cons_zero, List.getElem_cons_succ] at c0 c1 c2
          have HCW := HC4.out.below HBW.out (by omega)
          have HDW := HD4.out.below' HBW.out (by omega)
          clear HBF HBW
          exact bodyPost_ret (v := .agg #[.int .i64 (3 + (litK C p s).1), .int .i64 (a : Int), .int .i64 (litW C p s).1]) (by simp [results, Try.results81, go_sem, c0, c1, c2]) rfl ⟨by rw [HRV.out], by rw [HRV.out]; exact HCW, HDW⟩

end Go.Proofs.Ytiaamddhocdhaaa
end

/- Make -/
section
namespace Go.Proofs.Ytiaamddhocdhaaa
open Go.ChangeShapes Go.WideShapes Go.ChangeAt Go.RowKit
set_option linter.unusedVariables false

/-- The state that a Make begins with. -/
def newAt (C : List Int) (t : Int) : StT := (0, (newV C).2 + t)
theorem newV_in (C : List Int) (hl : C.length ≤ 1048576) : 0 ≤ (newV C).2 ∧ (newV C).2 ≤ 1073741823 := newTo_in C _ hl
/-- The cells of a struct are set from a block's start. -/
def setAll (w : World) (b : Nat) : Nat → List Value → World
  | _, [] => w
  | j, v :: vs => setAll (w.setCell ⟨b, j, none⟩ v) b (j + 1) vs
set_option maxHeartbeats 2000000 in
theorem MakeProject_any (v : Value) (C : List Int) (S : Nat → Prop) (w : World) (hx : bytesR S w [v] C) (hS : ∀ b, S b → b < w.heap.size) (hl : C.length ≤ 1048576) :
    Calls Try.prog 15 #[v] w (FreshA projR w (drawP C 3 (newV C)).1) := by
  have HX := Lib.hid (bytesR_good.bel hx ((Bel.refl w).alloc (.cells #[.int .i64 0, .slice none 0 0, .slice none 0 0, .slice none 0 0, .slice none 0 0] 34)) hS)
  have HS := Lib.hid (show ∀ b, S b → b < (w.alloc (.cells #[.int .i64 0, .slice none 0 0, .slice none 0 0, .slice none 0 0, .slice none 0 0] 34)).heap.size from fun b hb => by have := hS b hb; simp; omega)
  have HBR := Lib.hid (Blk.new' (w := w) (e := 34) [.int .i64 0, .slice none 0 0, .slice none 0 0, .slice none 0 0, .slice none 0 0] rfl)
  clear hx hS
  go_enter Try.func15, Try.ntmps15
  go_wp2_with fail
  refine (l01New_any v C S _ HX.out HS.out hl).mono ?_
  rintro e w1 ⟨cb, rfl, hcb, hc1, g1⟩
  have HBR1 := Lib.hid (HBR.out.bel g1)
  have hz1 := HBR1.out.lt
  have G1 : Bel w w1 := by (repeat (first | assumption | exact Bel.refl _ | apply Bel.drewN | apply Bel.drew | apply Bel.alloc | refine Bel.trans ?_ (by assumption)))
  have hcb' : w.heap.size + 1 ≤ cb := by simpa using hcb
  go_wp2_with fail
  refine (l05Draw_any cb C (newV C) 3 _ hc1 (by decide) (by decide)).mono ?_
  rintro e w2 ⟨cs, rfl, hr, hc2, hd2⟩
  have HBR2 := Lib.hid (HBR1.out.dr hd2 (by omega))
  have HG := Lib.hid (hd2.bel G1 (by omega))
  have HR := Lib.hid hr
  have hsz1 := hc1.lt
  obtain ⟨X, hX⟩ : ∃ X, (drawP C 3 (newV C)).1 = X := ⟨_, rfl⟩
  have hX3 : (drawP C ((3 : Nat) : Int) (newV C)).1 = X := hX
  rw [hX3] at hr HR
  have HXQ := Lib.hid hX
  obtain ⟨x1, x2, x3, x4, rfl, q0, q1, q2, q3, q4⟩ := projR_open hr
  obtain ⟨p1, k1, rfl, -⟩ := sliceR_open q1
  obtain ⟨p2, k2, rfl, -⟩ := sliceR_open q2
  obtain ⟨p3, k3, rfl, -⟩ := sliceR_open q3
  obtain ⟨p4, k4, rfl, -⟩ := sliceR_open q4
  have r0 := HBR2.out.cellv (j := 0) (by simp)
  have r1 := HBR2.out.cellv (j := 1) (by simp)
  have r2 := HBR2.out.cellv (j := 2) (by simp)
  have r3 := HBR2.out.cellv (j := 3) (by simp)
  have r4 := HBR2.out.cellv (j := 4) (by simp)
  simp only [List.getElem_cons_zero, List.getElem_cons_succ] at r0 r1 r2 r3 r4
  have fr0 := HBR2.out.frozen 0
  have fr1 := HBR2.out.frozen 1
  have fr2 := HBR2.out.frozen 2
  have fr3 := HBR2.out.frozen 3
  have fr4 := HBR2.out.frozen 4
  clear hr q0 q1 q2 q3 q4 hc1 hc2 hd2 hX hX3 hcb
  go_wp2_with fail
  have HBW := Lib.hid ((((((Below.refl (w.heap.size) w2).setCell (p := ⟨w.heap.size, 0, none⟩) (Nat.le_refl _) (.int .i64 X.1)).setCell (p := ⟨w.heap.size, 1, none⟩) (Nat.le_refl _) (.slice p1 X.2.1.length k1)).setCell (p := ⟨w.heap.size, 2, none⟩) (Nat.le_refl _) (.slice p2 X.2.2.1.length k2)).setCell (p := ⟨w.heap.size, 3, none⟩) (Nat.le_refl _) (.slice p3 X.2.2.2.1.length k3)).setCell (p := ⟨w.heap.size, 4, none⟩) (Nat.le_refl _) (.slice p4 X.2.2.2.2.length k4))
  have HIF := Lib.hid ((((((Hi.refl (w.heap.size + 1) w2).set (q := w.heap.size) (j := 0) (.int .i64 X.1) (.inl (by omega))).set (q := w.heap.size) (j := 1) (.slice p1 X.2.1.length k1) (.inl (by omega))).set (q := w.heap.size) (j := 2) (.slice p2 X.2.2.1.length k2) (.inl (by omega))).set (q := w.heap.size) (j := 3) (.slice p3 X.2.2.2.1.length k3) (.inl (by omega))).set (q := w.heap.size) (j := 4) (.slice p4 X.2.2.2.2.length k4) (.inl (by omega)))
  have HBF := Lib.hid (((((HBR2.out.set 0 (.int .i64 X.1)).set 1 (.slice p1 X.2.1.length k1)).set 2 (.slice p2 X.2.2.1.length k2)).set 3 (.slice p3 X.2.2.2.1.length k3)).set 4 (.slice p4 X.2.2.2.2.length k4))
  generalize (((((w2.setCell ⟨w.heap.size, 0, none⟩ (.int .i64 X.1)).setCell ⟨w.heap.size, 1, none⟩ (.slice p1 X.2.1.length k1)).setCell ⟨w.heap.size, 2, none⟩ (.slice p2 X.2.2.1.length k2)).setCell ⟨w.heap.size, 3, none⟩ (.slice p3 X.2.2.2.1.length k3)).setCell ⟨w.heap.size, 4, none⟩ (.slice p4 X.2.2.2.2.length k4)) = WF at *
  have c0 := HBF.out.cellv (j := 0) (by simp)
  have c1 := HBF.out.cellv (j := 1) (by simp)
  have c2 := HBF.out.cellv (j := 2) (by simp)
  have c3 := HBF.out.cellv (j := 3) (by simp)
  have c4 := HBF.out.cellv (j := 4) (by simp)
  simp only [List.set_cons_zero, List.set_cons_succ, List.getElem_cons_zero, List.getElem_cons_succ] at c0 c1 c2 c3 c4
  clear HBF
  exact bodyPost_ret (v := .agg #[.int .i64 X.1, .slice p1 X.2.1.length k1, .slice p2 X.2.2.1.length k2, .slice p3 X.2.2.2.1.length k3, .slice p4 X.2.2.2.2.length k4]) (by simp [results, Try.results15, go_sem, c0, c1, c2, c3, c4]) rfl ⟨[.int .i64 X.1, .slice p1 X.2.1.length k1, .slice p2 X.2.2.1.length k2, .slice p3 X.2.2.2.1.length k3, .slice p4 X.2.2.2.2.length k4], rfl, by rw [HXQ.out]; have HR2 := projR_good.stay HR.out (w' := WF) (fun b hb => HIF.out.2 b (by have := hb.1; omega) hb.2); exact projR_good.mono HR2 (fun b hb => ⟨by have := hb.1; omega, by have := hb.2; have := HIF.out.1; omega⟩), by have h1 := HG.out; have h2 := HBW.out; exact Below.trans h1 h2⟩

set_option maxHeartbeats 2000000 in
theorem MakeSched_any (v : Value) (C : List Int) (S : Nat → Prop) (v1 : Value) (p : ProjT) (T : Nat → Prop) (w : World) (hx : bytesR S w [v] C) (hS : ∀ b, S b → b < w.heap.size) (hl : C.length ≤ 1048576) (hp : aggR projR T w v1 p) (hT : ∀ b, T b → b < w.heap.size) (hok : projOk p = true) :
    Calls Try.prog 16 #[v, v1] w (FreshA schR w (schV C p (newAt C 11)).1) := by
  obtain ⟨cs, rfl, hp⟩ := hp
  obtain ⟨y1, y2, y3, y4, rfl, q0, q1, q2, q3, q4⟩ := projR_open hp
  obtain ⟨p1, k1, rfl, -⟩ := sliceR_open q1
  obtain ⟨p2, k2, rfl, -⟩ := sliceR_open q2
  obtain ⟨p3, k3, rfl, -⟩ := sliceR_open q3
  obtain ⟨p4, k4, rfl, -⟩ := sliceR_open q4
  have HP := Lib.hid hp
  have HT := Lib.hid hT
  have HOK := Lib.hid hok
  have HX0 := Lib.hid hx
  have HS0 := Lib.hid hS
  clear hp q0 q1 q2 q3 q4 hT hok hx hS
  obtain ⟨W0, hW0⟩ : ∃ W, W = (w.alloc (.cells #[.int .i64 p.1, .slice p1 p.2.1.length k1, .slice p2 p.2.2.1.length k2, .slice p3 p.2.2.2.1.length k3, .slice p4 p.2.2.2.2.length k4] 34)).alloc (.cells #[.slice none 0 0, .slice none 0 0] 41) := ⟨_, rfl⟩
  have hB0 : Bel w W0 := by rw [hW0]; (repeat (first | assumption | exact Bel.refl _ | apply Bel.drewN | apply Bel.drew | apply Bel.alloc | refine Bel.trans ?_ (by assumption)))
  have hz0 : W0.heap.size = w.heap.size + 2 := by rw [hW0]; simp
  have HBR := Lib.hid (show Blk W0 (w.heap.size + 1) 41 [.slice none 0 0, .slice none 0 0] from by rw [hW0]; exact Blk.new' _ (by simp))
  have HBP := Lib.hid (show Blk W0 w.heap.size 34 [.int .i64 p.1, .slice p1 p.2.1.length k1, .slice p2 p.2.2.1.length k2, .slice p3 p.2.2.2.1.length k3, .slice p4 p.2.2.2.2.length k4] from by rw [hW0]; exact (Blk.new' _ rfl).alloc _)
  have HX := Lib.hid (bytesR_good.bel HX0.out hB0 HS0.out)
  have HS := Lib.hid (show ∀ b, S b → b < W0.heap.size from fun b hb => by have := HS0.out b hb; omega)
  have HW0 := Lib.hid hW0
  have hz0' : w.heap.size + 2 ≤ W0.heap.size := by omega
  show Calls Try.prog 16 #[v, .agg #[.int .i64 p.1, .slice p1 p.2.1.length k1, .slice p2 p.2.2.1.length k2, .slice p3 p.2.2.2.1.length k3, .slice p4 p.2.2.2.2.length k4]] w _
  go_enter Try.func16, Try.ntmps16
  clear hW0 hz0
  go_wp2_with fail
  rw [← HW0.out]
  refine (l01New_any v C S _ HX.out HS.out hl).mono ?_
  rintro e w1 ⟨cb, rfl, hcb, hc1, g1⟩
  have HBR1 := Lib.hid (HBR.out.bel g1)
  have HBP1 := Lib.hid (HBP.out.bel g1)
  have G1 := hB0.trans g1
  have hcb' : w.heap.size + 2 ≤ cb := by omega
  obtain ⟨u0, u1, u2, u3, u4, u5, u6, u7⟩ := hc1.ex
  have f2 := u6 2
  have hni := newV_in C hl
  have hwt : IntKind.i64.wrap ((newV C).2 + 11) = (newV C).2 + 11 := IntWalk.i64_in _ (by omega)
  have HCA := Lib.hid (show Cur (w1.setCell ⟨cb, 2, none⟩ (.int .i64 ((newV C).2 + 11))) cb C (newAt C 11) from hc1.set (j := 2) (.inr ⟨rfl, rfl, by unfold I64; omega⟩))
  have HDA := Lib.hid ((Dr.refl cb w1).put 2 (.int .i64 ((newV C).2 + 11)))
  have hlt1 := hc1.lt
  have b0 := HBP1.out.cellv (j := 0) (by simp)
  have b1 := HBP1.out.cellv (j := 1) (by simp)
  have b2 := HBP1.out.cellv (j := 2) (by simp)
  have b3 := HBP1.out.cellv (j := 3) (by simp)
  have b4 := HBP1.out.cellv (j := 4) (by simp)
  simp only [List.getElem_cons_zero, List.getElem_cons_succ] at b0 b1 b2 b3 b4
  clear u6 u7 hc1 g1 hB0 u3 u4 hcb
  go_wp2_with fail
  generalize w1.setCell ⟨cb, 2, none⟩ (.int .i64 ((newV C).2 + 11)) = W1 at *
  refine (l09Draw_any cb C (newAt C 11) _ p T _ HCA.out (aggR_mk (projR_good.dr (projR_good.bel HP.out G1 HT.out) HDA.out (fun b hb => ⟨by have := HT.out b hb; have := G1.size; omega, by have := HT.out b hb; omega⟩))) (fun b hb => ⟨by have := HT.out b hb; have := G1.size; have := HDA.out.size; omega, by have := HT.out b hb; omega⟩) HOK.out).mono ?_
  rintro e w2 ⟨cs2, rfl, hr, hc2, hd2⟩
  have HBR2 := Lib.hid ((HBR1.out.dr HDA.out (by omega)).dr hd2 (by omega))
  have HG := Lib.hid ((HDA.out.trans hd2).bel G1 (by omega))
  have HR := Lib.hid hr
  have hz1 := HBR1.out.lt
  have hz11 := HDA.out.size
  obtain ⟨X, hX⟩ : ∃ X, (schV C p (newAt C 11)).1 = X := ⟨_, rfl⟩
  rw [hX] at hr HR
  have HXQ := Lib.hid hX
  obtain ⟨x0, x1, rfl, q0, q1⟩ := schR_open hr
  obtain ⟨z0, c0, rfl, -⟩ := sliceR_open q0
  obtain ⟨z1, c1, rfl, -⟩ := sliceR_open q1
  have r0 := HBR2.out.cellv (j := 0) (by simp)
  have r1 := HBR2.out.cellv (j := 1) (by simp)
  simp only [List.getElem_cons_zero, List.getElem_cons_succ] at r0 r1
  have fr0 := HBR2.out.frozen 0
  have fr1 := HBR2.out.frozen 1
  clear hr q0 q1 hc2 hd2 hX
  go_wp2_with fail
  have HBW := Lib.hid (((Below.refl (w.heap.size + 1) w2).setCell (p := ⟨w.heap.size + 1, 0, none⟩) (Nat.le_refl _) (.slice z0 X.1.length c0)).setCell (p := ⟨w.heap.size + 1, 1, none⟩) (Nat.le_refl _) (.slice z1 X.2.length c1))
  have HIF := Lib.hid (((Hi.refl (w.heap.size + 1 + 1) w2).set (q := w.heap.size + 1) (j := 0) (.slice z0 X.1.length c0) (.inl (by omega))).set (q := w.heap.size + 1) (j := 1) (.slice z1 X.2.length c1) (.inl (by omega)))
  have HBF := Lib.hid ((HBR2.out.set 0 (.slice z0 X.1.length c0)).set 1 (.slice z1 X.2.length c1))
  generalize ((w2.setCell ⟨w.heap.size + 1, 0, none⟩ (.slice z0 X.1.length c0)).setCell ⟨w.heap.size + 1, 1, none⟩ (.slice z1 X.2.length c1)) = WF at *
  have k0_ := HBF.out.cellv (j := 0) (by simp)
  have k1_ := HBF.out.cellv (j := 1) (by simp)
  simp only [List.set_cons_zero, List.set_cons_succ, List.getElem_cons_zero, List.getElem_cons_succ] at k0_ k1_
  clear HBF
  exact bodyPost_ret (v := .agg #[.slice z0 X.1.length c0, .slice z1 X.2.length c1]) (by simp [results, Try.results16, go_sem, k0_, k1_]) rfl ⟨[.slice z0 X.1.length c0, .slice z1 X.2.length c1], rfl, by rw [HXQ.out]; have HR2 := schR_good.stay HR.out (w' := WF) (fun b hb => HIF.out.2 b (by have := hb.1; omega) hb.2); exact schR_good.mono HR2 (fun b hb => ⟨by have := hb.1; omega, by have := hb.2; have := HIF.out.1; omega⟩), by have h1 := HG.out; have h2 := Below.mono HBW.out (show w.heap.size ≤ w.heap.size + 1 from by omega); exact Below.trans h1 h2⟩

set_option maxHeartbeats 2000000 in
theorem MakeLit_any (v : Value) (C : List Int) (S : Nat → Prop) (v1 : Value) (p : ProjT) (T : Nat → Prop) (t : Int) (w : World) (hx : bytesR S w [v] C) (hS : ∀ b, S b → b < w.heap.size) (hl : C.length ≤ 1048576) (hp : aggR projR T w v1 p) (hT : ∀ b, T b → b < w.heap.size) (hok : projOk p = true) (ht : 0 ≤ t ∧ t ≤ 1000) :
    Calls Try.prog 17 #[v, v1, .int .i64 t] w (fun e w' => e = .returned (.agg #[.int .i64 (litD C p (newAt C t)).1.1, .int .i64 (litD C p (newAt C t)).1.2.1, .int .i64 (litD C p (newAt C t)).1.2.2]) ∧ Bel w w') := by
  obtain ⟨cs, rfl, hp⟩ := hp
  obtain ⟨y1, y2, y3, y4, rfl, q0, q1, q2, q3, q4⟩ := projR_open hp
  obtain ⟨p1, k1, rfl, -⟩ := sliceR_open q1
  obtain ⟨p2, k2, rfl, -⟩ := sliceR_open q2
  obtain ⟨p3, k3, rfl, -⟩ := sliceR_open q3
  obtain ⟨p4, k4, rfl, -⟩ := sliceR_open q4
  have HP := Lib.hid hp
  have HT := Lib.hid hT
  have HOK := Lib.hid hok
  have HX0 := Lib.hid hx
  have HS0 := Lib.hid hS
  clear hp q0 q1 q2 q3 q4 hT hok hx hS
  obtain ⟨W0, hW0⟩ : ∃ W, W = (w.alloc (.cells #[.int .i64 p.1, .slice p1 p.2.1.length k1, .slice p2 p.2.2.1.length k2, .slice p3 p.2.2.2.1.length k3, .slice p4 p.2.2.2.2.length k4] 34)).alloc (.cells #[.int .i64 0, .int .i64 0, .int .i64 0] 44) := ⟨_, rfl⟩
  have hB0 : Bel w W0 := by rw [hW0]; (repeat (first | assumption | exact Bel.refl _ | apply Bel.drewN | apply Bel.drew | apply Bel.alloc | refine Bel.trans ?_ (by assumption)))
  have hz0 : W0.heap.size = w.heap.size + 2 := by rw [hW0]; simp
  have HBR := Lib.hid (show Blk W0 (w.heap.size + 1) 44 [.int .i64 0, .int .i64 0, .int .i64 0] from by rw [hW0]; exact Blk.new' _ (by simp))
  have HBP := Lib.hid (show Blk W0 w.heap.size 34 [.int .i64 p.1, .slice p1 p.2.1.length k1, .slice p2 p.2.2.1.length k2, .slice p3 p.2.2.2.1.length k3, .slice p4 p.2.2.2.2.length k4] from by rw [hW0]; exact (Blk.new' _ rfl).alloc _)
  have HX := Lib.hid (bytesR_good.bel HX0.out hB0 HS0.out)
  have HS := Lib.hid (show ∀ b, S b → b < W0.heap.size from fun b hb => by have := HS0.out b hb; omega)
  have HW0 := Lib.hid hW0
  have hz0' : w.heap.size + 2 ≤ W0.heap.size := by omega
  show Calls Try.prog 17 #[v, .agg #[.int .i64 p.1, .slice p1 p.2.1.length k1, .slice p2 p.2.2.1.length k2, .slice p3 p.2.2.2.1.length k3, .slice p4 p.2.2.2.2.length k4], .int .i64 t] w _
  go_enter Try.func17, Try.ntmps17
  clear hW0 hz0
  go_wp2_with fail
  rw [← HW0.out]
  refine (l01New_any v C S _ HX.out HS.out hl).mono ?_
  rintro e w1 ⟨cb, rfl, hcb, hc1, g1⟩
  have HBR1 := Lib.hid (HBR.out.bel g1)
  have HBP1 := Lib.hid (HBP.out.bel g1)
  have G1 := hB0.trans g1
  have hcb' : w.heap.size + 2 ≤ cb := by omega
  obtain ⟨u0, u1, u2, u3, u4, u5, u6, u7⟩ := hc1.ex
  have f2 := u6 2
  have hni := newV_in C hl
  have hwt : IntKind.i64.wrap ((newV C).2 + t) = (newV C).2 + t := IntWalk.i64_in _ (by omega)
  have HCA := Lib.hid (show Cur (w1.setCell ⟨cb, 2, none⟩ (.int .i64 ((newV C).2 + t))) cb C (newAt C t) from hc1.set (j := 2) (.inr ⟨rfl, rfl, by unfold I64; omega⟩))
  have HDA := Lib.hid ((Dr.refl cb w1).put 2 (.int .i64 ((newV C).2 + t)))
  have hlt1 := hc1.lt
  have b0 := HBP1.out.cellv (j := 0) (by simp)
  have b1 := HBP1.out.cellv (j := 1) (by simp)
  have b2 := HBP1.out.cellv (j := 2) (by simp)
  have b3 := HBP1.out.cellv (j := 3) (by simp)
  have b4 := HBP1.out.cellv (j := 4) (by simp)
  simp only [List.getElem_cons_zero, List.getElem_cons_succ] at b0 b1 b2 b3 b4
  clear u6 u7 hc1 g1 hB0 u3 u4 hcb
  go_wp2_with fail
  generalize w1.setCell ⟨cb, 2, none⟩ (.int .i64 ((newV C).2 + t)) = W1 at *
  refine (l11Draw_any cb C (newAt C t) _ p T _ HCA.out (aggR_mk (projR_good.dr (projR_good.bel HP.out G1 HT.out) HDA.out (fun b hb => ⟨by have := HT.out b hb; have := G1.size; omega, by have := HT.out b hb; omega⟩))) (fun b hb => ⟨by have := HT.out b hb; have := G1.size; have := HDA.out.size; omega, by have := HT.out b hb; omega⟩) HOK.out).mono ?_
  rintro e w2 ⟨rfl, hc2, hd2⟩
  have HBR2 := Lib.hid ((HBR1.out.dr HDA.out (by omega)).dr hd2 (by omega))
  have HG := Lib.hid ((HDA.out.trans hd2).bel G1 (by omega))
  obtain ⟨X, hX⟩ : ∃ X, (litD C p (newAt C t)).1 = X := ⟨_, rfl⟩
  rw [hX]
  have HXQ := Lib.hid hX
  have r0 := HBR2.out.cellv (j := 0) (by simp)
  have r1 := HBR2.out.cellv (j := 1) (by simp)
  have r2 := HBR2.out.cellv (j := 2) (by simp)
  simp only [List.getElem_cons_zero, List.getElem_cons_succ] at r0 r1 r2
  have fr0 := HBR2.out.frozen 0
  have fr1 := HBR2.out.frozen 1
  have fr2 := HBR2.out.frozen 2
  clear hc2 hd2 hX
  go_wp2_with fail
  have HBW := Lib.hid ((((Below.refl (w.heap.size + 1) w2).setCell (p := ⟨w.heap.size + 1, 0, none⟩) (Nat.le_refl _) (.int .i64 X.1)).setCell (p := ⟨w.heap.size + 1, 1, none⟩) (Nat.le_refl _) (.int .i64 X.2.1)).setCell (p := ⟨w.heap.size + 1, 2, none⟩) (Nat.le_refl _) (.int .i64 X.2.2))
  have HIF := Lib.hid ((((Hi.refl (w.heap.size + 1 + 1) w2).set (q := w.heap.size + 1) (j := 0) (.int .i64 X.1) (.inl (by omega))).set (q := w.heap.size + 1) (j := 1) (.int .i64 X.2.1) (.inl (by omega))).set (q := w.heap.size + 1) (j := 2) (.int .i64 X.2.2) (.inl (by omega)))
  have HBF := Lib.hid (((HBR2.out.set 0 (.int .i64 X.1)).set 1 (.int .i64 X.2.1)).set 2 (.int .i64 X.2.2))
  generalize (((w2.setCell ⟨w.heap.size + 1, 0, none⟩ (.int .i64 X.1)).setCell ⟨w.heap.size + 1, 1, none⟩ (.int .i64 X.2.1)).setCell ⟨w.heap.size + 1, 2, none⟩ (.int .i64 X.2.2)) = WF at *
  have c0 := HBF.out.cellv (j := 0) (by simp)
  have c1 := HBF.out.cellv (j := 1) (by simp)
  have c2 := HBF.out.cellv (j := 2) (by simp)
  simp only [List.set_cons_zero, List.set_cons_succ, List.getElem_cons_zero, List.getElem_cons_succ] at c0 c1 c2
  clear HBF
  exact bodyPost_ret (v := .agg #[.int .i64 X.1, .int .i64 X.2.1, .int .i64 X.2.2]) (by simp [results, Try.results17, go_sem, c0, c1, c2]) rfl ⟨by rw [HXQ.out], by have h1 := HG.out; have h2 := Below.mono HBW.out (show w.heap.size ≤ w.heap.size + 1 from by omega); exact Below.trans h1 h2⟩

end Go.Proofs.Ytiaamddhocdhaaa
end

/- Draw8 -/
section
namespace Go.Proofs.Ytiaamddhocdhaaa
open Go.ChangeShapes Go.WideShapes Go.ChangeAt Go.RowKit
set_option linter.unusedVariables false

/-- Some rule is left; the cursor goes on. -/
def RuleRes (cb : Nat) (C : List Int) (w : World) (e : Ending) (w' : World) : Prop := ∃ (r : RuleT) (s : StT), e = .returned (.agg #[.int .i64 r.1, .int .i64 r.2.1, .int .i64 r.2.2.1, .int .i64 r.2.2.2]) ∧ Cur w' cb C s ∧ Dr cb w w'
theorem maxI_one {n : Nat} (h : 1 ≤ n) : maxI (n : Int) 1 = n := by unfold maxI; split <;> omega
set_option maxRecDepth 100000 in
set_option maxHeartbeats 4000000 in
theorem l10Rule_any (cb : Nat) (C : List Int) (s : StT) (v : Value) (p : ProjT) (S : Nat → Prop) (w : World) (h : Cur w cb C s) (hx : aggR projR S w v p) (hp : projOk p = true) :
    Calls Try.prog 87 #[.pointer (some ⟨cb, 0, none⟩), v] w (RuleRes cb C w) := by
  obtain ⟨cs, rfl, hx⟩ := hx
  obtain ⟨c1, c2, c3, c4, rfl, q0, q1, q2, q3, q4⟩ := projR_open hx
  have Q1 := Lib.hid q1
  have Q2 := Lib.hid q2
  have Q3 := Lib.hid q3
  have Q4 := Lib.hid q4
  have HP := Lib.hid hx
  obtain ⟨p1, k1, rfl, l1, l1', -⟩ := sliceR_open q1
  obtain ⟨p2, k2, rfl, l2, l2', -⟩ := sliceR_open q2
  obtain ⟨p3, k3, rfl, l3, l3', -⟩ := sliceR_open q3
  obtain ⟨p4, k4, rfl, l4, l4', -⟩ := sliceR_open q4
  unfold maxLen at l1' l2' l3' l4'
  clear hx q0 q1 q2 q3 q4
  have hpb := projOk_bd hp
  have hltc := h.lt
  have hc := h
  clear h hp
  show Calls Try.prog 87 #[.pointer (some ⟨cb, 0, none⟩), .agg #[.int .i64 p.1, .slice p1 p.2.1.length k1, .slice p2 p.2.2.1.length k2, .slice p3 p.2.2.2.1.length k3, .slice p4 p.2.2.2.2.length k4]] w _
  go_enter Try.func87, Try.ntmps87
  obtain ⟨W0, hW0⟩ : ∃ W, W = (w.alloc (.cells #[.int .i64 p.1, .slice p1 p.2.1.length k1, .slice p2 p.2.2.1.length k2, .slice p3 p.2.2.2.1.length k3, .slice p4 p.2.2.2.2.length k4] 34)).alloc (.cells #[.int .i64 0, .int .i64 0, .int .i64 0, .int .i64 0] 55) := ⟨_, rfl⟩
  have HBR := Lib.hid (show Blk W0 (w.heap.size + 1) 55 [.int .i64 0, .int .i64 0, .int .i64 0, .int .i64 0] from by rw [hW0]; exact Blk.new' _ (by simp))
  have HBP := Lib.hid (show Blk W0 w.heap.size 34 [.int .i64 p.1, .slice p1 p.2.1.length k1, .slice p2 p.2.2.1.length k2, .slice p3 p.2.2.2.1.length k3, .slice p4 p.2.2.2.2.length k4] from by rw [hW0]; exact (Blk.new' _ rfl).alloc _)
  have hB0 : Bel w W0 := by rw [hW0]; (repeat (first | assumption | exact Bel.refl _ | apply Bel.drewN | apply Bel.drew | apply Bel.alloc | refine Bel.trans ?_ (by assumption)))
  have hc0 := hc.bel hB0
  have hdW : Dr cb w W0 := Dr.ofBel hB0
  have hsz0 : w.heap.size + 2 ≤ W0.heap.size := by rw [hW0]; simp
  have hd0 : Dr cb W0 W0 := Dr.refl _ _
  have HW0 := Lib.hid hW0
  have bb1 := belowV_in C 7 s (by decide)
  obtain ⟨K, hK⟩ : ∃ x, (belowV C 7 s).1 = x := ⟨_, rfl⟩
  obtain ⟨st1, hst1⟩ : ∃ x, (belowV C 7 s).2 = x := ⟨_, rfl⟩
  clear hW0 hc hB0
  go_wp2_with fail
  rw [← HW0.out]
  refine (l01Below_any cb C s 7 _ hc0 (by omega)).mono ?_
  rintro e w1 ⟨rfl, hc1, e1⟩
  rw [hK] at bb1 ⊢
  rw [hst1] at hc1
  have hd1 := hd0.trans e1
  have hbp := HBP.out.dr hd1 (by omega)
  have g1 := hbp.cellv (j := 1) (by simp); have g2 := hbp.cellv (j := 2) (by simp); have g3 := hbp.cellv (j := 3) (by simp); have g4 := hbp.cellv (j := 4) (by simp); simp only [List.getElem_cons_zero, List.getElem_cons_succ] at g1 g2 g3 g4
  clear hK hst1 e1 hd0 hc0
  have hcases : K = 0 ∨ K = 1 ∨ K = 2 ∨ K = 3 ∨ K = 4 ∨ K = 5 ∨ K = 6 := by omega
  clear bb1
  rcases hcases with rfl | rfl | rfl | rfl | rfl | rfl | rfl
  · by_cases hl : 0 < p.2.2.1.length
    · have hli : (0 : Int) < (p.2.2.1.length : Int) := by omega
      have bb2 := belowV_in C (p.2.2.1.length) st1 (by omega)
      obtain ⟨X2, hX2⟩ : ∃ x, (belowV C (p.2.2.1.length) st1).1 = x := ⟨_, rfl⟩
      obtain ⟨st2, hst2⟩ : ∃ x, (belowV C (p.2.2.1.length) st1).2 = x := ⟨_, rfl⟩
      go_wp2_with fail
      refine (l01Below_any cb C st1 (p.2.2.1.length) _ hc1 (by omega)).mono ?_
      rintro e w2 ⟨rfl, hc2, e2⟩
      rw [hX2] at bb2 ⊢
      rw [hst2] at hc2
      have hd2 := hd1.trans e2
      clear hX2 hst2 e2
      have hbr := HBR.out.dr hd2 (by omega)
      have r0 := hbr.cellv (j := 0) (by simp); have r1 := hbr.cellv (j := 1) (by simp); have r2 := hbr.cellv (j := 2) (by simp); have r3 := hbr.cellv (j := 3) (by simp); simp only [List.getElem_cons_zero, List.getElem_cons_succ] at r0 r1 r2 r3; have f0 := hbr.frozen 0; have f1 := hbr.frozen 1; have f2 := hbr.frozen 2; have f3 := hbr.frozen 3
      have hsz := hd2.size
      clear g1 g2 g3 g4
      go_wp2_with fail
      have HBW := Lib.hid (((((Below.refl (w.heap.size + 1) w2).setCell (p := ⟨w.heap.size + 1, 0, none⟩) (Nat.le_refl _) (.int .i64 (1))).setCell (p := ⟨w.heap.size + 1, 1, none⟩) (Nat.le_refl _) (.int .i64 (X2))).setCell (p := ⟨w.heap.size + 1, 2, none⟩) (Nat.le_refl _) (.int .i64 (0))).setCell (p := ⟨w.heap.size + 1, 3, none⟩) (Nat.le_refl _) (.int .i64 (0)))
      have HBF := Lib.hid ((((hbr.set 0 (.int .i64 (1))).set 1 (.int .i64 (X2))).set 2 (.int .i64 (0))).set 3 (.int .i64 (0)))
      generalize ((((w2.setCell ⟨w.heap.size + 1, 0, none⟩ (.int .i64 (1))).setCell ⟨w.heap.size + 1, 1, none⟩ (.int .i64 (X2))).setCell ⟨w.heap.size + 1, 2, none⟩ (.int .i64 (0))).setCell ⟨w.heap.size + 1, 3, none⟩ (.int .i64 (0))) = WF at *
      have c0 := HBF.out.cellv (j := 0) (by simp)
      have c1 := HBF.out.cellv (j := 1) (by simp)
      have c2 := HBF.out.cellv (j := 2) (by simp)
      have c3 := HBF.out.cellv (j := 3) (by simp)
      simp only [List.set_cons_zero, List.set_cons_succ, List.getElem_cons_zero, List.getElem_cons_succ] at c0 c1 c2 c3
      have HCW := hc2.below HBW.out (by omega)
      have HDW := (hdW.trans hd2).below' HBW.out (by omega)
      clear HBF HBW
      exact bodyPost_ret (v := .agg #[.int .i64 (1), .int .i64 (X2), .int .i64 (0), .int .i64 (0)]) (by simp [results, Try.results87, go_sem, c0, c1, c2, c3]) rfl ⟨(1, X2, 0, 0), _, rfl, HCW, HDW⟩
    · have hli : ¬ (0 : Int) < (p.2.2.1.length : Int) := by omega
      have hmx := maxI_one hpb.1
      go_wp2_with fail
      refine (l02Max_any _ _ _).mono ?_
      rintro e wm ⟨rfl, rfl⟩
      rw [hmx]
      clear hmx
      have bb9 := belowV_in C (p.2.1.length) st1 (by omega)
      obtain ⟨X9, hX9⟩ : ∃ x, (belowV C (p.2.1.length) st1).1 = x := ⟨_, rfl⟩
      obtain ⟨st9, hst9⟩ : ∃ x, (belowV C (p.2.1.length) st1).2 = x := ⟨_, rfl⟩
      go_wp2_with fail
      refine (l01Below_any cb C st1 (p.2.1.length) _ hc1 (by omega)).mono ?_
      rintro e w9 ⟨rfl, hc9, e9⟩
      rw [hX9] at bb9 ⊢
      rw [hst9] at hc9
      have hd9 := hd1.trans e9
      clear hX9 hst9 e9
      have hbr := HBR.out.dr hd9 (by omega)
      have r0 := hbr.cellv (j := 0) (by simp); have r1 := hbr.cellv (j := 1) (by simp); have r2 := hbr.cellv (j := 2) (by simp); have r3 := hbr.cellv (j := 3) (by simp); simp only [List.getElem_cons_zero, List.getElem_cons_succ] at r0 r1 r2 r3; have f0 := hbr.frozen 0; have f1 := hbr.frozen 1; have f2 := hbr.frozen 2; have f3 := hbr.frozen 3
      have hsz := hd9.size
      clear g1 g2 g3 g4
      go_wp2_with fail
      have HBW := Lib.hid (((((Below.refl (w.heap.size + 1) w9).setCell (p := ⟨w.heap.size + 1, 0, none⟩) (Nat.le_refl _) (.int .i64 (2))).setCell (p := ⟨w.heap.size + 1, 1, none⟩) (Nat.le_refl _) (.int .i64 (X9))).setCell (p := ⟨w.heap.size + 1, 2, none⟩) (Nat.le_refl _) (.int .i64 (0))).setCell (p := ⟨w.heap.size + 1, 3, none⟩) (Nat.le_refl _) (.int .i64 (0)))
      have HBF := Lib.hid ((((hbr.set 0 (.int .i64 (2))).set 1 (.int .i64 (X9))).set 2 (.int .i64 (0))).set 3 (.int .i64 (0)))
      generalize ((((w9.setCell ⟨w.heap.size + 1, 0, none⟩ (.int .i64 (2))).setCell ⟨w.heap.size + 1, 1, none⟩ (.int .i64 (X9))).setCell ⟨w.heap.size + 1, 2, none⟩ (.int .i64 (0))).setCell ⟨w.heap.size + 1, 3, none⟩ (.int .i64 (0))) = WF at *
      have c0 := HBF.out.cellv (j := 0) (by simp)
      have c1 := HBF.out.cellv (j := 1) (by simp)
      have c2 := HBF.out.cellv (j := 2) (by simp)
      have c3 := HBF.out.cellv (j := 3) (by simp)
      simp only [List.set_cons_zero, List.set_cons_succ, List.getElem_cons_zero, List.getElem_cons_succ] at c0 c1 c2 c3
      have HCW := hc9.below HBW.out (by omega)
      have HDW := (hdW.trans hd9).below' HBW.out (by omega)
      clear HBF HBW
      exact bodyPost_ret (v := .agg #[.int .i64 (2), .int .i64 (X9), .int .i64 (0), .int .i64 (0)]) (by simp [results, Try.results87, go_sem, c0, c1, c2, c3]) rfl ⟨(2, X9, 0, 0), _, rfl, HCW, HDW⟩
  · by_cases hl : 0 < p.2.2.2.2.length
    · have hli : (0 : Int) < (p.2.2.2.2.length : Int) := by omega
      have bb2 := belowV_in C (p.2.2.2.2.length) st1 (by omega)
      obtain ⟨X2, hX2⟩ : ∃ x, (belowV C (p.2.2.2.2.length) st1).1 = x := ⟨_, rfl⟩
      obtain ⟨st2, hst2⟩ : ∃ x, (belowV C (p.2.2.2.2.length) st1).2 = x := ⟨_, rfl⟩
      go_wp2_with fail
      refine (l01Below_any cb C st1 (p.2.2.2.2.length) _ hc1 (by omega)).mono ?_
      rintro e w2 ⟨rfl, hc2, e2⟩
      rw [hX2] at bb2 ⊢
      rw [hst2] at hc2
      have hd2 := hd1.trans e2
      clear hX2 hst2 e2
      have hbr := HBR.out.dr hd2 (by omega)
      have r0 := hbr.cellv (j := 0) (by simp); have r1 := hbr.cellv (j := 1) (by simp); have r2 := hbr.cellv (j := 2) (by simp); have r3 := hbr.cellv (j := 3) (by simp); simp only [List.getElem_cons_zero, List.getElem_cons_succ] at r0 r1 r2 r3; have f0 := hbr.frozen 0; have f1 := hbr.frozen 1; have f2 := hbr.frozen 2; have f3 := hbr.frozen 3
      have hsz := hd2.size
      clear g1 g2 g3 g4
      go_wp2_with fail
      have HBW := Lib.hid (((((Below.refl (w.heap.size + 1) w2).setCell (p := ⟨w.heap.size + 1, 0, none⟩) (Nat.le_refl _) (.int .i64 (6))).setCell (p := ⟨w.heap.size + 1, 1, none⟩) (Nat.le_refl _) (.int .i64 (X2))).setCell (p := ⟨w.heap.size + 1, 2, none⟩) (Nat.le_refl _) (.int .i64 (0))).setCell (p := ⟨w.heap.size + 1, 3, none⟩) (Nat.le_refl _) (.int .i64 (0)))
      have HBF := Lib.hid ((((hbr.set 0 (.int .i64 (6))).set 1 (.int .i64 (X2))).set 2 (.int .i64 (0))).set 3 (.int .i64 (0)))
      generalize ((((w2.setCell ⟨w.heap.size + 1, 0, none⟩ (.int .i64 (6))).setCell ⟨w.heap.size + 1, 1, none⟩ (.int .i64 (X2))).setCell ⟨w.heap.size + 1, 2, none⟩ (.int .i64 (0))).setCell ⟨w.heap.size + 1, 3, none⟩ (.int .i64 (0))) = WF at *
      have c0 := HBF.out.cellv (j := 0) (by simp)
      have c1 := HBF.out.cellv (j := 1) (by simp)
      have c2 := HBF.out.cellv (j := 2) (by simp)
      have c3 := HBF.out.cellv (j := 3) (by simp)
      simp only [List.set_cons_zero, List.set_cons_succ, List.getElem_cons_zero, List.getElem_cons_succ] at c0 c1 c2 c3
      have HCW := hc2.below HBW.out (by omega)
      have HDW := (hdW.trans hd2).below' HBW.out (by omega)
      clear HBF HBW
      exact bodyPost_ret (v := .agg #[.int .i64 (6), .int .i64 (X2), .int .i64 (0), .int .i64 (0)]) (by simp [results, Try.results87, go_sem, c0, c1, c2, c3]) rfl ⟨(6, X2, 0, 0), _, rfl, HCW, HDW⟩
    · have hli : ¬ (0 : Int) < (p.2.2.2.2.length : Int) := by omega
      have hmx := maxI_one hpb.1
      go_wp2_with fail
      refine (l02Max_any _ _ _).mono ?_
      rintro e wm ⟨rfl, rfl⟩
      rw [hmx]
      clear hmx
      have bb9 := belowV_in C (p.2.1.length) st1 (by omega)
      obtain ⟨X9, hX9⟩ : ∃ x, (belowV C (p.2.1.length) st1).1 = x := ⟨_, rfl⟩
      obtain ⟨st9, hst9⟩ : ∃ x, (belowV C (p.2.1.length) st1).2 = x := ⟨_, rfl⟩
      go_wp2_with fail
      refine (l01Below_any cb C st1 (p.2.1.length) _ hc1 (by omega)).mono ?_
      rintro e w9 ⟨rfl, hc9, e9⟩
      rw [hX9] at bb9 ⊢
      rw [hst9] at hc9
      have hd9 := hd1.trans e9
      clear hX9 hst9 e9
      have hbr := HBR.out.dr hd9 (by omega)
      have r0 := hbr.cellv (j := 0) (by simp); have r1 := hbr.cellv (j := 1) (by simp); have r2 := hbr.cellv (j := 2) (by simp); have r3 := hbr.cellv (j := 3) (by simp); simp only [List.getElem_cons_zero, List.getElem_cons_succ] at r0 r1 r2 r3; have f0 := hbr.frozen 0; have f1 := hbr.frozen 1; have f2 := hbr.frozen 2; have f3 := hbr.frozen 3
      have hsz := hd9.size
      clear g1 g2 g3 g4
      go_wp2_with fail
      have HBW := Lib.hid (((((Below.refl (w.heap.size + 1) w9).setCell (p := ⟨w.heap.size + 1, 0, none⟩) (Nat.le_refl _) (.int .i64 (2))).setCell (p := ⟨w.heap.size + 1, 1, none⟩) (Nat.le_refl _) (.int .i64 (X9))).setCell (p := ⟨w.heap.size + 1, 2, none⟩) (Nat.le_refl _) (.int .i64 (0))).setCell (p := ⟨w.heap.size + 1, 3, none⟩) (Nat.le_refl _) (.int .i64 (0)))
      have HBF := Lib.hid ((((hbr.set 0 (.int .i64 (2))).set 1 (.int .i64 (X9))).set 2 (.int .i64 (0))).set 3 (.int .i64 (0)))
      generalize ((((w9.setCell ⟨w.heap.size + 1, 0, none⟩ (.int .i64 (2))).setCell ⟨w.heap.size + 1, 1, none⟩ (.int .i64 (X9))).setCell ⟨w.heap.size + 1, 2, none⟩ (.int .i64 (0))).setCell ⟨w.heap.size + 1, 3, none⟩ (.int .i64 (0))) = WF at *
      have c0 := HBF.out.cellv (j := 0) (by simp)
      have c1 := HBF.out.cellv (j := 1) (by simp)
      have c2 := HBF.out.cellv (j := 2) (by simp)
      have c3 := HBF.out.cellv (j := 3) (by simp)
      simp only [List.set_cons_zero, List.set_cons_succ, List.getElem_cons_zero, List.getElem_cons_succ] at c0 c1 c2 c3
      have HCW := hc9.below HBW.out (by omega)
      have HDW := (hdW.trans hd9).below' HBW.out (by omega)
      clear HBF HBW
      exact bodyPost_ret (v := .agg #[.int .i64 (2), .int .i64 (X9), .int .i64 (0), .int .i64 (0)]) (by simp [results, Try.results87, go_sem, c0, c1, c2, c3]) rfl ⟨(2, X9, 0, 0), _, rfl, HCW, HDW⟩
  · have bb2 := belowV_in C (8) st1 (by omega)
    obtain ⟨X2, hX2⟩ : ∃ x, (belowV C (8) st1).1 = x := ⟨_, rfl⟩
    obtain ⟨st2, hst2⟩ : ∃ x, (belowV C (8) st1).2 = x := ⟨_, rfl⟩
    go_wp2_with fail
    refine (l01Below_any cb C st1 (8) _ hc1 (by omega)).mono ?_
    rintro e w2 ⟨rfl, hc2, e2⟩
    rw [hX2] at bb2 ⊢
    rw [hst2] at hc2
    have hd2 := hd1.trans e2
    clear hX2 hst2 e2
    have hw1 : IntKind.i64.wrap (X2 + 1) = X2 + 1 := IntWalk.i64_in _ (by omega)
    have bb3 := belowV_in C (8) st2 (by omega)
    obtain ⟨Y1, hY1⟩ : ∃ x, (belowV C (8) st2).1 = x := ⟨_, rfl⟩
    obtain ⟨st3, hst3⟩ : ∃ x, (belowV C (8) st2).2 = x := ⟨_, rfl⟩
    rw [hY1] at bb3
    have HY1 := Lib.hid (And.intro hY1 hst3)
    clear hY1 hst3
    have hq0 : 0 ≤ Y1.tdiv 7 ∧ Y1.tdiv 7 ≤ 1 := by rw [Int.tdiv_eq_ediv_of_nonneg bb3.1]; omega
    have hwq : IntKind.i64.wrap ((p.2.2.2.1.length : Int) + Y1.tdiv 7) = (p.2.2.2.1.length : Int) + Y1.tdiv 7 := IntWalk.i64_in _ (by omega)
    generalize hQ : Y1.tdiv 7 = Q at *
    have hwQ : IntKind.i64.wrap Q = Q := IntWalk.i64_in _ (by omega)
    have bb4 := belowV_nn C ((p.2.2.2.1.length : Int) + Q) st3
    obtain ⟨Y2, hY2⟩ : ∃ x, (belowV C ((p.2.2.2.1.length : Int) + Q) st3).1 = x := ⟨_, rfl⟩
    obtain ⟨st4, hst4⟩ : ∃ x, (belowV C ((p.2.2.2.1.length : Int) + Q) st3).2 = x := ⟨_, rfl⟩
    rw [hY2] at bb4
    have HY2 := Lib.hid (And.intro hY2 hst4)
    clear hY2 hst4
    have bb5 := belowV_in C (6) st4 (by omega)
    obtain ⟨Y3, hY3⟩ : ∃ x, (belowV C (6) st4).1 = x := ⟨_, rfl⟩
    obtain ⟨st5, hst5⟩ : ∃ x, (belowV C (6) st4).2 = x := ⟨_, rfl⟩
    rw [hY3] at bb5
    have HY3 := Lib.hid (And.intro hY3 hst5)
    clear hY3 hst5
    have hw3 : IntKind.i64.wrap (X2 + 1 + Y3) = X2 + 1 + Y3 := IntWalk.i64_in _ (by omega)
    have g23 := (HBP.out.dr hd2 (by omega)).cellv (j := 3) (by simp)
    simp only [List.getElem_cons_zero, List.getElem_cons_succ] at g23
    clear g1 g2 g3 g4
    go_wp2_with fail
    go_region_held3 (fun W => W.cell? ⟨w.heap.size, 3, none⟩ = some (.slice p3 p.2.2.2.1.length k3)) (first | exact g23 | exact g33 | exact g43 | exact g53 | exact cell_setAt (cell_setAt (cell_setAt (cell_setAt g53 (by omega) _) (by omega) _) (by omega) _) (by omega) _) (first | (go_at_call 139; (with_reducible refine (l01Below_any cb C st2 (8) _ (hc2.bel (by (repeat (first | assumption | exact Bel.refl _ | apply Bel.drewN | apply Bel.drew | apply Bel.alloc | refine Bel.trans ?_ (by assumption))))) (by omega)).mono ?_); rintro e w3 ⟨rfl, hc3, e3⟩; have e3 := (Dr.ofBel (cb := cb) (a := w2) (by (repeat (first | assumption | exact Bel.refl _ | apply Bel.drewN | apply Bel.drew | apply Bel.alloc | refine Bel.trans ?_ (by assumption))))).trans e3; have hd3 := hd2.trans e3; have g33 := e3.cell g23 (by omega); rw [HY1.out.1]; rw [HY1.out.2] at hc3) | (go_at_call 139; (with_reducible refine (l01Below_any cb C st3 ((p.2.2.2.1.length : Int) + Q) _ (hc3.bel (by (repeat (first | assumption | exact Bel.refl _ | apply Bel.drewN | apply Bel.drew | apply Bel.alloc | refine Bel.trans ?_ (by assumption))))) (by omega)).mono ?_); rintro e w4 ⟨rfl, hc4, e4⟩; have e4 := (Dr.ofBel (cb := cb) (a := w3) (by (repeat (first | assumption | exact Bel.refl _ | apply Bel.drewN | apply Bel.drew | apply Bel.alloc | refine Bel.trans ?_ (by assumption))))).trans e4; have hd4 := hd3.trans e4; have g43 := e4.cell g33 (by omega); rw [HY2.out.1]; rw [HY2.out.2] at hc4) | (go_at_call 139; (with_reducible refine (l01Below_any cb C st4 (6) _ (hc4.bel (by (repeat (first | assumption | exact Bel.refl _ | apply Bel.drewN | apply Bel.drew | apply Bel.alloc | refine Bel.trans ?_ (by assumption))))) (by omega)).mono ?_); rintro e w5 ⟨rfl, hc5, e5⟩; have e5 := (Dr.ofBel (cb := cb) (a := w4) (by (repeat (first | assumption | exact Bel.refl _ | apply Bel.drewN | apply Bel.drew | apply Bel.alloc | refine Bel.trans ?_ (by assumption))))).trans e5; have hd5 := hd4.trans e5; have g53 := e5.cell g43 (by omega); rw [HY3.out.1]; rw [HY3.out.2] at hc5; have hbr := HBR.out.dr hd5 (by omega); have r0 := hbr.cellv (j := 0) (by simp); have r1 := hbr.cellv (j := 1) (by simp); have r2 := hbr.cellv (j := 2) (by simp); have r3 := hbr.cellv (j := 3) (by simp); simp only [List.getElem_cons_zero, List.getElem_cons_succ] at r0 r1 r2 r3; have f0 := hbr.frozen 0; have f1 := hbr.frozen 1; have f2 := hbr.frozen 2; have f3 := hbr.frozen 3; have hsz := hd5.size) | fail)
    go_wp2_with fail
    have HBW := Lib.hid (((((Below.refl (w.heap.size + 1) w5).setCell (p := ⟨w.heap.size + 1, 0, none⟩) (Nat.le_refl _) (.int .i64 (4))).setCell (p := ⟨w.heap.size + 1, 1, none⟩) (Nat.le_refl _) (.int .i64 (Y2))).setCell (p := ⟨w.heap.size + 1, 2, none⟩) (Nat.le_refl _) (.int .i64 (X2))).setCell (p := ⟨w.heap.size + 1, 3, none⟩) (Nat.le_refl _) (.int .i64 (X2 + 1 + Y3)))
    have HBF := Lib.hid ((((hbr.set 0 (.int .i64 (4))).set 1 (.int .i64 (Y2))).set 2 (.int .i64 (X2))).set 3 (.int .i64 (X2 + 1 + Y3)))
    generalize ((((w5.setCell ⟨w.heap.size + 1, 0, none⟩ (.int .i64 (4))).setCell ⟨w.heap.size + 1, 1, none⟩ (.int .i64 (Y2))).setCell ⟨w.heap.size + 1, 2, none⟩ (.int .i64 (X2))).setCell ⟨w.heap.size + 1, 3, none⟩ (.int .i64 (X2 + 1 + Y3))) = WF at *
    have c0 := HBF.out.cellv (j := 0) (by simp)
    have c1 := HBF.out.cellv (j := 1) (by simp)
    have c2 := HBF.out.cellv (j := 2) (by simp)
    have c3 := HBF.out.cellv (j := 3) (by simp)
    simp only [List.set_cons_zero, List.set_cons_succ, List.getElem_cons_zero, List.getElem_cons_succ] at c0 c1 c2 c3
    have HCW := hc5.below HBW.out (by omega)
    have HDW := (hdW.trans hd5).below' HBW.out (by omega)
    clear HBF HBW
    exact bodyPost_ret (v := .agg #[.int .i64 (4), .int .i64 (Y2), .int .i64 (X2), .int .i64 (X2 + 1 + Y3)]) (by simp [results, Try.results87, go_sem, c0, c1, c2, c3]) rfl ⟨(4, Y2, X2, X2 + 1 + Y3), _, rfl, HCW, HDW⟩
  · have bb2 := belowV_in C (8) st1 (by omega)
    obtain ⟨X2, hX2⟩ : ∃ x, (belowV C (8) st1).1 = x := ⟨_, rfl⟩
    obtain ⟨st2, hst2⟩ : ∃ x, (belowV C (8) st1).2 = x := ⟨_, rfl⟩
    go_wp2_with fail
    refine (l01Below_any cb C st1 (8) _ hc1 (by omega)).mono ?_
    rintro e w2 ⟨rfl, hc2, e2⟩
    rw [hX2] at bb2 ⊢
    rw [hst2] at hc2
    have hd2 := hd1.trans e2
    clear hX2 hst2 e2
    have hw1 : IntKind.i64.wrap (X2 + 1) = X2 + 1 := IntWalk.i64_in _ (by omega)
    have bb3 := belowV_in C (8) st2 (by omega)
    obtain ⟨Y1, hY1⟩ : ∃ x, (belowV C (8) st2).1 = x := ⟨_, rfl⟩
    obtain ⟨st3, hst3⟩ : ∃ x, (belowV C (8) st2).2 = x := ⟨_, rfl⟩
    rw [hY1] at bb3
    have HY1 := Lib.hid (And.intro hY1 hst3)
    clear hY1 hst3
    have hq0 : 0 ≤ Y1.tdiv 7 ∧ Y1.tdiv 7 ≤ 1 := by rw [Int.tdiv_eq_ediv_of_nonneg bb3.1]; omega
    have hwq : IntKind.i64.wrap ((p.2.2.2.1.length : Int) + Y1.tdiv 7) = (p.2.2.2.1.length : Int) + Y1.tdiv 7 := IntWalk.i64_in _ (by omega)
    generalize hQ : Y1.tdiv 7 = Q at *
    have hwQ : IntKind.i64.wrap Q = Q := IntWalk.i64_in _ (by omega)
    have bb4 := belowV_nn C ((p.2.2.2.1.length : Int) + Q) st3
    obtain ⟨Y2, hY2⟩ : ∃ x, (belowV C ((p.2.2.2.1.length : Int) + Q) st3).1 = x := ⟨_, rfl⟩
    obtain ⟨st4, hst4⟩ : ∃ x, (belowV C ((p.2.2.2.1.length : Int) + Q) st3).2 = x := ⟨_, rfl⟩
    rw [hY2] at bb4
    have HY2 := Lib.hid (And.intro hY2 hst4)
    clear hY2 hst4
    have bb5 := belowV_in C (6) st4 (by omega)
    obtain ⟨Y3, hY3⟩ : ∃ x, (belowV C (6) st4).1 = x := ⟨_, rfl⟩
    obtain ⟨st5, hst5⟩ : ∃ x, (belowV C (6) st4).2 = x := ⟨_, rfl⟩
    rw [hY3] at bb5
    have HY3 := Lib.hid (And.intro hY3 hst5)
    clear hY3 hst5
    have hw3 : IntKind.i64.wrap (X2 + 1 + Y3) = X2 + 1 + Y3 := IntWalk.i64_in _ (by omega)
    have g23 := (HBP.out.dr hd2 (by omega)).cellv (j := 3) (by simp)
    simp only [List.getElem_cons_zero, List.getElem_cons_succ] at g23
    clear g1 g2 g3 g4
    go_wp2_with fail
    go_region_held3 (fun W => W.cell? ⟨w.heap.size, 3, none⟩ = some (.slice p3 p.2.2.2.1.length k3)) (first | exact g23 | exact g33 | exact g43 | exact g53 | exact cell_setAt (cell_setAt (cell_setAt (cell_setAt g53 (by omega) _) (by omega) _) (by omega) _) (by omega) _) (first | (go_at_call 139; (with_reducible refine (l01Below_any cb C st2 (8) _ (hc2.bel (by (repeat (first | assumption | exact Bel.refl _ | apply Bel.drewN | apply Bel.drew | apply Bel.alloc | refine Bel.trans ?_ (by assumption))))) (by omega)).mono ?_); rintro e w3 ⟨rfl, hc3, e3⟩; have e3 := (Dr.ofBel (cb := cb) (a := w2) (by (repeat (first | assumption | exact Bel.refl _ | apply Bel.drewN | apply Bel.drew | apply Bel.alloc | refine Bel.trans ?_ (by assumption))))).trans e3; have hd3 := hd2.trans e3; have g33 := e3.cell g23 (by omega); rw [HY1.out.1]; rw [HY1.out.2] at hc3) | (go_at_call 139; (with_reducible refine (l01Below_any cb C st3 ((p.2.2.2.1.length : Int) + Q) _ (hc3.bel (by (repeat (first | assumption | exact Bel.refl _ | apply Bel.drewN | apply Bel.drew | apply Bel.alloc | refine Bel.trans ?_ (by assumption))))) (by omega)).mono ?_); rintro e w4 ⟨rfl, hc4, e4⟩; have e4 := (Dr.ofBel (cb := cb) (a := w3) (by (repeat (first | assumption | exact Bel.refl _ | apply Bel.drewN | apply Bel.drew | apply Bel.alloc | refine Bel.trans ?_ (by assumption))))).trans e4; have hd4 := hd3.trans e4; have g43 := e4.cell g33 (by omega); rw [HY2.out.1]; rw [HY2.out.2] at hc4) | (go_at_call 139; (with_reducible refine (l01Below_any cb C st4 (6) _ (hc4.bel (by (repeat (first | assumption | exact Bel.refl _ | apply Bel.drewN | apply Bel.drew | apply Bel.alloc | refine Bel.trans ?_ (by assumption))))) (by omega)).mono ?_); rintro e w5 ⟨rfl, hc5, e5⟩; have e5 := (Dr.ofBel (cb := cb) (a := w4) (by (repeat (first | assumption | exact Bel.refl _ | apply Bel.drewN | apply Bel.drew | apply Bel.alloc | refine Bel.trans ?_ (by assumption))))).trans e5; have hd5 := hd4.trans e5; have g53 := e5.cell g43 (by omega); rw [HY3.out.1]; rw [HY3.out.2] at hc5; have hbr := HBR.out.dr hd5 (by omega); have r0 := hbr.cellv (j := 0) (by simp); have r1 := hbr.cellv (j := 1) (by simp); have r2 := hbr.cellv (j := 2) (by simp); have r3 := hbr.cellv (j := 3) (by simp); simp only [List.getElem_cons_zero, List.getElem_cons_succ] at r0 r1 r2 r3; have f0 := hbr.frozen 0; have f1 := hbr.frozen 1; have f2 := hbr.frozen 2; have f3 := hbr.frozen 3; have hsz := hd5.size) | fail)
    go_wp2_with fail
    have HBW := Lib.hid (((((Below.refl (w.heap.size + 1) w5).setCell (p := ⟨w.heap.size + 1, 0, none⟩) (Nat.le_refl _) (.int .i64 (4))).setCell (p := ⟨w.heap.size + 1, 1, none⟩) (Nat.le_refl _) (.int .i64 (Y2))).setCell (p := ⟨w.heap.size + 1, 2, none⟩) (Nat.le_refl _) (.int .i64 (X2))).setCell (p := ⟨w.heap.size + 1, 3, none⟩) (Nat.le_refl _) (.int .i64 (X2 + 1 + Y3)))
    have HBF := Lib.hid ((((hbr.set 0 (.int .i64 (4))).set 1 (.int .i64 (Y2))).set 2 (.int .i64 (X2))).set 3 (.int .i64 (X2 + 1 + Y3)))
    generalize ((((w5.setCell ⟨w.heap.size + 1, 0, none⟩ (.int .i64 (4))).setCell ⟨w.heap.size + 1, 1, none⟩ (.int .i64 (Y2))).setCell ⟨w.heap.size + 1, 2, none⟩ (.int .i64 (X2))).setCell ⟨w.heap.size + 1, 3, none⟩ (.int .i64 (X2 + 1 + Y3))) = WF at *
    have c0 := HBF.out.cellv (j := 0) (by simp)
    have c1 := HBF.out.cellv (j := 1) (by simp)
    have c2 := HBF.out.cellv (j := 2) (by simp)
    have c3 := HBF.out.cellv (j := 3) (by simp)
    simp only [List.set_cons_zero, List.set_cons_succ, List.getElem_cons_zero, List.getElem_cons_succ] at c0 c1 c2 c3
    have HCW := hc5.below HBW.out (by omega)
    have HDW := (hdW.trans hd5).below' HBW.out (by omega)
    clear HBF HBW
    exact bodyPost_ret (v := .agg #[.int .i64 (4), .int .i64 (Y2), .int .i64 (X2), .int .i64 (X2 + 1 + Y3)]) (by simp [results, Try.results87, go_sem, c0, c1, c2, c3]) rfl ⟨(4, Y2, X2, X2 + 1 + Y3), _, rfl, HCW, HDW⟩
  · by_cases hl : 1 < p.2.1.length
    · have hli : (1 : Int) < (p.2.1.length : Int) := by omega
      have hwn : IntKind.i64.wrap ((p.2.1.length : Int) - 1) = (p.2.1.length : Int) - 1 := IntWalk.i64_in _ (by omega)
      have bb2 := belowV_in C ((p.2.1.length : Int) - 1) st1 (by omega)
      obtain ⟨X2, hX2⟩ : ∃ x, (belowV C ((p.2.1.length : Int) - 1) st1).1 = x := ⟨_, rfl⟩
      obtain ⟨st2, hst2⟩ : ∃ x, (belowV C ((p.2.1.length : Int) - 1) st1).2 = x := ⟨_, rfl⟩
      go_wp2_with fail
      refine (l01Below_any cb C st1 ((p.2.1.length : Int) - 1) _ hc1 (by omega)).mono ?_
      rintro e w2 ⟨rfl, hc2, e2⟩
      rw [hX2] at bb2 ⊢
      rw [hst2] at hc2
      have hd2 := hd1.trans e2
      clear hX2 hst2 e2
      have hbp := HBP.out.dr hd2 (by omega)
      have g1 := hbp.cellv (j := 1) (by simp); have g2 := hbp.cellv (j := 2) (by simp); have g3 := hbp.cellv (j := 3) (by simp); have g4 := hbp.cellv (j := 4) (by simp); simp only [List.getElem_cons_zero, List.getElem_cons_succ] at g1 g2 g3 g4
      have hwr : IntKind.i64.wrap ((p.2.2.2.1.length : Int) + 1) = (p.2.2.2.1.length : Int) + 1 := IntWalk.i64_in _ (by omega)
      have bb3 := belowV_in C ((p.2.2.2.1.length : Int) + 1) st2 (by omega)
      obtain ⟨X3, hX3⟩ : ∃ x, (belowV C ((p.2.2.2.1.length : Int) + 1) st2).1 = x := ⟨_, rfl⟩
      obtain ⟨st3, hst3⟩ : ∃ x, (belowV C ((p.2.2.2.1.length : Int) + 1) st2).2 = x := ⟨_, rfl⟩
      go_wp2_with fail
      refine (l01Below_any cb C st2 ((p.2.2.2.1.length : Int) + 1) _ hc2 (by omega)).mono ?_
      rintro e w3 ⟨rfl, hc3, e3⟩
      rw [hX3] at bb3 ⊢
      rw [hst3] at hc3
      have hd3 := hd2.trans e3
      clear hX3 hst3 e3
      have hwd : IntKind.i64.wrap ((p.2.1.length : Int) - 1 - X2) = (p.2.1.length : Int) - 1 - X2 := IntWalk.i64_in _ (by omega)
      have hwb : IntKind.i64.wrap (X2 + 1) = X2 + 1 := IntWalk.i64_in _ (by omega)
      have bb4 := belowV_in C ((p.2.1.length : Int) - 1 - X2) st3 (by omega)
      obtain ⟨X4, hX4⟩ : ∃ x, (belowV C ((p.2.1.length : Int) - 1 - X2) st3).1 = x := ⟨_, rfl⟩
      obtain ⟨st4, hst4⟩ : ∃ x, (belowV C ((p.2.1.length : Int) - 1 - X2) st3).2 = x := ⟨_, rfl⟩
      go_wp2_with fail
      refine (l01Below_any cb C st3 ((p.2.1.length : Int) - 1 - X2) _ hc3 (by omega)).mono ?_
      rintro e w4 ⟨rfl, hc4, e4⟩
      rw [hX4] at bb4 ⊢
      rw [hst4] at hc4
      have hd4 := hd3.trans e4
      clear hX4 hst4 e4
      have hwe : IntKind.i64.wrap (X2 + 1 + X4) = X2 + 1 + X4 := IntWalk.i64_in _ (by omega)
      have hbr := HBR.out.dr hd4 (by omega)
      have r0 := hbr.cellv (j := 0) (by simp); have r1 := hbr.cellv (j := 1) (by simp); have r2 := hbr.cellv (j := 2) (by simp); have r3 := hbr.cellv (j := 3) (by simp); simp only [List.getElem_cons_zero, List.getElem_cons_succ] at r0 r1 r2 r3; have f0 := hbr.frozen 0; have f1 := hbr.frozen 1; have f2 := hbr.frozen 2; have f3 := hbr.frozen 3
      have hsz := hd4.size
      clear g1 g2 g3 g4
      go_wp2_with fail
      have HBW := Lib.hid (((((Below.refl (w.heap.size + 1) w4).setCell (p := ⟨w.heap.size + 1, 0, none⟩) (Nat.le_refl _) (.int .i64 (5))).setCell (p := ⟨w.heap.size + 1, 1, none⟩) (Nat.le_refl _) (.int .i64 (X3))).setCell (p := ⟨w.heap.size + 1, 2, none⟩) (Nat.le_refl _) (.int .i64 (X2))).setCell (p := ⟨w.heap.size + 1, 3, none⟩) (Nat.le_refl _) (.int .i64 (X2 + 1 + X4)))
      have HBF := Lib.hid ((((hbr.set 0 (.int .i64 (5))).set 1 (.int .i64 (X3))).set 2 (.int .i64 (X2))).set 3 (.int .i64 (X2 + 1 + X4)))
      generalize ((((w4.setCell ⟨w.heap.size + 1, 0, none⟩ (.int .i64 (5))).setCell ⟨w.heap.size + 1, 1, none⟩ (.int .i64 (X3))).setCell ⟨w.heap.size + 1, 2, none⟩ (.int .i64 (X2))).setCell ⟨w.heap.size + 1, 3, none⟩ (.int .i64 (X2 + 1 + X4))) = WF at *
      have c0 := HBF.out.cellv (j := 0) (by simp)
      have c1 := HBF.out.cellv (j := 1) (by simp)
      have c2 := HBF.out.cellv (j := 2) (by simp)
      have c3 := HBF.out.cellv (j := 3) (by simp)
      simp only [List.set_cons_zero, List.set_cons_succ, List.getElem_cons_zero, List.getElem_cons_succ] at c0 c1 c2 c3
      have HCW := hc4.below HBW.out (by omega)
      have HDW := (hdW.trans hd4).below' HBW.out (by omega)
      clear HBF HBW
      exact bodyPost_ret (v := .agg #[.int .i64 (5), .int .i64 (X3), .int .i64 (X2), .int .i64 (X2 + 1 + X4)]) (by simp [results, Try.results87, go_sem, c0, c1, c2, c3]) rfl ⟨(5, X3, X2, X2 + 1 + X4), _, rfl, HCW, HDW⟩
    · have hli : ¬ (1 : Int) < (p.2.1.length : Int) := by omega
      have hmx := maxI_one hpb.1
      go_wp2_with fail
      refine (l02Max_any _ _ _).mono ?_
      rintro e wm ⟨rfl, rfl⟩
      rw [hmx]
      clear hmx
      have bb9 := belowV_in C (p.2.1.length) st1 (by omega)
      obtain ⟨X9, hX9⟩ : ∃ x, (belowV C (p.2.1.length) st1).1 = x := ⟨_, rfl⟩
      obtain ⟨st9, hst9⟩ : ∃ x, (belowV C (p.2.1.length) st1).2 = x := ⟨_, rfl⟩
      go_wp2_with fail
      refine (l01Below_any cb C st1 (p.2.1.length) _ hc1 (by omega)).mono ?_
      rintro e w9 ⟨rfl, hc9, e9⟩
      rw [hX9] at bb9 ⊢
      rw [hst9] at hc9
      have hd9 := hd1.trans e9
      clear hX9 hst9 e9
      have hbr := HBR.out.dr hd9 (by omega)
      have r0 := hbr.cellv (j := 0) (by simp); have r1 := hbr.cellv (j := 1) (by simp); have r2 := hbr.cellv (j := 2) (by simp); have r3 := hbr.cellv (j := 3) (by simp); simp only [List.getElem_cons_zero, List.getElem_cons_succ] at r0 r1 r2 r3; have f0 := hbr.frozen 0; have f1 := hbr.frozen 1; have f2 := hbr.frozen 2; have f3 := hbr.frozen 3
      have hsz := hd9.size
      clear g1 g2 g3 g4
      go_wp2_with fail
      have HBW := Lib.hid (((((Below.refl (w.heap.size + 1) w9).setCell (p := ⟨w.heap.size + 1, 0, none⟩) (Nat.le_refl _) (.int .i64 (2))).setCell (p := ⟨w.heap.size + 1, 1, none⟩) (Nat.le_refl _) (.int .i64 (X9))).setCell (p := ⟨w.heap.size + 1, 2, none⟩) (Nat.le_refl _) (.int .i64 (0))).setCell (p := ⟨w.heap.size + 1, 3, none⟩) (Nat.le_refl _) (.int .i64 (0)))
      have HBF := Lib.hid ((((hbr.set 0 (.int .i64 (2))).set 1 (.int .i64 (X9))).set 2 (.int .i64 (0))).set 3 (.int .i64 (0)))
      generalize ((((w9.setCell ⟨w.heap.size + 1, 0, none⟩ (.int .i64 (2))).setCell ⟨w.heap.size + 1, 1, none⟩ (.int .i64 (X9))).setCell ⟨w.heap.size + 1, 2, none⟩ (.int .i64 (0))).setCell ⟨w.heap.size + 1, 3, none⟩ (.int .i64 (0))) = WF at *
      have c0 := HBF.out.cellv (j := 0) (by simp)
      have c1 := HBF.out.cellv (j := 1) (by simp)
      have c2 := HBF.out.cellv (j := 2) (by simp)
      have c3 := HBF.out.cellv (j := 3) (by simp)
      simp only [List.set_cons_zero, List.set_cons_succ, List.getElem_cons_zero, List.getElem_cons_succ] at c0 c1 c2 c3
      have HCW := hc9.below HBW.out (by omega)
      have HDW := (hdW.trans hd9).below' HBW.out (by omega)
      clear HBF HBW
      exact bodyPost_ret (v := .agg #[.int .i64 (2), .int .i64 (X9), .int .i64 (0), .int .i64 (0)]) (by simp [results, Try.results87, go_sem, c0, c1, c2, c3]) rfl ⟨(2, X9, 0, 0), _, rfl, HCW, HDW⟩
  · have bb2 := belowV_in C (8) st1 (by omega)
    obtain ⟨Y1, hY1⟩ : ∃ x, (belowV C (8) st1).1 = x := ⟨_, rfl⟩
    obtain ⟨st2, hst2⟩ : ∃ x, (belowV C (8) st1).2 = x := ⟨_, rfl⟩
    rw [hY1] at bb2
    have HY1 := Lib.hid (And.intro hY1 hst2)
    clear hY1 hst2
    have hq0 : 0 ≤ Y1.tdiv 7 ∧ Y1.tdiv 7 ≤ 1 := by rw [Int.tdiv_eq_ediv_of_nonneg bb2.1]; omega
    have hwq : IntKind.i64.wrap ((p.2.2.2.1.length : Int) + Y1.tdiv 7) = (p.2.2.2.1.length : Int) + Y1.tdiv 7 := IntWalk.i64_in _ (by omega)
    generalize hQ : Y1.tdiv 7 = Q at *
    have hwQ : IntKind.i64.wrap Q = Q := IntWalk.i64_in _ (by omega)
    have bb3 := belowV_nn C ((p.2.2.2.1.length : Int) + Q) st2
    obtain ⟨Y2, hY2⟩ : ∃ x, (belowV C ((p.2.2.2.1.length : Int) + Q) st2).1 = x := ⟨_, rfl⟩
    obtain ⟨st3, hst3⟩ : ∃ x, (belowV C ((p.2.2.2.1.length : Int) + Q) st2).2 = x := ⟨_, rfl⟩
    rw [hY2] at bb3
    have HY2 := Lib.hid (And.intro hY2 hst3)
    clear hY2 hst3
    have bb4 := belowV_in C (12) st3 (by omega)
    obtain ⟨Y3, hY3⟩ : ∃ x, (belowV C (12) st3).1 = x := ⟨_, rfl⟩
    obtain ⟨st4, hst4⟩ : ∃ x, (belowV C (12) st3).2 = x := ⟨_, rfl⟩
    rw [hY3] at bb4
    have HY3 := Lib.hid (And.intro hY3 hst4)
    clear hY3 hst4
    have g13 := (HBP.out.dr hd1 (by omega)).cellv (j := 3) (by simp)
    simp only [List.getElem_cons_zero, List.getElem_cons_succ] at g13
    clear g1 g2 g3 g4
    go_wp2_with fail
    go_region_held3 (fun W => W.cell? ⟨w.heap.size, 3, none⟩ = some (.slice p3 p.2.2.2.1.length k3)) (first | exact g13 | exact g23 | exact g33 | exact g43 | exact cell_setAt (cell_setAt (cell_setAt (cell_setAt g43 (by omega) _) (by omega) _) (by omega) _) (by omega) _) (first | (go_at_call 139; (with_reducible refine (l01Below_any cb C st1 (8) _ (hc1.bel (by (repeat (first | assumption | exact Bel.refl _ | apply Bel.drewN | apply Bel.drew | apply Bel.alloc | refine Bel.trans ?_ (by assumption))))) (by omega)).mono ?_); rintro e w2 ⟨rfl, hc2, e2⟩; have e2 := (Dr.ofBel (cb := cb) (a := w1) (by (repeat (first | assumption | exact Bel.refl _ | apply Bel.drewN | apply Bel.drew | apply Bel.alloc | refine Bel.trans ?_ (by assumption))))).trans e2; have hd2 := hd1.trans e2; have g23 := e2.cell g13 (by omega); rw [HY1.out.1]; rw [HY1.out.2] at hc2) | (go_at_call 139; (with_reducible refine (l01Below_any cb C st2 ((p.2.2.2.1.length : Int) + Q) _ (hc2.bel (by (repeat (first | assumption | exact Bel.refl _ | apply Bel.drewN | apply Bel.drew | apply Bel.alloc | refine Bel.trans ?_ (by assumption))))) (by omega)).mono ?_); rintro e w3 ⟨rfl, hc3, e3⟩; have e3 := (Dr.ofBel (cb := cb) (a := w2) (by (repeat (first | assumption | exact Bel.refl _ | apply Bel.drewN | apply Bel.drew | apply Bel.alloc | refine Bel.trans ?_ (by assumption))))).trans e3; have hd3 := hd2.trans e3; have g33 := e3.cell g23 (by omega); rw [HY2.out.1]; rw [HY2.out.2] at hc3) | (go_at_call 139; (with_reducible refine (l01Below_any cb C st3 (12) _ (hc3.bel (by (repeat (first | assumption | exact Bel.refl _ | apply Bel.drewN | apply Bel.drew | apply Bel.alloc | refine Bel.trans ?_ (by assumption))))) (by omega)).mono ?_); rintro e w4 ⟨rfl, hc4, e4⟩; have e4 := (Dr.ofBel (cb := cb) (a := w3) (by (repeat (first | assumption | exact Bel.refl _ | apply Bel.drewN | apply Bel.drew | apply Bel.alloc | refine Bel.trans ?_ (by assumption))))).trans e4; have hd4 := hd3.trans e4; have g43 := e4.cell g33 (by omega); rw [HY3.out.1]; rw [HY3.out.2] at hc4; have hbr := HBR.out.dr hd4 (by omega); have r0 := hbr.cellv (j := 0) (by simp); have r1 := hbr.cellv (j := 1) (by simp); have r2 := hbr.cellv (j := 2) (by simp); have r3 := hbr.cellv (j := 3) (by simp); simp only [List.getElem_cons_zero, List.getElem_cons_succ] at r0 r1 r2 r3; have f0 := hbr.frozen 0; have f1 := hbr.frozen 1; have f2 := hbr.frozen 2; have f3 := hbr.frozen 3; have hsz := hd4.size) | fail)
    go_wp2_with fail
    have HBW := Lib.hid (((((Below.refl (w.heap.size + 1) w4).setCell (p := ⟨w.heap.size + 1, 0, none⟩) (Nat.le_refl _) (.int .i64 (3))).setCell (p := ⟨w.heap.size + 1, 1, none⟩) (Nat.le_refl _) (.int .i64 (Y2))).setCell (p := ⟨w.heap.size + 1, 2, none⟩) (Nat.le_refl _) (.int .i64 (Y3))).setCell (p := ⟨w.heap.size + 1, 3, none⟩) (Nat.le_refl _) (.int .i64 (0)))
    have HBF := Lib.hid ((((hbr.set 0 (.int .i64 (3))).set 1 (.int .i64 (Y2))).set 2 (.int .i64 (Y3))).set 3 (.int .i64 (0)))
    generalize ((((w4.setCell ⟨w.heap.size + 1, 0, none⟩ (.int .i64 (3))).setCell ⟨w.heap.size + 1, 1, none⟩ (.int .i64 (Y2))).setCell ⟨w.heap.size + 1, 2, none⟩ (.int .i64 (Y3))).setCell ⟨w.heap.size + 1, 3, none⟩ (.int .i64 (0))) = WF at *
    have c0 := HBF.out.cellv (j := 0) (by simp)
    have c1 := HBF.out.cellv (j := 1) (by simp)
    have c2 := HBF.out.cellv (j := 2) (by simp)
    have c3 := HBF.out.cellv (j := 3) (by simp)
    simp only [List.set_cons_zero, List.set_cons_succ, List.getElem_cons_zero, List.getElem_cons_succ] at c0 c1 c2 c3
    have HCW := hc4.below HBW.out (by omega)
    have HDW := (hdW.trans hd4).below' HBW.out (by omega)
    clear HBF HBW
    exact bodyPost_ret (v := .agg #[.int .i64 (3), .int .i64 (Y2), .int .i64 (Y3), .int .i64 (0)]) (by simp [results, Try.results87, go_sem, c0, c1, c2, c3]) rfl ⟨(3, Y2, Y3, 0), _, rfl, HCW, HDW⟩
  · have hmx := maxI_one hpb.1
    go_wp2_with fail
    refine (l02Max_any _ _ _).mono ?_
    rintro e wm ⟨rfl, rfl⟩
    rw [hmx]
    clear hmx
    have bb9 := belowV_in C (p.2.1.length) st1 (by omega)
    obtain ⟨X9, hX9⟩ : ∃ x, (belowV C (p.2.1.length) st1).1 = x := ⟨_, rfl⟩
    obtain ⟨st9, hst9⟩ : ∃ x, (belowV C (p.2.1.length) st1).2 = x := ⟨_, rfl⟩
    go_wp2_with fail
    refine (l01Below_any cb C st1 (p.2.1.length) _ hc1 (by omega)).mono ?_
    rintro e w9 ⟨rfl, hc9, e9⟩
    rw [hX9] at bb9 ⊢
    rw [hst9] at hc9
    have hd9 := hd1.trans e9
    clear hX9 hst9 e9
    have hbr := HBR.out.dr hd9 (by omega)
    have r0 := hbr.cellv (j := 0) (by simp); have r1 := hbr.cellv (j := 1) (by simp); have r2 := hbr.cellv (j := 2) (by simp); have r3 := hbr.cellv (j := 3) (by simp); simp only [List.getElem_cons_zero, List.getElem_cons_succ] at r0 r1 r2 r3; have f0 := hbr.frozen 0; have f1 := hbr.frozen 1; have f2 := hbr.frozen 2; have f3 := hbr.frozen 3
    have hsz := hd9.size
    clear g1 g2 g3 g4
    go_wp2_with fail
    have HBW := Lib.hid (((((Below.refl (w.heap.size + 1) w9).setCell (p := ⟨w.heap.size + 1, 0, none⟩) (Nat.le_refl _) (.int .i64 (2))).setCell (p := ⟨w.heap.size + 1, 1, none⟩) (Nat.le_refl _) (.int .i64 (X9))).setCell (p := ⟨w.heap.size + 1, 2, none⟩) (Nat.le_refl _) (.int .i64 (0))).setCell (p := ⟨w.heap.size + 1, 3, none⟩) (Nat.le_refl _) (.int .i64 (0)))
    have HBF := Lib.hid ((((hbr.set 0 (.int .i64 (2))).set 1 (.int .i64 (X9))).set 2 (.int .i64 (0))).set 3 (.int .i64 (0)))
    generalize ((((w9.setCell ⟨w.heap.size + 1, 0, none⟩ (.int .i64 (2))).setCell ⟨w.heap.size + 1, 1, none⟩ (.int .i64 (X9))).setCell ⟨w.heap.size + 1, 2, none⟩ (.int .i64 (0))).setCell ⟨w.heap.size + 1, 3, none⟩ (.int .i64 (0))) = WF at *
    have c0 := HBF.out.cellv (j := 0) (by simp)
    have c1 := HBF.out.cellv (j := 1) (by simp)
    have c2 := HBF.out.cellv (j := 2) (by simp)
    have c3 := HBF.out.cellv (j := 3) (by simp)
    simp only [List.set_cons_zero, List.set_cons_succ, List.getElem_cons_zero, List.getElem_cons_succ] at c0 c1 c2 c3
    have HCW := hc9.below HBW.out (by omega)
    have HDW := (hdW.trans hd9).below' HBW.out (by omega)
    clear HBF HBW
    exact bodyPost_ret (v := .agg #[.int .i64 (2), .int .i64 (X9), .int .i64 (0), .int .i64 (0)]) (by simp [results, Try.results87, go_sem, c0, c1, c2, c3]) rfl ⟨(2, X9, 0, 0), _, rfl, HCW, HDW⟩

set_option maxHeartbeats 2000000 in
theorem MakeRule_any (v : Value) (C : List Int) (S : Nat → Prop) (v1 : Value) (p : ProjT) (T : Nat → Prop) (w : World) (hx : bytesR S w [v] C) (hS : ∀ b, S b → b < w.heap.size) (hl : C.length ≤ 1048576) (hp : aggR projR T w v1 p) (hT : ∀ b, T b → b < w.heap.size) (hok : projOk p = true) :
    Calls Try.prog 24 #[v, v1] w (fun e w' => ∃ r : RuleT, e = .returned (.agg #[.int .i64 r.1, .int .i64 r.2.1, .int .i64 r.2.2.1, .int .i64 r.2.2.2]) ∧ Bel w w') := by
  obtain ⟨cs, rfl, hp⟩ := hp
  obtain ⟨y1, y2, y3, y4, rfl, q0, q1, q2, q3, q4⟩ := projR_open hp
  obtain ⟨p1, k1, rfl, -⟩ := sliceR_open q1
  obtain ⟨p2, k2, rfl, -⟩ := sliceR_open q2
  obtain ⟨p3, k3, rfl, -⟩ := sliceR_open q3
  obtain ⟨p4, k4, rfl, -⟩ := sliceR_open q4
  have HP := Lib.hid hp
  have HT := Lib.hid hT
  have HOK := Lib.hid hok
  have HX0 := Lib.hid hx
  have HS0 := Lib.hid hS
  clear hp q0 q1 q2 q3 q4 hT hok hx hS
  obtain ⟨W0, hW0⟩ : ∃ W, W = (w.alloc (.cells #[.int .i64 p.1, .slice p1 p.2.1.length k1, .slice p2 p.2.2.1.length k2, .slice p3 p.2.2.2.1.length k3, .slice p4 p.2.2.2.2.length k4] 34)).alloc (.cells #[.int .i64 0, .int .i64 0, .int .i64 0, .int .i64 0] 55) := ⟨_, rfl⟩
  have hB0 : Bel w W0 := by rw [hW0]; (repeat (first | assumption | exact Bel.refl _ | apply Bel.drewN | apply Bel.drew | apply Bel.alloc | refine Bel.trans ?_ (by assumption)))
  have hz0 : W0.heap.size = w.heap.size + 2 := by rw [hW0]; simp
  have HBR := Lib.hid (show Blk W0 (w.heap.size + 1) 55 [.int .i64 0, .int .i64 0, .int .i64 0, .int .i64 0] from by rw [hW0]; exact Blk.new' _ (by simp))
  have HBP := Lib.hid (show Blk W0 w.heap.size 34 [.int .i64 p.1, .slice p1 p.2.1.length k1, .slice p2 p.2.2.1.length k2, .slice p3 p.2.2.2.1.length k3, .slice p4 p.2.2.2.2.length k4] from by rw [hW0]; exact (Blk.new' _ rfl).alloc _)
  have HX := Lib.hid (bytesR_good.bel HX0.out hB0 HS0.out)
  have HS := Lib.hid (show ∀ b, S b → b < W0.heap.size from fun b hb => by have := HS0.out b hb; omega)
  have HW0 := Lib.hid hW0
  have hz0' : w.heap.size + 2 ≤ W0.heap.size := by omega
  show Calls Try.prog 24 #[v, .agg #[.int .i64 p.1, .slice p1 p.2.1.length k1, .slice p2 p.2.2.1.length k2, .slice p3 p.2.2.2.1.length k3, .slice p4 p.2.2.2.2.length k4]] w _
  go_enter Try.func24, Try.ntmps24
  clear hW0 hz0
  go_wp2_with fail
  rw [← HW0.out]
  refine (l01New_any v C S _ HX.out HS.out hl).mono ?_
  rintro e w1 ⟨cb, rfl, hcb, hc1, g1⟩
  have HBR1 := Lib.hid (HBR.out.bel g1)
  have HBP1 := Lib.hid (HBP.out.bel g1)
  have G1 := hB0.trans g1
  have hcb' : w.heap.size + 2 ≤ cb := by omega
  obtain ⟨u0, u1, u2, u3, u4, u5, u6, u7⟩ := hc1.ex
  have f2 := u6 2
  have hni := newV_in C hl
  have hwt : IntKind.i64.wrap ((newV C).2 + 13) = (newV C).2 + 13 := IntWalk.i64_in _ (by omega)
  have HCA := Lib.hid (show Cur (w1.setCell ⟨cb, 2, none⟩ (.int .i64 ((newV C).2 + 13))) cb C (newAt C 13) from hc1.set (j := 2) (.inr ⟨rfl, rfl, by unfold I64; omega⟩))
  have HDA := Lib.hid ((Dr.refl cb w1).put 2 (.int .i64 ((newV C).2 + 13)))
  have hlt1 := hc1.lt
  have b0 := HBP1.out.cellv (j := 0) (by simp)
  have b1 := HBP1.out.cellv (j := 1) (by simp)
  have b2 := HBP1.out.cellv (j := 2) (by simp)
  have b3 := HBP1.out.cellv (j := 3) (by simp)
  have b4 := HBP1.out.cellv (j := 4) (by simp)
  simp only [List.getElem_cons_zero, List.getElem_cons_succ] at b0 b1 b2 b3 b4
  clear u6 u7 hc1 g1 hB0 u3 u4 hcb
  go_wp2_with fail
  generalize w1.setCell ⟨cb, 2, none⟩ (.int .i64 ((newV C).2 + 13)) = W1 at *
  refine (l10Rule_any cb C (newAt C 13) _ p T _ HCA.out (aggR_mk (projR_good.dr (projR_good.bel HP.out G1 HT.out) HDA.out (fun b hb => ⟨by have := HT.out b hb; have := G1.size; omega, by have := HT.out b hb; omega⟩))) HOK.out).mono ?_
  rintro e w2 ⟨X, st, rfl, hc2, hd2⟩
  have HBR2 := Lib.hid ((HBR1.out.dr HDA.out (by omega)).dr hd2 (by omega))
  have HG := Lib.hid ((HDA.out.trans hd2).bel G1 (by omega))
  have r0 := HBR2.out.cellv (j := 0) (by simp)
  have r1 := HBR2.out.cellv (j := 1) (by simp)
  have r2 := HBR2.out.cellv (j := 2) (by simp)
  have r3 := HBR2.out.cellv (j := 3) (by simp)
  simp only [List.getElem_cons_zero, List.getElem_cons_succ] at r0 r1 r2 r3
  have fr0 := HBR2.out.frozen 0
  have fr1 := HBR2.out.frozen 1
  have fr2 := HBR2.out.frozen 2
  have fr3 := HBR2.out.frozen 3
  clear hc2 hd2
  go_wp2_with fail
  have HBW := Lib.hid (((((Below.refl (w.heap.size + 1) w2).setCell (p := ⟨w.heap.size + 1, 0, none⟩) (Nat.le_refl _) (.int .i64 X.1)).setCell (p := ⟨w.heap.size + 1, 1, none⟩) (Nat.le_refl _) (.int .i64 X.2.1)).setCell (p := ⟨w.heap.size + 1, 2, none⟩) (Nat.le_refl _) (.int .i64 X.2.2.1)).setCell (p := ⟨w.heap.size + 1, 3, none⟩) (Nat.le_refl _) (.int .i64 X.2.2.2))
  have HIF := Lib.hid (((((Hi.refl (w.heap.size + 1 + 1) w2).set (q := w.heap.size + 1) (j := 0) (.int .i64 X.1) (.inl (by omega))).set (q := w.heap.size + 1) (j := 1) (.int .i64 X.2.1) (.inl (by omega))).set (q := w.heap.size + 1) (j := 2) (.int .i64 X.2.2.1) (.inl (by omega))).set (q := w.heap.size + 1) (j := 3) (.int .i64 X.2.2.2) (.inl (by omega)))
  have HBF := Lib.hid ((((HBR2.out.set 0 (.int .i64 X.1)).set 1 (.int .i64 X.2.1)).set 2 (.int .i64 X.2.2.1)).set 3 (.int .i64 X.2.2.2))
  generalize ((((w2.setCell ⟨w.heap.size + 1, 0, none⟩ (.int .i64 X.1)).setCell ⟨w.heap.size + 1, 1, none⟩ (.int .i64 X.2.1)).setCell ⟨w.heap.size + 1, 2, none⟩ (.int .i64 X.2.2.1)).setCell ⟨w.heap.size + 1, 3, none⟩ (.int .i64 X.2.2.2)) = WF at *
  have c0 := HBF.out.cellv (j := 0) (by simp)
  have c1 := HBF.out.cellv (j := 1) (by simp)
  have c2 := HBF.out.cellv (j := 2) (by simp)
  have c3 := HBF.out.cellv (j := 3) (by simp)
  simp only [List.set_cons_zero, List.set_cons_succ, List.getElem_cons_zero, List.getElem_cons_succ] at c0 c1 c2 c3
  clear HBF
  exact bodyPost_ret (v := .agg #[.int .i64 X.1, .int .i64 X.2.1, .int .i64 X.2.2.1, .int .i64 X.2.2.2]) (by simp [results, Try.results24, go_sem, c0, c1, c2, c3]) rfl ⟨X, rfl, by have h1 := HG.out; have h2 := Below.mono HBW.out (show w.heap.size ≤ w.heap.size + 1 from by omega); exact Below.trans h1 h2⟩

end Go.Proofs.Ytiaamddhocdhaaa
end

/- ViolC -/
section
namespace Go.Proofs.Ytiaamddhocdhaaa
open Go.ChangeShapes Go.WideShapes Go.ChangeAt Go.RowKit
set_option linter.unusedVariables false

set_option maxHeartbeats 1000000 in
theorem sat1_any (v : Value) (p : ProjT) (S : Nat → Prop) (v1 : Value) (s : SchT) (T : Nat → Prop) (k : Nat) (w : World) (hx : aggR projR S w v p) (hS : ∀ b, S b → b < w.heap.size) (hs : aggR schR T w v1 s) (hT : ∀ b, T b → b < w.heap.size) (hn : bulkProject p ≤ 1048576) (hn1 : bulkSchedule s ≤ 1048576) (hf : schFormB p s = true) (hk : k < p.2.2.1.length) :
    Calls Try.prog 86 #[v, v1, .agg #[.int .i64 1, .int .i64 (k : Int), .int .i64 0, .int .i64 0]] w fun e w' => e = .returned (.bool (linkHoldsB p s (p.2.2.1.getD k zLink))) ∧ Bel w w' := by
  obtain ⟨cs, rfl, hx⟩ := hx
  obtain ⟨c1, c2, c3, c4, rfl, q0, q1, q2, q3, q4⟩ := projR_open hx
  have Q1 := Lib.hid q1
  have Q2 := Lib.hid q2
  have Q3 := Lib.hid q3
  have Q4 := Lib.hid q4
  have HP := Lib.hid hx
  obtain ⟨p1, k1, rfl, l1, l1', -⟩ := sliceR_open q1
  obtain ⟨p2, k2, rfl, l2, l2', -⟩ := sliceR_open q2
  obtain ⟨p3, k3, rfl, l3, l3', -⟩ := sliceR_open q3
  obtain ⟨p4, k4, rfl, l4, l4', -⟩ := sliceR_open q4
  unfold maxLen at l1' l2' l3' l4'
  clear hx q0 q1 q2 q3 q4
  obtain ⟨zs, rfl, hs⟩ := hs
  have HZ := hs
  obtain ⟨z0, z1, rfl, zq0, zq1⟩ := schR_open hs
  have A0 := Lib.hid (fun i hi => intsR_at' zq0 (i := i) hi)
  have A1 := Lib.hid (fun i hi => intsR_at' zq1 (i := i) hi)
  obtain ⟨sp0, sk0, rfl, sl0, sl0', -⟩ := sliceR_open zq0
  obtain ⟨sp1, sk1, rfl, sl1, sl1', -⟩ := sliceR_open zq1
  unfold maxLen at sl0' sl1'
  have HT := Lib.hid hT
  have HQ1 := Lib.hid (show ∀ W, Bel w W → aggR schR T W (.agg #[.slice sp0 s.1.length sk0, .slice sp1 s.2.length sk1]) s from fun W hW => aggR_mk (schR_good.bel HZ hW HT.out))
  clear hs zq0 zq1 hT HZ
  have HS := Lib.hid hS
  have HFO := Lib.hid hf
  have HPO := Lib.hid (projOk_form hf)
  have HN := Lib.hid hn
  have HN1 := Lib.hid hn1
  clear hS hf hn hn1
  have HP1 := Lib.hid (show ∀ W, Bel w W → aggR projR S W (.agg #[.int .i64 p.1, .slice p1 p.2.1.length k1, .slice p2 p.2.2.1.length k2, .slice p3 p.2.2.2.1.length k3, .slice p4 p.2.2.2.2.length k4]) p from fun W hW => aggR_mk (projR_good.bel HP.out hW HS.out))
  show Calls Try.prog 86 #[.agg #[.int .i64 p.1, .slice p1 p.2.1.length k1, .slice p2 p.2.2.1.length k2, .slice p3 p.2.2.2.1.length k3, .slice p4 p.2.2.2.2.length k4], .agg #[.slice sp0 s.1.length sk0, .slice sp1 s.2.length sk1], .agg #[.int .i64 1, .int .i64 (k : Int), .int .i64 0, .int .i64 0]] w _
  have HLK := Lib.hid (projOk_link HPO.out hk)
  obtain ⟨lb, lo, lcs, lea, lrow, lel⟩ := sliceR_at zLink Q2.out hk
  obtain rfl : p2 = some ⟨lb, lo, none⟩ := lea
  generalize p.2.2.1.getD k zLink = X at *
  obtain ⟨rfl, -, -, -⟩ := linkR_open lel
  have lc0 := (lrow 0 (by simp)).1
  have lc1 := (lrow 1 (by simp)).1
  have lc2 := (lrow 2 (by simp)).1
  have lc3 := (lrow 3 (by simp)).1
  simp only [List.getElem_cons_zero, List.getElem_cons_succ, Nat.add_zero] at lc0 lc1 lc2 lc3
  have lc0 := fun o0 o1 o2 => ((((Bel.refl w).alloc o0).alloc o1).alloc o2).cell lc0
  have lc1 := fun o0 o1 o2 => ((((Bel.refl w).alloc o0).alloc o1).alloc o2).cell lc1
  have lc2 := fun o0 o1 o2 => ((((Bel.refl w).alloc o0).alloc o1).alloc o2).cell lc2
  have lc3 := fun o0 o1 o2 => ((((Bel.refl w).alloc o0).alloc o1).alloc o2).cell lc3
  have hki : (k : Int) < (p.2.2.1.length : Int) := by omega
  clear lrow lel hk
  go_enter Try.func86, Try.ntmps86
  go_wp2_with fail
  go_region_held3 (fun W => W.cell? ⟨w.heap.size, 0, none⟩ = some (.int .i64 p.1) ∧ W.cell? ⟨w.heap.size, 1, none⟩ = some (.slice p1 p.2.1.length k1) ∧ W.cell? ⟨w.heap.size, 2, none⟩ = some (.slice (some ⟨lb, lo, none⟩) p.2.2.1.length k2) ∧ W.cell? ⟨w.heap.size, 3, none⟩ = some (.slice p3 p.2.2.2.1.length k3) ∧ W.cell? ⟨w.heap.size, 4, none⟩ = some (.slice p4 p.2.2.2.2.length k4) ∧ W.cell? ⟨w.heap.size + 1, 0, none⟩ = some (.slice sp0 s.1.length sk0) ∧ W.cell? ⟨w.heap.size + 1, 1, none⟩ = some (.slice sp1 s.2.length sk1) ∧ W.cell? ⟨w.heap.size + 1 + 1, 0, none⟩ = some (.int .i64 1) ∧ W.cell? ⟨w.heap.size + 1 + 1, 1, none⟩ = some (.int .i64 (k : Int)) ∧ W.cell? ⟨w.heap.size + 1 + 1, 2, none⟩ = some (.int .i64 0) ∧ W.cell? ⟨w.heap.size + 1 + 1, 3, none⟩ = some (.int .i64 0) ∧ W.cell? ⟨lb, lo + k * 4, none⟩ = some (.int .i64 X.1) ∧ W.cell? ⟨lb, lo + k * 4 + 1, none⟩ = some (.int .i64 X.2.1) ∧ W.cell? ⟨lb, lo + k * 4 + 2, none⟩ = some (.bool X.2.2.1) ∧ W.cell? ⟨lb, lo + k * 4 + 3, none⟩ = some (.int .i64 X.2.2.2)) (first | exact keep15 (by assumption) (by assumption) | (refine ⟨?_, ?_, ?_, ?_, ?_, ?_, ?_, ?_, ?_, ?_, ?_, ?_, ?_, ?_, ?_⟩ <;> first | (simp [go_sem]; done) | exact lc0 _ _ _ | exact lc1 _ _ _ | exact lc2 _ _ _ | exact lc3 _ _ _) | go_keep)
    (first | (go_at_call 145; (with_reducible refine (linkHolds_any _ p S _ s T X _ (HP1.out _ (by (repeat (first | assumption | exact Bel.refl _ | apply Bel.drewN | apply Bel.drew | apply Bel.alloc | refine Bel.trans ?_ (by assumption))))) (fun b hb => Nat.lt_of_lt_of_le (HS.out b hb) (Bel.size (by (repeat (first | assumption | exact Bel.refl _ | apply Bel.drewN | apply Bel.drew | apply Bel.alloc | refine Bel.trans ?_ (by assumption)))))) (HQ1.out _ (by (repeat (first | assumption | exact Bel.refl _ | apply Bel.drewN | apply Bel.drew | apply Bel.alloc | refine Bel.trans ?_ (by assumption))))) (fun b hb => Nat.lt_of_lt_of_le (HT.out b hb) (Bel.size (by (repeat (first | assumption | exact Bel.refl _ | apply Bel.drewN | apply Bel.drew | apply Bel.alloc | refine Bel.trans ?_ (by assumption)))))) HFO.out HLK.out).mono ?_); rintro e wt ⟨rfl, gt⟩))
  go_wp2
  go_ret
  exact ⟨rfl, by (repeat (first | assumption | exact Bel.refl _ | apply Bel.drewN | apply Bel.drew | apply Bel.alloc | refine Bel.trans ?_ (by assumption)))⟩

set_option maxHeartbeats 1000000 in
theorem sat2_any (v : Value) (p : ProjT) (S : Nat → Prop) (v1 : Value) (s : SchT) (T : Nat → Prop) (k : Nat) (w : World) (hx : aggR projR S w v p) (hS : ∀ b, S b → b < w.heap.size) (hs : aggR schR T w v1 s) (hT : ∀ b, T b → b < w.heap.size) (hn : bulkProject p ≤ 1048576) (hn1 : bulkSchedule s ≤ 1048576) (hf : schFormB p s = true) (hk : k < p.2.1.length) :
    Calls Try.prog 86 #[v, v1, .agg #[.int .i64 2, .int .i64 (k : Int), .int .i64 0, .int .i64 0]] w fun e w' => e = .returned (.bool (decide (endOf p s k ≤ p.1))) ∧ Bel w w' := by
  obtain ⟨cs, rfl, hx⟩ := hx
  obtain ⟨c1, c2, c3, c4, rfl, q0, q1, q2, q3, q4⟩ := projR_open hx
  have Q1 := Lib.hid q1
  have Q2 := Lib.hid q2
  have Q3 := Lib.hid q3
  have Q4 := Lib.hid q4
  have HP := Lib.hid hx
  obtain ⟨p1, k1, rfl, l1, l1', -⟩ := sliceR_open q1
  obtain ⟨p2, k2, rfl, l2, l2', -⟩ := sliceR_open q2
  obtain ⟨p3, k3, rfl, l3, l3', -⟩ := sliceR_open q3
  obtain ⟨p4, k4, rfl, l4, l4', -⟩ := sliceR_open q4
  unfold maxLen at l1' l2' l3' l4'
  clear hx q0 q1 q2 q3 q4
  obtain ⟨zs, rfl, hs⟩ := hs
  have HZ := hs
  obtain ⟨z0, z1, rfl, zq0, zq1⟩ := schR_open hs
  have A0 := Lib.hid (fun i hi => intsR_at' zq0 (i := i) hi)
  have A1 := Lib.hid (fun i hi => intsR_at' zq1 (i := i) hi)
  obtain ⟨sp0, sk0, rfl, sl0, sl0', -⟩ := sliceR_open zq0
  obtain ⟨sp1, sk1, rfl, sl1, sl1', -⟩ := sliceR_open zq1
  unfold maxLen at sl0' sl1'
  have HT := Lib.hid hT
  have HQ1 := Lib.hid (show ∀ W, Bel w W → aggR schR T W (.agg #[.slice sp0 s.1.length sk0, .slice sp1 s.2.length sk1]) s from fun W hW => aggR_mk (schR_good.bel HZ hW HT.out))
  clear hs zq0 zq1 hT HZ
  have HS := Lib.hid hS
  have HFO := Lib.hid hf
  have HPO := Lib.hid (projOk_form hf)
  have HN := Lib.hid hn
  have HN1 := Lib.hid hn1
  clear hS hf hn hn1
  have HP1 := Lib.hid (show ∀ W, Bel w W → aggR projR S W (.agg #[.int .i64 p.1, .slice p1 p.2.1.length k1, .slice p2 p.2.2.1.length k2, .slice p3 p.2.2.2.1.length k3, .slice p4 p.2.2.2.2.length k4]) p from fun W hW => aggR_mk (projR_good.bel HP.out hW HS.out))
  show Calls Try.prog 86 #[.agg #[.int .i64 p.1, .slice p1 p.2.1.length k1, .slice p2 p.2.2.1.length k2, .slice p3 p.2.2.2.1.length k3, .slice p4 p.2.2.2.2.length k4], .agg #[.slice sp0 s.1.length sk0, .slice sp1 s.2.length sk1], .agg #[.int .i64 2, .int .i64 (k : Int), .int .i64 0, .int .i64 0]] w _
  have HK := Lib.hid hk
  clear hk
  go_enter Try.func86, Try.ntmps86
  go_wp2_with fail
  go_region_held3 (fun W => W.cell? ⟨w.heap.size, 0, none⟩ = some (.int .i64 p.1) ∧ W.cell? ⟨w.heap.size, 1, none⟩ = some (.slice p1 p.2.1.length k1) ∧ W.cell? ⟨w.heap.size, 2, none⟩ = some (.slice p2 p.2.2.1.length k2) ∧ W.cell? ⟨w.heap.size, 3, none⟩ = some (.slice p3 p.2.2.2.1.length k3) ∧ W.cell? ⟨w.heap.size, 4, none⟩ = some (.slice p4 p.2.2.2.2.length k4) ∧ W.cell? ⟨w.heap.size + 1, 0, none⟩ = some (.slice sp0 s.1.length sk0) ∧ W.cell? ⟨w.heap.size + 1, 1, none⟩ = some (.slice sp1 s.2.length sk1) ∧ W.cell? ⟨w.heap.size + 1 + 1, 0, none⟩ = some (.int .i64 2) ∧ W.cell? ⟨w.heap.size + 1 + 1, 1, none⟩ = some (.int .i64 (k : Int)) ∧ W.cell? ⟨w.heap.size + 1 + 1, 2, none⟩ = some (.int .i64 0) ∧ W.cell? ⟨w.heap.size + 1 + 1, 3, none⟩ = some (.int .i64 0)) (first | exact keep11 (by assumption) (by assumption) | (refine ⟨?_, ?_, ?_, ?_, ?_, ?_, ?_, ?_, ?_, ?_, ?_⟩ <;> first | (simp [go_sem]; done)) | go_keep)
    (first | (go_at_call 146; (with_reducible refine (iEnd_any _ p S _ s T k _ (HP1.out _ (by (repeat (first | assumption | exact Bel.refl _ | apply Bel.drewN | apply Bel.drew | apply Bel.alloc | refine Bel.trans ?_ (by assumption))))) (fun b hb => Nat.lt_of_lt_of_le (HS.out b hb) (Bel.size (by (repeat (first | assumption | exact Bel.refl _ | apply Bel.drewN | apply Bel.drew | apply Bel.alloc | refine Bel.trans ?_ (by assumption)))))) (HQ1.out _ (by (repeat (first | assumption | exact Bel.refl _ | apply Bel.drewN | apply Bel.drew | apply Bel.alloc | refine Bel.trans ?_ (by assumption))))) (fun b hb => Nat.lt_of_lt_of_le (HT.out b hb) (Bel.size (by (repeat (first | assumption | exact Bel.refl _ | apply Bel.drewN | apply Bel.drew | apply Bel.alloc | refine Bel.trans ?_ (by assumption)))))) HFO.out HK.out).mono ?_); rintro e wt ⟨rfl, gt⟩))
  go_wp2
  go_ret
  exact ⟨rfl, by (repeat (first | assumption | exact Bel.refl _ | apply Bel.drewN | apply Bel.drew | apply Bel.alloc | refine Bel.trans ?_ (by assumption)))⟩

set_option maxHeartbeats 1000000 in
theorem sat3_any (v : Value) (p : ProjT) (S : Nat → Prop) (v1 : Value) (s : SchT) (T : Nat → Prop) (r t : Nat) (w : World) (hx : aggR projR S w v p) (hS : ∀ b, S b → b < w.heap.size) (hs : aggR schR T w v1 s) (hT : ∀ b, T b → b < w.heap.size) (hn : bulkProject p ≤ 1048576) (hn1 : bulkSchedule s ≤ 1048576) (hf : schFormB p s = true) (hr : r < p.2.2.2.1.length) :
    Calls Try.prog 86 #[v, v1, .agg #[.int .i64 3, .int .i64 (r : Int), .int .i64 (t : Int), .int .i64 0]] w fun e w' => e = .returned (.bool (decide (usageV p s r t ≤ capV (p.2.2.2.1.getD r zRes).1 t))) ∧ Bel w w' := by
  obtain ⟨cs, rfl, hx⟩ := hx
  obtain ⟨c1, c2, c3, c4, rfl, q0, q1, q2, q3, q4⟩ := projR_open hx
  have Q1 := Lib.hid q1
  have Q2 := Lib.hid q2
  have Q3 := Lib.hid q3
  have Q4 := Lib.hid q4
  have HP := Lib.hid hx
  obtain ⟨p1, k1, rfl, l1, l1', -⟩ := sliceR_open q1
  obtain ⟨p2, k2, rfl, l2, l2', -⟩ := sliceR_open q2
  obtain ⟨p3, k3, rfl, l3, l3', -⟩ := sliceR_open q3
  obtain ⟨p4, k4, rfl, l4, l4', -⟩ := sliceR_open q4
  unfold maxLen at l1' l2' l3' l4'
  clear hx q0 q1 q2 q3 q4
  obtain ⟨zs, rfl, hs⟩ := hs
  have HZ := hs
  obtain ⟨z0, z1, rfl, zq0, zq1⟩ := schR_open hs
  have A0 := Lib.hid (fun i hi => intsR_at' zq0 (i := i) hi)
  have A1 := Lib.hid (fun i hi => intsR_at' zq1 (i := i) hi)
  obtain ⟨sp0, sk0, rfl, sl0, sl0', -⟩ := sliceR_open zq0
  obtain ⟨sp1, sk1, rfl, sl1, sl1', -⟩ := sliceR_open zq1
  unfold maxLen at sl0' sl1'
  have HT := Lib.hid hT
  have HQ1 := Lib.hid (show ∀ W, Bel w W → aggR schR T W (.agg #[.slice sp0 s.1.length sk0, .slice sp1 s.2.length sk1]) s from fun W hW => aggR_mk (schR_good.bel HZ hW HT.out))
  clear hs zq0 zq1 hT HZ
  have HS := Lib.hid hS
  have HFO := Lib.hid hf
  have HPO := Lib.hid (projOk_form hf)
  have HN := Lib.hid hn
  have HN1 := Lib.hid hn1
  clear hS hf hn hn1
  have HP1 := Lib.hid (show ∀ W, Bel w W → aggR projR S W (.agg #[.int .i64 p.1, .slice p1 p.2.1.length k1, .slice p2 p.2.2.1.length k2, .slice p3 p.2.2.2.1.length k3, .slice p4 p.2.2.2.2.length k4]) p from fun W hW => aggR_mk (projR_good.bel HP.out hW HS.out))
  show Calls Try.prog 86 #[.agg #[.int .i64 p.1, .slice p1 p.2.1.length k1, .slice p2 p.2.2.1.length k2, .slice p3 p.2.2.2.1.length k3, .slice p4 p.2.2.2.2.length k4], .agg #[.slice sp0 s.1.length sk0, .slice sp1 s.2.length sk1], .agg #[.int .i64 3, .int .i64 (r : Int), .int .i64 (t : Int), .int .i64 0]] w _
  have HSO := Lib.hid (projOk_steps HPO.out hr)
  obtain ⟨rb, ro, rcs, rea, rrow, rel⟩ := sliceR_at zRes Q3.out hr
  obtain rfl : p3 = some ⟨rb, ro, none⟩ := rea
  have HR := Lib.hid hr
  generalize p.2.2.2.1.getD r zRes = X at *
  obtain ⟨rc0, rc1, rfl, rq0, rq1⟩ := resR_open rel
  obtain ⟨l, ro2⟩ := X
  have HST := Lib.hid rq0
  obtain ⟨stp, stk, rfl, stl, stl', -⟩ := sliceR_open rq0
  obtain ⟨_, _, rfl, -⟩ := sliceR_open rq1
  have rr := (rrow 0 (by simp)).1
  simp only [List.getElem_cons_zero, Nat.add_zero] at rr
  have hri : (r : Int) < (p.2.2.2.1.length : Int) := by omega
  have rr := fun o1 o2 o3 => ((((Bel.refl w).alloc o1).alloc o2).alloc o3).cell rr
  clear rrow rel rq0 rq1 hr
  go_enter Try.func86, Try.ntmps86
  go_wp2_with fail
  go_region_held3 (fun W => W.cell? ⟨w.heap.size, 0, none⟩ = some (.int .i64 p.1) ∧ W.cell? ⟨w.heap.size, 1, none⟩ = some (.slice p1 p.2.1.length k1) ∧ W.cell? ⟨w.heap.size, 2, none⟩ = some (.slice p2 p.2.2.1.length k2) ∧ W.cell? ⟨w.heap.size, 3, none⟩ = some (.slice (some ⟨rb, ro, none⟩) p.2.2.2.1.length k3) ∧ W.cell? ⟨w.heap.size, 4, none⟩ = some (.slice p4 p.2.2.2.2.length k4) ∧ W.cell? ⟨w.heap.size + 1, 0, none⟩ = some (.slice sp0 s.1.length sk0) ∧ W.cell? ⟨w.heap.size + 1, 1, none⟩ = some (.slice sp1 s.2.length sk1) ∧ W.cell? ⟨w.heap.size + 1 + 1, 0, none⟩ = some (.int .i64 3) ∧ W.cell? ⟨w.heap.size + 1 + 1, 1, none⟩ = some (.int .i64 (r : Int)) ∧ W.cell? ⟨w.heap.size + 1 + 1, 2, none⟩ = some (.int .i64 (t : Int)) ∧ W.cell? ⟨w.heap.size + 1 + 1, 3, none⟩ = some (.int .i64 0) ∧ W.cell? ⟨rb, ro + r * 2, none⟩ = some (.slice stp l.length stk)) (first | exact keep12 (by assumption) (by assumption) | (refine ⟨?_, ?_, ?_, ?_, ?_, ?_, ?_, ?_, ?_, ?_, ?_, ?_⟩ <;> first | (simp [go_sem]; done) | exact rr _ _ _) | go_keep)
    (first | (go_at_call 92; (with_reducible refine (usage_any _ p S _ s T r _ _ (HP1.out _ (by (repeat (first | assumption | exact Bel.refl _ | apply Bel.drewN | apply Bel.drew | apply Bel.alloc | refine Bel.trans ?_ (by assumption))))) (fun b hb => Nat.lt_of_lt_of_le (HS.out b hb) (Bel.size (by (repeat (first | assumption | exact Bel.refl _ | apply Bel.drewN | apply Bel.drew | apply Bel.alloc | refine Bel.trans ?_ (by assumption)))))) (HQ1.out _ (by (repeat (first | assumption | exact Bel.refl _ | apply Bel.drewN | apply Bel.drew | apply Bel.alloc | refine Bel.trans ?_ (by assumption))))) (fun b hb => Nat.lt_of_lt_of_le (HT.out b hb) (Bel.size (by (repeat (first | assumption | exact Bel.refl _ | apply Bel.drewN | apply Bel.drew | apply Bel.alloc | refine Bel.trans ?_ (by assumption)))))) HFO.out HR.out).mono ?_); rintro e wt ⟨rfl, gt⟩) | (go_at_call 94; (with_reducible refine (capacityAt_any _ l _ S _ (stepsR_good.bel HST.out (by (repeat (first | assumption | exact Bel.refl _ | apply Bel.drewN | apply Bel.drew | apply Bel.alloc | refine Bel.trans ?_ (by assumption)))) HS.out)).mono ?_); rintro e wt ⟨rfl, gt⟩))
  go_wp2
  go_ret
  exact ⟨rfl, by (repeat (first | assumption | exact Bel.refl _ | apply Bel.drewN | apply Bel.drew | apply Bel.alloc | refine Bel.trans ?_ (by assumption)))⟩

set_option maxHeartbeats 1000000 in
theorem sat4_any (v : Value) (p : ProjT) (S : Nat → Prop) (v1 : Value) (s : SchT) (T : Nat → Prop) (r x y : Nat) (w : World) (hx : aggR projR S w v p) (hS : ∀ b, S b → b < w.heap.size) (hs : aggR schR T w v1 s) (hT : ∀ b, T b → b < w.heap.size) (hn : bulkProject p ≤ 1048576) (hn1 : bulkSchedule s ≤ 1048576) (hf : schFormB p s = true) (hr : r < p.2.2.2.1.length) (hxy : x ≤ y) (hy : y ≤ 60) :
    Calls Try.prog 86 #[v, v1, .agg #[.int .i64 4, .int .i64 (r : Int), .int .i64 (x : Int), .int .i64 (y : Int)]] w fun e w' => e = .returned (.bool (decide (workTo p s r x (y - x) ≤ totTo (p.2.2.2.1.getD r zRes).1 x (y - x)))) ∧ Bel w w' := by
  obtain ⟨cs, rfl, hx⟩ := hx
  obtain ⟨c1, c2, c3, c4, rfl, q0, q1, q2, q3, q4⟩ := projR_open hx
  have Q1 := Lib.hid q1
  have Q2 := Lib.hid q2
  have Q3 := Lib.hid q3
  have Q4 := Lib.hid q4
  have HP := Lib.hid hx
  obtain ⟨p1, k1, rfl, l1, l1', -⟩ := sliceR_open q1
  obtain ⟨p2, k2, rfl, l2, l2', -⟩ := sliceR_open q2
  obtain ⟨p3, k3, rfl, l3, l3', -⟩ := sliceR_open q3
  obtain ⟨p4, k4, rfl, l4, l4', -⟩ := sliceR_open q4
  unfold maxLen at l1' l2' l3' l4'
  clear hx q0 q1 q2 q3 q4
  obtain ⟨zs, rfl, hs⟩ := hs
  have HZ := hs
  obtain ⟨z0, z1, rfl, zq0, zq1⟩ := schR_open hs
  have A0 := Lib.hid (fun i hi => intsR_at' zq0 (i := i) hi)
  have A1 := Lib.hid (fun i hi => intsR_at' zq1 (i := i) hi)
  obtain ⟨sp0, sk0, rfl, sl0, sl0', -⟩ := sliceR_open zq0
  obtain ⟨sp1, sk1, rfl, sl1, sl1', -⟩ := sliceR_open zq1
  unfold maxLen at sl0' sl1'
  have HT := Lib.hid hT
  have HQ1 := Lib.hid (show ∀ W, Bel w W → aggR schR T W (.agg #[.slice sp0 s.1.length sk0, .slice sp1 s.2.length sk1]) s from fun W hW => aggR_mk (schR_good.bel HZ hW HT.out))
  clear hs zq0 zq1 hT HZ
  have HS := Lib.hid hS
  have HFO := Lib.hid hf
  have HPO := Lib.hid (projOk_form hf)
  have HN := Lib.hid hn
  have HN1 := Lib.hid hn1
  clear hS hf hn hn1
  have HP1 := Lib.hid (show ∀ W, Bel w W → aggR projR S W (.agg #[.int .i64 p.1, .slice p1 p.2.1.length k1, .slice p2 p.2.2.1.length k2, .slice p3 p.2.2.2.1.length k3, .slice p4 p.2.2.2.2.length k4]) p from fun W hW => aggR_mk (projR_good.bel HP.out hW HS.out))
  show Calls Try.prog 86 #[.agg #[.int .i64 p.1, .slice p1 p.2.1.length k1, .slice p2 p.2.2.1.length k2, .slice p3 p.2.2.2.1.length k3, .slice p4 p.2.2.2.2.length k4], .agg #[.slice sp0 s.1.length sk0, .slice sp1 s.2.length sk1], .agg #[.int .i64 4, .int .i64 (r : Int), .int .i64 (x : Int), .int .i64 (y : Int)]] w _
  have HSO := Lib.hid (projOk_steps HPO.out hr)
  obtain ⟨rb, ro, rcs, rea, rrow, rel⟩ := sliceR_at zRes Q3.out hr
  obtain rfl : p3 = some ⟨rb, ro, none⟩ := rea
  have HR := Lib.hid hr
  generalize p.2.2.2.1.getD r zRes = X at *
  obtain ⟨rc0, rc1, rfl, rq0, rq1⟩ := resR_open rel
  obtain ⟨l, ro2⟩ := X
  have HST := Lib.hid rq0
  obtain ⟨stp, stk, rfl, stl, stl', -⟩ := sliceR_open rq0
  obtain ⟨_, _, rfl, -⟩ := sliceR_open rq1
  have rr := (rrow 0 (by simp)).1
  simp only [List.getElem_cons_zero, Nat.add_zero] at rr
  have hri : (r : Int) < (p.2.2.2.1.length : Int) := by omega
  have rr := fun o1 o2 o3 => ((((Bel.refl w).alloc o1).alloc o2).alloc o3).cell rr
  clear rrow rel rq0 rq1 hr
  have HXY := Lib.hid hxy
  have HY := Lib.hid hy
  clear hxy hy
  go_enter Try.func86, Try.ntmps86
  go_wp2_with fail
  go_region_held3 (fun W => W.cell? ⟨w.heap.size, 0, none⟩ = some (.int .i64 p.1) ∧ W.cell? ⟨w.heap.size, 1, none⟩ = some (.slice p1 p.2.1.length k1) ∧ W.cell? ⟨w.heap.size, 2, none⟩ = some (.slice p2 p.2.2.1.length k2) ∧ W.cell? ⟨w.heap.size, 3, none⟩ = some (.slice (some ⟨rb, ro, none⟩) p.2.2.2.1.length k3) ∧ W.cell? ⟨w.heap.size, 4, none⟩ = some (.slice p4 p.2.2.2.2.length k4) ∧ W.cell? ⟨w.heap.size + 1, 0, none⟩ = some (.slice sp0 s.1.length sk0) ∧ W.cell? ⟨w.heap.size + 1, 1, none⟩ = some (.slice sp1 s.2.length sk1) ∧ W.cell? ⟨w.heap.size + 1 + 1, 0, none⟩ = some (.int .i64 4) ∧ W.cell? ⟨w.heap.size + 1 + 1, 1, none⟩ = some (.int .i64 (r : Int)) ∧ W.cell? ⟨w.heap.size + 1 + 1, 2, none⟩ = some (.int .i64 (x : Int)) ∧ W.cell? ⟨w.heap.size + 1 + 1, 3, none⟩ = some (.int .i64 (y : Int)) ∧ W.cell? ⟨rb, ro + r * 2, none⟩ = some (.slice stp l.length stk)) (first | exact keep12 (by assumption) (by assumption) | (refine ⟨?_, ?_, ?_, ?_, ?_, ?_, ?_, ?_, ?_, ?_, ?_, ?_⟩ <;> first | (simp [go_sem]; done) | exact rr _ _ _) | go_keep)
    (first | (go_at_call 147; (with_reducible refine (workDone_any _ p S _ s T r x y _ (HP1.out _ (by (repeat (first | assumption | exact Bel.refl _ | apply Bel.drewN | apply Bel.drew | apply Bel.alloc | refine Bel.trans ?_ (by assumption))))) (fun b hb => Nat.lt_of_lt_of_le (HS.out b hb) (Bel.size (by (repeat (first | assumption | exact Bel.refl _ | apply Bel.drewN | apply Bel.drew | apply Bel.alloc | refine Bel.trans ?_ (by assumption)))))) (HQ1.out _ (by (repeat (first | assumption | exact Bel.refl _ | apply Bel.drewN | apply Bel.drew | apply Bel.alloc | refine Bel.trans ?_ (by assumption))))) (fun b hb => Nat.lt_of_lt_of_le (HT.out b hb) (Bel.size (by (repeat (first | assumption | exact Bel.refl _ | apply Bel.drewN | apply Bel.drew | apply Bel.alloc | refine Bel.trans ?_ (by assumption)))))) HFO.out HR.out HXY.out HY.out).mono ?_); rintro e wt ⟨rfl, gt⟩) | (go_at_call 148; (with_reducible refine (iTotalCapacity_any _ l S x y _ (stepsR_good.bel HST.out (by (repeat (first | assumption | exact Bel.refl _ | apply Bel.drewN | apply Bel.drew | apply Bel.alloc | refine Bel.trans ?_ (by assumption)))) HS.out) (fun b hb => Nat.lt_of_lt_of_le (HS.out b hb) (Bel.size (by (repeat (first | assumption | exact Bel.refl _ | apply Bel.drewN | apply Bel.drew | apply Bel.alloc | refine Bel.trans ?_ (by assumption)))))) HSO.out HXY.out HY.out).mono ?_); rintro e wt ⟨rfl, gt⟩))
  go_wp2
  go_ret
  exact ⟨rfl, by (repeat (first | assumption | exact Bel.refl _ | apply Bel.drewN | apply Bel.drew | apply Bel.alloc | refine Bel.trans ?_ (by assumption)))⟩

set_option maxHeartbeats 1000000 in
theorem sat5_any (v : Value) (p : ProjT) (S : Nat → Prop) (v1 : Value) (s : SchT) (T : Nat → Prop) (r b c : Nat) (w : World) (hx : aggR projR S w v p) (hS : ∀ b, S b → b < w.heap.size) (hs : aggR schR T w v1 s) (hT : ∀ b, T b → b < w.heap.size) (hn : bulkProject p ≤ 1048576) (hn1 : bulkSchedule s ≤ 1048576) (hf : schFormB p s = true) (hr : r < p.2.2.2.1.length) (hm : 0 < (p.2.2.2.1.getD r zRes).2.length) (hb : b < p.2.1.length) (hc : c < p.2.1.length) :
    Calls Try.prog 86 #[v, v1, .agg #[.int .i64 5, .int .i64 (r : Int), .int .i64 (b : Int), .int .i64 (c : Int)]] w fun e w' => e = .returned (.bool (pairB p s r b c)) ∧ Bel w w' := by
  obtain ⟨cs, rfl, hx⟩ := hx
  obtain ⟨c1, c2, c3, c4, rfl, q0, q1, q2, q3, q4⟩ := projR_open hx
  have Q1 := Lib.hid q1
  have Q2 := Lib.hid q2
  have Q3 := Lib.hid q3
  have Q4 := Lib.hid q4
  have HP := Lib.hid hx
  obtain ⟨p1, k1, rfl, l1, l1', -⟩ := sliceR_open q1
  obtain ⟨p2, k2, rfl, l2, l2', -⟩ := sliceR_open q2
  obtain ⟨p3, k3, rfl, l3, l3', -⟩ := sliceR_open q3
  obtain ⟨p4, k4, rfl, l4, l4', -⟩ := sliceR_open q4
  unfold maxLen at l1' l2' l3' l4'
  clear hx q0 q1 q2 q3 q4
  obtain ⟨zs, rfl, hs⟩ := hs
  have HZ := hs
  obtain ⟨z0, z1, rfl, zq0, zq1⟩ := schR_open hs
  have A0 := Lib.hid (fun i hi => intsR_at' zq0 (i := i) hi)
  have A1 := Lib.hid (fun i hi => intsR_at' zq1 (i := i) hi)
  obtain ⟨sp0, sk0, rfl, sl0, sl0', -⟩ := sliceR_open zq0
  obtain ⟨sp1, sk1, rfl, sl1, sl1', -⟩ := sliceR_open zq1
  unfold maxLen at sl0' sl1'
  have HT := Lib.hid hT
  have HQ1 := Lib.hid (show ∀ W, Bel w W → aggR schR T W (.agg #[.slice sp0 s.1.length sk0, .slice sp1 s.2.length sk1]) s from fun W hW => aggR_mk (schR_good.bel HZ hW HT.out))
  clear hs zq0 zq1 hT HZ
  have HS := Lib.hid hS
  have HFO := Lib.hid hf
  have HPO := Lib.hid (projOk_form hf)
  have HN := Lib.hid hn
  have HN1 := Lib.hid hn1
  clear hS hf hn hn1
  have HP1 := Lib.hid (show ∀ W, Bel w W → aggR projR S W (.agg #[.int .i64 p.1, .slice p1 p.2.1.length k1, .slice p2 p.2.2.1.length k2, .slice p3 p.2.2.2.1.length k3, .slice p4 p.2.2.2.2.length k4]) p from fun W hW => aggR_mk (projR_good.bel HP.out hW HS.out))
  show Calls Try.prog 86 #[.agg #[.int .i64 p.1, .slice p1 p.2.1.length k1, .slice p2 p.2.2.1.length k2, .slice p3 p.2.2.2.1.length k3, .slice p4 p.2.2.2.2.length k4], .agg #[.slice sp0 s.1.length sk0, .slice sp1 s.2.length sk1], .agg #[.int .i64 5, .int .i64 (r : Int), .int .i64 (b : Int), .int .i64 (c : Int)]] w _
  go_enter Try.func86, Try.ntmps86
  go_wp2_with fail
  refine (pairHolds_any _ p S _ s T r b c _ (HP1.out _ (by (repeat (first | assumption | exact Bel.refl _ | apply Bel.drewN | apply Bel.drew | apply Bel.alloc | refine Bel.trans ?_ (by assumption))))) (fun b hb => Nat.lt_of_lt_of_le (HS.out b hb) (Bel.size (by (repeat (first | assumption | exact Bel.refl _ | apply Bel.drewN | apply Bel.drew | apply Bel.alloc | refine Bel.trans ?_ (by assumption)))))) (HQ1.out _ (by (repeat (first | assumption | exact Bel.refl _ | apply Bel.drewN | apply Bel.drew | apply Bel.alloc | refine Bel.trans ?_ (by assumption))))) (fun b hb => Nat.lt_of_lt_of_le (HT.out b hb) (Bel.size (by (repeat (first | assumption | exact Bel.refl _ | apply Bel.drewN | apply Bel.drew | apply Bel.alloc | refine Bel.trans ?_ (by assumption)))))) HFO.out HN.out hr hm hb hc).mono ?_
  rintro e w1 ⟨rfl, g1⟩
  go_wp2
  go_ret
  exact ⟨rfl, by (repeat (first | assumption | exact Bel.refl _ | apply Bel.drewN | apply Bel.drew | apply Bel.alloc | refine Bel.trans ?_ (by assumption)))⟩

set_option maxHeartbeats 1000000 in
theorem sat6_any (v : Value) (p : ProjT) (S : Nat → Prop) (v1 : Value) (s : SchT) (T : Nat → Prop) (k : Nat) (w : World) (hx : aggR projR S w v p) (hS : ∀ b, S b → b < w.heap.size) (hs : aggR schR T w v1 s) (hT : ∀ b, T b → b < w.heap.size) (hn : bulkProject p ≤ 1048576) (hn1 : bulkSchedule s ≤ 1048576) (hf : schFormB p s = true) (hk : k < p.2.2.2.2.length) :
    Calls Try.prog 86 #[v, v1, .agg #[.int .i64 6, .int .i64 (k : Int), .int .i64 0, .int .i64 0]] w fun e w' => e = .returned (.bool (decide (consTo p s k p.2.1.length ≤ p.2.2.2.2.getD k 0))) ∧ Bel w w' := by
  obtain ⟨cs, rfl, hx⟩ := hx
  obtain ⟨c1, c2, c3, c4, rfl, q0, q1, q2, q3, q4⟩ := projR_open hx
  have Q1 := Lib.hid q1
  have Q2 := Lib.hid q2
  have Q3 := Lib.hid q3
  have Q4 := Lib.hid q4
  have HP := Lib.hid hx
  obtain ⟨p1, k1, rfl, l1, l1', -⟩ := sliceR_open q1
  obtain ⟨p2, k2, rfl, l2, l2', -⟩ := sliceR_open q2
  obtain ⟨p3, k3, rfl, l3, l3', -⟩ := sliceR_open q3
  obtain ⟨p4, k4, rfl, l4, l4', -⟩ := sliceR_open q4
  unfold maxLen at l1' l2' l3' l4'
  clear hx q0 q1 q2 q3 q4
  obtain ⟨zs, rfl, hs⟩ := hs
  have HZ := hs
  obtain ⟨z0, z1, rfl, zq0, zq1⟩ := schR_open hs
  have A0 := Lib.hid (fun i hi => intsR_at' zq0 (i := i) hi)
  have A1 := Lib.hid (fun i hi => intsR_at' zq1 (i := i) hi)
  obtain ⟨sp0, sk0, rfl, sl0, sl0', -⟩ := sliceR_open zq0
  obtain ⟨sp1, sk1, rfl, sl1, sl1', -⟩ := sliceR_open zq1
  unfold maxLen at sl0' sl1'
  have HT := Lib.hid hT
  have HQ1 := Lib.hid (show ∀ W, Bel w W → aggR schR T W (.agg #[.slice sp0 s.1.length sk0, .slice sp1 s.2.length sk1]) s from fun W hW => aggR_mk (schR_good.bel HZ hW HT.out))
  clear hs zq0 zq1 hT HZ
  have HS := Lib.hid hS
  have HFO := Lib.hid hf
  have HPO := Lib.hid (projOk_form hf)
  have HN := Lib.hid hn
  have HN1 := Lib.hid hn1
  clear hS hf hn hn1
  have HP1 := Lib.hid (show ∀ W, Bel w W → aggR projR S W (.agg #[.int .i64 p.1, .slice p1 p.2.1.length k1, .slice p2 p.2.2.1.length k2, .slice p3 p.2.2.2.1.length k3, .slice p4 p.2.2.2.2.length k4]) p from fun W hW => aggR_mk (projR_good.bel HP.out hW HS.out))
  show Calls Try.prog 86 #[.agg #[.int .i64 p.1, .slice p1 p.2.1.length k1, .slice p2 p.2.2.1.length k2, .slice p3 p.2.2.2.1.length k3, .slice p4 p.2.2.2.2.length k4], .agg #[.slice sp0 s.1.length sk0, .slice sp1 s.2.length sk1], .agg #[.int .i64 6, .int .i64 (k : Int), .int .i64 0, .int .i64 0]] w _
  have hki : (k : Int) < (p.2.2.2.2.length : Int) := by omega
  have HCV := Lib.hid (show consV p s (k : Int) = consTo p s k p.2.1.length from by
    unfold consV
    rw [HFO.out, ← inB_v (k : Int), inB_lt hk]
    rfl)
  obtain ⟨kb, ko, ke, kc⟩ := intsR_at' Q4.out hk
  obtain rfl : p4 = some ⟨kb, ko, none⟩ := ke
  have kc := fun o1 o2 o3 => ((((Bel.refl w).alloc o1).alloc o2).alloc o3).cell kc
  generalize p.2.2.2.2.getD k 0 = V at *
  clear hk
  go_enter Try.func86, Try.ntmps86
  go_wp2_with fail
  go_region_held3 (fun W => W.cell? ⟨w.heap.size, 0, none⟩ = some (.int .i64 p.1) ∧ W.cell? ⟨w.heap.size, 1, none⟩ = some (.slice p1 p.2.1.length k1) ∧ W.cell? ⟨w.heap.size, 2, none⟩ = some (.slice p2 p.2.2.1.length k2) ∧ W.cell? ⟨w.heap.size, 3, none⟩ = some (.slice p3 p.2.2.2.1.length k3) ∧ W.cell? ⟨w.heap.size, 4, none⟩ = some (.slice (some ⟨kb, ko, none⟩) p.2.2.2.2.length k4) ∧ W.cell? ⟨w.heap.size + 1, 0, none⟩ = some (.slice sp0 s.1.length sk0) ∧ W.cell? ⟨w.heap.size + 1, 1, none⟩ = some (.slice sp1 s.2.length sk1) ∧ W.cell? ⟨w.heap.size + 1 + 1, 0, none⟩ = some (.int .i64 6) ∧ W.cell? ⟨w.heap.size + 1 + 1, 1, none⟩ = some (.int .i64 (k : Int)) ∧ W.cell? ⟨w.heap.size + 1 + 1, 2, none⟩ = some (.int .i64 0) ∧ W.cell? ⟨w.heap.size + 1 + 1, 3, none⟩ = some (.int .i64 0) ∧ W.cell? ⟨kb, ko + k, none⟩ = some (.int .i64 V)) (first | exact keep12 (by assumption) (by assumption) | (refine ⟨?_, ?_, ?_, ?_, ?_, ?_, ?_, ?_, ?_, ?_, ?_, ?_⟩ <;> first | (simp [go_sem]; done) | exact kc _ _ _) | go_keep)
    (first | (go_at_call 150; (with_reducible refine (iConsumptionOf_any _ p S _ s T _ _ (HP1.out _ (by (repeat (first | assumption | exact Bel.refl _ | apply Bel.drewN | apply Bel.drew | apply Bel.alloc | refine Bel.trans ?_ (by assumption))))) (fun b hb => Nat.lt_of_lt_of_le (HS.out b hb) (Bel.size (by (repeat (first | assumption | exact Bel.refl _ | apply Bel.drewN | apply Bel.drew | apply Bel.alloc | refine Bel.trans ?_ (by assumption)))))) HN.out (HQ1.out _ (by (repeat (first | assumption | exact Bel.refl _ | apply Bel.drewN | apply Bel.drew | apply Bel.alloc | refine Bel.trans ?_ (by assumption))))) (fun b hb => Nat.lt_of_lt_of_le (HT.out b hb) (Bel.size (by (repeat (first | assumption | exact Bel.refl _ | apply Bel.drewN | apply Bel.drew | apply Bel.alloc | refine Bel.trans ?_ (by assumption)))))) HN1.out).mono ?_); rintro e wt ⟨rfl, gt⟩; rw [HCV.out]))
  go_wp2
  go_ret
  exact ⟨rfl, by (repeat (first | assumption | exact Bel.refl _ | apply Bel.drewN | apply Bel.drew | apply Bel.alloc | refine Bel.trans ?_ (by assumption)))⟩

end Go.Proofs.Ytiaamddhocdhaaa
end

/- ViolE -/
section
namespace Go.Proofs.Ytiaamddhocdhaaa
open Go.ChangeShapes Go.WideShapes Go.ChangeAt Go.RowKit
set_option linter.unusedVariables false

theorem ruleOk_cases {p : ProjT} {r : RuleT} (h : ruleOkB p r = true) :
    (∃ k : Nat, k < p.2.2.1.length ∧ r = (1, (k : Int), 0, 0)) ∨ (∃ k : Nat, k < p.2.1.length ∧ r = (2, (k : Int), 0, 0)) ∨
    (∃ a t : Nat, a < p.2.2.2.1.length ∧ t ≤ 60 ∧ r = (3, (a : Int), (t : Int), 0)) ∨
    (∃ a x y : Nat, a < p.2.2.2.1.length ∧ x ≤ y ∧ y ≤ 60 ∧ r = (4, (a : Int), (x : Int), (y : Int))) ∨
    (∃ a b c : Nat, a < p.2.2.2.1.length ∧ 0 < (p.2.2.2.1.getD a zRes).2.length ∧ b < p.2.1.length ∧ c < p.2.1.length ∧ r = (5, (a : Int), (b : Int), (c : Int))) ∨
    (∃ k : Nat, k < p.2.2.2.2.length ∧ r = (6, (k : Int), 0, 0)) := by
  obtain ⟨K, A, B, C⟩ := r
  unfold ruleOkB ruleAt at h
  simp only [Bool.and_eq_true] at h
  obtain ⟨-, h⟩ := h
  split at h
  · rename_i e
    subst e
    simp only [inBv, Bool.and_eq_true, decide_eq_true_eq] at h
    obtain ⟨⟨h1, h2⟩, rfl, rfl⟩ := h
    exact Or.inl ⟨A.toNat, by omega, by rw [Int.toNat_of_nonneg h1]⟩
  split at h
  · rename_i e
    subst e
    simp only [inBv, Bool.and_eq_true, decide_eq_true_eq] at h
    obtain ⟨⟨h1, h2⟩, rfl, rfl⟩ := h
    exact Or.inr (Or.inl ⟨A.toNat, by omega, by rw [Int.toNat_of_nonneg h1]⟩)
  split at h
  · rename_i e
    subst e
    simp only [inBv, Bool.and_eq_true, decide_eq_true_eq] at h
    obtain ⟨⟨h1, h2⟩, ⟨h3, h4⟩, rfl⟩ := h
    exact Or.inr (Or.inr (Or.inl ⟨A.toNat, B.toNat, by omega, by omega, by rw [Int.toNat_of_nonneg h1, Int.toNat_of_nonneg h3]⟩))
  split at h
  · rename_i e
    subst e
    simp only [inBv, Bool.and_eq_true, decide_eq_true_eq] at h
    obtain ⟨⟨h1, h2⟩, ⟨h3, h4⟩, ⟨h5, h6⟩, h7⟩ := h
    exact Or.inr (Or.inr (Or.inr (Or.inl ⟨A.toNat, B.toNat, C.toNat, by omega, by omega, by omega, by rw [Int.toNat_of_nonneg h1, Int.toNat_of_nonneg h3, Int.toNat_of_nonneg h5]⟩)))
  split at h
  · rename_i e
    subst e
    unfold machB at h
    simp only [inBv, Bool.and_eq_true, decide_eq_true_eq] at h
    obtain ⟨⟨⟨h1, h2⟩, hm⟩, ⟨h3, h4⟩, ⟨h5, h6⟩, h7⟩ := h
    exact Or.inr (Or.inr (Or.inr (Or.inr (Or.inl ⟨A.toNat, B.toNat, C.toNat, by omega, hm, by omega, by omega, by rw [Int.toNat_of_nonneg h1, Int.toNat_of_nonneg h3, Int.toNat_of_nonneg h5]⟩))))
  split at h
  · rename_i e
    subst e
    simp only [inBv, Bool.and_eq_true, decide_eq_true_eq] at h
    obtain ⟨⟨h1, h2⟩, rfl, rfl⟩ := h
    exact Or.inr (Or.inr (Or.inr (Or.inr (Or.inr ⟨A.toNat, by omega, by rw [Int.toNat_of_nonneg h1]⟩))))
  · cases h
theorem satB_work (p : ProjT) (s : SchT) (r x y : Nat) (h : x ≤ y) : satB p s (4, (r : Int), (x : Int), (y : Int)) = decide (workTo p s r x (y - x) ≤ totTo (p.2.2.2.1.getD r zRes).1 x (y - x)) := by
  have e : ((y : Int) - (x : Int)).toNat = y - x := by omega
  rw [← e]
  rfl

theorem satisfies_any (v : Value) (p : ProjT) (S : Nat → Prop) (v1 : Value) (s : SchT) (T : Nat → Prop) (r : RuleT) (w : World) (hx : aggR projR S w v p) (hS : ∀ b, S b → b < w.heap.size) (hs : aggR schR T w v1 s) (hT : ∀ b, T b → b < w.heap.size) (hn : bulkProject p ≤ 1048576) (hn1 : bulkSchedule s ≤ 1048576) (hf : schFormB p s = true) (hr : ruleOkB p r = true) :
    Calls Try.prog 86 #[v, v1, .agg #[.int .i64 r.1, .int .i64 r.2.1, .int .i64 r.2.2.1, .int .i64 r.2.2.2]] w fun e w' => e = .returned (.bool (satB p s r)) ∧ Bel w w' := by
  rcases ruleOk_cases hr with ⟨k, hk, rfl⟩ | ⟨k, hk, rfl⟩ | ⟨a, t, ha, ht, rfl⟩ | ⟨a, x, y, ha, hxy, hy, rfl⟩ | ⟨a, b, c, ha, hm, hb, hc, rfl⟩ | ⟨k, hk, rfl⟩
  · exact ((sat1_any v p S v1 s T k w hx hS hs hT hn hn1 hf hk).mono fun e w' h => ⟨h.1.trans (ret_bool rfl), h.2⟩)
  · exact ((sat2_any v p S v1 s T k w hx hS hs hT hn hn1 hf hk).mono fun e w' h => ⟨h.1.trans (ret_bool rfl), h.2⟩)
  · exact ((sat3_any v p S v1 s T a t w hx hS hs hT hn hn1 hf ha).mono fun e w' h => ⟨h.1.trans (ret_bool rfl), h.2⟩)
  · exact ((sat4_any v p S v1 s T a x y w hx hS hs hT hn hn1 hf ha hxy hy).mono fun e w' h => ⟨h.1.trans (ret_bool (by rw [satB_work _ _ _ _ _ hxy])), h.2⟩)
  · exact ((sat5_any v p S v1 s T a b c w hx hS hs hT hn hn1 hf ha hm hb hc).mono fun e w' h => ⟨h.1.trans (ret_bool rfl), h.2⟩)
  · exact ((sat6_any v p S v1 s T k w hx hS hs hT hn hn1 hf hk).mono fun e w' h => ⟨h.1.trans (ret_bool rfl), h.2⟩)


set_option maxHeartbeats 1000000 in
theorem iViolates_any (v : Value) (p : ProjT) (S : Nat → Prop) (v1 : Value) (s : SchT) (T : Nat → Prop) (r : RuleT) (w : World) (hx : aggR projR S w v p) (hS : ∀ b, S b → b < w.heap.size) (_hn : bulkProject p ≤ 1048576) (hs : aggR schR T w v1 s) (hT : ∀ b, T b → b < w.heap.size) (_hn1 : bulkSchedule s ≤ 1048576) :
    Calls Try.prog 27 #[v, v1, .agg #[.int .i64 r.1, .int .i64 r.2.1, .int .i64 r.2.2.1, .int .i64 r.2.2.2]] w fun e w' => e = .returned (.bool (violB p s r)) ∧ Bel w w' := by
  obtain ⟨cs, rfl, hx⟩ := hx
  obtain ⟨c1, c2, c3, c4, rfl, q0, q1, q2, q3, q4⟩ := projR_open hx
  have Q1 := Lib.hid q1
  have Q2 := Lib.hid q2
  have Q3 := Lib.hid q3
  have Q4 := Lib.hid q4
  have HP := Lib.hid hx
  obtain ⟨p1, k1, rfl, l1, l1', -⟩ := sliceR_open q1
  obtain ⟨p2, k2, rfl, l2, l2', -⟩ := sliceR_open q2
  obtain ⟨p3, k3, rfl, l3, l3', -⟩ := sliceR_open q3
  obtain ⟨p4, k4, rfl, l4, l4', -⟩ := sliceR_open q4
  unfold maxLen at l1' l2' l3' l4'
  clear hx q0 q1 q2 q3 q4
  obtain ⟨zs, rfl, hs⟩ := hs
  have HZ := hs
  obtain ⟨z0, z1, rfl, zq0, zq1⟩ := schR_open hs
  have A0 := Lib.hid (fun i hi => intsR_at' zq0 (i := i) hi)
  have A1 := Lib.hid (fun i hi => intsR_at' zq1 (i := i) hi)
  obtain ⟨sp0, sk0, rfl, sl0, sl0', -⟩ := sliceR_open zq0
  obtain ⟨sp1, sk1, rfl, sl1, sl1', -⟩ := sliceR_open zq1
  unfold maxLen at sl0' sl1'
  have HT := Lib.hid hT
  have HQ1 := Lib.hid (show ∀ W, Bel w W → aggR schR T W (.agg #[.slice sp0 s.1.length sk0, .slice sp1 s.2.length sk1]) s from fun W hW => aggR_mk (schR_good.bel HZ hW HT.out))
  clear hs zq0 zq1 hT HZ
  have HS := Lib.hid hS
  have HN := Lib.hid _hn
  have HN1 := Lib.hid _hn1
  clear hS _hn _hn1
  have HP1 := Lib.hid (show ∀ W, Bel w W → aggR projR S W (.agg #[.int .i64 p.1, .slice p1 p.2.1.length k1, .slice p2 p.2.2.1.length k2, .slice p3 p.2.2.2.1.length k3, .slice p4 p.2.2.2.2.length k4]) p from fun W hW => aggR_mk (projR_good.bel HP.out hW HS.out))
  show Calls Try.prog 27 #[.agg #[.int .i64 p.1, .slice p1 p.2.1.length k1, .slice p2 p.2.2.1.length k2, .slice p3 p.2.2.2.1.length k3, .slice p4 p.2.2.2.2.length k4], .agg #[.slice sp0 s.1.length sk0, .slice sp1 s.2.length sk1], .agg #[.int .i64 r.1, .int .i64 r.2.1, .int .i64 r.2.2.1, .int .i64 r.2.2.2]] w _
  go_enter Try.func27, Try.ntmps27
  go_wp2_with fail
  refine (iScheduleForm_any _ p S _ s T _ (HP1.out _ (by (repeat (first | assumption | exact Bel.refl _ | apply Bel.drewN | apply Bel.drew | apply Bel.alloc | refine Bel.trans ?_ (by assumption))))) (fun b hb => Nat.lt_of_lt_of_le (HS.out b hb) (Bel.size (by (repeat (first | assumption | exact Bel.refl _ | apply Bel.drewN | apply Bel.drew | apply Bel.alloc | refine Bel.trans ?_ (by assumption)))))) HN.out (HQ1.out _ (by (repeat (first | assumption | exact Bel.refl _ | apply Bel.drewN | apply Bel.drew | apply Bel.alloc | refine Bel.trans ?_ (by assumption))))) (fun b hb => Nat.lt_of_lt_of_le (HT.out b hb) (Bel.size (by (repeat (first | assumption | exact Bel.refl _ | apply Bel.drewN | apply Bel.drew | apply Bel.alloc | refine Bel.trans ?_ (by assumption)))))) HN1.out).mono ?_
  rintro e w1 ⟨rfl, g1⟩
  have b0 := g1.cell (p := ⟨w.heap.size, 0, none⟩) (v := .int .i64 p.1) (by simp [go_sem])
  have b1 := g1.cell (p := ⟨w.heap.size, 1, none⟩) (v := .slice p1 p.2.1.length k1) (by simp [go_sem])
  have b2 := g1.cell (p := ⟨w.heap.size, 2, none⟩) (v := .slice p2 p.2.2.1.length k2) (by simp [go_sem])
  have b3 := g1.cell (p := ⟨w.heap.size, 3, none⟩) (v := .slice p3 p.2.2.2.1.length k3) (by simp [go_sem])
  have b4 := g1.cell (p := ⟨w.heap.size, 4, none⟩) (v := .slice p4 p.2.2.2.2.length k4) (by simp [go_sem])
  have c0 := g1.cell (p := ⟨w.heap.size + 1, 0, none⟩) (v := .slice sp0 s.1.length sk0) (by simp [go_sem])
  have c1 := g1.cell (p := ⟨w.heap.size + 1, 1, none⟩) (v := .slice sp1 s.2.length sk1) (by simp [go_sem])
  have d0 := g1.cell (p := ⟨w.heap.size + 1 + 1, 0, none⟩) (v := .int .i64 r.1) (by simp [go_sem])
  have d1 := g1.cell (p := ⟨w.heap.size + 1 + 1, 1, none⟩) (v := .int .i64 r.2.1) (by simp [go_sem])
  have d2 := g1.cell (p := ⟨w.heap.size + 1 + 1, 2, none⟩) (v := .int .i64 r.2.2.1) (by simp [go_sem])
  have d3 := g1.cell (p := ⟨w.heap.size + 1 + 1, 3, none⟩) (v := .int .i64 r.2.2.2) (by simp [go_sem])
  have G1 : Bel w w1 := by (repeat (first | assumption | exact Bel.refl _ | apply Bel.drewN | apply Bel.drew | apply Bel.alloc | refine Bel.trans ?_ (by assumption)))
  cases hf : schFormB p s
  · have HF := Lib.hid (show violB p s r = false from by unfold violB; rw [hf]; rfl)
    clear hf
    go_wp2
    go_ret
    exact ⟨ret_bool HF.out.symm, by (repeat (first | assumption | exact Bel.refl _ | apply Bel.drewN | apply Bel.drew | apply Bel.alloc | refine Bel.trans ?_ (by assumption)))⟩
  have HFO := Lib.hid hf; clear hf
  go_wp2_with fail
  refine (iRuleOk_any _ p S r _ (HP1.out _ (by (repeat (first | assumption | exact Bel.refl _ | apply Bel.drewN | apply Bel.drew | apply Bel.alloc | refine Bel.trans ?_ (by assumption))))) (fun b hb => Nat.lt_of_lt_of_le (HS.out b hb) (Bel.size (by (repeat (first | assumption | exact Bel.refl _ | apply Bel.drewN | apply Bel.drew | apply Bel.alloc | refine Bel.trans ?_ (by assumption)))))) HN.out).mono ?_
  rintro e w2 ⟨rfl, g2⟩
  have b0 := g2.cell b0
  have b1 := g2.cell b1
  have b2 := g2.cell b2
  have b3 := g2.cell b3
  have b4 := g2.cell b4
  have c0 := g2.cell c0
  have c1 := g2.cell c1
  have d0 := g2.cell d0
  have d1 := g2.cell d1
  have d2 := g2.cell d2
  have d3 := g2.cell d3
  have G2 : Bel w w2 := by (repeat (first | assumption | exact Bel.refl _ | apply Bel.drewN | apply Bel.drew | apply Bel.alloc | refine Bel.trans ?_ (by assumption)))
  cases hr : ruleOkB p r
  · have HF := Lib.hid (show violB p s r = false from by unfold violB; rw [HFO.out, hr]; rfl)
    clear hr
    go_wp2
    go_ret
    exact ⟨ret_bool HF.out.symm, by (repeat (first | assumption | exact Bel.refl _ | apply Bel.drewN | apply Bel.drew | apply Bel.alloc | refine Bel.trans ?_ (by assumption)))⟩
  have HF := Lib.hid (show violB p s r = !satB p s r from by unfold violB; rw [HFO.out, hr]; rfl)
  have HR := Lib.hid hr; clear hr
  go_wp2_with fail
  refine (satisfies_any _ p S _ s T r _ (HP1.out _ (by (repeat (first | assumption | exact Bel.refl _ | apply Bel.drewN | apply Bel.drew | apply Bel.alloc | refine Bel.trans ?_ (by assumption))))) (fun b hb => Nat.lt_of_lt_of_le (HS.out b hb) (Bel.size (by (repeat (first | assumption | exact Bel.refl _ | apply Bel.drewN | apply Bel.drew | apply Bel.alloc | refine Bel.trans ?_ (by assumption)))))) (HQ1.out _ (by (repeat (first | assumption | exact Bel.refl _ | apply Bel.drewN | apply Bel.drew | apply Bel.alloc | refine Bel.trans ?_ (by assumption))))) (fun b hb => Nat.lt_of_lt_of_le (HT.out b hb) (Bel.size (by (repeat (first | assumption | exact Bel.refl _ | apply Bel.drewN | apply Bel.drew | apply Bel.alloc | refine Bel.trans ?_ (by assumption)))))) HN.out HN1.out HFO.out HR.out).mono ?_
  rintro e w3 ⟨rfl, g3⟩
  go_wp2
  go_ret
  exact ⟨ret_bool HF.out.symm, by (repeat (first | assumption | exact Bel.refl _ | apply Bel.drewN | apply Bel.drew | apply Bel.alloc | refine Bel.trans ?_ (by assumption)))⟩


end Go.Proofs.Ytiaamddhocdhaaa
end

/- RulesF -/
section
namespace Go.Proofs.Ytiaamddhocdhaaa
open Go.RowKit
set_option linter.unusedVariables false

/-- base, and f of the first k numbers. -/
def accF (base : List RuleT) (f : Nat → RuleT) (k : Nat) : List RuleT := base ++ (List.range k).map f
theorem accF_zero (base : List RuleT) (f : Nat → RuleT) : accF base f 0 = base := by simp [accF]
theorem accF_succ (base : List RuleT) (f : Nat → RuleT) (k : Nat) : accF base f (k + 1) = accF base f k ++ [f k] := by simp [accF, List.range_succ]
theorem accF_length (base : List RuleT) (f : Nat → RuleT) (k : Nat) : (accF base f k).length = base.length + k := by simp [accF]
theorem accF_mem {base : List RuleT} {f : Nat → RuleT} {k : Nat} {r : RuleT} (h : r ∈ accF base f k) : r ∈ base ∨ ∃ j, j < k ∧ r = f j := by
  rcases List.mem_append.1 h with h | h
  · exact .inl h
  · obtain ⟨j, hj, e⟩ := List.mem_map.1 h
    exact .inr ⟨j, List.mem_range.1 hj, e.symm⟩
/-- base, and rows of f. -/
def accM (base : List RuleT) (g : Nat → Nat → RuleT) (m : Nat → Nat) : Nat → List RuleT
  | 0 => base
  | k + 1 => accF (accM base g m k) (g k) (m k)
theorem accM_length {base : List RuleT} {g : Nat → Nat → RuleT} {m : Nat → Nat} {M : Nat} (hm : ∀ k, m k ≤ M) : ∀ k, (accM base g m k).length ≤ base.length + k * M := by
  intro k
  induction k with
  | zero => simp [accM]
  | succ k ih =>
    simp only [accM, accF_length]
    have := hm k
    rw [Nat.succ_mul]
    omega
theorem accM_mem {base : List RuleT} {g : Nat → Nat → RuleT} {m : Nat → Nat} {r : RuleT} : ∀ {k}, r ∈ accM base g m k → r ∈ base ∨ ∃ i j, i < k ∧ j < m i ∧ r = g i j := by
  intro k
  induction k with
  | zero => intro h; exact .inl h
  | succ k ih =>
    intro h
    rcases accF_mem h with h | ⟨j, hj, e⟩
    · rcases ih h with h | ⟨i, j, hi, hj, e⟩
      · exact .inl h
      · exact .inr ⟨i, j, by omega, hj, e⟩
    · exact .inr ⟨k, j, by omega, hj, e⟩

def rLink (i : Nat) : RuleT := (1, (i : Int), 0, 0)
def rEnd (i : Nat) : RuleT := (2, (i : Int), 0, 0)
def rTime (i t : Nat) : RuleT := (3, (i : Int), (t : Int), 0)
def rPair (i b j : Nat) : RuleT := (5, (i : Int), (b : Int), ((b + 1 + j : Nat) : Int))
def rStock (i : Nat) : RuleT := (6, (i : Int), 0, 0)
def isMach (p : ProjT) (i : Nat) : Bool := machB p (i : Int)
/-- How many pairs begin with b on resource i. -/
def pairN (p : ProjT) (i b : Nat) : Nat := if machB p (i : Int) = true then p.2.1.length - (b + 1) else 0
theorem pairN_le (p : ProjT) (i b : Nat) : pairN p i b ≤ p.2.1.length := by unfold pairN; split <;> omega
theorem pairN_no {p : ProjT} {i : Nat} (h : machB p (i : Int) = false) (b : Nat) : pairN p i b = 0 := by unfold pairN; rw [if_neg (by rw [h]; decide)]
theorem pairN_yes {p : ProjT} {i : Nat} (h : machB p (i : Int) = true) (b : Nat) : pairN p i b = p.2.1.length - (b + 1) := if_pos h
def rul1 (p : ProjT) : List RuleT := accF [] rLink p.2.2.1.length
def rul2 (p : ProjT) : List RuleT := accF (rul1 p) rEnd p.2.1.length
def rul3 (p : ProjT) (n : Nat) : List RuleT := accM (rul2 p) rTime (fun _ => 61) n
/-- The pairs of resource i. -/
def rul4 (p : ProjT) : Nat → List RuleT
  | 0 => rul3 p p.2.2.2.1.length
  | i + 1 => accM (rul4 p i) (rPair i) (pairN p i) p.2.1.length
def rulesV (p : ProjT) : List RuleT := accF (rul4 p p.2.2.2.1.length) rStock p.2.2.2.2.length
theorem rul3_length (p : ProjT) (n : Nat) : (rul3 p n).length ≤ p.2.2.1.length + p.2.1.length + n * 61 := by
  have h := accM_length (base := rul2 p) (g := rTime) (m := fun _ => 61) (M := 61) (fun _ => Nat.le_refl _) n
  unfold rul3
  refine Nat.le_trans h ?_
  unfold rul2 rul1
  simp only [accF_length, List.length_nil]
  omega
theorem rul4_length (p : ProjT) : ∀ i, (rul4 p i).length ≤ p.2.2.1.length + p.2.1.length + p.2.2.2.1.length * 61 + i * (p.2.1.length * p.2.1.length) := by
  intro i
  induction i with
  | zero => simpa [rul4] using rul3_length p p.2.2.2.1.length
  | succ i ih =>
    simp only [rul4]
    refine Nat.le_trans (accM_length (pairN_le p i) _) ?_
    rw [Nat.succ_mul]
    omega
theorem rules_small {p : ProjT} (h : projOk p = true) : (∀ n, n ≤ p.2.2.2.1.length → (rul3 p n).length ≤ 201) ∧ (∀ n, n ≤ p.2.2.2.1.length → (rul4 p n).length ≤ 309) ∧ (rulesV p).length ≤ 311 := by
  obtain ⟨h1, h2, h3, h4, h5, h6, h7⟩ := projOk_bd h
  have hq : p.2.1.length * p.2.1.length ≤ 36 := Nat.mul_le_mul h2 h2
  have hA : ∀ n, n ≤ p.2.2.2.1.length → (rul4 p n).length ≤ 309 := fun n hn => by
    have h := rul4_length p n
    have h8 : n * (p.2.1.length * p.2.1.length) ≤ 3 * 36 := Nat.mul_le_mul (by omega) hq
    omega
  refine ⟨fun n hn => by have := rul3_length p n; omega, hA, ?_⟩
  unfold rulesV
  rw [accF_length]
  have := hA _ (Nat.le_refl _)
  omega
theorem rul4_mem {p : ProjT} {r : RuleT} : ∀ {n}, r ∈ rul4 p n → r ∈ rul3 p p.2.2.2.1.length ∨ ∃ i b j, i < n ∧ b < p.2.1.length ∧ j < pairN p i b ∧ r = rPair i b j := by
  intro n
  induction n with
  | zero => intro h; exact .inl h
  | succ n ih =>
    intro h
    rcases accM_mem h with h | ⟨b, j, hb, hj, e⟩
    · rcases ih h with h | ⟨i, b, j, hi, hb, hj, e⟩
      · exact .inl h
      · exact .inr ⟨i, b, j, by omega, hb, hj, e⟩
    · exact .inr ⟨n, b, j, by omega, hb, hj, e⟩
theorem inBv_yes {k n : Nat} (h : k < n) : inBv (k : Int) 0 ((n : Int) - 1) = true := by
  unfold inBv
  rw [decide_eq_true (show (0 : Int) ≤ (k : Int) from by omega), decide_eq_true (show (k : Int) ≤ (n : Int) - 1 from by omega)]
  rfl
/-- All rules of the list are well formed. -/
theorem rulesV_ok {p : ProjT} (h : projOk p = true) {r : RuleT} (hr : r ∈ rulesV p) : ruleOkB p r = true := by
  have hb := projOk_bd h
  unfold ruleOkB
  rw [h, Bool.true_and]
  rcases accF_mem hr with hr | ⟨i, hi, rfl⟩
  · rcases rul4_mem hr with hr | ⟨i, b, j, hi, hb', hj, rfl⟩
    · rcases accM_mem hr with hr | ⟨i, t, hi, ht, rfl⟩
      · rcases accF_mem hr with hr | ⟨i, hi, rfl⟩
        · rcases accF_mem hr with hr | ⟨i, hi, rfl⟩
          · cases hr
          · show ruleAt p 1 (i : Int) 0 0 = true
            unfold ruleAt
            rw [if_pos rfl, inBv_yes hi]; rfl
        · show ruleAt p 2 (i : Int) 0 0 = true
          unfold ruleAt
          rw [if_neg (by decide), if_pos rfl, inBv_yes hi]; rfl
      · show ruleAt p 3 (i : Int) (t : Int) 0 = true
        unfold ruleAt
        have h61 : inBv (t : Int) 0 60 = true := by have := inBv_yes (k := t) (n := 61) ht; simpa using this
        rw [if_neg (by decide), if_neg (by decide), if_pos rfl, inBv_yes hi, h61]; rfl
    · show ruleAt p 5 (i : Int) (b : Int) ((b + 1 + j : Nat) : Int) = true
      unfold ruleAt
      unfold pairN at hj
      split at hj
      · next hm =>
        rw [if_neg (by decide), if_neg (by decide), if_neg (by decide), if_neg (by decide), if_pos rfl, hm, inBv_yes hb', inBv_yes (show b + 1 + j < p.2.1.length from by omega), decide_eq_true (show ((b : Nat) : Int) < ((b + 1 + j : Nat) : Int) from by omega)]
        rfl
      · omega
  · show ruleAt p 6 (i : Int) 0 0 = true
    unfold ruleAt
    rw [if_neg (by decide), if_neg (by decide), if_neg (by decide), if_neg (by decide), if_neg (by decide), if_pos rfl, inBv_yes hi]; rfl
theorem ruleOk_small {p : ProjT} (hp : projOk p = true) {r : RuleT} (h : ruleOkB p r = true) : I64 r.1 ∧ I64 r.2.1 ∧ I64 r.2.2.1 ∧ I64 r.2.2.2 := by
  have hb := projOk_bd hp
  unfold I64
  rcases ruleOk_cases h with ⟨k, hk, rfl⟩ | ⟨k, hk, rfl⟩ | ⟨a, t, ha, ht, rfl⟩ | ⟨a, x, y, ha, hxy, hy, rfl⟩ | ⟨a, b, c, ha, hm, hb, hc, rfl⟩ | ⟨k, hk, rfl⟩ <;> (refine ⟨?_, ?_, ?_, ?_⟩ <;> constructor <;> (dsimp only; omega))
/-- The violated ones of the first j. -/
def violTo (p : ProjT) (s : SchT) (j : Nat) : List RuleT := ((rulesV p).take j).filter fun r => !satB p s r
theorem violTo_zero (p : ProjT) (s : SchT) : violTo p s 0 = [] := by simp [violTo]
theorem violTo_yes {p : ProjT} {s : SchT} {j : Nat} (h : j < (rulesV p).length) (hs : satB p s ((rulesV p).getD j (0, 0, 0, 0)) = true) : violTo p s (j + 1) = violTo p s j := by
  unfold violTo
  rw [List.take_succ_eq_append_getElem h, List.filter_append]
  rw [List.getD_eq_getElem?_getD, List.getElem?_eq_getElem h, Option.getD_some] at hs
  simp [hs]
theorem violTo_no {p : ProjT} {s : SchT} {j : Nat} (h : j < (rulesV p).length) (hs : satB p s ((rulesV p).getD j (0, 0, 0, 0)) = false) : violTo p s (j + 1) = violTo p s j ++ [(rulesV p).getD j (0, 0, 0, 0)] := by
  unfold violTo
  rw [List.take_succ_eq_append_getElem h, List.filter_append]
  rw [List.getD_eq_getElem?_getD, List.getElem?_eq_getElem h, Option.getD_some] at hs
  simp [hs, List.getElem?_eq_getElem h]
theorem violTo_le (p : ProjT) (s : SchT) (j : Nat) : (violTo p s j).length ≤ j := by
  unfold violTo
  refine Nat.le_trans (List.length_filter_le _ _) ?_
  rw [List.length_take]
  omega
def violV (p : ProjT) (s : SchT) : List RuleT := if schFormB p s = true then violTo p s (rulesV p).length else []
theorem violV_len (p : ProjT) (s : SchT) : (violV p s).length ≤ 1048576 := by
  unfold violV
  split
  · next h =>
    have h1 := violTo_le p s (rulesV p).length
    have h2 := (rules_small (projOk_form h)).2.2
    omega
  · simp
def schOkB (p : ProjT) (s : SchT) : Bool := schFormB p s && decide ((violV p s).length = 0)
end Go.Proofs.Ytiaamddhocdhaaa
end

/- Sign -/
section
namespace Go.Proofs.Ytiaamddhocdhaaa
open Go.ChangeShapes Go.WideShapes Go.ChangeAt Go.RowKit
set_option linter.unusedVariables false

def ruleStr : Nat → ByteArray
  | 0 => ⟨#[110, 111, 110, 101]⟩
  | 1 => ⟨#[108, 105, 110, 107]⟩
  | 2 => ⟨#[101, 110, 100]⟩
  | 3 => ⟨#[116, 105, 109, 101]⟩
  | 4 => ⟨#[119, 111, 114, 107]⟩
  | 5 => ⟨#[112, 97, 105, 114]⟩
  | 6 => ⟨#[115, 116, 111, 99, 107]⟩
  | _ => ⟨#[]⟩

def ruleNameF (n : Int) : ByteArray := if inB n 0 6 then ruleStr n.toNat else ⟨#[]⟩
theorem ruleNameF_no (n : Int) (h : inB n 0 6 = false) : ruleNameF n = ⟨#[]⟩ := by simp [ruleNameF, h]

def signStr : Nat → ByteArray
  | 1 => ⟨#[62, 61]⟩
  | 2 => ⟨#[60, 61]⟩
  | 3 => ⟨#[61]⟩
  | 4 => ⟨#[33, 61]⟩
  | _ => ⟨#[]⟩
def signF (n : Int) : ByteArray := if inB n 1 4 then signStr n.toNat else ⟨#[]⟩
theorem signF_no (n : Int) (h : inB n 1 4 = false) : signF n = ⟨#[]⟩ := by simp [signF, h]

theorem iRuleName (n : Int) (w : World) :
    Calls Try.prog 29 #[.int .i64 n] w fun e w' => e = .returned (.string (ruleNameF n)) ∧ Bel w w' := by
  cases hb : inB n 0 6
  · have HF := Lib.hid (ruleNameF_no n hb)
    go_enter Try.func29, Try.ntmps29
    go_wp2_with (go_at_call 82; refine (within_any _ _ _ _).mono ?_; rintro e w' ⟨rfl, rfl⟩)
    go_ret
    exact ⟨ret_str HF.out.symm, by repeat (first | exact Bel.refl _ | apply Bel.drew | apply Bel.alloc)⟩
  · obtain ⟨k, rfl, hk⟩ := inB_cases n 6 hb
    clear hb
    have hc : k = 0 ∨ k = 1 ∨ k = 2 ∨ k = 3 ∨ k = 4 ∨ k = 5 ∨ k = 6 := by omega
    clear hk
    rcases hc with rfl | rfl | rfl | rfl | rfl | rfl | rfl
    all_goals
      go_enter Try.func29, Try.ntmps29
      go_wp2_with (go_at_call 82; refine (within_any _ _ _ _).mono ?_; rintro e w' ⟨rfl, rfl⟩)
      go_ret
      exact ⟨rfl, by repeat (first | exact Bel.refl _ | apply Bel.drew | apply Bel.alloc)⟩



theorem iLiteralSign (n : Int) (w : World) :
    Calls Try.prog 22 #[.int .i64 n] w fun e w' => e = .returned (.string (signF n)) ∧ w = w' := by
  cases hb : inB n 1 4
  · have HF := Lib.hid (signF_no n hb)
    simp only [inB, Bool.and_eq_false_iff, decide_eq_false_iff_not] at hb
    have h1 : (n == 1) = false := by simp; omega
    have h2 : (n == 2) = false := by simp; omega
    have h3 : (n == 3) = false := by simp; omega
    have h4 : (n == 4) = false := by simp; omega
    clear hb
    go_enter Try.func22, Try.ntmps22
    go_wp2
    go_ret
    exact ⟨ret_str HF.out.symm, rfl⟩
  · obtain ⟨k, rfl, hk1, hk⟩ := inB_cases1 n 4 hb
    clear hb
    have hc : k = 1 ∨ k = 2 ∨ k = 3 ∨ k = 4 := by omega
    clear hk hk1
    rcases hc with rfl | rfl | rfl | rfl
    all_goals
      go_enter Try.func22, Try.ntmps22
      go_wp2
      go_ret
      exact ⟨rfl, rfl⟩

end Go.Proofs.Ytiaamddhocdhaaa
end

/- FaultF -/
section
namespace Go.Proofs.Ytiaamddhocdhaaa
open Go.RowKit
set_option linter.unusedVariables false

theorem accF_base {base : List RuleT} {f : Nat → RuleT} {k : Nat} {r : RuleT} (h : r ∈ base) : r ∈ accF base f k := List.mem_append_left _ h
theorem accF_in {base : List RuleT} {f : Nat → RuleT} {k j : Nat} (h : j < k) : f j ∈ accF base f k := List.mem_append_right _ (List.mem_map.2 ⟨j, List.mem_range.2 h, rfl⟩)
theorem accM_base {base : List RuleT} {g : Nat → Nat → RuleT} {m : Nat → Nat} {r : RuleT} (h : r ∈ base) : ∀ k, r ∈ accM base g m k := by
  intro k
  induction k with
  | zero => exact h
  | succ k ih => exact accF_base ih
theorem accM_in {base : List RuleT} {g : Nat → Nat → RuleT} {m : Nat → Nat} {i j : Nat} (hj : j < m i) : ∀ k, i < k → g i j ∈ accM base g m k := by
  intro k
  induction k with
  | zero => intro h; cases h
  | succ k ih =>
    intro h
    by_cases e : i = k
    · subst e; exact accF_in hj
    · exact accF_base (ih (by omega))
theorem rul4_base {p : ProjT} {r : RuleT} (h : r ∈ rul3 p p.2.2.2.1.length) : ∀ n, r ∈ rul4 p n := by
  intro n
  induction n with
  | zero => exact h
  | succ n ih => exact accM_base ih _
theorem rul4_in {p : ProjT} {i b j : Nat} (hb : b < p.2.1.length) (hj : j < pairN p i b) : ∀ n, i < n → rPair i b j ∈ rul4 p n := by
  intro n
  induction n with
  | zero => intro h; cases h
  | succ n ih =>
    intro h
    by_cases e : i = n
    · subst e; exact accM_in hj _ hb
    · exact accM_base (ih (by omega)) _
/-- All well formed rules but those on work are in the list. -/
theorem rulesV_has {p : ProjT} {r : RuleT} (h : ruleOkB p r = true) (h4 : r.1 ≠ 4) : r ∈ rulesV p := by
  rcases ruleOk_cases h with ⟨k, hk, rfl⟩ | ⟨k, hk, rfl⟩ | ⟨a, t, ha, ht, rfl⟩ | ⟨a, x, y, ha, hxy, hy, rfl⟩ | ⟨a, b, c, ha, hm, hb, hc, rfl⟩ | ⟨k, hk, rfl⟩
  · exact accF_base (rul4_base (accM_base (accF_base (accF_in (f := rLink) hk)) _) _)
  · exact accF_base (rul4_base (accM_base (accF_in (f := rEnd) hk) _) _)
  · exact accF_base (rul4_base (accM_in (g := rTime) (show t < 61 by omega) _ ha) _)
  · exact absurd rfl h4
  · have hbc : b < c := by
      unfold ruleOkB ruleAt at h
      simp at h
      omega
    have hM : machB p (a : Int) = true := by
      unfold machB
      rw [inBv_yes ha, Int.toNat_natCast, decide_eq_true hm]; rfl
    have := rul4_in (p := p) (i := a) (b := b) (j := c - (b + 1)) hb (by rw [pairN_yes hM]; omega) _ ha
    have e : rPair a b (c - (b + 1)) = (5, (a : Int), (b : Int), (c : Int)) := by
      unfold rPair
      rw [show b + 1 + (c - (b + 1)) = c from by omega]
    rw [e] at this
    exact accF_base this
  · exact accF_in (f := rStock) hk
theorem violV_mem {p : ProjT} {s : SchT} {r : RuleT} (h : schFormB p s = true) : r ∈ violV p s ↔ r ∈ rulesV p ∧ satB p s r = false := by
  unfold violV
  rw [if_pos h]
  unfold violTo
  rw [List.take_length, List.mem_filter, Bool.not_eq_true']
theorem work_le {p : ProjT} {s : SchT} {a x : Nat} : ∀ n, (∀ t : Nat, x ≤ t → t < x + n → usageV p s a (t : Int) ≤ capV (p.2.2.2.1.getD a zRes).1 (t : Int)) → workTo p s a (x : Int) n ≤ totTo (p.2.2.2.1.getD a zRes).1 (x : Int) n := by
  intro n
  induction n with
  | zero => intro _; exact Int.le_refl _
  | succ n ih =>
    intro h
    have h1 := ih (fun t h1 h2 => h t h1 (by omega))
    have h2 := h (x + n) (by omega) (by omega)
    simp only [workTo, totTo]
    have e : (((x + n : Nat) : Int)) = (x : Int) + (n : Int) := by omega
    rw [e] at h2
    omega
/-- A schedule without a violated rule of the list violates no rule. -/
theorem faults_none {p : ProjT} {s : SchT} (h : schFormB p s = true) (h0 : (violV p s).length = 0) (r : RuleT) : violB p s r = false := by
  unfold violB
  rw [h, Bool.true_and, Bool.and_eq_false_iff]
  cases hr : ruleOkB p r
  · exact .inl rfl
  · right
    have hall : ∀ x, x ∈ rulesV p → satB p s x = true := by
      intro x hx
      cases hs : satB p s x
      · have := (violV_mem h).2 ⟨hx, hs⟩
        rw [List.eq_nil_of_length_eq_zero h0] at this
        cases this
      · rfl
    by_cases h4 : r.1 = 4
    · rcases ruleOk_cases hr with ⟨k, hk, rfl⟩ | ⟨k, hk, rfl⟩ | ⟨a, t, ha, ht, rfl⟩ | ⟨a, x, y, ha, hxy, hy, rfl⟩ | ⟨a, b, c, ha, hm, hb, hc, rfl⟩ | ⟨k, hk, rfl⟩
      · simp at h4
      · simp at h4
      · simp at h4
      · have hw := work_le (p := p) (s := s) (a := a) (x := x) (y - x) (fun t h1 h2 => by
          have h3 := hall (rTime a t) (accF_base (rul4_base (accM_in (g := rTime) (show t < 61 by omega) _ ha) _))
          unfold satB rTime at h3
          simpa using h3)
        unfold satB
        simp only [Bool.not_eq_false']
        rw [if_neg (by decide), if_neg (by decide), if_neg (by decide), if_pos trivial, decide_eq_true_eq]
        rw [Int.toNat_natCast, show ((y : Int) - (x : Int)).toNat = y - x from by omega]
        exact hw
      · simp at h4
      · simp at h4
    · rw [hall r (rulesV_has hr h4)]; rfl
/-- What each violated rule of the list is. -/
theorem faults_some {p : ProjT} {s : SchT} (h : schFormB p s = true) {j : Nat} (hj : j < (violV p s).length) : ruleOkB p ((violV p s).getD j (0, 0, 0, 0)) = true ∧ violB p s ((violV p s).getD j (0, 0, 0, 0)) = true ∧ (ruleNameF ((violV p s).getD j (0, 0, 0, 0)).1 = ⟨#[]⟩ → False) := by
  have hm : (violV p s).getD j (0, 0, 0, 0) ∈ violV p s := by
    rw [List.getD_eq_getElem?_getD, List.getElem?_eq_getElem hj]
    exact List.getElem_mem hj
  generalize (violV p s).getD j (0, 0, 0, 0) = r at hm
  obtain ⟨h1, h2⟩ := (violV_mem h).1 hm
  have h3 := rulesV_ok (projOk_form h) h1
  refine ⟨h3, by unfold violB; rw [h, h3, h2]; rfl, ?_⟩
  have key : ∀ n, (ruleNameF n).size ≠ 0 → ruleNameF n = ⟨#[]⟩ → False := fun n h e => h (by rw [e]; rfl)
  rcases ruleOk_cases h3 with ⟨k, hk, rfl⟩ | ⟨k, hk, rfl⟩ | ⟨a, t, ha, ht, rfl⟩ | ⟨a, x, y, ha, hxy, hy, rfl⟩ | ⟨a, b, c, ha, hm, hb, hc, rfl⟩ | ⟨k, hk, rfl⟩
  · exact key 1 (by decide)
  · exact key 2 (by decide)
  · exact key 3 (by decide)
  · exact key 4 (by decide)
  · exact key 5 (by decide)
  · exact key 6 (by decide)
theorem faults_time {p : ProjT} {s : SchT} (h : schFormB p s = true) (h1 : 1 ≤ p.2.2.2.1.length) {t : Nat} (ht : t ≤ 60) : violB p s (3, 0, (t : Int), 0) = decide (capV (p.2.2.2.1.getD 0 zRes).1 (t : Int) < usageV p s 0 (t : Int)) := by
  have hr : ruleOkB p (3, 0, (t : Int), 0) = true := by
    unfold ruleOkB ruleAt
    rw [projOk_form h]
    have e1 : inBv 0 0 ((p.2.2.2.1.length : Int) - 1) = true := inBv_yes (k := 0) h1
    have e2 : inBv (t : Int) 0 60 = true := by have := inBv_yes (k := t) (n := 61) (by omega); simpa using this
    simp [e1, e2]
  unfold violB
  rw [h, hr]
  unfold satB
  simp only [Bool.true_and]
  rw [if_neg (by decide), if_neg (by decide), if_pos trivial]
  show (!decide (usageV p s 0 (t : Int) ≤ capV (p.2.2.2.1.getD 0 zRes).1 (t : Int))) = _
  rw [← decide_not]
  exact decide_eq_decide.2 (by omega)
theorem usageAt_form {p : ProjT} {s : SchT} (h : schFormB p s = true) (h1 : 1 ≤ p.2.2.2.1.length) (t : Int) : usageAtV p s 0 t = usageV p s 0 t := by
  unfold usageAtV
  have e1 : inBv 0 0 ((p.2.2.2.1.length : Int) - 1) = true := inBv_yes (k := 0) h1
  rw [h, e1]; rfl
end Go.Proofs.Ytiaamddhocdhaaa
end
