/- Draws of schedules and of literals. -/
import Derived.Test.YtiaamddhocdhaaaDraw4
namespace Go.Proofs.Ytiaamddhocdhaaa
open Go.ChangeShapes Go.WideShapes Go.ChangeAt Go.RowKit
set_option linter.unusedVariables false

theorem Own.row {α : Type} {n : Nat} {R : RepT α} {e : TypeId} {B : Nat} {w w' : World} {p : Option Addr} {cap : Nat} {xs : List α} (h : Own (fun _ => False) n R e B w p cap xs) (gd : Good R) (hk : ∀ a, p = some a → w'.heap[a.block]? = w.heap[a.block]?) : Own (fun _ => False) n R e B w' p cap xs := by
  obtain ⟨cells, ⟨h1, h2⟩, h3⟩ := h
  refine ⟨cells, ⟨h1, ?_⟩, fun i hi => ?_⟩
  · rcases h2 with h2 | ⟨g, cap', cur, h4, h5, h6, h7⟩
    · exact .inl h2
    · obtain ⟨rfl, _, _⟩ : p = some ⟨g, 0, none⟩ ∧ xs.length = xs.length ∧ cap = cap' := by simpa using h4
      exact .inr ⟨g, cap', cur, h4, h5, by rw [hk _ rfl]; exact h6, h7⟩
  · obtain ⟨ecs, e1, e2, e3⟩ := h3 i hi
    exact ⟨ecs, e1, e2, gd.mono (gd.stay e3 fun b hb' => hb'.1.elim) fun b hb' => hb'.1.elim⟩
/-- Two slices in rows of their own. -/
def Apart (p q : Option Addr) : Prop := ∀ a b, p = some a → q = some b → a.block ≠ b.block
theorem sliceR_atS {α : Type} {n : Nat} {R : RepT α} {S : Nat → Prop} {w : World} {p : Option Addr} {l c : Nat} {xs : List α} (d : α) (h : sliceR n R S w [.slice p l c] xs) {i : Nat} (hi : i < xs.length) :
    ∃ b off ecs, p = some ⟨b, off, none⟩ ∧ S b ∧ RowAt w b (off + i * n) ecs ∧ R S w ecs (xs.getD i d) := by
  obtain ⟨p', cap', e0, _, _, h4⟩ := h
  obtain ⟨rfl, _, _⟩ : p = p' ∧ l = xs.length ∧ c = cap' := by simpa using e0
  obtain ⟨b, off, ecs, e1, e2, e3, e4, e5⟩ := h4 i hi
  have e7 : xs.getD i d = xs[i] := by simp [List.getD, hi]
  rw [e7]
  exact ⟨b, off, ecs, e1, e2, e4, e5⟩
theorem drop_cons {α : Type} (l : List α) (d : α) {k : Nat} (h : k < l.length) : l.drop k = l.getD k d :: l.drop (k + 1) := by
  rw [List.drop_eq_getElem_cons h]
  simp [List.getD, h]
set_option maxRecDepth 100000 in
set_option maxHeartbeats 8000000 in
theorem l09Draw_any (cb : Nat) (C : List Int) (s : StT) (v : Value) (p : ProjT) (S : Nat → Prop) (w : World) (h : Cur w cb C s) (hx : aggR projR S w v p) (hS : ∀ b, S b → b < w.heap.size ∧ b ≠ cb) (hp : projOk p = true) :
    Calls Try.prog 80 #[.pointer (some ⟨cb, 0, none⟩), v] w (DrA schR cb C w (schV C p s)) := by
  obtain ⟨cs, rfl, hx⟩ := hx
  obtain ⟨c1, c2, c3, c4, rfl, q0, q1, q2, q3, q4⟩ := projR_open hx
  have Q1 := Lib.hid q1
  have Q2 := Lib.hid q2
  have Q3 := Lib.hid q3
  have Q4 := Lib.hid q4
  have HP := Lib.hid hx
  obtain ⟨p1, k1, rfl, l1, l1', -⟩ := sliceR_open q1
  obtain ⟨p2, k2, rfl, l2, l2', -⟩ := sliceR_open q2
  obtain ⟨p3, k3, rfl, l3, l3', -⟩ := sliceR_open q3
  obtain ⟨p4, k4, rfl, l4, l4', -⟩ := sliceR_open q4
  unfold maxLen at l1' l2' l3' l4'
  clear hx q0 q1 q2 q3 q4
  have HS := Lib.hid hS
  have HPO := Lib.hid hp
  have hpb := projOk_bd hp
  have HLT := Lib.hid h.lt
  have hc := h
  have hltc := h.lt
  clear h hS hp
  show Calls Try.prog 80 #[.pointer (some ⟨cb, 0, none⟩), .agg #[.int .i64 p.1, .slice p1 p.2.1.length k1, .slice p2 p.2.2.1.length k2, .slice p3 p.2.2.2.1.length k3, .slice p4 p.2.2.2.2.length k4]] w _
  go_enter Try.func80, Try.ntmps80
  have HBR := Lib.hid (show Blk (((w.alloc (.cells #[.int .i64 p.1, .slice p1 p.2.1.length k1, .slice p2 p.2.2.1.length k2, .slice p3 p.2.2.2.1.length k3, .slice p4 p.2.2.2.2.length k4] 34)).alloc (.cells #[.slice none 0 0, .slice none 0 0] 41)).alloc (.cells #[.slice none 0 0, .slice none 0 0] 41)) (w.heap.size + 1) 41 [.slice none 0 0, .slice none 0 0] from (Blk.new' (w := w.alloc (.cells #[.int .i64 p.1, .slice p1 p.2.1.length k1, .slice p2 p.2.2.1.length k2, .slice p3 p.2.2.2.1.length k3, .slice p4 p.2.2.2.2.length k4] 34)) [.slice none 0 0, .slice none 0 0] (by simp)).alloc _)
  have HBS := Lib.hid (show Blk (((w.alloc (.cells #[.int .i64 p.1, .slice p1 p.2.1.length k1, .slice p2 p.2.2.1.length k2, .slice p3 p.2.2.2.1.length k3, .slice p4 p.2.2.2.2.length k4] 34)).alloc (.cells #[.slice none 0 0, .slice none 0 0] 41)).alloc (.cells #[.slice none 0 0, .slice none 0 0] 41)) (w.heap.size + 1 + 1) 41 [.slice none 0 0, .slice none 0 0] from Blk.new' _ (by simp))
  obtain ⟨W0, hW0⟩ : ∃ W, W = ((w.alloc (.cells #[.int .i64 p.1, .slice p1 p.2.1.length k1, .slice p2 p.2.2.1.length k2, .slice p3 p.2.2.2.1.length k3, .slice p4 p.2.2.2.2.length k4] 34)).alloc (.cells #[.slice none 0 0, .slice none 0 0] 41)).alloc (.cells #[.slice none 0 0, .slice none 0 0] 41) := ⟨_, rfl⟩
  rw [← hW0] at HBR HBS
  have hB0 : Bel w W0 := by rw [hW0]; (repeat (first | assumption | exact Bel.refl _ | apply Bel.drewN | apply Bel.drew | apply Bel.alloc | refine Bel.trans ?_ (by assumption)))
  have hsz0 : W0.heap.size = w.heap.size + 3 := by rw [hW0]; simp
  have HZ := Lib.hid (show w.heap.size + 1 + 1 + 1 ≤ W0.heap.size from by omega)
  have HW0 := Lib.hid hW0
  have hcW := hc.bel hB0
  have hdW : Dr cb w W0 := Dr.ofBel hB0
  clear hsz0 hW0 hc
  go_wp2_with fail
  rw [← HW0.out]
  go_loopw [6, 8, 9, 14] (fun a _ _ i wr => ∃ (k : Nat) (X Y : List Int) (at_ : Int) (st : StT) (q1 : Option Addr) (c1 : Nat) (q2 : Option Addr) (c2 : Nat), k ≤ p.2.1.length ∧ i = .int .i64 k ∧ a = .int .i64 at_ ∧ X.length = k ∧ Y.length = k ∧ 0 ≤ at_ ∧ at_ ≤ 5 * k ∧ Blk wr (w.heap.size + 1 + 1) 41 [.slice q1 X.length c1, .slice q2 Y.length c2] ∧ Blk wr (w.heap.size + 1) 41 [.slice none 0 0, .slice none 0 0] ∧ Own (fun _ => False) 1 intR 3 (w.heap.size + 1 + 1 + 1) wr q1 c1 X ∧ Own (fun _ => False) 1 intR 3 (w.heap.size + 1 + 1 + 1) wr q2 c2 Y ∧ Apart q1 q2 ∧ Cur wr cb C st ∧ schTo C (p.2.1.drop k) at_ X Y st = schV C p s ∧ Dr cb w wr) (fun _ _ _ i _ => p.2.1.length - (intOf i).toNat)
  case atStart => exact ⟨0, [], [], 0, s, none, 0, none, 0, Nat.zero_le _, rfl, rfl, rfl, rfl, Int.le_refl _, by omega, HBS.out, HBR.out, Own.nil _, Own.nil _, (fun _ _ h _ => by cases h), hcW, rfl, hdW⟩
  case round =>
    clear hcW hdW hB0
    obtain ⟨k, X, Y, at_, st, q1, c1, q2, c2, hk, rfl, rfl, hxl, hyl, hat0, hat1, hbs, hbr, hO1, hO2, hap, hc, heq, hd⟩ := hrel
    have HBSr := Lib.hid hbs
    have HBRr := Lib.hid hbr
    have HEQ := Lib.hid heq
    have HXL := Lib.hid hxl
    have HYL := Lib.hid hyl
    have hwsz := hd.size
    have hbsl := hbs.lt
    have hle1 := hO1.le
    have hle2 := hO2.le
    unfold maxLen at hle1 hle2
    clear hbs hbr heq hxl hyl
    by_cases hlt : k < p.2.1.length
    · skip
      obtain ⟨ab, ao, acs, rfl, hSab, arow, ael⟩ := sliceR_atS zAct Q1.out hlt
      obtain ⟨ac2, rfl, aq0, aq1, aq2⟩ := actR_open ael
      have hml := projOk_modes HPO.out hlt
      have HDC := Lib.hid (drop_cons p.2.1 zAct hlt)
      generalize p.2.1.getD k zAct = XA at *
      obtain ⟨am, amk, rfl, aml, aml', -⟩ := sliceR_open aq2
      unfold maxLen at aml'
      have hSb := HS.out _ hSab
      have e0 := hd.cell (arow 0 (by simp)).1 hSb.2
      have e1 := hd.cell (arow 1 (by simp)).1 hSb.2
      have e2 := hd.cell (arow 2 (by simp)).1 hSb.2
      simp only [List.getElem_cons_zero, List.getElem_cons_succ, Nat.add_zero] at e0 e1 e2
      clear arow ael aq0 aq1 aq2
      have HEQ := Lib.hid (show schTo C (p.2.1.drop (k + 1)) (at_ + (schD C XA at_ st).1) (X ++ [(schN C at_ st).1]) (Y ++ [(schM C XA at_ st).1]) (schD C XA at_ st).2 = schV C p s from by rw [← HEQ.out, HDC.out]; rfl)
      obtain ⟨w0, hw0⟩ : ∃ W, W = wr := ⟨wr, rfl⟩
      subst hw0
      obtain ⟨BA, hBA⟩ : ∃ n, n = w0.heap.size := ⟨_, rfl⟩
      obtain ⟨W1, hW1⟩ : ∃ W, W = w0.alloc (.cells #[.string XA.1, .int .i64 XA.2.1, .slice am XA.2.2.length amk] 75) := ⟨_, rfl⟩
      have HBA := Lib.hid (show Blk W1 BA 75 [.string XA.1, .int .i64 XA.2.1, .slice am XA.2.2.length amk] from by rw [hW1]; exact Blk.new' _ hBA)
      have hcW := hc.bel (w' := W1) (by rw [hW1]; (repeat (first | assumption | exact Bel.refl _ | apply Bel.drewN | apply Bel.drew | apply Bel.alloc | refine Bel.trans ?_ (by assumption))))
      have hdW : Dr cb w0 W1 := by rw [hW1]; exact (Dr.refl _ _).alloc _
      have hBAs : w0.heap.size ≤ BA ∧ BA ≤ w0.heap.size := by rw [hBA]; exact ⟨Nat.le_refl _, Nat.le_refl _⟩
      have HW1 := Lib.hid hW1
      have HBAQ := Lib.hid hBA
      have hki : (k : Int) < (p.2.1.length : Int) := by omega
      clear hBA hW1 hc
      go_wp2_with fail
      rw [← HW1.out, ← HBAQ.out]
      refine (l01Once_any cb C st 3 _ hcW (by omega)).mono ?_
      rintro e w4 ⟨rfl, hc4, hd4⟩
      have HBA4 := Lib.hid (HBA.out.dr hd4 (by omega))
      have hd04 := hdW.trans hd4
      clear hcW hdW hd4
      go_upto_if 20 with (fail)
      go_cut [9] (fun s9 wx => s9 = .int .i64 (schN C at_ st).1 ∧ Cur wx cb C (schN C at_ st).2 ∧ Dr cb w0 wx ∧ Blk wx BA 75 [.string XA.1, .int .i64 XA.2.1, .slice am XA.2.2.length amk])
      case first =>
        cases ho : (onceV C 3 st).1
        · have HRV := Lib.hid (show schN C at_ st = (at_, (onceV C 3 st).2) from by unfold schN; rw [ho]; rfl)
          go_wp2_with fail
          go_meet
          exact ⟨by rw [HRV.out], by rw [HRV.out]; exact hc4, hd04, HBA4.out⟩
        · have HRV := Lib.hid (show schN C at_ st = belowV C 12 (onceV C 3 st).2 from by unfold schN; rw [ho]; rfl)
          go_wp2_with fail
          refine (l01Below_any cb C _ 12 _ hc4 (by omega)).mono ?_
          rintro e w5 ⟨rfl, hc5, hd5⟩
          have HBA5 := Lib.hid (HBA4.out.dr hd5 (by omega))
          have HC5 := Lib.hid hc5
          have HD5 := Lib.hid (hd04.trans hd5)
          clear hc5 hd5
          go_wp2_with fail
          go_meet
          exact ⟨by rw [HRV.out], by rw [HRV.out]; exact HC5.out, HD5.out, HBA5.out⟩
      case rest =>
        obtain ⟨rfl, hc9, hd9, hba9⟩ := hcut
        have HC9 := Lib.hid hc9
        have HBA9 := Lib.hid hba9
        have HD9 := Lib.hid (hd.trans hd9)
        have HI9 := Lib.hid (show Hi (w.heap.size + 1 + 1 + 1) w0 wc from Hi.ofDr hd9 (by omega))
        have HBS9 := Lib.hid (HBSr.out.dr hd9 (by omega))
        have HBR9 := Lib.hid (HBRr.out.dr hd9 (by omega))
        have hzwc := hd9.size
        have hbal := HBA9.out.lt
        have HNI := Lib.hid (show I64 (schN C at_ st).1 from by
          unfold schN
          split
          · have := belowV_in C 12 (onceV C 3 st).2 (by decide)
            unfold I64; omega
          · unfold I64; simp only; omega)
        have s0 := HBS9.out.cellv (j := 0) (by simp)
        simp only [List.getElem_cons_zero] at s0
        have HO1 := Lib.hid hO1
        have hap := hap
        clear hc9 hd9 hba9 hc4 hd04
        go_wp2_with ((at_builtin; refine wpList_appG (n := 1) intR_good _ rfl _ _ 25 rfl (.int .i64 0) 8 Try.underlying25 (by kernel_rfl) rfl (by decide) (by decide) q1 c1 X ((schN C at_ st).1) rfl (hO1.hi intR_good (HI9.out.trans (Hi.ofBel (by (repeat (first | assumption | exact Bel.refl _ | apply Bel.drewN | apply Bel.drew | apply Bel.alloc | refine Bel.trans ?_ (by assumption)))))) (fun _ h => h.elim)) _ 1 [.int .i64 (schN C at_ st).1] rfl rfl (World.news_of_block (alloc_at (by first | rfl | (simp; done) | (simp; omega)))) (by intro u hu; simp at hu; subst hu; rfl) (intRep HNI.out) (by have := HXL.out; omega) (by first | omega | (simp; omega)) ?_; intro qx cx wA hOA hBA hFA; have HX1 := Lib.hid hOA; have hfarB := fun (b : Nat) (hb : b < wc.heap.size) (hq : ∀ a, q1 = some a → b ≠ a.block) => (hFA b (by simp; omega) hq); have HY1 := Lib.hid (((hO2.hi intR_good HI9.out (fun _ h => h.elim)).row intR_good (w' := wA) (fun a ha => ((hFA a.block (by have := (hO2.lt ha).2; have := HI9.out.1; simp; omega) (fun a' ha' hh => hap a' a ha' ha hh.symm)).1).trans (((Bel.refl wc).alloc (.cells #[.int .i64 (schN C at_ st).1] 3)).block (by have := (hO2.lt ha).2; have := HI9.out.1; omega))))); have HAP1 := Lib.hid (show Apart qx q2 from fun a b ha hb hh => by have h1 := hfarB b.block (by have := (hO2.lt hb).2; have := HI9.out.1; omega) (fun a' ha' hh' => hap a' b ha' hb hh'.symm); exact h1.2 a ha hh.symm); have HBSx := Lib.hid ((HBS9.out.alloc (.cells #[.int .i64 (schN C at_ st).1] 3)).below hBA (by omega)); have HBRx := Lib.hid ((HBR9.out.alloc (.cells #[.int .i64 (schN C at_ st).1] 3)).below hBA (by omega)); have HBAx := Lib.hid (show Blk wA BA 75 [.string XA.1, .int .i64 XA.2.1, .slice am XA.2.2.length amk] from (by have h1 := hfarB BA (by have := HBA9.out.lt; omega) (fun a ha hh => by have := (hO1.lt ha).2; omega); have h2 := (HBA9.out.alloc (.cells #[.int .i64 (schN C at_ st).1] 3)); unfold Blk at h2 ⊢; rw [h1.1]; exact h2)); have hCA := Lib.hid ((HC9.out.bel (w' := wc.alloc (.cells #[.int .i64 (schN C at_ st).1] 3)) (by (repeat (first | assumption | exact Bel.refl _ | apply Bel.drewN | apply Bel.drew | apply Bel.alloc | refine Bel.trans ?_ (by assumption))))).below hBA (by omega)); have hDA := Lib.hid ((HD9.out.alloc (.cells #[.int .i64 (schN C at_ st).1] 3)).below' hBA (by omega)); have hzA : wc.heap.size ≤ wA.heap.size := (by have := hBA.size; (try simp only [World.size_alloc] at this); omega); have sx0 := HBSx.out.cellv (j := 0) (by simp); have fsx0 := HBSx.out.frozen 0; simp only [List.getElem_cons_zero] at sx0; clear hOA hBA hFA hfarB))
        have HBSW := Lib.hid (show Blk (wA.setCell ⟨w.heap.size + 1 + 1, 0, none⟩ (.slice qx (X.length + 1) cx)) (w.heap.size + 1 + 1) 41 [.slice qx (X.length + 1) cx, .slice q2 Y.length c2] from HBSx.out.set 0 (.slice qx (X.length + 1) cx))
        have HBRW := Lib.hid (HBRx.out.setAt (q := w.heap.size + 1 + 1) (by omega) 0 (.slice qx (X.length + 1) cx))
        have HBAW := Lib.hid (HBAx.out.setAt (q := w.heap.size + 1 + 1) (by omega) 0 (.slice qx (X.length + 1) cx))
        have HCW := Lib.hid (hCA.out.below ((Below.refl (w.heap.size + 1 + 1) wA).setCell (p := ⟨w.heap.size + 1 + 1, 0, none⟩) (Nat.le_refl _) (.slice qx (X.length + 1) cx)) (by omega))
        have HDW := Lib.hid (hDA.out.set (q := w.heap.size + 1 + 1) (j := 0) (.slice qx (X.length + 1) cx) (by omega))
        have hiS := ((Hi.refl (w.heap.size + 1 + 1 + 1) wA).set (j := 0) (.slice qx (X.length + 1) cx) (q := w.heap.size + 1 + 1) (.inl (by omega)))
        have HXW := Lib.hid (HX1.out.hi intR_good hiS (fun _ h => h.elim))
        have HYW := Lib.hid (HY1.out.hi intR_good hiS (fun _ h => h.elim))
        have HAPW := Lib.hid HAP1.out
        have HBAY := Lib.hid (show ∀ a, q2 = some a → BA ≠ a.block from fun a ha => by have := (hO2.lt ha).2; omega)
        have hzWW : wA.heap.size ≤ (wA.setCell ⟨w.heap.size + 1 + 1, 0, none⟩ (.slice qx (X.length + 1) cx)).heap.size := hiS.1
        generalize wA.setCell ⟨w.heap.size + 1 + 1, 0, none⟩ (.slice qx (X.length + 1) cx) = WW at *
        have bm := belowV_in C (XA.2.2.length : Int) (schN C at_ st).2 (by omega)
        have HMI := Lib.hid (show I64 (schM C XA at_ st).1 from by unfold schM I64; omega)
        have s1 := HBSW.out.cellv (j := 1) (by simp)
        have s2 := HBAW.out.cellv (j := 2) (by simp)
        simp only [List.getElem_cons_zero, List.getElem_cons_succ] at s1 s2
        have t1 := s1
        have hszW := HDW.out.size
        have HXLq := HXL
        clear sx0 fsx0 e0 e1 e2 s0 hiS
        refine wp_region_held_drew (S := (fun W => W.cell? ⟨BA, 2, none⟩ = some (.slice am XA.2.2.length amk))) (by kernel_rfl) ?_ (fun hHeld => ?_)
        · ((try dsimp only); (first | exact s2 | exact u2 | exact ((Bel.refl _).alloc _).cell u2 | exact v2 | exact (Dr.put (Dr.refl _ _) _ _).cell v2 (by omega)))
        refine wpAnyH_take (i := 0) (v := ?_) rfl (by kernel_rfl) (by kernel_rfl) (by kernel_rfl) (fun _ _ _ h => h) (Or.inl ⟨by rfl, ?_⟩) (by assumption) ?_
        rotate_left
        · (intro w hSw; (try dsimp only at hSw); go_simp <;> with_reducible rfl)
        try walk_nrm
        refine wpAnyH_take (i := 2) (v := ?_) rfl (by kernel_rfl) (by kernel_rfl) (by kernel_rfl) (fun _ _ _ h => h) (Or.inl ⟨by rfl, ?_⟩) (by assumption) ?_
        rotate_left
        · (intro w hSw; (try dsimp only at hSw); go_simp <;> with_reducible rfl)
        try walk_nrm
        refine wpAnyH_take (i := 3) (v := ?_) rfl (by kernel_rfl) (by kernel_rfl) (by kernel_rfl) (fun _ _ _ h => h) (Or.inl ⟨by rfl, ?_⟩) (by assumption) ?_
        rotate_left
        · (intro w hSw; (try dsimp only at hSw); go_simp <;> with_reducible rfl)
        try walk_nrm
        refine wpAnyH_take (i := 4) (v := ?_) rfl (by kernel_rfl) (by kernel_rfl) (by kernel_rfl) (fun _ _ _ h => h) (Or.inl ⟨by rfl, ?_⟩) (by assumption) ?_
        rotate_left
        · (intro w hSw; (try dsimp only at hSw); go_simp <;> with_reducible rfl)
        try walk_nrm
        refine wpAnyH_take (i := 5) (v := ?_) rfl (by kernel_rfl) (by kernel_rfl) (by kernel_rfl) (fun _ _ _ h => h) (Or.inl ⟨by rfl, ?_⟩) (by assumption) ?_
        rotate_left
        · (intro w hSw; (try dsimp only at hSw); go_simp <;> with_reducible rfl)
        try walk_nrm
        refine wpAnyH_ready (rs := [1, 6]) (by kernel_rfl) (by simp) ?_
        refine AllReadyH.cons rfl (fun K hK => ?_) ?_
        · go_simp
          refine hK.out _ _ ?_ (fun hHeld => ?_)
          · ((try dsimp only); (first | exact s2 | exact u2 | exact ((Bel.refl _).alloc _).cell u2 | exact v2 | exact (Dr.put (Dr.refl _ _) _ _).cell v2 (by omega)))
          clear hK K
          try walk_nrm
          refine wpAnyH_ready (rs := [6]) (by kernel_rfl) (by simp) ?_
          refine AllReadyH.cons rfl (fun K hK => ?_) AllReadyH.nil
          · go_simp
            (go_at_call 139; (with_reducible refine (l01Below_any cb C (schN C at_ st).2 XA.2.2.length _ (HCW.out.bel (by (repeat (first | assumption | exact Bel.refl _ | apply Bel.drewN | apply Bel.drew | apply Bel.alloc | refine Bel.trans ?_ (by assumption))))) (by omega)).mono ?_); rintro e w5 ⟨rfl, hc5, hd5⟩; have hd5 := (Dr.ofBel (cb := cb) (a := WW) (by (repeat (first | assumption | exact Bel.refl _ | apply Bel.drewN | apply Bel.drew | apply Bel.alloc | refine Bel.trans ?_ (by assumption))))).trans hd5; have HBS5 := Lib.hid (HBSW.out.dr hd5 (by omega)); have HBA5 := Lib.hid (HBAW.out.dr hd5 (by omega)); have t1 := HBS5.out.cellv (j := 1) (by simp); have u2 := HBA5.out.cellv (j := 2) (by simp); simp only [List.getElem_cons_zero, List.getElem_cons_succ] at t1 u2; have s1 := t1; have s1a := fun o => ((Bel.refl w5).alloc o).cell t1; have hi5 := Hi.ofDr (B := w.heap.size + 1 + 1 + 1) hd5 (by omega); have hz5 := hd5.size; have HC5 := Lib.hid hc5; clear hc5)
            try go_wp2_with fail
            refine hK.out _ _ ?_ (fun hHeld => ?_)
            · ((try dsimp only); (first | exact s2 | exact u2 | exact ((Bel.refl _).alloc _).cell u2 | exact v2 | exact (Dr.put (Dr.refl _ _) _ _).cell v2 (by omega)))
            clear hK K
            try walk_nrm
            refine wpAnyH_ready (rs := [7]) (by kernel_rfl) (by simp) ?_
            refine AllReadyH.cons rfl (fun K hK => ?_) AllReadyH.nil
            · go_simp
              refine hK.out _ _ ?_ (fun hHeld => ?_)
              · ((try dsimp only); (first | exact s2 | exact u2 | exact ((Bel.refl _).alloc _).cell u2 | exact v2 | exact (Dr.put (Dr.refl _ _) _ _).cell v2 (by omega)))
              clear hK K
              try walk_nrm
              refine wpAnyH_ready (rs := [8]) (by kernel_rfl) (by simp) ?_
              refine AllReadyH.cons rfl (fun K hK => ?_) AllReadyH.nil
              · (refine step_appG (o := ⟨some 37, _, _, _, _, _⟩) (n := 1) intR_good _ (by rfl) _ _ 25 (by rfl) (.int .i64 0) 8 Try.underlying25 (by kernel_rfl) rfl (by decide) (by decide) q2 c2 Y ((schM C XA at_ st).1) (by rfl) (HYW.out.hi intR_good (hi5.trans (Hi.ofBel (by (repeat (first | assumption | exact Bel.refl _ | apply Bel.drewN | apply Bel.drew | apply Bel.alloc | refine Bel.trans ?_ (by assumption)))))) (fun _ h => h.elim)) _ 1 [.int .i64 (schM C XA at_ st).1] (by rfl) rfl (World.news_of_block (alloc_at (by first | rfl | (simp; done) | (simp; omega)))) (by intro u hu; simp at hu; subst hu; rfl) (intRep HMI.out) (by have := HYL.out; omega) (by first | omega | (simp; omega)) ?_; intro q' cap' wA hOA hBA hFA; have HY2 := Lib.hid hOA; have HX2 := Lib.hid (((HXW.out.hi intR_good hi5 (fun _ h => h.elim)).row intR_good (w' := wA) (fun a ha => ((hFA a.block (by have := (HXW.out.lt ha).2; simp; omega) (fun a' ha' hh => HAPW.out a a' ha ha' hh)).1).trans (((Bel.refl w5).alloc (.cells #[.int .i64 (schM C XA at_ st).1] 3)).block (by have := (HXW.out.lt ha).2; omega))))); have HAP2 := Lib.hid (show Apart qx q' from fun a b ha hb hh => (hFA a.block (by have := (HXW.out.lt ha).2; simp; omega) (fun a' ha' hh' => HAPW.out a a' ha ha' hh')).2 b hb hh); have HBSx := Lib.hid ((HBS5.out.alloc (.cells #[.int .i64 (schM C XA at_ st).1] 3)).below hBA (by omega)); have HBRx := Lib.hid (((HBRW.out.dr hd5 (by omega)).alloc (.cells #[.int .i64 (schM C XA at_ st).1] 3)).below hBA (by omega)); have v2 := (show wA.cell? ⟨BA, 2, none⟩ = some (.slice am XA.2.2.length amk) from (by have h1 := hFA BA (by have := HBA5.out.lt; simp; omega) (fun a ha hh => HBAY.out a ha hh); have h2 := (HBA5.out.alloc (.cells #[.int .i64 (schM C XA at_ st).1] 3)); rw [World.cell?_of_block (w := w5.alloc (.cells #[.int .i64 (schM C XA at_ st).1] 3)) (a := ⟨BA, 2, none⟩) h1.1]; exact (by have := h2.cellv (j := 2) (by simp); simpa using this))); have sx1 := HBSx.out.cellv (j := 1) (by simp); have fsx1 := HBSx.out.frozen 1; simp only [List.getElem_cons_zero, List.getElem_cons_succ] at sx1; have hCA := Lib.hid ((HC5.out.bel (w' := w5.alloc (.cells #[.int .i64 (schM C XA at_ st).1] 3)) (by (repeat (first | assumption | exact Bel.refl _ | apply Bel.drewN | apply Bel.drew | apply Bel.alloc | refine Bel.trans ?_ (by assumption))))).below hBA (by omega)); have hDA := Lib.hid (((HDW.out.trans hd5).alloc (.cells #[.int .i64 (schM C XA at_ st).1] 3)).below' hBA (by omega)); have hzA := (show w5.heap.size ≤ wA.heap.size from (by have := hBA.size; (try simp only [World.size_alloc] at this); omega)); clear hOA hBA hFA)
                refine hK.out _ _ ?_ (fun hHeld => ?_)
                · ((try dsimp only); (first | exact s2 | exact u2 | exact ((Bel.refl _).alloc _).cell u2 | exact v2 | exact (Dr.put (Dr.refl _ _) _ _).cell v2 (by omega)))
                clear hK K
                try walk_nrm
                refine wpAnyH_take (i := 9) (v := ?_) rfl (by kernel_rfl) (by kernel_rfl) (by kernel_rfl) (fun _ _ _ h => h) (Or.inl ⟨by rfl, ?_⟩) (by assumption) ?_
                rotate_left
                · (intro w hSw; (try dsimp only at hSw); go_simp <;> with_reducible rfl)
                try walk_nrm
                refine wpAnyH_ready (rs := [10]) (by kernel_rfl) (by simp) ?_
                refine AllReadyH.cons rfl (fun K hK => ?_) AllReadyH.nil
                · go_simp
                  refine hK.out _ _ ?_ (fun hHeld => ?_)
                  · ((try dsimp only); (first | exact s2 | exact u2 | exact ((Bel.refl _).alloc _).cell u2 | exact v2 | exact (Dr.put (Dr.refl _ _) _ _).cell v2 (by omega)))
                  clear hK K
                  try walk_nrm
                  refine wpAnyH_done (by kernel_rfl) ?_ _
                  go_wp2_with fail
                  refine (l01Below_any cb C (schM C XA at_ st).2 5 _ (hCA.out.below ((Below.refl (w.heap.size + 1 + 1) wA).setCell (Nat.le_refl _) _) (by omega)) (by omega)).mono ?_
                  rintro e w6 ⟨rfl, hc6, hd6⟩
                  have HC6 := Lib.hid hc6
                  have HBS6 := Lib.hid ((HBSx.out.set 1 (.slice q' (Y.length + 1) cap')).dr hd6 (by omega))
                  have HBR6 := Lib.hid ((HBRx.out.setAt (q := w.heap.size + 1 + 1) (by omega) 1 (.slice q' (Y.length + 1) cap')).dr hd6 (by omega))
                  have HI6 := Lib.hid (((Hi.refl (w.heap.size + 1 + 1 + 1) wA).set (j := 1) (.slice q' (Y.length + 1) cap') (q := w.heap.size + 1 + 1) (.inl (by omega))).trans (Hi.ofDr hd6 (by omega)))
                  have HX6 := Lib.hid (HX2.out.hi intR_good HI6.out (fun _ h => h.elim))
                  have HY6 := Lib.hid (HY2.out.hi intR_good HI6.out (fun _ h => h.elim))
                  have HD6 := Lib.hid ((hDA.out.set (q := w.heap.size + 1 + 1) (j := 1) (.slice q' (Y.length + 1) cap') (by omega)).trans hd6)
                  have b5 := belowV_in C 5 (schM C XA at_ st).2 (by decide)
                  have hwa : IntKind.i64.wrap (at_ + (belowV C 5 (schM C XA at_ st).2).1) = at_ + (belowV C 5 (schM C XA at_ st).2).1 := IntWalk.i64_in _ (by omega)
                  have HSD := Lib.hid (show schD C XA at_ st = belowV C 5 (schM C XA at_ st).2 from rfl)
                  clear hc6 hd6
                  go_wp2_with fail
                  go_roundw
                  case rel => exact ⟨k + 1, X ++ [(schN C at_ st).1], Y ++ [(schM C XA at_ st).1], at_ + (schD C XA at_ st).1, (schD C XA at_ st).2, qx, cx, q', cap', by omega, by go_num, by rw [HSD.out], by simp [HXL.out], by simp [HYL.out], by rw [HSD.out]; omega, by rw [HSD.out]; omega, by rw [List.length_append, List.length_append]; exact HBS6.out, HBR6.out, by exact HX6.out, by exact HY6.out, HAP2.out, by rw [HSD.out]; exact HC6.out, HEQ.out, HD6.out⟩
                  case measure => (simp [intOf] <;> omega)
        refine AllReadyH.cons rfl (fun K hK => ?_) AllReadyH.nil
        · go_simp
          (go_at_call 139; (with_reducible refine (l01Below_any cb C (schN C at_ st).2 XA.2.2.length _ (HCW.out.bel (by (repeat (first | assumption | exact Bel.refl _ | apply Bel.drewN | apply Bel.drew | apply Bel.alloc | refine Bel.trans ?_ (by assumption))))) (by omega)).mono ?_); rintro e w5 ⟨rfl, hc5, hd5⟩; have hd5 := (Dr.ofBel (cb := cb) (a := WW) (by (repeat (first | assumption | exact Bel.refl _ | apply Bel.drewN | apply Bel.drew | apply Bel.alloc | refine Bel.trans ?_ (by assumption))))).trans hd5; have HBS5 := Lib.hid (HBSW.out.dr hd5 (by omega)); have HBA5 := Lib.hid (HBAW.out.dr hd5 (by omega)); have t1 := HBS5.out.cellv (j := 1) (by simp); have u2 := HBA5.out.cellv (j := 2) (by simp); simp only [List.getElem_cons_zero, List.getElem_cons_succ] at t1 u2; have s1 := t1; have s1a := fun o => ((Bel.refl w5).alloc o).cell t1; have hi5 := Hi.ofDr (B := w.heap.size + 1 + 1 + 1) hd5 (by omega); have hz5 := hd5.size; have HC5 := Lib.hid hc5; clear hc5)
          try go_wp2_with fail
          refine hK.out _ _ ?_ (fun hHeld => ?_)
          · ((try dsimp only); (first | exact s2 | exact u2 | exact ((Bel.refl _).alloc _).cell u2 | exact v2 | exact (Dr.put (Dr.refl _ _) _ _).cell v2 (by omega)))
          clear hK K
          try walk_nrm
          refine wpAnyH_ready (rs := [1, 7]) (by kernel_rfl) (by simp) ?_
          refine AllReadyH.cons rfl (fun K hK => ?_) ?_
          · go_simp
            refine hK.out _ _ ?_ (fun hHeld => ?_)
            · ((try dsimp only); (first | exact s2 | exact u2 | exact ((Bel.refl _).alloc _).cell u2 | exact v2 | exact (Dr.put (Dr.refl _ _) _ _).cell v2 (by omega)))
            clear hK K
            try walk_nrm
            refine wpAnyH_ready (rs := [7]) (by kernel_rfl) (by simp) ?_
            refine AllReadyH.cons rfl (fun K hK => ?_) AllReadyH.nil
            · go_simp
              refine hK.out _ _ ?_ (fun hHeld => ?_)
              · ((try dsimp only); (first | exact s2 | exact u2 | exact ((Bel.refl _).alloc _).cell u2 | exact v2 | exact (Dr.put (Dr.refl _ _) _ _).cell v2 (by omega)))
              clear hK K
              try walk_nrm
              refine wpAnyH_ready (rs := [8]) (by kernel_rfl) (by simp) ?_
              refine AllReadyH.cons rfl (fun K hK => ?_) AllReadyH.nil
              · (refine step_appG (o := ⟨some 37, _, _, _, _, _⟩) (n := 1) intR_good _ (by rfl) _ _ 25 (by rfl) (.int .i64 0) 8 Try.underlying25 (by kernel_rfl) rfl (by decide) (by decide) q2 c2 Y ((schM C XA at_ st).1) (by rfl) (HYW.out.hi intR_good (hi5.trans (Hi.ofBel (by (repeat (first | assumption | exact Bel.refl _ | apply Bel.drewN | apply Bel.drew | apply Bel.alloc | refine Bel.trans ?_ (by assumption)))))) (fun _ h => h.elim)) _ 1 [.int .i64 (schM C XA at_ st).1] (by rfl) rfl (World.news_of_block (alloc_at (by first | rfl | (simp; done) | (simp; omega)))) (by intro u hu; simp at hu; subst hu; rfl) (intRep HMI.out) (by have := HYL.out; omega) (by first | omega | (simp; omega)) ?_; intro q' cap' wA hOA hBA hFA; have HY2 := Lib.hid hOA; have HX2 := Lib.hid (((HXW.out.hi intR_good hi5 (fun _ h => h.elim)).row intR_good (w' := wA) (fun a ha => ((hFA a.block (by have := (HXW.out.lt ha).2; simp; omega) (fun a' ha' hh => HAPW.out a a' ha ha' hh)).1).trans (((Bel.refl w5).alloc (.cells #[.int .i64 (schM C XA at_ st).1] 3)).block (by have := (HXW.out.lt ha).2; omega))))); have HAP2 := Lib.hid (show Apart qx q' from fun a b ha hb hh => (hFA a.block (by have := (HXW.out.lt ha).2; simp; omega) (fun a' ha' hh' => HAPW.out a a' ha ha' hh')).2 b hb hh); have HBSx := Lib.hid ((HBS5.out.alloc (.cells #[.int .i64 (schM C XA at_ st).1] 3)).below hBA (by omega)); have HBRx := Lib.hid (((HBRW.out.dr hd5 (by omega)).alloc (.cells #[.int .i64 (schM C XA at_ st).1] 3)).below hBA (by omega)); have v2 := (show wA.cell? ⟨BA, 2, none⟩ = some (.slice am XA.2.2.length amk) from (by have h1 := hFA BA (by have := HBA5.out.lt; simp; omega) (fun a ha hh => HBAY.out a ha hh); have h2 := (HBA5.out.alloc (.cells #[.int .i64 (schM C XA at_ st).1] 3)); rw [World.cell?_of_block (w := w5.alloc (.cells #[.int .i64 (schM C XA at_ st).1] 3)) (a := ⟨BA, 2, none⟩) h1.1]; exact (by have := h2.cellv (j := 2) (by simp); simpa using this))); have sx1 := HBSx.out.cellv (j := 1) (by simp); have fsx1 := HBSx.out.frozen 1; simp only [List.getElem_cons_zero, List.getElem_cons_succ] at sx1; have hCA := Lib.hid ((HC5.out.bel (w' := w5.alloc (.cells #[.int .i64 (schM C XA at_ st).1] 3)) (by (repeat (first | assumption | exact Bel.refl _ | apply Bel.drewN | apply Bel.drew | apply Bel.alloc | refine Bel.trans ?_ (by assumption))))).below hBA (by omega)); have hDA := Lib.hid (((HDW.out.trans hd5).alloc (.cells #[.int .i64 (schM C XA at_ st).1] 3)).below' hBA (by omega)); have hzA := (show w5.heap.size ≤ wA.heap.size from (by have := hBA.size; (try simp only [World.size_alloc] at this); omega)); clear hOA hBA hFA)
                refine hK.out _ _ ?_ (fun hHeld => ?_)
                · ((try dsimp only); (first | exact s2 | exact u2 | exact ((Bel.refl _).alloc _).cell u2 | exact v2 | exact (Dr.put (Dr.refl _ _) _ _).cell v2 (by omega)))
                clear hK K
                try walk_nrm
                refine wpAnyH_take (i := 9) (v := ?_) rfl (by kernel_rfl) (by kernel_rfl) (by kernel_rfl) (fun _ _ _ h => h) (Or.inl ⟨by rfl, ?_⟩) (by assumption) ?_
                rotate_left
                · (intro w hSw; (try dsimp only at hSw); go_simp <;> with_reducible rfl)
                try walk_nrm
                refine wpAnyH_ready (rs := [10]) (by kernel_rfl) (by simp) ?_
                refine AllReadyH.cons rfl (fun K hK => ?_) AllReadyH.nil
                · go_simp
                  refine hK.out _ _ ?_ (fun hHeld => ?_)
                  · ((try dsimp only); (first | exact s2 | exact u2 | exact ((Bel.refl _).alloc _).cell u2 | exact v2 | exact (Dr.put (Dr.refl _ _) _ _).cell v2 (by omega)))
                  clear hK K
                  try walk_nrm
                  refine wpAnyH_done (by kernel_rfl) ?_ _
                  go_wp2_with fail
                  refine (l01Below_any cb C (schM C XA at_ st).2 5 _ (hCA.out.below ((Below.refl (w.heap.size + 1 + 1) wA).setCell (Nat.le_refl _) _) (by omega)) (by omega)).mono ?_
                  rintro e w6 ⟨rfl, hc6, hd6⟩
                  have HC6 := Lib.hid hc6
                  have HBS6 := Lib.hid ((HBSx.out.set 1 (.slice q' (Y.length + 1) cap')).dr hd6 (by omega))
                  have HBR6 := Lib.hid ((HBRx.out.setAt (q := w.heap.size + 1 + 1) (by omega) 1 (.slice q' (Y.length + 1) cap')).dr hd6 (by omega))
                  have HI6 := Lib.hid (((Hi.refl (w.heap.size + 1 + 1 + 1) wA).set (j := 1) (.slice q' (Y.length + 1) cap') (q := w.heap.size + 1 + 1) (.inl (by omega))).trans (Hi.ofDr hd6 (by omega)))
                  have HX6 := Lib.hid (HX2.out.hi intR_good HI6.out (fun _ h => h.elim))
                  have HY6 := Lib.hid (HY2.out.hi intR_good HI6.out (fun _ h => h.elim))
                  have HD6 := Lib.hid ((hDA.out.set (q := w.heap.size + 1 + 1) (j := 1) (.slice q' (Y.length + 1) cap') (by omega)).trans hd6)
                  have b5 := belowV_in C 5 (schM C XA at_ st).2 (by decide)
                  have hwa : IntKind.i64.wrap (at_ + (belowV C 5 (schM C XA at_ st).2).1) = at_ + (belowV C 5 (schM C XA at_ st).2).1 := IntWalk.i64_in _ (by omega)
                  have HSD := Lib.hid (show schD C XA at_ st = belowV C 5 (schM C XA at_ st).2 from rfl)
                  clear hc6 hd6
                  go_wp2_with fail
                  go_roundw
                  case rel => exact ⟨k + 1, X ++ [(schN C at_ st).1], Y ++ [(schM C XA at_ st).1], at_ + (schD C XA at_ st).1, (schD C XA at_ st).2, qx, cx, q', cap', by omega, by go_num, by rw [HSD.out], by simp [HXL.out], by simp [HYL.out], by rw [HSD.out]; omega, by rw [HSD.out]; omega, by rw [List.length_append, List.length_append]; exact HBS6.out, HBR6.out, by exact HX6.out, by exact HY6.out, HAP2.out, by rw [HSD.out]; exact HC6.out, HEQ.out, HD6.out⟩
                  case measure => (simp [intOf] <;> omega)
          refine AllReadyH.cons rfl (fun K hK => ?_) AllReadyH.nil
          · go_simp
            refine hK.out _ _ ?_ (fun hHeld => ?_)
            · ((try dsimp only); (first | exact s2 | exact u2 | exact ((Bel.refl _).alloc _).cell u2 | exact v2 | exact (Dr.put (Dr.refl _ _) _ _).cell v2 (by omega)))
            clear hK K
            try walk_nrm
            refine wpAnyH_ready (rs := [1]) (by kernel_rfl) (by simp) ?_
            refine AllReadyH.cons rfl (fun K hK => ?_) AllReadyH.nil
            · go_simp
              refine hK.out _ _ ?_ (fun hHeld => ?_)
              · ((try dsimp only); (first | exact s2 | exact u2 | exact ((Bel.refl _).alloc _).cell u2 | exact v2 | exact (Dr.put (Dr.refl _ _) _ _).cell v2 (by omega)))
              clear hK K
              try walk_nrm
              refine wpAnyH_ready (rs := [8]) (by kernel_rfl) (by simp) ?_
              refine AllReadyH.cons rfl (fun K hK => ?_) AllReadyH.nil
              · (refine step_appG (o := ⟨some 37, _, _, _, _, _⟩) (n := 1) intR_good _ (by rfl) _ _ 25 (by rfl) (.int .i64 0) 8 Try.underlying25 (by kernel_rfl) rfl (by decide) (by decide) q2 c2 Y ((schM C XA at_ st).1) (by rfl) (HYW.out.hi intR_good (hi5.trans (Hi.ofBel (by (repeat (first | assumption | exact Bel.refl _ | apply Bel.drewN | apply Bel.drew | apply Bel.alloc | refine Bel.trans ?_ (by assumption)))))) (fun _ h => h.elim)) _ 1 [.int .i64 (schM C XA at_ st).1] (by rfl) rfl (World.news_of_block (alloc_at (by first | rfl | (simp; done) | (simp; omega)))) (by intro u hu; simp at hu; subst hu; rfl) (intRep HMI.out) (by have := HYL.out; omega) (by first | omega | (simp; omega)) ?_; intro q' cap' wA hOA hBA hFA; have HY2 := Lib.hid hOA; have HX2 := Lib.hid (((HXW.out.hi intR_good hi5 (fun _ h => h.elim)).row intR_good (w' := wA) (fun a ha => ((hFA a.block (by have := (HXW.out.lt ha).2; simp; omega) (fun a' ha' hh => HAPW.out a a' ha ha' hh)).1).trans (((Bel.refl w5).alloc (.cells #[.int .i64 (schM C XA at_ st).1] 3)).block (by have := (HXW.out.lt ha).2; omega))))); have HAP2 := Lib.hid (show Apart qx q' from fun a b ha hb hh => (hFA a.block (by have := (HXW.out.lt ha).2; simp; omega) (fun a' ha' hh' => HAPW.out a a' ha ha' hh')).2 b hb hh); have HBSx := Lib.hid ((HBS5.out.alloc (.cells #[.int .i64 (schM C XA at_ st).1] 3)).below hBA (by omega)); have HBRx := Lib.hid (((HBRW.out.dr hd5 (by omega)).alloc (.cells #[.int .i64 (schM C XA at_ st).1] 3)).below hBA (by omega)); have v2 := (show wA.cell? ⟨BA, 2, none⟩ = some (.slice am XA.2.2.length amk) from (by have h1 := hFA BA (by have := HBA5.out.lt; simp; omega) (fun a ha hh => HBAY.out a ha hh); have h2 := (HBA5.out.alloc (.cells #[.int .i64 (schM C XA at_ st).1] 3)); rw [World.cell?_of_block (w := w5.alloc (.cells #[.int .i64 (schM C XA at_ st).1] 3)) (a := ⟨BA, 2, none⟩) h1.1]; exact (by have := h2.cellv (j := 2) (by simp); simpa using this))); have sx1 := HBSx.out.cellv (j := 1) (by simp); have fsx1 := HBSx.out.frozen 1; simp only [List.getElem_cons_zero, List.getElem_cons_succ] at sx1; have hCA := Lib.hid ((HC5.out.bel (w' := w5.alloc (.cells #[.int .i64 (schM C XA at_ st).1] 3)) (by (repeat (first | assumption | exact Bel.refl _ | apply Bel.drewN | apply Bel.drew | apply Bel.alloc | refine Bel.trans ?_ (by assumption))))).below hBA (by omega)); have hDA := Lib.hid (((HDW.out.trans hd5).alloc (.cells #[.int .i64 (schM C XA at_ st).1] 3)).below' hBA (by omega)); have hzA := (show w5.heap.size ≤ wA.heap.size from (by have := hBA.size; (try simp only [World.size_alloc] at this); omega)); clear hOA hBA hFA)
                refine hK.out _ _ ?_ (fun hHeld => ?_)
                · ((try dsimp only); (first | exact s2 | exact u2 | exact ((Bel.refl _).alloc _).cell u2 | exact v2 | exact (Dr.put (Dr.refl _ _) _ _).cell v2 (by omega)))
                clear hK K
                try walk_nrm
                refine wpAnyH_take (i := 9) (v := ?_) rfl (by kernel_rfl) (by kernel_rfl) (by kernel_rfl) (fun _ _ _ h => h) (Or.inl ⟨by rfl, ?_⟩) (by assumption) ?_
                rotate_left
                · (intro w hSw; (try dsimp only at hSw); go_simp <;> with_reducible rfl)
                try walk_nrm
                refine wpAnyH_ready (rs := [10]) (by kernel_rfl) (by simp) ?_
                refine AllReadyH.cons rfl (fun K hK => ?_) AllReadyH.nil
                · go_simp
                  refine hK.out _ _ ?_ (fun hHeld => ?_)
                  · ((try dsimp only); (first | exact s2 | exact u2 | exact ((Bel.refl _).alloc _).cell u2 | exact v2 | exact (Dr.put (Dr.refl _ _) _ _).cell v2 (by omega)))
                  clear hK K
                  try walk_nrm
                  refine wpAnyH_done (by kernel_rfl) ?_ _
                  go_wp2_with fail
                  refine (l01Below_any cb C (schM C XA at_ st).2 5 _ (hCA.out.below ((Below.refl (w.heap.size + 1 + 1) wA).setCell (Nat.le_refl _) _) (by omega)) (by omega)).mono ?_
                  rintro e w6 ⟨rfl, hc6, hd6⟩
                  have HC6 := Lib.hid hc6
                  have HBS6 := Lib.hid ((HBSx.out.set 1 (.slice q' (Y.length + 1) cap')).dr hd6 (by omega))
                  have HBR6 := Lib.hid ((HBRx.out.setAt (q := w.heap.size + 1 + 1) (by omega) 1 (.slice q' (Y.length + 1) cap')).dr hd6 (by omega))
                  have HI6 := Lib.hid (((Hi.refl (w.heap.size + 1 + 1 + 1) wA).set (j := 1) (.slice q' (Y.length + 1) cap') (q := w.heap.size + 1 + 1) (.inl (by omega))).trans (Hi.ofDr hd6 (by omega)))
                  have HX6 := Lib.hid (HX2.out.hi intR_good HI6.out (fun _ h => h.elim))
                  have HY6 := Lib.hid (HY2.out.hi intR_good HI6.out (fun _ h => h.elim))
                  have HD6 := Lib.hid ((hDA.out.set (q := w.heap.size + 1 + 1) (j := 1) (.slice q' (Y.length + 1) cap') (by omega)).trans hd6)
                  have b5 := belowV_in C 5 (schM C XA at_ st).2 (by decide)
                  have hwa : IntKind.i64.wrap (at_ + (belowV C 5 (schM C XA at_ st).2).1) = at_ + (belowV C 5 (schM C XA at_ st).2).1 := IntWalk.i64_in _ (by omega)
                  have HSD := Lib.hid (show schD C XA at_ st = belowV C 5 (schM C XA at_ st).2 from rfl)
                  clear hc6 hd6
                  go_wp2_with fail
                  go_roundw
                  case rel => exact ⟨k + 1, X ++ [(schN C at_ st).1], Y ++ [(schM C XA at_ st).1], at_ + (schD C XA at_ st).1, (schD C XA at_ st).2, qx, cx, q', cap', by omega, by go_num, by rw [HSD.out], by simp [HXL.out], by simp [HYL.out], by rw [HSD.out]; omega, by rw [HSD.out]; omega, by rw [List.length_append, List.length_append]; exact HBS6.out, HBR6.out, by exact HX6.out, by exact HY6.out, HAP2.out, by rw [HSD.out]; exact HC6.out, HEQ.out, HD6.out⟩
                  case measure => (simp [intOf] <;> omega)
    · obtain rfl : p.2.1.length = k := by omega
      have HSV := Lib.hid (show schV C p s = ((X, Y), st) from by rw [← HEQ.out, List.drop_length]; rfl)
      have FX := Lib.hid (hO1.done (T := fun b => w.heap.size + 1 + 1 < b ∧ b < wr.heap.size) intR_good (fun _ h _ => h.elim) (fun b h1 h2 => ⟨by omega, h2⟩))
      have FY := Lib.hid (hO2.done (T := fun b => w.heap.size + 1 + 1 < b ∧ b < wr.heap.size) intR_good (fun _ h _ => h.elim) (fun b h1 h2 => ⟨by omega, h2⟩))
      have HC := Lib.hid hc
      have HD := Lib.hid hd
      have s0 := HBSr.out.cellv (j := 0) (by simp)
      have s1 := HBSr.out.cellv (j := 1) (by simp)
      simp only [List.getElem_cons_zero, List.getElem_cons_succ] at s0 s1
      have r0 := HBRr.out.cellv (j := 0) (by simp)
      have r1 := HBRr.out.cellv (j := 1) (by simp)
      simp only [List.getElem_cons_zero, List.getElem_cons_succ] at r0 r1
      have fr0 := HBRr.out.frozen 0
      have fr1 := HBRr.out.frozen 1
      clear hO1 hO2 hc hd
      go_wp2_with fail
      have HBW := Lib.hid (((Below.refl (w.heap.size + 1) wr).setCell (p := ⟨w.heap.size + 1, 0, none⟩) (Nat.le_refl _) (.slice q1 X.length c1)).setCell (p := ⟨w.heap.size + 1, 1, none⟩) (Nat.le_refl _) (.slice q2 Y.length c2))
      have HIF := Lib.hid (((Hi.refl (w.heap.size + 1 + 1) wr).set (q := w.heap.size + 1) (j := 0) (.slice q1 X.length c1) (.inl (by omega))).set (q := w.heap.size + 1) (j := 1) (.slice q2 Y.length c2) (.inl (by omega)))
      have HBF := Lib.hid ((HBRr.out.set 0 (.slice q1 X.length c1)).set 1 (.slice q2 Y.length c2))
      generalize ((wr.setCell ⟨w.heap.size + 1, 0, none⟩ (.slice q1 X.length c1)).setCell ⟨w.heap.size + 1, 1, none⟩ (.slice q2 Y.length c2)) = WF at *
      have c0 := HBF.out.cellv (j := 0) (by simp)
      have c1' := HBF.out.cellv (j := 1) (by simp)
      simp only [List.set_cons_zero, List.set_cons_succ, List.getElem_cons_zero, List.getElem_cons_succ] at c0 c1'
      have hz := HIF.out.1
      have GX := intsR_good.mono (intsR_good.stay FX.out (fun b hb => HIF.out.2 b (by have := hb.1; omega) hb.2)) (T := New w WF) (fun b hb => ⟨by have := hb.1; omega, by have := hb.2; omega⟩)
      have GY := intsR_good.mono (intsR_good.stay FY.out (fun b hb => HIF.out.2 b (by have := hb.1; omega) hb.2)) (T := New w WF) (fun b hb => ⟨by have := hb.1; omega, by have := hb.2; omega⟩)
      have HCW := HC.out.below HBW.out (by omega)
      have HDW := HD.out.below' HBW.out (by omega)
      clear HBF HBW HXL HYL
      exact bodyPost_ret (v := .agg #[.slice q1 X.length c1, .slice q2 Y.length c2]) (by simp [results, Try.results80, go_sem, c0, c1']) rfl ⟨[.slice q1 X.length c1, .slice q2 Y.length c2], rfl, by rw [HSV.out]; exact ⟨_, _, rfl, GX, GY⟩, by rw [HSV.out]; exact HCW, HDW⟩

end Go.Proofs.Ytiaamddhocdhaaa
