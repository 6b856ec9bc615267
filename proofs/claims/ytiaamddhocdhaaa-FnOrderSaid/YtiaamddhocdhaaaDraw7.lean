/- Draws of projects with loops; MakeLoops. -/
import Derived.Test.YtiaamddhocdhaaaMake
namespace Go.Proofs.Ytiaamddhocdhaaa
open Go.ChangeShapes Go.WideShapes Go.ChangeAt Go.RowKit
set_option linter.unusedVariables false

theorem moresV_stop {C : List Int} {m : Int} (h : ¬ m > 1) : ∀ (k : Nat) (L : List LinkT) (st : StT), moresV C m k L st = (L, st) := by
  intro k L st
  cases k with
  | zero => rfl
  | succ k => rw [moresV, if_neg h]
theorem Blk.below2 {w w' : World} {g : Nat} {e : TypeId} {arr : List Value} {p p' : Option Addr} (h : Blk w g e arr) (hF : ∀ b, b < w.heap.size → (∀ a, p = some a → b ≠ a.block) → w'.heap[b]? = w.heap[b]? ∧ ∀ a, p' = some a → b ≠ a.block) (hlt : g < w.heap.size) (hp : ∀ a, p = some a → g ≠ a.block) : Blk w' g e arr := by
  unfold Blk at h ⊢
  rw [(hF g hlt hp).1]
  exact h
/-- The blocks between two numbers stand as they stood. -/
def Mid (A B : Nat) (w w' : World) : Prop := ∀ b, A ≤ b → b < B → w'.heap[b]? = w.heap[b]?
theorem Mid.refl (A B : Nat) (w : World) : Mid A B w w := fun _ _ _ => rfl
theorem Mid.dr {A B cb : Nat} {a b c : World} (h : Mid A B a b) (hd : Dr cb b c) (hc : cb < A) (hB : B ≤ b.heap.size) : Mid A B a c := fun k k1 k2 => (hd.block (by omega) (by omega)).trans (h k k1 k2)
theorem Mid.below {A B : Nat} {a b c : World} (h : Mid A B a b) (hb : Below B b c) : Mid A B a c := fun k k1 k2 => (Below.block hb k k2).trans (h k k1 k2)
theorem Mid.bel {A B : Nat} {a b c : World} (h : Mid A B a b) (hb : Bel b c) (hB : B ≤ b.heap.size) : Mid A B a c := fun k k1 k2 => (hb.block (by omega)).trans (h k k1 k2)
theorem Mid.set {A B : Nat} {a b : World} (h : Mid A B a b) {q j : Nat} (u : Value) (hq : q < A ∨ B ≤ q) : Mid A B a (b.setCell ⟨q, j, none⟩ u) := fun k k1 k2 => (Below.heap_setCell _ _ _ _ (show k ≠ q by omega)).trans (h k k1 k2)
set_option maxRecDepth 100000 in
set_option maxHeartbeats 8000000 in
theorem l07Loops_any (cb : Nat) (C : List Int) (s : StT) (w : World) (h : Cur w cb C s) : Calls Try.prog 95 #[.pointer (some ⟨cb, 0, none⟩)] w (DrA projR cb C w (loopsP C s)) := by
  have hltc := h.lt
  have hc := h
  have HBR := Lib.hid (Blk.new' (w := w) (e := 34) [.int .i64 0, .slice none 0 0, .slice none 0 0, .slice none 0 0, .slice none 0 0] rfl)
  clear h
  go_enter Try.func95, Try.ntmps95
  go_wp2_with fail
  refine (l05Draw_own cb C s 4 _ (hc.bel (by (repeat (first | assumption | exact Bel.refl _ | apply Bel.drewN | apply Bel.drew | apply Bel.alloc | refine Bel.trans ?_ (by assumption))))) (by decide) (by decide)).mono ?_
  rintro e w1 ⟨VA, VR, VS, Q0, K0, M, rfl, hM0, hM1, hra, hrr, hrk, hown, hid, hc1, hd1⟩
  have hd10 := hd1
  have hd1 := (Dr.ofBel (cb := cb) (a := w) (by (repeat (first | assumption | exact Bel.refl _ | apply Bel.drewN | apply Bel.drew | apply Bel.alloc | refine Bel.trans ?_ (by assumption))))).trans hd1
  simp only [World.size_alloc] at hM0 hra hrr hrk
  have hM0' : w.heap.size + 1 ≤ M := hM0
  have hDD := drawP_ok C 4 s (by decide) (by decide)
  obtain ⟨P, s1, hP⟩ : ∃ P s1, drawP C 4 s = (P, s1) := ⟨_, _, rfl⟩
  have hP' : drawP C ((4 : Nat) : Int) s = (P, s1) := hP
  rw [hP'] at hra hrr hrk hown hid hc1 hDD
  simp only at hra hrr hrk hown hid hc1
  have hDD : Drawn P 4 := hDD
  have hpb := projOk_bd hDD.ok
  have hpa := hDD.acts
  have hpl := hDD.links
  have HPQ := Lib.hid hP
  rw [hP']
  dsimp only
  obtain ⟨a1, ca, rfl, la, la', -⟩ := sliceR_open hra
  obtain ⟨a3, cr, rfl, -⟩ := sliceR_open hrr
  obtain ⟨a4, cs, rfl, -⟩ := sliceR_open hrk
  have HDQ : ∃ D, P.1 = D := ⟨_, rfl⟩
  obtain ⟨D, hD⟩ := HDQ
  obtain ⟨NA, hNA⟩ : ∃ n, P.2.1.length = n := ⟨_, rfl⟩
  obtain ⟨NR, hNR⟩ : ∃ n, P.2.2.2.1.length = n := ⟨_, rfl⟩
  obtain ⟨NS, hNS⟩ : ∃ n, P.2.2.2.2.length = n := ⟨_, rfl⟩
  rw [hD] at hid
  rw [hNA] at hra hpa la
  rw [hNR] at hrr
  rw [hNS] at hrk
  rw [hD, hNA, hNR, hNS]
  have hle0 := hown.le
  unfold maxLen at hle0
  have HRA := Lib.hid hra
  have HRR := Lib.hid hrr
  have HRK := Lib.hid hrk
  have HID := Lib.hid hid
  have HDQ := Lib.hid hD
  obtain ⟨BP, hBP⟩ : ∃ n, n = w1.heap.size := ⟨_, rfl⟩
  obtain ⟨W1, hW1⟩ : ∃ W, W = w1.alloc (.cells #[.int .i64 D, .slice a1 NA ca, .slice Q0 P.2.2.1.length K0, .slice a3 NR cr, .slice a4 NS cs] 34) := ⟨_, rfl⟩
  have HBP := Lib.hid (show Blk W1 BP 34 [.int .i64 D, .slice a1 NA ca, .slice Q0 P.2.2.1.length K0, .slice a3 NR cr, .slice a4 NS cs] from by rw [hW1]; exact Blk.new' _ hBP)
  have HBR := Lib.hid (show Blk W1 w.heap.size 34 [.int .i64 0, .slice none 0 0, .slice none 0 0, .slice none 0 0, .slice none 0 0] from by rw [hW1]; exact (HBR.out.dr hd10 (by omega)).alloc _)
  have hcW := hc1.bel (w' := W1) (by rw [hW1]; (repeat (first | assumption | exact Bel.refl _ | apply Bel.drewN | apply Bel.drew | apply Bel.alloc | refine Bel.trans ?_ (by assumption))))
  have hdW : Dr cb w W1 := by rw [hW1]; exact hd1.alloc _
  have HMW := Lib.hid (show Mid (w.heap.size + 1) M w1 W1 from by rw [hW1]; exact (Mid.refl _ _ _).bel (by (repeat (first | assumption | exact Bel.refl _ | apply Bel.drewN | apply Bel.drew | apply Bel.alloc | refine Bel.trans ?_ (by assumption)))) hM1)
  have hzW : W1.heap.size = BP + 1 := by rw [hW1, hBP]; simp
  have hBPs : w1.heap.size ≤ BP ∧ BP ≤ w1.heap.size := by rw [hBP]; exact ⟨Nat.le_refl _, Nat.le_refl _⟩
  have hBPw : w.heap.size < BP := by omega
  have HOW := Lib.hid (show Own (fun _ => False) 4 linkR 70 M W1 Q0 K0 P.2.2.1 from by rw [hW1]; exact hown.bel linkR_good (by (repeat (first | assumption | exact Bel.refl _ | apply Bel.drewN | apply Bel.drew | apply Bel.alloc | refine Bel.trans ?_ (by assumption)))))
  have HQ0 := Lib.hid (show ∀ a, Q0 = some a → BP ≠ a.block from fun a ha => by have := (hown.lt ha).2; omega)
  have HW1 := Lib.hid hW1
  have HBPQ := Lib.hid hBP
  have hszW := hdW.size
  clear hc hc1 hd1 hd10 hW1 hBP hown hra hrr hrk hid hD hP hP'
  have b4 := belowV_in C 4 s1 (by decide)
  go_wp2_with fail
  rw [← HW1.out]
  refine (l01Below_any cb C s1 4 _ hcW (by omega)).mono ?_
  rintro e w2 ⟨rfl, hc2, hd2⟩
  rw [← HBPQ.out]
  have HBP := Lib.hid (HBP.out.dr hd2 (by omega))
  have HBR := Lib.hid (HBR.out.dr hd2 (by omega))
  have HOW := Lib.hid (HOW.out.hi linkR_good (Hi.ofDr hd2 (by omega)) (fun _ h => h.elim))
  have HMW := Lib.hid (HMW.out.dr hd2 (by omega) (by omega))
  have hdw2 := hdW.trans hd2
  have hz2 : BP + 1 ≤ w2.heap.size := by have := hd2.size; omega
  obtain ⟨N, hN⟩ : ∃ N : Nat, (belowV C 4 s1).1 = N := Int.eq_ofNat_of_zero_le b4.1
  have hN1 : N ≤ 3 := by omega
  have HEQ0 := Lib.hid (show moresV C NA N P.2.2.1 (belowV C 4 s1).2 = loopL C P s1 from by unfold loopL; rw [hNA, hN, Int.toNat_natCast])
  rw [hN]
  have HNQ := Lib.hid hN
  have HNAQ := Lib.hid hNA
  clear hN hd2 hdW hcW b4 hNA
  obtain ⟨L0, hL0⟩ : ∃ L, P.2.2.1 = L := ⟨_, rfl⟩
  rw [hL0] at HBP HOW HEQ0 hpl hle0
  clear hL0
  go_wp2_with fail
  go_loopw [5, 6] (fun kk _ wr => ∃ (n : Nat) (LS : List LinkT) (st : StT) (Q : Option Addr) (KC : Nat), kk = .int .i64 n ∧ LS.length + n ≤ 6 ∧ Blk wr BP 34 [.int .i64 D, .slice a1 NA ca, .slice Q LS.length KC, .slice a3 NR cr, .slice a4 NS cs] ∧ Blk wr w.heap.size 34 [.int .i64 0, .slice none 0 0, .slice none 0 0, .slice none 0 0, .slice none 0 0] ∧ Own (fun _ => False) 4 linkR 70 M wr Q KC LS ∧ (∀ a, Q = some a → BP ≠ a.block) ∧ Cur wr cb C st ∧ moresV C NA n LS st = loopL C P s1 ∧ Dr cb w wr ∧ Mid (w.heap.size + 1) M w1 wr ∧ BP + 1 ≤ wr.heap.size) (fun kk _ _ => (intOf kk).toNat)
  case atStart => exact ⟨N, L0, _, Q0, K0, rfl, by omega, HBP.out, HBR.out, HOW.out, HQ0.out, hc2, HEQ0.out, hdw2, HMW.out, hz2⟩
  case round =>
    clear hc2 hdw2 hz2 HBP HBR HOW HQ0 HEQ0 HMW
    obtain ⟨n, LS, st, Q, KC, rfl, hmn, hBP', hBR', hO, hqp, hc, heq, hd, hm, hzr⟩ := hrel
    have HBPr := Lib.hid hBP'
    have HBRr := Lib.hid hBR'
    have HEQ := Lib.hid heq
    have HQP := Lib.hid hqp
    have hwsz := hd.size
    have hle := hO.le
    unfold maxLen at hle
    clear hBP' hBR' heq hqp
    cases n with
    | zero =>
      have HLL := Lib.hid (show loopL C P s1 = (LS, st) from HEQ.out.symm)
      have HCF := Lib.hid hc
      have HDF := Lib.hid hd
      have FL := Lib.hid (hO.done (T := fun b => M ≤ b ∧ b < wr.heap.size) linkR_good (fun _ h _ => h.elim) (fun b h1 h2 => ⟨h1, h2⟩))
      have HMM := Lib.hid hm
      have p0 := HBPr.out.cellv (j := 0) (by simp)
      have p1 := HBPr.out.cellv (j := 1) (by simp)
      have p2 := HBPr.out.cellv (j := 2) (by simp)
      have p3 := HBPr.out.cellv (j := 3) (by simp)
      have p4 := HBPr.out.cellv (j := 4) (by simp)
      simp only [List.getElem_cons_zero, List.getElem_cons_succ] at p0 p1 p2 p3 p4
      have r0 := HBRr.out.cellv (j := 0) (by simp)
      have r1 := HBRr.out.cellv (j := 1) (by simp)
      have r2 := HBRr.out.cellv (j := 2) (by simp)
      have r3 := HBRr.out.cellv (j := 3) (by simp)
      have r4 := HBRr.out.cellv (j := 4) (by simp)
      simp only [List.getElem_cons_zero, List.getElem_cons_succ] at r0 r1 r2 r3 r4
      have fr0 := HBRr.out.frozen 0
      have fr1 := HBRr.out.frozen 1
      have fr2 := HBRr.out.frozen 2
      have fr3 := HBRr.out.frozen 3
      have fr4 := HBRr.out.frozen 4
      clear hO hc hd hm
      go_wp2_with fail
      have HBW := Lib.hid ((((((Below.refl (w.heap.size) wr).setCell (p := ⟨w.heap.size, 0, none⟩) (Nat.le_refl _) (.int .i64 D)).setCell (p := ⟨w.heap.size, 1, none⟩) (Nat.le_refl _) (.slice a1 NA ca)).setCell (p := ⟨w.heap.size, 2, none⟩) (Nat.le_refl _) (.slice Q LS.length KC)).setCell (p := ⟨w.heap.size, 3, none⟩) (Nat.le_refl _) (.slice a3 NR cr)).setCell (p := ⟨w.heap.size, 4, none⟩) (Nat.le_refl _) (.slice a4 NS cs))
      have HIF := Lib.hid ((((((Hi.refl (w.heap.size + 1) wr).set (q := w.heap.size) (j := 0) (.int .i64 D) (.inl (by omega))).set (q := w.heap.size) (j := 1) (.slice a1 NA ca) (.inl (by omega))).set (q := w.heap.size) (j := 2) (.slice Q LS.length KC) (.inl (by omega))).set (q := w.heap.size) (j := 3) (.slice a3 NR cr) (.inl (by omega))).set (q := w.heap.size) (j := 4) (.slice a4 NS cs) (.inl (by omega)))
      have HBF := Lib.hid (((((HBRr.out.set 0 (.int .i64 D)).set 1 (.slice a1 NA ca)).set 2 (.slice Q LS.length KC)).set 3 (.slice a3 NR cr)).set 4 (.slice a4 NS cs))
      generalize (((((wr.setCell ⟨w.heap.size, 0, none⟩ (.int .i64 D)).setCell ⟨w.heap.size, 1, none⟩ (.slice a1 NA ca)).setCell ⟨w.heap.size, 2, none⟩ (.slice Q LS.length KC)).setCell ⟨w.heap.size, 3, none⟩ (.slice a3 NR cr)).setCell ⟨w.heap.size, 4, none⟩ (.slice a4 NS cs)) = WF at *
      have c0 := HBF.out.cellv (j := 0) (by simp)
      have c1 := HBF.out.cellv (j := 1) (by simp)
      have c2 := HBF.out.cellv (j := 2) (by simp)
      have c3 := HBF.out.cellv (j := 3) (by simp)
      have c4 := HBF.out.cellv (j := 4) (by simp)
      simp only [List.set_cons_zero, List.set_cons_succ, List.getElem_cons_zero, List.getElem_cons_succ] at c0 c1 c2 c3 c4
      clear HBF
      have hzF := HIF.out.1
      have GL := linksR_good.mono (linksR_good.stay FL.out (fun b hb => HIF.out.2 b (by have := hb.1; omega) hb.2)) (T := New w WF) (fun b hb => ⟨by have := hb.1; omega, by have := hb.2; omega⟩)
      have hk : ∀ b, (w.heap.size + 1 ≤ b ∧ b < M) → WF.heap[b]? = w1.heap[b]? := fun b hb => (HIF.out.2 b hb.1 (by have := hb.2; omega)).trans (HMM.out b hb.1 hb.2)
      have hT : ∀ b, (w.heap.size + 1 ≤ b ∧ b < M) → New w WF b := fun b hb => ⟨by have := hb.1; omega, by have := hb.2; omega⟩
      have GA := actsR_good.mono (actsR_good.stay HRA.out hk) hT
      have GR := ressR_good.mono (ressR_good.stay HRR.out hk) hT
      have GK := intsR_good.mono (intsR_good.stay HRK.out hk) hT
      have HCW := HCF.out.below HBW.out (by omega)
      have HDW := HDF.out.below' HBW.out (by omega)
      have HVV := Lib.hid (show loopsP C s = ((D, P.2.1, LS, P.2.2.2.1, P.2.2.2.2), st) from by
        unfold loopsP
        rw [HPQ.out]
        simp only
        rw [HLL.out, HDQ.out])
      clear HBW
      exact bodyPost_ret (v := .agg #[.int .i64 D, .slice a1 NA ca, .slice Q LS.length KC, .slice a3 NR cr, .slice a4 NS cs]) (by simp [results, Try.results95, go_sem, c0, c1, c2, c3, c4]) rfl ⟨[.int .i64 D, .slice a1 NA ca, .slice Q LS.length KC, .slice a3 NR cr, .slice a4 NS cs], rfl, by rw [HVV.out]; exact ⟨_, _, rfl, intRep HID.out, _, _, rfl, GA, _, _, rfl, GL, _, _, rfl, GR, GK⟩, by rw [HVV.out]; exact HCW, HDW⟩
    | succ n =>
      have hnp : (0 : Int) < ((n + 1 : Nat) : Int) := by omega
      by_cases hgt : (NA : Int) > 1
      rotate_left
      · have HLL := Lib.hid (show loopL C P s1 = (LS, st) from by rw [← HEQ.out, moresV_stop hgt])
        have hgi : ¬ (1 : Int) < (NA : Int) := by omega
        have HCF := Lib.hid hc
        have HDF := Lib.hid hd
        have FL := Lib.hid (hO.done (T := fun b => M ≤ b ∧ b < wr.heap.size) linkR_good (fun _ h _ => h.elim) (fun b h1 h2 => ⟨h1, h2⟩))
        have HMM := Lib.hid hm
        have p0 := HBPr.out.cellv (j := 0) (by simp)
        have p1 := HBPr.out.cellv (j := 1) (by simp)
        have p2 := HBPr.out.cellv (j := 2) (by simp)
        have p3 := HBPr.out.cellv (j := 3) (by simp)
        have p4 := HBPr.out.cellv (j := 4) (by simp)
        simp only [List.getElem_cons_zero, List.getElem_cons_succ] at p0 p1 p2 p3 p4
        have r0 := HBRr.out.cellv (j := 0) (by simp)
        have r1 := HBRr.out.cellv (j := 1) (by simp)
        have r2 := HBRr.out.cellv (j := 2) (by simp)
        have r3 := HBRr.out.cellv (j := 3) (by simp)
        have r4 := HBRr.out.cellv (j := 4) (by simp)
        simp only [List.getElem_cons_zero, List.getElem_cons_succ] at r0 r1 r2 r3 r4
        have fr0 := HBRr.out.frozen 0
        have fr1 := HBRr.out.frozen 1
        have fr2 := HBRr.out.frozen 2
        have fr3 := HBRr.out.frozen 3
        have fr4 := HBRr.out.frozen 4
        clear hO hc hd hm
        go_wp2_with fail
        have HBW := Lib.hid ((((((Below.refl (w.heap.size) wr).setCell (p := ⟨w.heap.size, 0, none⟩) (Nat.le_refl _) (.int .i64 D)).setCell (p := ⟨w.heap.size, 1, none⟩) (Nat.le_refl _) (.slice a1 NA ca)).setCell (p := ⟨w.heap.size, 2, none⟩) (Nat.le_refl _) (.slice Q LS.length KC)).setCell (p := ⟨w.heap.size, 3, none⟩) (Nat.le_refl _) (.slice a3 NR cr)).setCell (p := ⟨w.heap.size, 4, none⟩) (Nat.le_refl _) (.slice a4 NS cs))
        have HIF := Lib.hid ((((((Hi.refl (w.heap.size + 1) wr).set (q := w.heap.size) (j := 0) (.int .i64 D) (.inl (by omega))).set (q := w.heap.size) (j := 1) (.slice a1 NA ca) (.inl (by omega))).set (q := w.heap.size) (j := 2) (.slice Q LS.length KC) (.inl (by omega))).set (q := w.heap.size) (j := 3) (.slice a3 NR cr) (.inl (by omega))).set (q := w.heap.size) (j := 4) (.slice a4 NS cs) (.inl (by omega)))
        have HBF := Lib.hid (((((HBRr.out.set 0 (.int .i64 D)).set 1 (.slice a1 NA ca)).set 2 (.slice Q LS.length KC)).set 3 (.slice a3 NR cr)).set 4 (.slice a4 NS cs))
        generalize (((((wr.setCell ⟨w.heap.size, 0, none⟩ (.int .i64 D)).setCell ⟨w.heap.size, 1, none⟩ (.slice a1 NA ca)).setCell ⟨w.heap.size, 2, none⟩ (.slice Q LS.length KC)).setCell ⟨w.heap.size, 3, none⟩ (.slice a3 NR cr)).setCell ⟨w.heap.size, 4, none⟩ (.slice a4 NS cs)) = WF at *
        have c0 := HBF.out.cellv (j := 0) (by simp)
        have c1 := HBF.out.cellv (j := 1) (by simp)
        have c2 := HBF.out.cellv (j := 2) (by simp)
        have c3 := HBF.out.cellv (j := 3) (by simp)
        have c4 := HBF.out.cellv (j := 4) (by simp)
        simp only [List.set_cons_zero, List.set_cons_succ, List.getElem_cons_zero, List.getElem_cons_succ] at c0 c1 c2 c3 c4
        clear HBF
        have hzF := HIF.out.1
        have GL := linksR_good.mono (linksR_good.stay FL.out (fun b hb => HIF.out.2 b (by have := hb.1; omega) hb.2)) (T := New w WF) (fun b hb => ⟨by have := hb.1; omega, by have := hb.2; omega⟩)
        have hk : ∀ b, (w.heap.size + 1 ≤ b ∧ b < M) → WF.heap[b]? = w1.heap[b]? := fun b hb => (HIF.out.2 b hb.1 (by have := hb.2; omega)).trans (HMM.out b hb.1 hb.2)
        have hT : ∀ b, (w.heap.size + 1 ≤ b ∧ b < M) → New w WF b := fun b hb => ⟨by have := hb.1; omega, by have := hb.2; omega⟩
        have GA := actsR_good.mono (actsR_good.stay HRA.out hk) hT
        have GR := ressR_good.mono (ressR_good.stay HRR.out hk) hT
        have GK := intsR_good.mono (intsR_good.stay HRK.out hk) hT
        have HCW := HCF.out.below HBW.out (by omega)
        have HDW := HDF.out.below' HBW.out (by omega)
        have HVV := Lib.hid (show loopsP C s = ((D, P.2.1, LS, P.2.2.2.1, P.2.2.2.2), st) from by
          unfold loopsP
          rw [HPQ.out]
          simp only
          rw [HLL.out, HDQ.out])
        clear HBW
        exact bodyPost_ret (v := .agg #[.int .i64 D, .slice a1 NA ca, .slice Q LS.length KC, .slice a3 NR cr, .slice a4 NS cs]) (by simp [results, Try.results95, go_sem, c0, c1, c2, c3, c4]) rfl ⟨[.int .i64 D, .slice a1 NA ca, .slice Q LS.length KC, .slice a3 NR cr, .slice a4 NS cs], rfl, by rw [HVV.out]; exact ⟨_, _, rfl, intRep HID.out, _, _, rfl, GA, _, _, rfl, GL, _, _, rfl, GR, GK⟩, by rw [HVV.out]; exact HCW, HDW⟩
      · skip
        have HEQ := Lib.hid (show moresV C NA n (LS ++ [(moreV C NA st).1]) (moreV C NA st).2 = loopL C P s1 from by rw [← HEQ.out, moresV, if_pos hgt])
        have hgi : (1 : Int) < (NA : Int) := by omega
        have bA := belowV_in C (NA : Int) st (by omega)
        obtain ⟨w0, hw0⟩ : ∃ W, W = wr := ⟨wr, rfl⟩
        subst hw0
        go_wp2_with fail
        refine (l01Below_any cb C st (NA : Int) _ hc (by omega)).mono ?_
        rintro e wa ⟨rfl, hcA, hdA⟩
        obtain ⟨A, hA⟩ : ∃ A, (belowV C (NA : Int) st).1 = A := ⟨_, rfl⟩
        have HAQ := Lib.hid (show (moreA C NA st).1 = A from hA)
        rw [hA] at bA
        rw [hA]
        have hcA : Cur wa cb C (moreA C NA st).2 := hcA
        have bB := belowV_in C ((NA : Int) - 1) (moreA C NA st).2 (by omega)
        obtain ⟨Bn, hB⟩ : ∃ B, (belowV C ((NA : Int) - 1) (moreA C NA st).2).1 = B := ⟨_, rfl⟩
        have HBQ := Lib.hid hB
        have HBM := Lib.hid (show (moreB C NA st).1 = Bn from hB)
        rw [hB] at bB
        obtain ⟨E, hE⟩ : ∃ E, (onceV C 2 (moreB C NA st).2).1 = E := ⟨_, rfl⟩
        have HEQE := Lib.hid hE
        have bL := belowV_in C 8 (moreE C NA st).2 (by decide)
        obtain ⟨Ln, hL⟩ : ∃ L, (belowV C 8 (moreE C NA st).2).1 = L := ⟨_, rfl⟩
        have HLQ := Lib.hid hL
        rw [hL] at bL
        have hX : (moreV C NA st).1 = (A, (A + 1 + Bn) % (NA : Int), E, Ln - 4) := by
          unfold moreV
          rw [show (moreA C NA st).1 = A from hA, show (moreB C NA st).1 = Bn from hB, show (moreE C NA st).1 = E from hE, show (moreL C NA st).1 = Ln from hL]
        have HEQ := Lib.hid (show moresV C NA n (LS ++ [(A, (A + 1 + Bn) % (NA : Int), E, Ln - 4)]) (moreL C NA st).2 = loopL C P s1 from by rw [← hX]; exact HEQ.out)
        have hwA1 : IntKind.i64.wrap (A + 1) = A + 1 := IntWalk.i64_in _ (by omega)
        have hwn : IntKind.i64.wrap ((NA : Int) - 1) = (NA : Int) - 1 := IntWalk.i64_in _ (by omega)
        have hwB : IntKind.i64.wrap (A + 1 + Bn) = A + 1 + Bn := IntWalk.i64_in _ (by omega)
        have hwL : IntKind.i64.wrap (Ln - 4) = Ln - 4 := IntWalk.i64_in _ (by omega)
        have hrem : (A + 1 + Bn).tmod (NA : Int) = (A + 1 + Bn) % (NA : Int) := Int.tmod_eq_emod_of_nonneg (by omega)
        have hm1 := Int.emod_nonneg (A + 1 + Bn) (show (NA : Int) ≠ 0 by omega)
        have hm2 := Int.emod_lt_of_pos (A + 1 + Bn) (show (0 : Int) < NA by omega)
        have hwR : IntKind.i64.wrap ((A + 1 + Bn) % (NA : Int)) = (A + 1 + Bn) % (NA : Int) := IntWalk.i64_in _ (by omega)
        have hnz : ¬ ((NA : Int) = 0) := by omega
        have hnz' : NA ≠ 0 := by omega
        have HREP := Lib.hid (show ∀ T w, linkR T w [.int .i64 A, .int .i64 ((A + 1 + Bn) % (NA : Int)), .bool E, .int .i64 (Ln - 4)] (A, (A + 1 + Bn) % (NA : Int), E, Ln - 4) from fun T w => ⟨_, _, rfl, intRep (by unfold I64; omega), _, _, rfl, intRep (by unfold I64; omega), _, _, rfl, rfl, intRep (by unfold I64; omega)⟩)
        have hda := hd.trans hdA
        have HBPa := Lib.hid (HBPr.out.dr hdA (by omega))
        have HBRa := Lib.hid (HBRr.out.dr hdA (by omega))
        have hOa : Own (fun _ => False) 4 linkR 70 M wa Q KC LS := hO.hi linkR_good (Hi.ofDr hdA (by omega)) (fun _ h => h.elim)
        have hmA := hm.dr hdA (by omega) (by omega)
        have lc := HBPa.out.cellv (j := 2) (by simp)
        simp only [List.getElem_cons_zero, List.getElem_cons_succ] at lc
        have hza := hdA.size
        clear hc hd hm hO hA hB hE hL hX hdA
        go_wp2_with fail
        refine wp_region_held_drew (S := (fun W => Hid True)) (by kernel_rfl) ?_ (fun hHeld => ?_)
        · ((try dsimp only); exact Lib.hid trivial)
        refine wpAnyH_take (i := 0) (v := ?_) rfl (by kernel_rfl) (by kernel_rfl) (by kernel_rfl) (fun _ _ _ h => h) (Or.inl ⟨by rfl, ?_⟩) (by assumption) ?_
        rotate_left
        · (intro w hSw; (try dsimp only at hSw); go_simp <;> with_reducible rfl)
        try walk_nrm
        refine wpAnyH_take (i := 2) (v := ?_) rfl (by kernel_rfl) (by kernel_rfl) (by kernel_rfl) (fun _ _ _ h => h) (Or.inl ⟨by rfl, ?_⟩) (by assumption) ?_
        rotate_left
        · (intro w hSw; (try dsimp only at hSw); go_simp <;> with_reducible rfl)
        try walk_nrm
        refine wpAnyH_take (i := 3) (v := ?_) rfl (by kernel_rfl) (by kernel_rfl) (by kernel_rfl) (fun _ _ _ h => h) (Or.inl ⟨by rfl, ?_⟩) (by assumption) ?_
        rotate_left
        · (intro w hSw; (try dsimp only at hSw); go_simp <;> with_reducible rfl)
        try walk_nrm
        refine wpAnyH_take (i := 4) (v := ?_) rfl (by kernel_rfl) (by kernel_rfl) (by kernel_rfl) (fun _ _ _ h => h) (Or.inl ⟨by rfl, ?_⟩) (by assumption) ?_
        rotate_left
        · (intro w hSw; (try dsimp only at hSw); go_simp <;> with_reducible rfl)
        try walk_nrm
        refine wpAnyH_take (i := 5) (v := ?_) rfl (by kernel_rfl) (by kernel_rfl) (by kernel_rfl) (fun _ _ _ h => h) (Or.inl ⟨by rfl, ?_⟩) (by assumption) ?_
        rotate_left
        · (intro w hSw; (try dsimp only at hSw); go_simp <;> with_reducible rfl)
        try walk_nrm
        refine wpAnyH_take (i := 6) (v := ?_) rfl (by kernel_rfl) (by kernel_rfl) (by kernel_rfl) (fun _ _ _ h => h) (Or.inl ⟨by rfl, ?_⟩) (by assumption) ?_
        rotate_left
        · (intro w hSw; (try dsimp only at hSw); go_simp <;> with_reducible rfl)
        try walk_nrm
        refine wpAnyH_take (i := 7) (v := ?_) rfl (by kernel_rfl) (by kernel_rfl) (by kernel_rfl) (fun _ _ _ h => h) (Or.inl ⟨by rfl, ?_⟩) (by assumption) ?_
        rotate_left
        · (intro w hSw; (try dsimp only at hSw); go_simp <;> with_reducible rfl)
        try walk_nrm
        refine wpAnyH_take (i := 10) (v := ?_) rfl (by kernel_rfl) (by kernel_rfl) (by kernel_rfl) (fun _ _ _ h => h) (Or.inl ⟨by rfl, ?_⟩) (by assumption) ?_
        rotate_left
        · (intro w hSw; (try dsimp only at hSw); go_simp <;> with_reducible rfl)
        try walk_nrm
        refine wpAnyH_take (i := 12) (v := ?_) rfl (by kernel_rfl) (by kernel_rfl) (by kernel_rfl) (fun _ _ _ h => h) (Or.inl ⟨by rfl, ?_⟩) (by assumption) ?_
        rotate_left
        · (intro w hSw; (try dsimp only at hSw); go_simp <;> with_reducible rfl)
        try walk_nrm
        refine wpAnyH_take (i := 14) (v := ?_) rfl (by kernel_rfl) (by kernel_rfl) (by kernel_rfl) (fun _ _ _ h => h) (Or.inl ⟨by rfl, ?_⟩) (by assumption) ?_
        rotate_left
        · (intro w hSw; (try dsimp only at hSw); go_simp <;> with_reducible rfl)
        try walk_nrm
        refine wpAnyH_ready (rs := [1, 8]) (by kernel_rfl) (by simp) ?_
        refine AllReadyH.cons rfl (fun K hK => ?_) ?_
        · go_simp
          refine hK.out _ _ ?_ (fun hHeld => ?_)
          · ((try dsimp only); exact Lib.hid trivial)
          clear hK K
          try walk_nrm
          refine wpAnyH_ready (rs := [8]) (by kernel_rfl) (by simp) ?_
          refine AllReadyH.cons rfl (fun K hK => ?_) AllReadyH.nil
          · go_simp
            (go_at_call 139; (with_reducible refine (l01Below_any cb C (moreA C NA st).2 ((NA : Int) - 1) _ (hcA.bel (by (repeat (first | assumption | exact Bel.refl _ | apply Bel.drewN | apply Bel.drew | apply Bel.alloc | refine Bel.trans ?_ (by assumption))))) (by omega)).mono ?_); rintro e wB ⟨rfl, hcB, hdB⟩; rw [HBQ.out]; have hdB := (Dr.ofBel (cb := cb) (a := wa) (by (repeat (first | assumption | exact Bel.refl _ | apply Bel.drewN | apply Bel.drew | apply Bel.alloc | refine Bel.trans ?_ (by assumption))))).trans hdB; have hcB : Cur wB cb C (moreB C NA st).2 := hcB; have lc := hdB.cell lc (by omega))
            try go_wp2_with fail
            refine hK.out _ _ ?_ (fun hHeld => ?_)
            · ((try dsimp only); exact Lib.hid trivial)
            clear hK K
            try walk_nrm
            refine wpAnyH_take (i := 9) (v := ?_) rfl (by kernel_rfl) (by kernel_rfl) (by kernel_rfl) (fun _ _ _ h => h) (Or.inl ⟨by rfl, ?_⟩) (by assumption) ?_
            rotate_left
            · (intro w hSw; (try dsimp only at hSw); go_simp <;> with_reducible rfl)
            try walk_nrm
            refine wpAnyH_take (i := 11) (v := ?_) rfl (by kernel_rfl) (by kernel_rfl) (by kernel_rfl) (fun _ _ _ h => h) (Or.inl ⟨by rfl, ?_⟩) (by assumption) ?_
            rotate_left
            · (intro w hSw; (try dsimp only at hSw); go_simp <;> with_reducible rfl)
            try walk_nrm
            refine wpAnyH_ready (rs := [13]) (by kernel_rfl) (by simp) ?_
            refine AllReadyH.cons rfl (fun K hK => ?_) AllReadyH.nil
            · go_simp
              (go_at_call 141; (with_reducible refine (l01Once_any cb C (moreB C NA st).2 2 _ (hcB.bel (by (repeat (first | assumption | exact Bel.refl _ | apply Bel.drewN | apply Bel.drew | apply Bel.alloc | refine Bel.trans ?_ (by assumption))))) (by omega)).mono ?_); rintro e wE ⟨rfl, hcE, hdE⟩; rw [HEQE.out]; have hdE := (Dr.ofBel (cb := cb) (a := wB) (by (repeat (first | assumption | exact Bel.refl _ | apply Bel.drewN | apply Bel.drew | apply Bel.alloc | refine Bel.trans ?_ (by assumption))))).trans hdE; have hcE : Cur wE cb C (moreE C NA st).2 := hcE; have lc := (by first | exact hdE.cell lc (by omega) | exact lc))
              try go_wp2_with fail
              refine hK.out _ _ ?_ (fun hHeld => ?_)
              · ((try dsimp only); exact Lib.hid trivial)
              clear hK K
              try walk_nrm
              refine wpAnyH_ready (rs := [15]) (by kernel_rfl) (by simp) ?_
              refine AllReadyH.cons rfl (fun K hK => ?_) AllReadyH.nil
              · go_simp
                (go_at_call 139; (with_reducible refine (l01Below_any cb C (moreE C NA st).2 8 _ (hcE.bel (by (repeat (first | assumption | exact Bel.refl _ | apply Bel.drewN | apply Bel.drew | apply Bel.alloc | refine Bel.trans ?_ (by assumption))))) (by omega)).mono ?_); rintro e wL ⟨rfl, hcL, hdL⟩; rw [HLQ.out]; have hdL := (Dr.ofBel (cb := cb) (a := wE) (by (repeat (first | assumption | exact Bel.refl _ | apply Bel.drewN | apply Bel.drew | apply Bel.alloc | refine Bel.trans ?_ (by assumption))))).trans hdL; have hcL : Cur wL cb C (moreL C NA st).2 := hcL; have lc := (by first | exact hdL.cell lc (by omega) | exact lc); have lca := fun o => ((Bel.refl wL).alloc o).cell lc; have hdaL := ((hdB.trans hdE).trans hdL); have HBPL := Lib.hid (HBPa.out.dr hdaL (by omega)); have hszL := hdaL.size; have HDL := Lib.hid (hda.trans hdaL); have HCL := Lib.hid hcL; have HML := Lib.hid (hmA.dr hdaL (by omega) (by omega)))
                try go_wp2_with fail
                refine hK.out _ _ ?_ (fun hHeld => ?_)
                · ((try dsimp only); exact Lib.hid trivial)
                clear hK K
                try walk_nrm
                refine wpAnyH_take (i := 16) (v := ?_) rfl (by kernel_rfl) (by kernel_rfl) (by kernel_rfl) (fun _ _ _ h => h) (Or.inl ⟨by rfl, ?_⟩) (by assumption) ?_
                rotate_left
                · (intro w hSw; (try dsimp only at hSw); go_simp <;> with_reducible rfl)
                try walk_nrm
                refine wpAnyH_take (i := 17) (v := ?_) rfl (by kernel_rfl) (by kernel_rfl) (by kernel_rfl) (fun _ _ _ h => h) (Or.inl ⟨by rfl, ?_⟩) (by assumption) ?_
                rotate_left
                · (intro w hSw; (try dsimp only at hSw); go_simp <;> with_reducible rfl)
                try walk_nrm
                refine wpAnyH_ready (rs := [18]) (by kernel_rfl) (by simp) ?_
                refine AllReadyH.cons rfl (fun K hK => ?_) AllReadyH.nil
                · go_simp
                  refine hK.out _ _ ?_ (fun hHeld => ?_)
                  · ((try dsimp only); exact Lib.hid trivial)
                  clear hK K
                  try walk_nrm
                  refine wpAnyH_ready (rs := [19]) (by kernel_rfl) (by simp) ?_
                  refine AllReadyH.cons rfl (fun K hK => ?_) AllReadyH.nil
                  · (refine step_appG (o := ⟨some 44, _, _, _, _, _⟩) (n := 4) linkR_good _ (by rfl) _ _ 31 (by rfl) (.agg #[.int .i64 0, .int .i64 0, .bool false, .int .i64 0]) 32 Try.underlying31 (by kernel_rfl) rfl (by decide) (by decide) Q KC LS ((A, (A + 1 + Bn) % (NA : Int), E, Ln - 4)) (by rfl) (hOa.hi linkR_good ((Hi.ofDr hdaL (by omega)).trans (Hi.ofBel (by (repeat (first | assumption | exact Bel.refl _ | apply Bel.drewN | apply Bel.drew | apply Bel.alloc | refine Bel.trans ?_ (by assumption)))))) (fun _ h => h.elim)) _ 1 [.int .i64 A, .int .i64 ((A + 1 + Bn) % (NA : Int)), .bool E, .int .i64 (Ln - 4)] (by rfl) rfl (World.news_of_block (alloc_at (by first | rfl | (simp; done) | (simp; omega)))) (by intro u hu; simp at hu; rcases hu with rfl | rfl | rfl | rfl <;> rfl) (HREP.out _ _) (by omega) (by first | omega | (simp; omega)) ?_; intro q' cap' wA hOA hBA hFA; have HO2 := Lib.hid hOA; have HBX := Lib.hid ((HBPL.out.alloc (.cells #[.int .i64 A, .int .i64 ((A + 1 + Bn) % (NA : Int)), .bool E, .int .i64 (Ln - 4)] 70)).below2 hFA (by have := HBPL.out.lt; simp; omega) (fun a ha => by have := HQP.out a ha; omega)); have HBRx := Lib.hid (((HBRa.out.dr hdaL (by omega)).alloc (.cells #[.int .i64 A, .int .i64 ((A + 1 + Bn) % (NA : Int)), .bool E, .int .i64 (Ln - 4)] 70)).below hBA (by omega)); have y2 := HBX.out.cellv (j := 2) (by simp); have fy2 := HBX.out.frozen 2; simp only [List.getElem_cons_zero, List.getElem_cons_succ] at y2; have hCA := Lib.hid ((HCL.out.bel (w' := wL.alloc (.cells #[.int .i64 A, .int .i64 ((A + 1 + Bn) % (NA : Int)), .bool E, .int .i64 (Ln - 4)] 70)) (by (repeat (first | assumption | exact Bel.refl _ | apply Bel.drewN | apply Bel.drew | apply Bel.alloc | refine Bel.trans ?_ (by assumption))))).below hBA (by omega)); have hDA := Lib.hid ((HDL.out.alloc (.cells #[.int .i64 A, .int .i64 ((A + 1 + Bn) % (NA : Int)), .bool E, .int .i64 (Ln - 4)] 70)).below' hBA (by omega)); have hMA := Lib.hid ((HML.out.bel (c := wL.alloc (.cells #[.int .i64 A, .int .i64 ((A + 1 + Bn) % (NA : Int)), .bool E, .int .i64 (Ln - 4)] 70)) (by (repeat (first | assumption | exact Bel.refl _ | apply Bel.drewN | apply Bel.drew | apply Bel.alloc | refine Bel.trans ?_ (by assumption)))) (by omega)).below hBA); have HQP2 := Lib.hid (fun a ha => (hFA BP (by have := HBPL.out.lt; simp; omega) (fun a' ha' hh => HQP.out a' ha' hh)).2 a ha); have hzA := (show wL.heap.size ≤ wA.heap.size from (by have := hBA.size; (try simp only [World.size_alloc] at this); omega)); clear hOA hBA hFA)
                    refine hK.out _ _ ?_ (fun hHeld => ?_)
                    · ((try dsimp only); exact Lib.hid trivial)
                    clear hK K
                    try walk_nrm
                    refine wpAnyH_take (i := 20) (v := ?_) rfl (by kernel_rfl) (by kernel_rfl) (by kernel_rfl) (fun _ _ _ h => h) (Or.inl ⟨by rfl, ?_⟩) (by assumption) ?_
                    rotate_left
                    · (intro w hSw; (try dsimp only at hSw); go_simp <;> with_reducible rfl)
                    try walk_nrm
                    refine wpAnyH_ready (rs := [21]) (by kernel_rfl) (by simp) ?_
                    refine AllReadyH.cons rfl (fun K hK => ?_) AllReadyH.nil
                    · go_simp
                      refine hK.out _ _ ?_ (fun hHeld => ?_)
                      · ((try dsimp only); exact Lib.hid trivial)
                      clear hK K
                      try walk_nrm
                      refine wpAnyH_done (by kernel_rfl) ?_ _
                      go_wp2_with fail
                      go_roundw
                      case rel => exact ⟨n, LS ++ [(A, (A + 1 + Bn) % (NA : Int), E, Ln - 4)], _, q', cap', by go_num, by simp; omega, by rw [List.length_append]; exact HBX.out.set 2 _, HBRx.out.setAt (by omega) 2 _, HO2.out.row linkR_good (fun a ha => Below.heap_setCell _ _ _ _ (fun hh => HQP2.out a ha hh.symm)), fun a ha hh => HQP2.out a ha hh, hCA.out.stay (fun b hb => Below.heap_setCell _ _ _ _ (show b ≠ BP by omega)), HEQ.out, hDA.out.set _ (by omega), hMA.out.set _ (.inr (by omega)), by simp [World.setCell]; omega⟩
                      case measure => (simp [intOf] <;> omega)
        refine AllReadyH.cons rfl (fun K hK => ?_) AllReadyH.nil
        · go_simp
          (go_at_call 139; (with_reducible refine (l01Below_any cb C (moreA C NA st).2 ((NA : Int) - 1) _ (hcA.bel (by (repeat (first | assumption | exact Bel.refl _ | apply Bel.drewN | apply Bel.drew | apply Bel.alloc | refine Bel.trans ?_ (by assumption))))) (by omega)).mono ?_); rintro e wB ⟨rfl, hcB, hdB⟩; rw [HBQ.out]; have hdB := (Dr.ofBel (cb := cb) (a := wa) (by (repeat (first | assumption | exact Bel.refl _ | apply Bel.drewN | apply Bel.drew | apply Bel.alloc | refine Bel.trans ?_ (by assumption))))).trans hdB; have hcB : Cur wB cb C (moreB C NA st).2 := hcB; have lc := hdB.cell lc (by omega))
          try go_wp2_with fail
          refine hK.out _ _ ?_ (fun hHeld => ?_)
          · ((try dsimp only); exact Lib.hid trivial)
          clear hK K
          try walk_nrm
          refine wpAnyH_take (i := 9) (v := ?_) rfl (by kernel_rfl) (by kernel_rfl) (by kernel_rfl) (fun _ _ _ h => h) (Or.inl ⟨by rfl, ?_⟩) (by assumption) ?_
          rotate_left
          · (intro w hSw; (try dsimp only at hSw); go_simp <;> with_reducible rfl)
          try walk_nrm
          refine wpAnyH_take (i := 11) (v := ?_) rfl (by kernel_rfl) (by kernel_rfl) (by kernel_rfl) (fun _ _ _ h => h) (Or.inl ⟨by rfl, ?_⟩) (by assumption) ?_
          rotate_left
          · (intro w hSw; (try dsimp only at hSw); go_simp <;> with_reducible rfl)
          try walk_nrm
          refine wpAnyH_ready (rs := [1, 13]) (by kernel_rfl) (by simp) ?_
          refine AllReadyH.cons rfl (fun K hK => ?_) ?_
          · go_simp
            refine hK.out _ _ ?_ (fun hHeld => ?_)
            · ((try dsimp only); exact Lib.hid trivial)
            clear hK K
            try walk_nrm
            refine wpAnyH_ready (rs := [13]) (by kernel_rfl) (by simp) ?_
            refine AllReadyH.cons rfl (fun K hK => ?_) AllReadyH.nil
            · go_simp
              (go_at_call 141; (with_reducible refine (l01Once_any cb C (moreB C NA st).2 2 _ (hcB.bel (by (repeat (first | assumption | exact Bel.refl _ | apply Bel.drewN | apply Bel.drew | apply Bel.alloc | refine Bel.trans ?_ (by assumption))))) (by omega)).mono ?_); rintro e wE ⟨rfl, hcE, hdE⟩; rw [HEQE.out]; have hdE := (Dr.ofBel (cb := cb) (a := wB) (by (repeat (first | assumption | exact Bel.refl _ | apply Bel.drewN | apply Bel.drew | apply Bel.alloc | refine Bel.trans ?_ (by assumption))))).trans hdE; have hcE : Cur wE cb C (moreE C NA st).2 := hcE; have lc := (by first | exact hdE.cell lc (by omega) | exact lc))
              try go_wp2_with fail
              refine hK.out _ _ ?_ (fun hHeld => ?_)
              · ((try dsimp only); exact Lib.hid trivial)
              clear hK K
              try walk_nrm
              refine wpAnyH_ready (rs := [15]) (by kernel_rfl) (by simp) ?_
              refine AllReadyH.cons rfl (fun K hK => ?_) AllReadyH.nil
              · go_simp
                (go_at_call 139; (with_reducible refine (l01Below_any cb C (moreE C NA st).2 8 _ (hcE.bel (by (repeat (first | assumption | exact Bel.refl _ | apply Bel.drewN | apply Bel.drew | apply Bel.alloc | refine Bel.trans ?_ (by assumption))))) (by omega)).mono ?_); rintro e wL ⟨rfl, hcL, hdL⟩; rw [HLQ.out]; have hdL := (Dr.ofBel (cb := cb) (a := wE) (by (repeat (first | assumption | exact Bel.refl _ | apply Bel.drewN | apply Bel.drew | apply Bel.alloc | refine Bel.trans ?_ (by assumption))))).trans hdL; have hcL : Cur wL cb C (moreL C NA st).2 := hcL; have lc := (by first | exact hdL.cell lc (by omega) | exact lc); have lca := fun o => ((Bel.refl wL).alloc o).cell lc; have hdaL := ((hdB.trans hdE).trans hdL); have HBPL := Lib.hid (HBPa.out.dr hdaL (by omega)); have hszL := hdaL.size; have HDL := Lib.hid (hda.trans hdaL); have HCL := Lib.hid hcL; have HML := Lib.hid (hmA.dr hdaL (by omega) (by omega)))
                try go_wp2_with fail
                refine hK.out _ _ ?_ (fun hHeld => ?_)
                · ((try dsimp only); exact Lib.hid trivial)
                clear hK K
                try walk_nrm
                refine wpAnyH_take (i := 16) (v := ?_) rfl (by kernel_rfl) (by kernel_rfl) (by kernel_rfl) (fun _ _ _ h => h) (Or.inl ⟨by rfl, ?_⟩) (by assumption) ?_
                rotate_left
                · (intro w hSw; (try dsimp only at hSw); go_simp <;> with_reducible rfl)
                try walk_nrm
                refine wpAnyH_take (i := 17) (v := ?_) rfl (by kernel_rfl) (by kernel_rfl) (by kernel_rfl) (fun _ _ _ h => h) (Or.inl ⟨by rfl, ?_⟩) (by assumption) ?_
                rotate_left
                · (intro w hSw; (try dsimp only at hSw); go_simp <;> with_reducible rfl)
                try walk_nrm
                refine wpAnyH_ready (rs := [18]) (by kernel_rfl) (by simp) ?_
                refine AllReadyH.cons rfl (fun K hK => ?_) AllReadyH.nil
                · go_simp
                  refine hK.out _ _ ?_ (fun hHeld => ?_)
                  · ((try dsimp only); exact Lib.hid trivial)
                  clear hK K
                  try walk_nrm
                  refine wpAnyH_ready (rs := [19]) (by kernel_rfl) (by simp) ?_
                  refine AllReadyH.cons rfl (fun K hK => ?_) AllReadyH.nil
                  · (refine step_appG (o := ⟨some 44, _, _, _, _, _⟩) (n := 4) linkR_good _ (by rfl) _ _ 31 (by rfl) (.agg #[.int .i64 0, .int .i64 0, .bool false, .int .i64 0]) 32 Try.underlying31 (by kernel_rfl) rfl (by decide) (by decide) Q KC LS ((A, (A + 1 + Bn) % (NA : Int), E, Ln - 4)) (by rfl) (hOa.hi linkR_good ((Hi.ofDr hdaL (by omega)).trans (Hi.ofBel (by (repeat (first | assumption | exact Bel.refl _ | apply Bel.drewN | apply Bel.drew | apply Bel.alloc | refine Bel.trans ?_ (by assumption)))))) (fun _ h => h.elim)) _ 1 [.int .i64 A, .int .i64 ((A + 1 + Bn) % (NA : Int)), .bool E, .int .i64 (Ln - 4)] (by rfl) rfl (World.news_of_block (alloc_at (by first | rfl | (simp; done) | (simp; omega)))) (by intro u hu; simp at hu; rcases hu with rfl | rfl | rfl | rfl <;> rfl) (HREP.out _ _) (by omega) (by first | omega | (simp; omega)) ?_; intro q' cap' wA hOA hBA hFA; have HO2 := Lib.hid hOA; have HBX := Lib.hid ((HBPL.out.alloc (.cells #[.int .i64 A, .int .i64 ((A + 1 + Bn) % (NA : Int)), .bool E, .int .i64 (Ln - 4)] 70)).below2 hFA (by have := HBPL.out.lt; simp; omega) (fun a ha => by have := HQP.out a ha; omega)); have HBRx := Lib.hid (((HBRa.out.dr hdaL (by omega)).alloc (.cells #[.int .i64 A, .int .i64 ((A + 1 + Bn) % (NA : Int)), .bool E, .int .i64 (Ln - 4)] 70)).below hBA (by omega)); have y2 := HBX.out.cellv (j := 2) (by simp); have fy2 := HBX.out.frozen 2; simp only [List.getElem_cons_zero, List.getElem_cons_succ] at y2; have hCA := Lib.hid ((HCL.out.bel (w' := wL.alloc (.cells #[.int .i64 A, .int .i64 ((A + 1 + Bn) % (NA : Int)), .bool E, .int .i64 (Ln - 4)] 70)) (by (repeat (first | assumption | exact Bel.refl _ | apply Bel.drewN | apply Bel.drew | apply Bel.alloc | refine Bel.trans ?_ (by assumption))))).below hBA (by omega)); have hDA := Lib.hid ((HDL.out.alloc (.cells #[.int .i64 A, .int .i64 ((A + 1 + Bn) % (NA : Int)), .bool E, .int .i64 (Ln - 4)] 70)).below' hBA (by omega)); have hMA := Lib.hid ((HML.out.bel (c := wL.alloc (.cells #[.int .i64 A, .int .i64 ((A + 1 + Bn) % (NA : Int)), .bool E, .int .i64 (Ln - 4)] 70)) (by (repeat (first | assumption | exact Bel.refl _ | apply Bel.drewN | apply Bel.drew | apply Bel.alloc | refine Bel.trans ?_ (by assumption)))) (by omega)).below hBA); have HQP2 := Lib.hid (fun a ha => (hFA BP (by have := HBPL.out.lt; simp; omega) (fun a' ha' hh => HQP.out a' ha' hh)).2 a ha); have hzA := (show wL.heap.size ≤ wA.heap.size from (by have := hBA.size; (try simp only [World.size_alloc] at this); omega)); clear hOA hBA hFA)
                    refine hK.out _ _ ?_ (fun hHeld => ?_)
                    · ((try dsimp only); exact Lib.hid trivial)
                    clear hK K
                    try walk_nrm
                    refine wpAnyH_take (i := 20) (v := ?_) rfl (by kernel_rfl) (by kernel_rfl) (by kernel_rfl) (fun _ _ _ h => h) (Or.inl ⟨by rfl, ?_⟩) (by assumption) ?_
                    rotate_left
                    · (intro w hSw; (try dsimp only at hSw); go_simp <;> with_reducible rfl)
                    try walk_nrm
                    refine wpAnyH_ready (rs := [21]) (by kernel_rfl) (by simp) ?_
                    refine AllReadyH.cons rfl (fun K hK => ?_) AllReadyH.nil
                    · go_simp
                      refine hK.out _ _ ?_ (fun hHeld => ?_)
                      · ((try dsimp only); exact Lib.hid trivial)
                      clear hK K
                      try walk_nrm
                      refine wpAnyH_done (by kernel_rfl) ?_ _
                      go_wp2_with fail
                      go_roundw
                      case rel => exact ⟨n, LS ++ [(A, (A + 1 + Bn) % (NA : Int), E, Ln - 4)], _, q', cap', by go_num, by simp; omega, by rw [List.length_append]; exact HBX.out.set 2 _, HBRx.out.setAt (by omega) 2 _, HO2.out.row linkR_good (fun a ha => Below.heap_setCell _ _ _ _ (fun hh => HQP2.out a ha hh.symm)), fun a ha hh => HQP2.out a ha hh, hCA.out.stay (fun b hb => Below.heap_setCell _ _ _ _ (show b ≠ BP by omega)), HEQ.out, hDA.out.set _ (by omega), hMA.out.set _ (.inr (by omega)), by simp [World.setCell]; omega⟩
                      case measure => (simp [intOf] <;> omega)
          refine AllReadyH.cons rfl (fun K hK => ?_) AllReadyH.nil
          · go_simp
            (go_at_call 141; (with_reducible refine (l01Once_any cb C (moreB C NA st).2 2 _ (hcB.bel (by (repeat (first | assumption | exact Bel.refl _ | apply Bel.drewN | apply Bel.drew | apply Bel.alloc | refine Bel.trans ?_ (by assumption))))) (by omega)).mono ?_); rintro e wE ⟨rfl, hcE, hdE⟩; rw [HEQE.out]; have hdE := (Dr.ofBel (cb := cb) (a := wB) (by (repeat (first | assumption | exact Bel.refl _ | apply Bel.drewN | apply Bel.drew | apply Bel.alloc | refine Bel.trans ?_ (by assumption))))).trans hdE; have hcE : Cur wE cb C (moreE C NA st).2 := hcE; have lc := (by first | exact hdE.cell lc (by omega) | exact lc))
            try go_wp2_with fail
            refine hK.out _ _ ?_ (fun hHeld => ?_)
            · ((try dsimp only); exact Lib.hid trivial)
            clear hK K
            try walk_nrm
            refine wpAnyH_ready (rs := [1, 15]) (by kernel_rfl) (by simp) ?_
            refine AllReadyH.cons rfl (fun K hK => ?_) ?_
            · go_simp
              refine hK.out _ _ ?_ (fun hHeld => ?_)
              · ((try dsimp only); exact Lib.hid trivial)
              clear hK K
              try walk_nrm
              refine wpAnyH_ready (rs := [15]) (by kernel_rfl) (by simp) ?_
              refine AllReadyH.cons rfl (fun K hK => ?_) AllReadyH.nil
              · go_simp
                (go_at_call 139; (with_reducible refine (l01Below_any cb C (moreE C NA st).2 8 _ (hcE.bel (by (repeat (first | assumption | exact Bel.refl _ | apply Bel.drewN | apply Bel.drew | apply Bel.alloc | refine Bel.trans ?_ (by assumption))))) (by omega)).mono ?_); rintro e wL ⟨rfl, hcL, hdL⟩; rw [HLQ.out]; have hdL := (Dr.ofBel (cb := cb) (a := wE) (by (repeat (first | assumption | exact Bel.refl _ | apply Bel.drewN | apply Bel.drew | apply Bel.alloc | refine Bel.trans ?_ (by assumption))))).trans hdL; have hcL : Cur wL cb C (moreL C NA st).2 := hcL; have lc := (by first | exact hdL.cell lc (by omega) | exact lc); have lca := fun o => ((Bel.refl wL).alloc o).cell lc; have hdaL := ((hdB.trans hdE).trans hdL); have HBPL := Lib.hid (HBPa.out.dr hdaL (by omega)); have hszL := hdaL.size; have HDL := Lib.hid (hda.trans hdaL); have HCL := Lib.hid hcL; have HML := Lib.hid (hmA.dr hdaL (by omega) (by omega)))
                try go_wp2_with fail
                refine hK.out _ _ ?_ (fun hHeld => ?_)
                · ((try dsimp only); exact Lib.hid trivial)
                clear hK K
                try walk_nrm
                refine wpAnyH_take (i := 16) (v := ?_) rfl (by kernel_rfl) (by kernel_rfl) (by kernel_rfl) (fun _ _ _ h => h) (Or.inl ⟨by rfl, ?_⟩) (by assumption) ?_
                rotate_left
                · (intro w hSw; (try dsimp only at hSw); go_simp <;> with_reducible rfl)
                try walk_nrm
                refine wpAnyH_take (i := 17) (v := ?_) rfl (by kernel_rfl) (by kernel_rfl) (by kernel_rfl) (fun _ _ _ h => h) (Or.inl ⟨by rfl, ?_⟩) (by assumption) ?_
                rotate_left
                · (intro w hSw; (try dsimp only at hSw); go_simp <;> with_reducible rfl)
                try walk_nrm
                refine wpAnyH_ready (rs := [18]) (by kernel_rfl) (by simp) ?_
                refine AllReadyH.cons rfl (fun K hK => ?_) AllReadyH.nil
                · go_simp
                  refine hK.out _ _ ?_ (fun hHeld => ?_)
                  · ((try dsimp only); exact Lib.hid trivial)
                  clear hK K
                  try walk_nrm
                  refine wpAnyH_ready (rs := [19]) (by kernel_rfl) (by simp) ?_
                  refine AllReadyH.cons rfl (fun K hK => ?_) AllReadyH.nil
                  · (refine step_appG (o := ⟨some 44, _, _, _, _, _⟩) (n := 4) linkR_good _ (by rfl) _ _ 31 (by rfl) (.agg #[.int .i64 0, .int .i64 0, .bool false, .int .i64 0]) 32 Try.underlying31 (by kernel_rfl) rfl (by decide) (by decide) Q KC LS ((A, (A + 1 + Bn) % (NA : Int), E, Ln - 4)) (by rfl) (hOa.hi linkR_good ((Hi.ofDr hdaL (by omega)).trans (Hi.ofBel (by (repeat (first | assumption | exact Bel.refl _ | apply Bel.drewN | apply Bel.drew | apply Bel.alloc | refine Bel.trans ?_ (by assumption)))))) (fun _ h => h.elim)) _ 1 [.int .i64 A, .int .i64 ((A + 1 + Bn) % (NA : Int)), .bool E, .int .i64 (Ln - 4)] (by rfl) rfl (World.news_of_block (alloc_at (by first | rfl | (simp; done) | (simp; omega)))) (by intro u hu; simp at hu; rcases hu with rfl | rfl | rfl | rfl <;> rfl) (HREP.out _ _) (by omega) (by first | omega | (simp; omega)) ?_; intro q' cap' wA hOA hBA hFA; have HO2 := Lib.hid hOA; have HBX := Lib.hid ((HBPL.out.alloc (.cells #[.int .i64 A, .int .i64 ((A + 1 + Bn) % (NA : Int)), .bool E, .int .i64 (Ln - 4)] 70)).below2 hFA (by have := HBPL.out.lt; simp; omega) (fun a ha => by have := HQP.out a ha; omega)); have HBRx := Lib.hid (((HBRa.out.dr hdaL (by omega)).alloc (.cells #[.int .i64 A, .int .i64 ((A + 1 + Bn) % (NA : Int)), .bool E, .int .i64 (Ln - 4)] 70)).below hBA (by omega)); have y2 := HBX.out.cellv (j := 2) (by simp); have fy2 := HBX.out.frozen 2; simp only [List.getElem_cons_zero, List.getElem_cons_succ] at y2; have hCA := Lib.hid ((HCL.out.bel (w' := wL.alloc (.cells #[.int .i64 A, .int .i64 ((A + 1 + Bn) % (NA : Int)), .bool E, .int .i64 (Ln - 4)] 70)) (by (repeat (first | assumption | exact Bel.refl _ | apply Bel.drewN | apply Bel.drew | apply Bel.alloc | refine Bel.trans ?_ (by assumption))))).below hBA (by omega)); have hDA := Lib.hid ((HDL.out.alloc (.cells #[.int .i64 A, .int .i64 ((A + 1 + Bn) % (NA : Int)), .bool E, .int .i64 (Ln - 4)] 70)).below' hBA (by omega)); have hMA := Lib.hid ((HML.out.bel (c := wL.alloc (.cells #[.int .i64 A, .int .i64 ((A + 1 + Bn) % (NA : Int)), .bool E, .int .i64 (Ln - 4)] 70)) (by (repeat (first | assumption | exact Bel.refl _ | apply Bel.drewN | apply Bel.drew | apply Bel.alloc | refine Bel.trans ?_ (by assumption)))) (by omega)).below hBA); have HQP2 := Lib.hid (fun a ha => (hFA BP (by have := HBPL.out.lt; simp; omega) (fun a' ha' hh => HQP.out a' ha' hh)).2 a ha); have hzA := (show wL.heap.size ≤ wA.heap.size from (by have := hBA.size; (try simp only [World.size_alloc] at this); omega)); clear hOA hBA hFA)
                    refine hK.out _ _ ?_ (fun hHeld => ?_)
                    · ((try dsimp only); exact Lib.hid trivial)
                    clear hK K
                    try walk_nrm
                    refine wpAnyH_take (i := 20) (v := ?_) rfl (by kernel_rfl) (by kernel_rfl) (by kernel_rfl) (fun _ _ _ h => h) (Or.inl ⟨by rfl, ?_⟩) (by assumption) ?_
                    rotate_left
                    · (intro w hSw; (try dsimp only at hSw); go_simp <;> with_reducible rfl)
                    try walk_nrm
                    refine wpAnyH_ready (rs := [21]) (by kernel_rfl) (by simp) ?_
                    refine AllReadyH.cons rfl (fun K hK => ?_) AllReadyH.nil
                    · go_simp
                      refine hK.out _ _ ?_ (fun hHeld => ?_)
                      · ((try dsimp only); exact Lib.hid trivial)
                      clear hK K
                      try walk_nrm
                      refine wpAnyH_done (by kernel_rfl) ?_ _
                      go_wp2_with fail
                      go_roundw
                      case rel => exact ⟨n, LS ++ [(A, (A + 1 + Bn) % (NA : Int), E, Ln - 4)], _, q', cap', by go_num, by simp; omega, by rw [List.length_append]; exact HBX.out.set 2 _, HBRx.out.setAt (by omega) 2 _, HO2.out.row linkR_good (fun a ha => Below.heap_setCell _ _ _ _ (fun hh => HQP2.out a ha hh.symm)), fun a ha hh => HQP2.out a ha hh, hCA.out.stay (fun b hb => Below.heap_setCell _ _ _ _ (show b ≠ BP by omega)), HEQ.out, hDA.out.set _ (by omega), hMA.out.set _ (.inr (by omega)), by simp [World.setCell]; omega⟩
                      case measure => (simp [intOf] <;> omega)
            refine AllReadyH.cons rfl (fun K hK => ?_) AllReadyH.nil
            · go_simp
              (go_at_call 139; (with_reducible refine (l01Below_any cb C (moreE C NA st).2 8 _ (hcE.bel (by (repeat (first | assumption | exact Bel.refl _ | apply Bel.drewN | apply Bel.drew | apply Bel.alloc | refine Bel.trans ?_ (by assumption))))) (by omega)).mono ?_); rintro e wL ⟨rfl, hcL, hdL⟩; rw [HLQ.out]; have hdL := (Dr.ofBel (cb := cb) (a := wE) (by (repeat (first | assumption | exact Bel.refl _ | apply Bel.drewN | apply Bel.drew | apply Bel.alloc | refine Bel.trans ?_ (by assumption))))).trans hdL; have hcL : Cur wL cb C (moreL C NA st).2 := hcL; have lc := (by first | exact hdL.cell lc (by omega) | exact lc); have lca := fun o => ((Bel.refl wL).alloc o).cell lc; have hdaL := ((hdB.trans hdE).trans hdL); have HBPL := Lib.hid (HBPa.out.dr hdaL (by omega)); have hszL := hdaL.size; have HDL := Lib.hid (hda.trans hdaL); have HCL := Lib.hid hcL; have HML := Lib.hid (hmA.dr hdaL (by omega) (by omega)))
              try go_wp2_with fail
              refine hK.out _ _ ?_ (fun hHeld => ?_)
              · ((try dsimp only); exact Lib.hid trivial)
              clear hK K
              try walk_nrm
              refine wpAnyH_take (i := 16) (v := ?_) rfl (by kernel_rfl) (by kernel_rfl) (by kernel_rfl) (fun _ _ _ h => h) (Or.inl ⟨by rfl, ?_⟩) (by assumption) ?_
              rotate_left
              · (intro w hSw; (try dsimp only at hSw); go_simp <;> with_reducible rfl)
              try walk_nrm
              refine wpAnyH_take (i := 17) (v := ?_) rfl (by kernel_rfl) (by kernel_rfl) (by kernel_rfl) (fun _ _ _ h => h) (Or.inl ⟨by rfl, ?_⟩) (by assumption) ?_
              rotate_left
              · (intro w hSw; (try dsimp only at hSw); go_simp <;> with_reducible rfl)
              try walk_nrm
              refine wpAnyH_ready (rs := [1, 18]) (by kernel_rfl) (by simp) ?_
              refine AllReadyH.cons rfl (fun K hK => ?_) ?_
              · go_simp
                refine hK.out _ _ ?_ (fun hHeld => ?_)
                · ((try dsimp only); exact Lib.hid trivial)
                clear hK K
                try walk_nrm
                refine wpAnyH_ready (rs := [18]) (by kernel_rfl) (by simp) ?_
                refine AllReadyH.cons rfl (fun K hK => ?_) AllReadyH.nil
                · go_simp
                  refine hK.out _ _ ?_ (fun hHeld => ?_)
                  · ((try dsimp only); exact Lib.hid trivial)
                  clear hK K
                  try walk_nrm
                  refine wpAnyH_ready (rs := [19]) (by kernel_rfl) (by simp) ?_
                  refine AllReadyH.cons rfl (fun K hK => ?_) AllReadyH.nil
                  · (refine step_appG (o := ⟨some 44, _, _, _, _, _⟩) (n := 4) linkR_good _ (by rfl) _ _ 31 (by rfl) (.agg #[.int .i64 0, .int .i64 0, .bool false, .int .i64 0]) 32 Try.underlying31 (by kernel_rfl) rfl (by decide) (by decide) Q KC LS ((A, (A + 1 + Bn) % (NA : Int), E, Ln - 4)) (by rfl) (hOa.hi linkR_good ((Hi.ofDr hdaL (by omega)).trans (Hi.ofBel (by (repeat (first | assumption | exact Bel.refl _ | apply Bel.drewN | apply Bel.drew | apply Bel.alloc | refine Bel.trans ?_ (by assumption)))))) (fun _ h => h.elim)) _ 1 [.int .i64 A, .int .i64 ((A + 1 + Bn) % (NA : Int)), .bool E, .int .i64 (Ln - 4)] (by rfl) rfl (World.news_of_block (alloc_at (by first | rfl | (simp; done) | (simp; omega)))) (by intro u hu; simp at hu; rcases hu with rfl | rfl | rfl | rfl <;> rfl) (HREP.out _ _) (by omega) (by first | omega | (simp; omega)) ?_; intro q' cap' wA hOA hBA hFA; have HO2 := Lib.hid hOA; have HBX := Lib.hid ((HBPL.out.alloc (.cells #[.int .i64 A, .int .i64 ((A + 1 + Bn) % (NA : Int)), .bool E, .int .i64 (Ln - 4)] 70)).below2 hFA (by have := HBPL.out.lt; simp; omega) (fun a ha => by have := HQP.out a ha; omega)); have HBRx := Lib.hid (((HBRa.out.dr hdaL (by omega)).alloc (.cells #[.int .i64 A, .int .i64 ((A + 1 + Bn) % (NA : Int)), .bool E, .int .i64 (Ln - 4)] 70)).below hBA (by omega)); have y2 := HBX.out.cellv (j := 2) (by simp); have fy2 := HBX.out.frozen 2; simp only [List.getElem_cons_zero, List.getElem_cons_succ] at y2; have hCA := Lib.hid ((HCL.out.bel (w' := wL.alloc (.cells #[.int .i64 A, .int .i64 ((A + 1 + Bn) % (NA : Int)), .bool E, .int .i64 (Ln - 4)] 70)) (by (repeat (first | assumption | exact Bel.refl _ | apply Bel.drewN | apply Bel.drew | apply Bel.alloc | refine Bel.trans ?_ (by assumption))))).below hBA (by omega)); have hDA := Lib.hid ((HDL.out.alloc (.cells #[.int .i64 A, .int .i64 ((A + 1 + Bn) % (NA : Int)), .bool E, .int .i64 (Ln - 4)] 70)).below' hBA (by omega)); have hMA := Lib.hid ((HML.out.bel (c := wL.alloc (.cells #[.int .i64 A, .int .i64 ((A + 1 + Bn) % (NA : Int)), .bool E, .int .i64 (Ln - 4)] 70)) (by (repeat (first | assumption | exact Bel.refl _ | apply Bel.drewN | apply Bel.drew | apply Bel.alloc | refine Bel.trans ?_ (by assumption)))) (by omega)).below hBA); have HQP2 := Lib.hid (fun a ha => (hFA BP (by have := HBPL.out.lt; simp; omega) (fun a' ha' hh => HQP.out a' ha' hh)).2 a ha); have hzA := (show wL.heap.size ≤ wA.heap.size from (by have := hBA.size; (try simp only [World.size_alloc] at this); omega)); clear hOA hBA hFA)
                    refine hK.out _ _ ?_ (fun hHeld => ?_)
                    · ((try dsimp only); exact Lib.hid trivial)
                    clear hK K
                    try walk_nrm
                    refine wpAnyH_take (i := 20) (v := ?_) rfl (by kernel_rfl) (by kernel_rfl) (by kernel_rfl) (fun _ _ _ h => h) (Or.inl ⟨by rfl, ?_⟩) (by assumption) ?_
                    rotate_left
                    · (intro w hSw; (try dsimp only at hSw); go_simp <;> with_reducible rfl)
                    try walk_nrm
                    refine wpAnyH_ready (rs := [21]) (by kernel_rfl) (by simp) ?_
                    refine AllReadyH.cons rfl (fun K hK => ?_) AllReadyH.nil
                    · go_simp
                      refine hK.out _ _ ?_ (fun hHeld => ?_)
                      · ((try dsimp only); exact Lib.hid trivial)
                      clear hK K
                      try walk_nrm
                      refine wpAnyH_done (by kernel_rfl) ?_ _
                      go_wp2_with fail
                      go_roundw
                      case rel => exact ⟨n, LS ++ [(A, (A + 1 + Bn) % (NA : Int), E, Ln - 4)], _, q', cap', by go_num, by simp; omega, by rw [List.length_append]; exact HBX.out.set 2 _, HBRx.out.setAt (by omega) 2 _, HO2.out.row linkR_good (fun a ha => Below.heap_setCell _ _ _ _ (fun hh => HQP2.out a ha hh.symm)), fun a ha hh => HQP2.out a ha hh, hCA.out.stay (fun b hb => Below.heap_setCell _ _ _ _ (show b ≠ BP by omega)), HEQ.out, hDA.out.set _ (by omega), hMA.out.set _ (.inr (by omega)), by simp [World.setCell]; omega⟩
                      case measure => (simp [intOf] <;> omega)
              refine AllReadyH.cons rfl (fun K hK => ?_) AllReadyH.nil
              · go_simp
                refine hK.out _ _ ?_ (fun hHeld => ?_)
                · ((try dsimp only); exact Lib.hid trivial)
                clear hK K
                try walk_nrm
                refine wpAnyH_ready (rs := [1]) (by kernel_rfl) (by simp) ?_
                refine AllReadyH.cons rfl (fun K hK => ?_) AllReadyH.nil
                · go_simp
                  refine hK.out _ _ ?_ (fun hHeld => ?_)
                  · ((try dsimp only); exact Lib.hid trivial)
                  clear hK K
                  try walk_nrm
                  refine wpAnyH_ready (rs := [19]) (by kernel_rfl) (by simp) ?_
                  refine AllReadyH.cons rfl (fun K hK => ?_) AllReadyH.nil
                  · (refine step_appG (o := ⟨some 44, _, _, _, _, _⟩) (n := 4) linkR_good _ (by rfl) _ _ 31 (by rfl) (.agg #[.int .i64 0, .int .i64 0, .bool false, .int .i64 0]) 32 Try.underlying31 (by kernel_rfl) rfl (by decide) (by decide) Q KC LS ((A, (A + 1 + Bn) % (NA : Int), E, Ln - 4)) (by rfl) (hOa.hi linkR_good ((Hi.ofDr hdaL (by omega)).trans (Hi.ofBel (by (repeat (first | assumption | exact Bel.refl _ | apply Bel.drewN | apply Bel.drew | apply Bel.alloc | refine Bel.trans ?_ (by assumption)))))) (fun _ h => h.elim)) _ 1 [.int .i64 A, .int .i64 ((A + 1 + Bn) % (NA : Int)), .bool E, .int .i64 (Ln - 4)] (by rfl) rfl (World.news_of_block (alloc_at (by first | rfl | (simp; done) | (simp; omega)))) (by intro u hu; simp at hu; rcases hu with rfl | rfl | rfl | rfl <;> rfl) (HREP.out _ _) (by omega) (by first | omega | (simp; omega)) ?_; intro q' cap' wA hOA hBA hFA; have HO2 := Lib.hid hOA; have HBX := Lib.hid ((HBPL.out.alloc (.cells #[.int .i64 A, .int .i64 ((A + 1 + Bn) % (NA : Int)), .bool E, .int .i64 (Ln - 4)] 70)).below2 hFA (by have := HBPL.out.lt; simp; omega) (fun a ha => by have := HQP.out a ha; omega)); have HBRx := Lib.hid (((HBRa.out.dr hdaL (by omega)).alloc (.cells #[.int .i64 A, .int .i64 ((A + 1 + Bn) % (NA : Int)), .bool E, .int .i64 (Ln - 4)] 70)).below hBA (by omega)); have y2 := HBX.out.cellv (j := 2) (by simp); have fy2 := HBX.out.frozen 2; simp only [List.getElem_cons_zero, List.getElem_cons_succ] at y2; have hCA := Lib.hid ((HCL.out.bel (w' := wL.alloc (.cells #[.int .i64 A, .int .i64 ((A + 1 + Bn) % (NA : Int)), .bool E, .int .i64 (Ln - 4)] 70)) (by (repeat (first | assumption | exact Bel.refl _ | apply Bel.drewN | apply Bel.drew | apply Bel.alloc | refine Bel.trans ?_ (by assumption))))).below hBA (by omega)); have hDA := Lib.hid ((HDL.out.alloc (.cells #[.int .i64 A, .int .i64 ((A + 1 + Bn) % (NA : Int)), .bool E, .int .i64 (Ln - 4)] 70)).below' hBA (by omega)); have hMA := Lib.hid ((HML.out.bel (c := wL.alloc (.cells #[.int .i64 A, .int .i64 ((A + 1 + Bn) % (NA : Int)), .bool E, .int .i64 (Ln - 4)] 70)) (by (repeat (first | assumption | exact Bel.refl _ | apply Bel.drewN | apply Bel.drew | apply Bel.alloc | refine Bel.trans ?_ (by assumption)))) (by omega)).below hBA); have HQP2 := Lib.hid (fun a ha => (hFA BP (by have := HBPL.out.lt; simp; omega) (fun a' ha' hh => HQP.out a' ha' hh)).2 a ha); have hzA := (show wL.heap.size ≤ wA.heap.size from (by have := hBA.size; (try simp only [World.size_alloc] at this); omega)); clear hOA hBA hFA)
                    refine hK.out _ _ ?_ (fun hHeld => ?_)
                    · ((try dsimp only); exact Lib.hid trivial)
                    clear hK K
                    try walk_nrm
                    refine wpAnyH_take (i := 20) (v := ?_) rfl (by kernel_rfl) (by kernel_rfl) (by kernel_rfl) (fun _ _ _ h => h) (Or.inl ⟨by rfl, ?_⟩) (by assumption) ?_
                    rotate_left
                    · (intro w hSw; (try dsimp only at hSw); go_simp <;> with_reducible rfl)
                    try walk_nrm
                    refine wpAnyH_ready (rs := [21]) (by kernel_rfl) (by simp) ?_
                    refine AllReadyH.cons rfl (fun K hK => ?_) AllReadyH.nil
                    · go_simp
                      refine hK.out _ _ ?_ (fun hHeld => ?_)
                      · ((try dsimp only); exact Lib.hid trivial)
                      clear hK K
                      try walk_nrm
                      refine wpAnyH_done (by kernel_rfl) ?_ _
                      go_wp2_with fail
                      go_roundw
                      case rel => exact ⟨n, LS ++ [(A, (A + 1 + Bn) % (NA : Int), E, Ln - 4)], _, q', cap', by go_num, by simp; omega, by rw [List.length_append]; exact HBX.out.set 2 _, HBRx.out.setAt (by omega) 2 _, HO2.out.row linkR_good (fun a ha => Below.heap_setCell _ _ _ _ (fun hh => HQP2.out a ha hh.symm)), fun a ha hh => HQP2.out a ha hh, hCA.out.stay (fun b hb => Below.heap_setCell _ _ _ _ (show b ≠ BP by omega)), HEQ.out, hDA.out.set _ (by omega), hMA.out.set _ (.inr (by omega)), by simp [World.setCell]; omega⟩
                      case measure => (simp [intOf] <;> omega)

set_option maxHeartbeats 2000000 in
theorem MakeLoops_any (v : Value) (C : List Int) (S : Nat → Prop) (w : World) (hx : bytesR S w [v] C) (hS : ∀ b, S b → b < w.heap.size) (hl : C.length ≤ 1048576) :
    Calls Try.prog 32 #[v] w (FreshA projR w (loopsP C (newV C)).1) := by
  have HX := Lib.hid (bytesR_good.bel hx ((Bel.refl w).alloc (.cells #[.int .i64 0, .slice none 0 0, .slice none 0 0, .slice none 0 0, .slice none 0 0] 34)) hS)
  have HS := Lib.hid (show ∀ b, S b → b < (w.alloc (.cells #[.int .i64 0, .slice none 0 0, .slice none 0 0, .slice none 0 0, .slice none 0 0] 34)).heap.size from fun b hb => by have := hS b hb; simp; omega)
  have HBR := Lib.hid (Blk.new' (w := w) (e := 34) [.int .i64 0, .slice none 0 0, .slice none 0 0, .slice none 0 0, .slice none 0 0] rfl)
  clear hx hS
  go_enter Try.func32, Try.ntmps32
  go_wp2_with fail
  refine (l01New_any v C S _ HX.out HS.out hl).mono ?_
  rintro e w1 ⟨cb, rfl, hcb, hc1, g1⟩
  have HBR1 := Lib.hid (HBR.out.bel g1)
  have hz1 := HBR1.out.lt
  have G1 : Bel w w1 := by (repeat (first | assumption | exact Bel.refl _ | apply Bel.drewN | apply Bel.drew | apply Bel.alloc | refine Bel.trans ?_ (by assumption)))
  have hcb' : w.heap.size + 1 ≤ cb := by simpa using hcb
  go_wp2_with fail
  refine (l07Loops_any cb C (newV C) _ hc1).mono ?_
  rintro e w2 ⟨cs, rfl, hr, hc2, hd2⟩
  have HBR2 := Lib.hid (HBR1.out.dr hd2 (by omega))
  have HG := Lib.hid (hd2.bel G1 (by omega))
  have HR := Lib.hid hr
  have hsz1 := hc1.lt
  obtain ⟨X, hX⟩ : ∃ X, (loopsP C (newV C)).1 = X := ⟨_, rfl⟩
  rw [hX] at hr HR
  have HXQ := Lib.hid hX
  obtain ⟨x1, x2, x3, x4, rfl, q0, q1, q2, q3, q4⟩ := projR_open hr
  obtain ⟨p1, k1, rfl, -⟩ := sliceR_open q1
  obtain ⟨p2, k2, rfl, -⟩ := sliceR_open q2
  obtain ⟨p3, k3, rfl, -⟩ := sliceR_open q3
  obtain ⟨p4, k4, rfl, -⟩ := sliceR_open q4
  have r0 := HBR2.out.cellv (j := 0) (by simp)
  have r1 := HBR2.out.cellv (j := 1) (by simp)
  have r2 := HBR2.out.cellv (j := 2) (by simp)
  have r3 := HBR2.out.cellv (j := 3) (by simp)
  have r4 := HBR2.out.cellv (j := 4) (by simp)
  simp only [List.getElem_cons_zero, List.getElem_cons_succ] at r0 r1 r2 r3 r4
  have fr0 := HBR2.out.frozen 0
  have fr1 := HBR2.out.frozen 1
  have fr2 := HBR2.out.frozen 2
  have fr3 := HBR2.out.frozen 3
  have fr4 := HBR2.out.frozen 4
  clear hr q0 q1 q2 q3 q4 hc1 hc2 hd2 hX hcb
  go_wp2_with fail
  have HBW := Lib.hid ((((((Below.refl (w.heap.size) w2).setCell (p := ⟨w.heap.size, 0, none⟩) (Nat.le_refl _) (.int .i64 X.1)).setCell (p := ⟨w.heap.size, 1, none⟩) (Nat.le_refl _) (.slice p1 X.2.1.length k1)).setCell (p := ⟨w.heap.size, 2, none⟩) (Nat.le_refl _) (.slice p2 X.2.2.1.length k2)).setCell (p := ⟨w.heap.size, 3, none⟩) (Nat.le_refl _) (.slice p3 X.2.2.2.1.length k3)).setCell (p := ⟨w.heap.size, 4, none⟩) (Nat.le_refl _) (.slice p4 X.2.2.2.2.length k4))
  have HIF := Lib.hid ((((((Hi.refl (w.heap.size + 1) w2).set (q := w.heap.size) (j := 0) (.int .i64 X.1) (.inl (by omega))).set (q := w.heap.size) (j := 1) (.slice p1 X.2.1.length k1) (.inl (by omega))).set (q := w.heap.size) (j := 2) (.slice p2 X.2.2.1.length k2) (.inl (by omega))).set (q := w.heap.size) (j := 3) (.slice p3 X.2.2.2.1.length k3) (.inl (by omega))).set (q := w.heap.size) (j := 4) (.slice p4 X.2.2.2.2.length k4) (.inl (by omega)))
  have HBF := Lib.hid (((((HBR2.out.set 0 (.int .i64 X.1)).set 1 (.slice p1 X.2.1.length k1)).set 2 (.slice p2 X.2.2.1.length k2)).set 3 (.slice p3 X.2.2.2.1.length k3)).set 4 (.slice p4 X.2.2.2.2.length k4))
  generalize (((((w2.setCell ⟨w.heap.size, 0, none⟩ (.int .i64 X.1)).setCell ⟨w.heap.size, 1, none⟩ (.slice p1 X.2.1.length k1)).setCell ⟨w.heap.size, 2, none⟩ (.slice p2 X.2.2.1.length k2)).setCell ⟨w.heap.size, 3, none⟩ (.slice p3 X.2.2.2.1.length k3)).setCell ⟨w.heap.size, 4, none⟩ (.slice p4 X.2.2.2.2.length k4)) = WF at *
  have c0 := HBF.out.cellv (j := 0) (by simp)
  have c1 := HBF.out.cellv (j := 1) (by simp)
  have c2 := HBF.out.cellv (j := 2) (by simp)
  have c3 := HBF.out.cellv (j := 3) (by simp)
  have c4 := HBF.out.cellv (j := 4) (by simp)
  simp only [List.set_cons_zero, List.set_cons_succ, List.getElem_cons_zero, List.getElem_cons_succ] at c0 c1 c2 c3 c4
  clear HBF
  exact bodyPost_ret (v := .agg #[.int .i64 X.1, .slice p1 X.2.1.length k1, .slice p2 X.2.2.1.length k2, .slice p3 X.2.2.2.1.length k3, .slice p4 X.2.2.2.2.length k4]) (by simp [results, Try.results32, go_sem, c0, c1, c2, c3, c4]) rfl ⟨[.int .i64 X.1, .slice p1 X.2.1.length k1, .slice p2 X.2.2.1.length k2, .slice p3 X.2.2.2.1.length k3, .slice p4 X.2.2.2.2.length k4], rfl, by rw [HXQ.out]; have HR2 := projR_good.stay HR.out (w' := WF) (fun b hb => HIF.out.2 b (by have := hb.1; omega) hb.2); exact projR_good.mono HR2 (fun b hb => ⟨by have := hb.1; omega, by have := hb.2; have := HIF.out.1; omega⟩), by have h1 := HG.out; have h2 := HBW.out; exact Below.trans h1 h2⟩

end Go.Proofs.Ytiaamddhocdhaaa
