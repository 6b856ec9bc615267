/- Draws of activities. -/
import Derived.Test.YtiaamddhocdhaaaDraw2
namespace Go.Proofs.Ytiaamddhocdhaaa
open Go.ChangeShapes Go.WideShapes Go.ChangeAt Go.RowKit
set_option linter.unusedVariables false

/-- The length of the slice that lies in a cell. -/
def lenCell (w : World) (b j : Nat) : Nat := match w.cell? ⟨b, j, none⟩ with | some (.slice _ n _) => n | _ => 0
theorem lenCell_of {w : World} {b j n c : Nat} {p : Option Addr} (h : w.cell? ⟨b, j, none⟩ = some (.slice p n c)) : lenCell w b j = n := by unfold lenCell; rw [h]
theorem Blk.dr {cb : Nat} {w w' : World} {g : Nat} {e : TypeId} {arr : List Value} (h : Blk w g e arr) (hd : Dr cb w w') (hg : g ≠ cb) : Blk w' g e arr := by
  unfold Blk
  rw [hd.block h.lt hg]
  exact h
theorem Blk.below {B : Nat} {w w' : World} {g : Nat} {e : TypeId} {arr : List Value} (h : Blk w g e arr) (hd : Below B w w') (hg : g < B) : Blk w' g e arr := by
  unfold Blk
  rw [Below.block hd g hg]
  exact h
theorem Dr.below' {cb B : Nat} {a b c : World} (h : Dr cb a b) (k : Below B b c) (hB : a.heap.size ≤ B) : Dr cb a c := h.below (Below.mono k hB)
theorem Hi.below' {B D : Nat} {a b c : World} (h : Hi B a b) (k : Below D b c) (hB : a.heap.size ≤ D) : Hi B a c := ⟨Nat.le_trans h.1 k.size, fun i hi hlt => (Below.block k i (by omega)).trans (h.2 i hi hlt)⟩
theorem names_sz : ∀ i : Fin 6, (nameV i).size ≤ 2 := by decide
theorem numsV_next (C : List Int) (n : Nat) (l : List Int) (s : StT) : numsV C (n + 1) l s = numsV C n (l ++ [(belowV C 3 s).1]) (belowV C 3 s).2 := rfl
set_option maxRecDepth 100000 in
set_option maxHeartbeats 4000000 in
theorem l04Draw_any (cb : Nat) (C : List Int) (s : StT) (i r k : Nat) (w : World) (h : Cur w cb C s) (hi : i < 6) (hr : r ≤ 100) (hk : k ≤ 100) :
    Calls Try.prog 143 #[.pointer (some ⟨cb, 0, none⟩), .int .i64 i, .int .i64 r, .int .i64 k] w (DrA actR cb C w (actV C i r k s)) := by
  have HLT := Lib.hid h.lt
  have hc := h
  have hltc := h.lt
  have HBR := Lib.hid (Blk.new' (w := w) (e := 75) [.string ⟨#[]⟩, .int .i64 0, .slice none 0 0] rfl)
  clear h
  go_enter Try.func143, Try.ntmps143
  go_wp2_with fail
  refine (l04Name_any _ i _ hi).mono ?_
  rintro e w1 ⟨rfl, g1⟩
  have G1 : Bel w w1 := by (repeat (first | assumption | exact Bel.refl _ | apply Bel.drewN | apply Bel.drew | apply Bel.alloc | refine Bel.trans ?_ (by assumption)))
  have hc1 := hc.bel G1
  have HBR := Lib.hid (HBR.out.bel g1)
  clear hc
  go_wp2_with fail
  refine (l01Below_any cb C s 2 _ hc1 (by omega)).mono ?_
  rintro e w2 ⟨rfl, hc2, hd2⟩
  have HBR := Lib.hid (HBR.out.dr hd2 (by omega))
  have hlt2 := HBR.out.lt
  have hd2 := (Dr.ofBel (cb := cb) G1).trans hd2
  have hs2 := hd2.size
  have b2 := belowV_in C 2 s (by decide)
  obtain ⟨nm, hnm⟩ : ∃ nm, nameV i = nm := ⟨_, rfl⟩
  obtain ⟨fam, hfam⟩ : ∃ fam, (belowV C 2 s).1 = fam := ⟨_, rfl⟩
  obtain ⟨W2, hW2⟩ : ∃ W, W = w2.alloc (.cells #[.string nm, .int .i64 fam, .slice none 0 0] 75) := ⟨_, rfl⟩
  have HBA := Lib.hid (show Blk W2 w2.heap.size 75 [.string nm, .int .i64 fam, .slice none 0 0] from by rw [hW2]; exact Blk.new' _ rfl)
  have HBR := Lib.hid (show Blk W2 w.heap.size 75 [.string ⟨#[]⟩, .int .i64 0, .slice none 0 0] from by rw [hW2]; exact HBR.out.alloc _)
  have hcW := hc2.bel (w' := W2) (by rw [hW2]; (repeat (first | assumption | exact Bel.refl _ | apply Bel.drewN | apply Bel.drew | apply Bel.alloc | refine Bel.trans ?_ (by assumption))))
  have hdW : Dr cb w W2 := by rw [hW2]; exact hd2.alloc _
  have hzW : W2.heap.size = w2.heap.size + 1 := by rw [hW2]; simp
  rw [hnm, hfam]
  have HNM := Lib.hid hnm
  have HFAM := Lib.hid hfam
  have HW2 := Lib.hid hW2
  clear hc1 hc2 hd2 g1 hnm hfam hW2
  go_wp2_with fail
  rw [← HW2.out]
  have b4 := belowV_in C 4 (belowV C 2 s).2 (by decide)
  refine (l01Below_any cb C _ 4 _ hcW (by omega)).mono ?_
  rintro e w3 ⟨rfl, hc3, hd3⟩
  have HBA := Lib.hid (HBA.out.dr hd3 (by omega))
  have HBR := Lib.hid (HBR.out.dr hd3 (by omega))
  have hdw3 := hdW.trans hd3
  have hz3 := hd3.size
  obtain ⟨BA, hBA⟩ : ∃ n, n = w2.heap.size := ⟨_, rfl⟩
  rw [← hBA] at HBA hzW
  have hBAw : w.heap.size < BA := by omega
  have hq : ((belowV C 4 (belowV C 2 s).2).1).tdiv 2 = (belowV C 4 (belowV C 2 s).2).1 / 2 := Int.tdiv_eq_ediv_of_nonneg b4.1
  obtain ⟨N, hN⟩ : ∃ N : Nat, (belowV C 4 (belowV C 2 s).2).1 / 2 = N := Int.eq_ofNat_of_zero_le (by omega)
  have hN1 : N ≤ 1 := by omega
  have hNN : 1 + ((belowV C 4 (belowV C 2 s).2).1 / 2).toNat = N + 1 := by omega
  have HACT := Lib.hid (show actV C i r k s = ((nm, fam, (modesV C r k (N + 1) [] (belowV C 4 (belowV C 2 s).2).2).1), (modesV C r k (N + 1) [] (belowV C 4 (belowV C 2 s).2).2).2) from by unfold actV; rw [hNN, HNM.out, HFAM.out])
  have hw1 : IntKind.i64.wrap (1 + (N : Int)) = 1 + (N : Int) := IntWalk.i64_in _ (by omega)
  have HNQ := Lib.hid hN
  have HBEQ := Lib.hid hBA
  clear hNN hN hd3 hdW hcW hBA
  rw [← HBEQ.out]
  go_wp2_with fail
  first | rw [hq] | skip
  rw [HNQ.out]
  first | rw [hw1] | skip
  clear hq b2 b4 hw1
  go_loopw [10, 11] (fun kk _ wr => ∃ (n : Nat) (MM : List ModeT) (st : StT) (Q : Option Addr) (Cp : Nat), kk = .int .i64 n ∧ MM.length + n ≤ 2 ∧ Blk wr BA 75 [.string nm, .int .i64 fam, .slice Q MM.length Cp] ∧ Blk wr w.heap.size 75 [.string ⟨#[]⟩, .int .i64 0, .slice none 0 0] ∧ Own (fun b => BA + 1 ≤ b) 3 modeR 176 (BA + 1) wr Q Cp MM ∧ Cur wr cb C st ∧ modesV C r k n MM st = modesV C r k (N + 1) [] (belowV C 4 (belowV C 2 s).2).2 ∧ Dr cb w wr ∧ W2.heap.size ≤ wr.heap.size) (fun kk _ _ => (intOf kk).toNat)
  case atStart => exact ⟨N + 1, [], _, none, 0, by first | go_num | (congr 1; omega), by simp; omega, HBA.out, HBR.out, Own.nil _, hc3, rfl, hdw3, hz3⟩
  case round =>
    clear hc3 hdw3 hz3
    obtain ⟨n, MM, st, Q, Cp, rfl, hmn, hBA', hBR', hO, hc, heq, hd, hzr⟩ := hrel
    have HBA := Lib.hid hBA'
    have HBR := Lib.hid hBR'
    have HEQ := Lib.hid heq
    have hwsz := hd.size
    clear hBA' hBR' heq
    cases n with
    | zero =>
      have HRES := Lib.hid (show modesR (fun b => BA + 1 ≤ b ∧ b < wr.heap.size) wr [.slice Q MM.length Cp] MM from hO.done modeR_good (fun b h1 h2 => ⟨h1, h2⟩) (fun b h1 h2 => ⟨h1, h2⟩))
      have HEQ := Lib.hid (show (MM, st) = modesV C r k (N + 1) [] (belowV C 4 (belowV C 2 s).2).2 from HEQ.out)
      have HC := Lib.hid hc
      have HD := Lib.hid hd
      have a0 := HBA.out.cellv (j := 0) (by simp)
      have a1 := HBA.out.cellv (j := 1) (by simp)
      have a2 := HBA.out.cellv (j := 2) (by simp)
      have r0 := HBR.out.cellv (j := 0) (by simp)
      have r1 := HBR.out.cellv (j := 1) (by simp)
      have r2 := HBR.out.cellv (j := 2) (by simp)
      have f0 := HBR.out.frozen 0
      have f1 := HBR.out.frozen 1
      have f2 := HBR.out.frozen 2
      simp only [List.getElem_cons_zero, List.getElem_cons_succ] at a0 a1 a2 r0 r1 r2
      clear hc hd hO
      go_wp2_with fail
      have HNS := Lib.hid (show nm.size ≤ maxLen from by
        have h1 := names_sz ⟨i, hi⟩
        simp only at h1
        rw [HNM.out] at h1
        unfold maxLen; omega)
      have HBW := Lib.hid ((((Below.refl w.heap.size wr).setCell (p := ⟨w.heap.size, 0, none⟩) (Nat.le_refl _) (.string nm)).setCell (p := ⟨w.heap.size, 1, none⟩) (Nat.le_refl _) (.int .i64 fam)).setCell (p := ⟨w.heap.size, 2, none⟩) (Nat.le_refl _) (.slice Q MM.length Cp))
      have HBF := Lib.hid (((HBR.out.set 0 (.string nm)).set 1 (.int .i64 fam)).set 2 (.slice Q MM.length Cp))
      have HRES := Lib.hid (modesR_good.stay HRES.out (w' := ((wr.setCell ⟨w.heap.size, 0, none⟩ (.string nm)).setCell ⟨w.heap.size, 1, none⟩ (.int .i64 fam)).setCell ⟨w.heap.size, 2, none⟩ (.slice Q MM.length Cp)) (fun b hb => by
        have hne : b ≠ w.heap.size := by have := hb.1; omega
        exact (Below.heap_setCell _ _ _ _ hne).trans ((Below.heap_setCell _ _ _ _ hne).trans (Below.heap_setCell _ _ _ _ hne))))
      have hsz4 : (((wr.setCell ⟨w.heap.size, 0, none⟩ (.string nm)).setCell ⟨w.heap.size, 1, none⟩ (.int .i64 fam)).setCell ⟨w.heap.size, 2, none⟩ (.slice Q MM.length Cp)).heap.size = wr.heap.size := by simp [World.setCell]
      generalize ((wr.setCell ⟨w.heap.size, 0, none⟩ (.string nm)).setCell ⟨w.heap.size, 1, none⟩ (.int .i64 fam)).setCell ⟨w.heap.size, 2, none⟩ (.slice Q MM.length Cp) = WF at *
      have c0 := HBF.out.cellv (j := 0) (by simp)
      have c1 := HBF.out.cellv (j := 1) (by simp)
      have c2 := HBF.out.cellv (j := 2) (by simp)
      simp only [List.set_cons_zero, List.set_cons_succ, List.getElem_cons_zero, List.getElem_cons_succ] at c0 c1 c2
      exact bodyPost_ret (v := .agg #[.string nm, .int .i64 fam, .slice Q MM.length Cp]) (by simp [results, Try.results143, go_sem, c0, c1, c2]) rfl ⟨[.string nm, .int .i64 fam, .slice Q MM.length Cp], rfl, by rw [HACT.out, ← HEQ.out]; exact ⟨_, _, rfl, ⟨rfl, HNS.out⟩, _, _, rfl, intRep (by rw [← HFAM.out]; unfold I64; have := belowV_in C 2 s (by decide); omega), modesR_good.mono HRES.out (fun b hb => ⟨by have := hb.1; omega, by have := hb.2; omega⟩)⟩, by rw [HACT.out, ← HEQ.out]; exact HC.out.below HBW.out HLT.out, HD.out.below' HBW.out (Nat.le_refl _)⟩
    | succ n =>
      have HEQ := Lib.hid (show modesV C r k n (MM ++ [(modeV C r k st).1]) (modeV C r k st).2 = modesV C r k (N + 1) [] (belowV C 4 (belowV C 2 s).2).2 from HEQ.out)
      have hnp : (0 : Int) < ((n + 1 : Nat) : Int) := by omega
      obtain ⟨w0, hw0⟩ : ∃ W, W = wr := ⟨wr, rfl⟩
      subst hw0
      go_wp2_with fail
      refine (l01Below_any cb C st 4 _ hc (by omega)).mono ?_
      rintro e w4 ⟨rfl, hc4, hd4⟩
      have hs4 := hd4.size
      have b4 := belowV_in C 4 st (by decide)
      have HMV := Lib.hid (show modeV C r k st = ((1 + (belowV C 4 st).1, (numsV C r [] (belowV C 4 st).2).1, (numsV C k [] (numsV C r [] (belowV C 4 st).2).2).1), (numsV C k [] (numsV C r [] (belowV C 4 st).2).2).2) from rfl)
      obtain ⟨dur, hdur⟩ : ∃ d, 1 + (belowV C 4 st).1 = d := ⟨_, rfl⟩
      have hwd : IntKind.i64.wrap (1 + (belowV C 4 st).1) = dur := by rw [hdur]; exact IntWalk.i64_in _ (by omega)
      have hdb : 1 ≤ dur ∧ dur ≤ 4 := by omega
      rw [hdur] at HMV
      obtain ⟨st1, hst1⟩ : ∃ x, (belowV C 4 st).2 = x := ⟨_, rfl⟩
      rw [hst1] at hc4 HMV
      obtain ⟨BM, hBM⟩ : ∃ n, n = w4.heap.size := ⟨_, rfl⟩
      obtain ⟨W4, hW4⟩ : ∃ W, W = w4.alloc (.cells #[.int .i64 dur, .slice none 0 0, .slice none 0 0] 176) := ⟨_, rfl⟩
      have HBM := Lib.hid (show Blk W4 BM 176 [.int .i64 dur, .slice none 0 0, .slice none 0 0] from by rw [hW4]; exact Blk.new' _ hBM)
      have hcW := hc4.bel (w' := W4) (by rw [hW4]; (repeat (first | assumption | exact Bel.refl _ | apply Bel.drewN | apply Bel.drew | apply Bel.alloc | refine Bel.trans ?_ (by assumption))))
      have hdW : Dr cb w0 W4 := by rw [hW4]; exact hd4.alloc _
      have hzW4 : W4.heap.size = BM + 1 := by rw [hW4, hBM]; simp
      have hB0 : w0.heap.size ≤ BM := by omega
      have HW4 := Lib.hid hW4
      have HBMQ := Lib.hid hBM
      clear hst1 hd4 hc4 hBM hW4 hc
      go_wp2_with fail
      first | rw [hwd] | skip
      first | rw [hdur] | skip
      rw [← HW4.out, ← HBMQ.out]
      clear hdur hwd b4
      go_loopw [] (fun wr => ∃ (a b : Nat) (L : List Int) (st' : StT) (q : Option Addr) (c : Nat), a + b = r ∧ L.length = a ∧ Blk wr BM 176 [.int .i64 dur, .slice q a c, .slice none 0 0] ∧ Own (fun _ => False) 1 intR 3 (BM + 1) wr q c L ∧ Cur wr cb C st' ∧ numsV C b L st' = numsV C r [] st1 ∧ Dr cb w0 wr ∧ BM + 1 ≤ wr.heap.size) (fun wr => r - lenCell wr BM 1)
      case atStart => exact ⟨0, r, [], st1, none, 0, by omega, rfl, HBM.out, Own.nil _, hcW, rfl, hdW, by omega⟩
      case round =>
        obtain ⟨a, b, L, st', q, c, hab, hl, hblk, hO1, hc, heq, hd1, hz1⟩ := hrel
        have HBL := Lib.hid hblk
        have HEQN := Lib.hid heq
        have HLN := Lib.hid hl
        have mc := hblk.cellv (j := 1) (by simp)
        simp only [List.getElem_cons_zero, List.getElem_cons_succ] at mc
        have HMC := Lib.hid mc
        clear hblk heq
        cases b with
        | zero =>
          obtain rfl : r = a := by omega
          have HEQ1 := Lib.hid (show (L, st') = numsV C r [] st1 from HEQN.out)
          have hle1 := hO1.le
          unfold maxLen at hle1
          have HROW1 := Lib.hid (show intsR (fun b => BM < b ∧ b < wr.heap.size) wr [.slice q L.length c] L from hO1.done intR_good (fun _ h _ => h.elim) (fun b h1 h2 => ⟨by omega, h2⟩))
          rw [hl] at HROW1
          obtain ⟨L1, hL1⟩ : ∃ x, x = L := ⟨L, rfl⟩
          obtain ⟨stA, hstA⟩ : ∃ x, x = st' := ⟨st', rfl⟩
          subst hL1
          subst hstA
          have HMV := Lib.hid (show modeV C r k st = ((dur, L1, (numsV C k [] stA).1), (numsV C k [] stA).2) from by rw [HMV.out, ← HEQ1.out])
          obtain ⟨wy, hwy⟩ : ∃ W, W = wr := ⟨wr, rfl⟩
          subst hwy
          obtain ⟨q1, hq1⟩ : ∃ x, x = q := ⟨q, rfl⟩
          obtain ⟨c1, hc1⟩ : ∃ x, x = c := ⟨c, rfl⟩
          subst hq1
          subst hc1
          have HL1N := Lib.hid hl
          clear hO1 hcW hdW hl hab
          have hrr : ¬ (r : Int) < (r : Int) := by omega
          go_wp2_with fail
          clear mc
          go_loopw [] (fun wr => ∃ (a b : Nat) (L : List Int) (st' : StT) (q : Option Addr) (c : Nat), a + b = k ∧ L.length = a ∧ Blk wr BM 176 [.int .i64 dur, .slice q1 r c1, .slice q a c] ∧ Own (fun _ => False) 1 intR 3 (wy.heap.size) wr q c L ∧ Cur wr cb C st' ∧ numsV C b L st' = numsV C k [] stA ∧ Dr cb w0 wr ∧ wy.heap.size ≤ wr.heap.size ∧ Hi (BM + 1) wy wr) (fun wr => k - lenCell wr BM 2)
          case atStart => exact ⟨0, k, [], stA, none, 0, by omega, rfl, HBL.out, Own.nil _, hc, rfl, hd1, Nat.le_refl _, Hi.refl _ _⟩
          case round =>
            obtain ⟨a, b, L, st', q, c, hab, hl, hblk, hO1, hc, heq, hd1, hz1, hii⟩ := hrel
            have HBL := Lib.hid hblk
            have HEQN := Lib.hid heq
            have HLN := Lib.hid hl
            have mc := hblk.cellv (j := 2) (by simp)
            simp only [List.getElem_cons_zero, List.getElem_cons_succ] at mc
            have HMC := Lib.hid mc
            clear hblk heq
            cases b with
            | zero =>
              obtain rfl : k = a := by omega
              obtain ⟨L2, hL2⟩ : ∃ x, x = L := ⟨L, rfl⟩
              subst hL2
              have HEQ2 := Lib.hid (show (L2, st') = numsV C k [] stA from HEQN.out)
              have hle2 := hO1.le
              unfold maxLen at hle2
              have HR2 := Lib.hid (show intsR (fun b => BM < b ∧ b < wr.heap.size) wr [.slice q L2.length c] L2 from hO1.done intR_good (fun _ h _ => h.elim) (fun b h1 h2 => ⟨by omega, h2⟩))
              rw [hl] at HR2
              have HR1 := Lib.hid (intsR_good.stay HROW1.out (fun b hb => hii.2 b (by have := hb.1; omega) hb.2))
              have HM1 := Lib.hid (show MM ++ [(dur, L1, L2)] = MM ++ [(modeV C r k st).1] from by rw [HMV.out, ← HEQ2.out])
              have HEQ := Lib.hid (show modesV C r k n (MM ++ [(dur, L1, L2)]) st' = modesV C r k (N + 1) [] (belowV C 4 (belowV C 2 s).2).2 from by
                have h1 : st' = (modeV C r k st).2 := by rw [HMV.out, ← HEQ2.out]
                rw [HM1.out, h1]; exact HEQ.out)
              have m0 := HBL.out.cellv (j := 0) (by simp)
              have m1 := HBL.out.cellv (j := 1) (by simp)
              have m2 := HBL.out.cellv (j := 2) (by simp)
              simp only [List.getElem_cons_zero, List.getElem_cons_succ] at m0 m1 m2
              have HBAr := Lib.hid (HBA.out.dr hd1 (by omega))
              have HBRr := Lib.hid (HBR.out.dr hd1 (by omega))
              have a2 := HBAr.out.cellv (j := 2) (by simp)
              have fa2 := HBAr.out.frozen 2
              simp only [List.getElem_cons_zero, List.getElem_cons_succ] at a2
              have HIO := Lib.hid (show Hi (BA + 1) w0 wr from Hi.ofDr hd1 (by omega))
              have hQlt := Lib.hid (fun a (ha : Q = some a) => (hO.lt ha).2)
              have hzwr := hd1.size
              have HREP := Lib.hid (show modeR (fun b => BA + 1 ≤ b ∧ b < (wr.alloc (.cells #[.int .i64 dur, .slice q1 r c1, .slice q k c] 176)).heap.size ∧ ∀ a, Q = some a → b ≠ a.block) (wr.alloc (.cells #[.int .i64 dur, .slice q1 r c1, .slice q k c] 176)) [.int .i64 dur, .slice q1 r c1, .slice q k c] (dur, L1, L2) from by
                have hS : ∀ b, BM < b ∧ b < wr.heap.size → BA + 1 ≤ b ∧ b < (wr.alloc (.cells #[.int .i64 dur, .slice q1 r c1, .slice q k c] 176)).heap.size ∧ ∀ a, Q = some a → b ≠ a.block := fun b hb => ⟨by have := hb.1; omega, by have := hb.2; simp; omega, fun a ha => by have := hQlt.out a ha; have := hb.1; omega⟩
                have e1 : ∀ b, b < wr.heap.size → (wr.alloc (.cells #[.int .i64 dur, .slice q1 r c1, .slice q k c] 176)).heap[b]? = wr.heap[b]? := fun b hb => ((Bel.refl wr).alloc _).block hb
                exact ⟨_, _, rfl, intRep (by unfold I64; omega), _, _, rfl, intsR_good.mono (intsR_good.stay HR1.out (fun b hb => e1 b (by have := hb.2; omega))) (fun b hb => hS b ⟨hb.1, by have := hb.2; omega⟩), intsR_good.mono (intsR_good.stay HR2.out (fun b hb => e1 b hb.2)) hS⟩)
              have HC := Lib.hid (hc.bel (w' := wr.alloc (.cells #[.int .i64 dur, .slice q1 r c1, .slice q k c] 176)) (by (repeat (first | assumption | exact Bel.refl _ | apply Bel.drewN | apply Bel.drew | apply Bel.alloc | refine Bel.trans ?_ (by assumption)))))
              have HDD := Lib.hid ((hd.trans hd1).alloc (.cells #[.int .i64 dur, .slice q1 r c1, .slice q k c] 176))
              clear hc hO1 hii hd1
              have hkk : ¬ (k : Int) < (k : Int) := by omega
              go_wp2_with ((at_builtin; refine wpList_appG (n := 3) modeR_good _ rfl _ _ 73 rfl (.agg #[.int .i64 0, .slice none 0 0, .slice none 0 0]) 56 Try.underlying73 (by kernel_rfl) rfl (by decide) (by decide) Q Cp MM ((dur, L1, L2)) rfl (hO.hi modeR_good (HIO.out.trans (Hi.ofBel (by (repeat (first | assumption | exact Bel.refl _ | apply Bel.drewN | apply Bel.drew | apply Bel.alloc | refine Bel.trans ?_ (by assumption)))))) (fun _ h => h)) _ 1 [.int .i64 dur, .slice q1 r c1, .slice q k c] rfl rfl (World.news_of_block (alloc_at (by first | rfl | (simp; done) | (simp; omega)))) (by intro u hu; simp at hu; rcases hu with rfl | rfl | rfl <;> rfl) HREP.out (by omega) (by first | omega | (simp; omega)) ?_; intro q' cap' wA hOA hBA hFA; have HO' := Lib.hid hOA; have HBAx := Lib.hid ((HBAr.out.alloc (.cells #[.int .i64 dur, .slice q1 r c1, .slice q k c] 176)).below hBA (by omega)); have HBRx := Lib.hid ((HBRr.out.alloc (.cells #[.int .i64 dur, .slice q1 r c1, .slice q k c] 176)).below hBA (by omega)); have hCA := Lib.hid (HC.out.below hBA (by omega)); have hDA := Lib.hid (HDD.out.below' hBA (by omega)); have hzA : W2.heap.size ≤ wA.heap.size := (by have := hBA.size; (try simp only [World.size_alloc] at this); omega); have ax2 := HBAx.out.cellv (j := 2) (by simp); have fx2 := HBAx.out.frozen 2; simp only [List.getElem_cons_zero, List.getElem_cons_succ] at ax2; clear hOA hBA hFA))
              go_roundw
              case rel => exact ⟨n, MM ++ [(dur, L1, L2)], st', q', cap', by go_num, by simp; omega, by rw [List.length_append]; exact HBAx.out.set 2 _, HBRx.out.setAt (by omega) 2 _, HO'.out.hi modeR_good ((Hi.refl _ _).set _ (.inl (by omega))) (fun _ h => h), hCA.out.below ((Below.refl BA wA).setCell (Nat.le_refl _) _) (by omega), HEQ.out, hDA.out.set _ (by omega), by simp [World.setCell]; exact hzA⟩
              case measure => (simp [intOf] <;> omega)
            | succ b =>
              have hai : (a : Int) < (k : Int) := by omega
              have HEQN := Lib.hid (show numsV C b (L ++ [(belowV C 3 st').1]) (belowV C 3 st').2 = numsV C k [] stA from HEQN.out)
              have h3 := belowV_in C 3 st' (by decide)
              subst hl
              go_wp2_with fail
              refine wp_region_held_drew (S := (fun W => Hid True)) (by kernel_rfl) ?_ (fun hHeld => ?_)
              · ((try dsimp only); exact Lib.hid trivial)
              refine wpAnyH_take (i := 0) (v := ?_) rfl (by kernel_rfl) (by kernel_rfl) (by kernel_rfl) (fun _ _ _ h => h) (Or.inl ⟨by rfl, ?_⟩) (by assumption) ?_
              rotate_left
              · (intro w hSw; (try dsimp only at hSw); go_simp <;> with_reducible rfl)
              try walk_nrm
              refine wpAnyH_take (i := 2) (v := ?_) rfl (by kernel_rfl) (by kernel_rfl) (by kernel_rfl) (fun _ _ _ h => h) (Or.inl ⟨by rfl, ?_⟩) (by assumption) ?_
              rotate_left
              · (intro w hSw; (try dsimp only at hSw); go_simp <;> with_reducible rfl)
              try walk_nrm
              refine wpAnyH_ready (rs := [1, 3]) (by kernel_rfl) (by simp) ?_
              refine AllReadyH.cons rfl (fun K hK => ?_) ?_
              · go_simp
                refine hK.out _ _ ?_ (fun hHeld => ?_)
                · ((try dsimp only); exact Lib.hid trivial)
                clear hK K
                try walk_nrm
                refine wpAnyH_ready (rs := [3]) (by kernel_rfl) (by simp) ?_
                refine AllReadyH.cons rfl (fun K hK => ?_) AllReadyH.nil
                · go_simp
                  (go_at_call 139; (with_reducible refine (l01Below_any cb C st' 3 _ (hc.bel (by (repeat (first | assumption | exact Bel.refl _ | apply Bel.drewN | apply Bel.drew | apply Bel.alloc | refine Bel.trans ?_ (by assumption))))) (by omega)).mono ?_); rintro e w5 ⟨rfl, hc5, hd5⟩; have hd5 := (Dr.ofBel (cb := cb) (a := wr) (by (repeat (first | assumption | exact Bel.refl _ | apply Bel.drewN | apply Bel.drew | apply Bel.alloc | refine Bel.trans ?_ (by assumption))))).trans hd5; have mc := hd5.cell mc (by omega); have mca := fun o => ((Bel.refl w5).alloc o).cell mc; have hi5 := Hi.ofDr (B := wy.heap.size) hd5 (by omega); have hz5 := hd5.size)
                  try go_wp2_with fail
                  refine hK.out _ _ ?_ (fun hHeld => ?_)
                  · ((try dsimp only); exact Lib.hid trivial)
                  clear hK K
                  try walk_nrm
                  refine wpAnyH_ready (rs := [4]) (by kernel_rfl) (by simp) ?_
                  refine AllReadyH.cons rfl (fun K hK => ?_) AllReadyH.nil
                  · go_simp
                    refine hK.out _ _ ?_ (fun hHeld => ?_)
                    · ((try dsimp only); exact Lib.hid trivial)
                    clear hK K
                    try walk_nrm
                    refine wpAnyH_ready (rs := [5]) (by kernel_rfl) (by simp) ?_
                    refine AllReadyH.cons rfl (fun K hK => ?_) AllReadyH.nil
                    · (refine step_appG (o := ⟨some 52, _, _, _, _, _⟩) (n := 1) intR_good _ (by rfl) _ _ 25 (by rfl) (.int .i64 0) 8 Try.underlying25 (by kernel_rfl) rfl (by decide) (by decide) q c L ((belowV C 3 st').1) (by rfl) (hO1.hi intR_good (by (repeat (first | assumption | exact Hi.refl _ _ | (with_reducible apply Hi.drew) | (with_reducible apply Hi.alloc) | refine Hi.trans ?_ (by assumption)))) (fun _ h => h.elim)) _ 1 [.int .i64 (belowV C 3 st').1] (by rfl) rfl (World.news_of_block (alloc_at (by first | rfl | (simp; done) | (simp; omega)))) (by intro u hu; simp at hu; subst hu; rfl) (intRep (by unfold I64; omega)) (by omega) (by first | omega | (simp; omega)) ?_; intro q' cap' wA hOA hBA hFA; have HBX := Lib.hid (((HBL.out.dr hd5 (by omega)).alloc (.cells #[.int .i64 (belowV C 3 st').1] 3)).below hBA (by omega)); have mA := HBX.out.cellv (j := 2) (by simp); have fA := HBX.out.frozen 2; simp only [List.getElem_cons_zero, List.getElem_cons_succ] at mA; have hCA := Lib.hid ((hc5.bel (w' := w5.alloc (.cells #[.int .i64 (belowV C 3 st').1] 3)) (by (repeat (first | assumption | exact Bel.refl _ | apply Bel.drewN | apply Bel.drew | apply Bel.alloc | refine Bel.trans ?_ (by assumption))))).below hBA (by omega)); have hDA := Lib.hid (((hd1.trans hd5).alloc (.cells #[.int .i64 (belowV C 3 st').1] 3)).below' hBA (by omega)); have HOA := Lib.hid hOA; have hzA : wy.heap.size ≤ wA.heap.size := (by have := hBA.size; (try simp only [World.size_alloc] at this); omega); have HIA := Lib.hid (((hii.trans (Hi.ofDr hd5 (by omega))).alloc (.cells #[.int .i64 (belowV C 3 st').1] 3)).below' hBA (Nat.le_refl _)); clear hOA hBA hFA)
                      refine hK.out _ _ ?_ (fun hHeld => ?_)
                      · ((try dsimp only); exact Lib.hid trivial)
                      clear hK K
                      try walk_nrm
                      refine wpAnyH_take (i := 6) (v := ?_) rfl (by kernel_rfl) (by kernel_rfl) (by kernel_rfl) (fun _ _ _ h => h) (Or.inl ⟨by rfl, ?_⟩) (by assumption) ?_
                      rotate_left
                      · (intro w hSw; (try dsimp only at hSw); go_simp <;> with_reducible rfl)
                      try walk_nrm
                      refine wpAnyH_ready (rs := [7]) (by kernel_rfl) (by simp) ?_
                      refine AllReadyH.cons rfl (fun K hK => ?_) AllReadyH.nil
                      · go_simp
                        refine hK.out _ _ ?_ (fun hHeld => ?_)
                        · ((try dsimp only); exact Lib.hid trivial)
                        clear hK K
                        try walk_nrm
                        refine wpAnyH_done (by kernel_rfl) ?_ _
                        go_wp2_with fail
                        go_roundw
                        case rel => exact ⟨L.length + 1, b, L ++ [(belowV C 3 st').1], _, q', cap', by omega, by simp, HBX.out.set 2 _, HOA.out.hi intR_good ((Hi.refl _ _).set _ (.inl (by omega))) (fun _ h => h.elim), hCA.out.below ((Below.refl BM wA).setCell (Nat.le_refl _) _) (by omega), HEQN.out, hDA.out.set _ hB0, by simp [World.setCell]; omega, HIA.out.set _ (.inl (by omega))⟩
                        case measure =>
                          rw [lenCell_of HMC.out, lenCell_of (show (World.setCell wA ⟨BM, 2, none⟩ (.slice q' (L.length + 1) cap')).cell? ⟨BM, 2, none⟩ = some (.slice q' (L.length + 1) cap') from by have := (HBX.out.set 2 (.slice q' (L.length + 1) cap')).cellv (j := 2) (by simp); simpa using this)]
                          omega
              refine AllReadyH.cons rfl (fun K hK => ?_) AllReadyH.nil
              · go_simp
                (go_at_call 139; (with_reducible refine (l01Below_any cb C st' 3 _ (hc.bel (by (repeat (first | assumption | exact Bel.refl _ | apply Bel.drewN | apply Bel.drew | apply Bel.alloc | refine Bel.trans ?_ (by assumption))))) (by omega)).mono ?_); rintro e w5 ⟨rfl, hc5, hd5⟩; have hd5 := (Dr.ofBel (cb := cb) (a := wr) (by (repeat (first | assumption | exact Bel.refl _ | apply Bel.drewN | apply Bel.drew | apply Bel.alloc | refine Bel.trans ?_ (by assumption))))).trans hd5; have mc := hd5.cell mc (by omega); have mca := fun o => ((Bel.refl w5).alloc o).cell mc; have hi5 := Hi.ofDr (B := wy.heap.size) hd5 (by omega); have hz5 := hd5.size)
                try go_wp2_with fail
                refine hK.out _ _ ?_ (fun hHeld => ?_)
                · ((try dsimp only); exact Lib.hid trivial)
                clear hK K
                try walk_nrm
                refine wpAnyH_ready (rs := [1, 4]) (by kernel_rfl) (by simp) ?_
                refine AllReadyH.cons rfl (fun K hK => ?_) ?_
                · go_simp
                  refine hK.out _ _ ?_ (fun hHeld => ?_)
                  · ((try dsimp only); exact Lib.hid trivial)
                  clear hK K
                  try walk_nrm
                  refine wpAnyH_ready (rs := [4]) (by kernel_rfl) (by simp) ?_
                  refine AllReadyH.cons rfl (fun K hK => ?_) AllReadyH.nil
                  · go_simp
                    refine hK.out _ _ ?_ (fun hHeld => ?_)
                    · ((try dsimp only); exact Lib.hid trivial)
                    clear hK K
                    try walk_nrm
                    refine wpAnyH_ready (rs := [5]) (by kernel_rfl) (by simp) ?_
                    refine AllReadyH.cons rfl (fun K hK => ?_) AllReadyH.nil
                    · (refine step_appG (o := ⟨some 52, _, _, _, _, _⟩) (n := 1) intR_good _ (by rfl) _ _ 25 (by rfl) (.int .i64 0) 8 Try.underlying25 (by kernel_rfl) rfl (by decide) (by decide) q c L ((belowV C 3 st').1) (by rfl) (hO1.hi intR_good (by (repeat (first | assumption | exact Hi.refl _ _ | (with_reducible apply Hi.drew) | (with_reducible apply Hi.alloc) | refine Hi.trans ?_ (by assumption)))) (fun _ h => h.elim)) _ 1 [.int .i64 (belowV C 3 st').1] (by rfl) rfl (World.news_of_block (alloc_at (by first | rfl | (simp; done) | (simp; omega)))) (by intro u hu; simp at hu; subst hu; rfl) (intRep (by unfold I64; omega)) (by omega) (by first | omega | (simp; omega)) ?_; intro q' cap' wA hOA hBA hFA; have HBX := Lib.hid (((HBL.out.dr hd5 (by omega)).alloc (.cells #[.int .i64 (belowV C 3 st').1] 3)).below hBA (by omega)); have mA := HBX.out.cellv (j := 2) (by simp); have fA := HBX.out.frozen 2; simp only [List.getElem_cons_zero, List.getElem_cons_succ] at mA; have hCA := Lib.hid ((hc5.bel (w' := w5.alloc (.cells #[.int .i64 (belowV C 3 st').1] 3)) (by (repeat (first | assumption | exact Bel.refl _ | apply Bel.drewN | apply Bel.drew | apply Bel.alloc | refine Bel.trans ?_ (by assumption))))).below hBA (by omega)); have hDA := Lib.hid (((hd1.trans hd5).alloc (.cells #[.int .i64 (belowV C 3 st').1] 3)).below' hBA (by omega)); have HOA := Lib.hid hOA; have hzA : wy.heap.size ≤ wA.heap.size := (by have := hBA.size; (try simp only [World.size_alloc] at this); omega); have HIA := Lib.hid (((hii.trans (Hi.ofDr hd5 (by omega))).alloc (.cells #[.int .i64 (belowV C 3 st').1] 3)).below' hBA (Nat.le_refl _)); clear hOA hBA hFA)
                      refine hK.out _ _ ?_ (fun hHeld => ?_)
                      · ((try dsimp only); exact Lib.hid trivial)
                      clear hK K
                      try walk_nrm
                      refine wpAnyH_take (i := 6) (v := ?_) rfl (by kernel_rfl) (by kernel_rfl) (by kernel_rfl) (fun _ _ _ h => h) (Or.inl ⟨by rfl, ?_⟩) (by assumption) ?_
                      rotate_left
                      · (intro w hSw; (try dsimp only at hSw); go_simp <;> with_reducible rfl)
                      try walk_nrm
                      refine wpAnyH_ready (rs := [7]) (by kernel_rfl) (by simp) ?_
                      refine AllReadyH.cons rfl (fun K hK => ?_) AllReadyH.nil
                      · go_simp
                        refine hK.out _ _ ?_ (fun hHeld => ?_)
                        · ((try dsimp only); exact Lib.hid trivial)
                        clear hK K
                        try walk_nrm
                        refine wpAnyH_done (by kernel_rfl) ?_ _
                        go_wp2_with fail
                        go_roundw
                        case rel => exact ⟨L.length + 1, b, L ++ [(belowV C 3 st').1], _, q', cap', by omega, by simp, HBX.out.set 2 _, HOA.out.hi intR_good ((Hi.refl _ _).set _ (.inl (by omega))) (fun _ h => h.elim), hCA.out.below ((Below.refl BM wA).setCell (Nat.le_refl _) _) (by omega), HEQN.out, hDA.out.set _ hB0, by simp [World.setCell]; omega, HIA.out.set _ (.inl (by omega))⟩
                        case measure =>
                          rw [lenCell_of HMC.out, lenCell_of (show (World.setCell wA ⟨BM, 2, none⟩ (.slice q' (L.length + 1) cap')).cell? ⟨BM, 2, none⟩ = some (.slice q' (L.length + 1) cap') from by have := (HBX.out.set 2 (.slice q' (L.length + 1) cap')).cellv (j := 2) (by simp); simpa using this)]
                          omega
                refine AllReadyH.cons rfl (fun K hK => ?_) AllReadyH.nil
                · go_simp
                  refine hK.out _ _ ?_ (fun hHeld => ?_)
                  · ((try dsimp only); exact Lib.hid trivial)
                  clear hK K
                  try walk_nrm
                  refine wpAnyH_ready (rs := [1]) (by kernel_rfl) (by simp) ?_
                  refine AllReadyH.cons rfl (fun K hK => ?_) AllReadyH.nil
                  · go_simp
                    refine hK.out _ _ ?_ (fun hHeld => ?_)
                    · ((try dsimp only); exact Lib.hid trivial)
                    clear hK K
                    try walk_nrm
                    refine wpAnyH_ready (rs := [5]) (by kernel_rfl) (by simp) ?_
                    refine AllReadyH.cons rfl (fun K hK => ?_) AllReadyH.nil
                    · (refine step_appG (o := ⟨some 52, _, _, _, _, _⟩) (n := 1) intR_good _ (by rfl) _ _ 25 (by rfl) (.int .i64 0) 8 Try.underlying25 (by kernel_rfl) rfl (by decide) (by decide) q c L ((belowV C 3 st').1) (by rfl) (hO1.hi intR_good (by (repeat (first | assumption | exact Hi.refl _ _ | (with_reducible apply Hi.drew) | (with_reducible apply Hi.alloc) | refine Hi.trans ?_ (by assumption)))) (fun _ h => h.elim)) _ 1 [.int .i64 (belowV C 3 st').1] (by rfl) rfl (World.news_of_block (alloc_at (by first | rfl | (simp; done) | (simp; omega)))) (by intro u hu; simp at hu; subst hu; rfl) (intRep (by unfold I64; omega)) (by omega) (by first | omega | (simp; omega)) ?_; intro q' cap' wA hOA hBA hFA; have HBX := Lib.hid (((HBL.out.dr hd5 (by omega)).alloc (.cells #[.int .i64 (belowV C 3 st').1] 3)).below hBA (by omega)); have mA := HBX.out.cellv (j := 2) (by simp); have fA := HBX.out.frozen 2; simp only [List.getElem_cons_zero, List.getElem_cons_succ] at mA; have hCA := Lib.hid ((hc5.bel (w' := w5.alloc (.cells #[.int .i64 (belowV C 3 st').1] 3)) (by (repeat (first | assumption | exact Bel.refl _ | apply Bel.drewN | apply Bel.drew | apply Bel.alloc | refine Bel.trans ?_ (by assumption))))).below hBA (by omega)); have hDA := Lib.hid (((hd1.trans hd5).alloc (.cells #[.int .i64 (belowV C 3 st').1] 3)).below' hBA (by omega)); have HOA := Lib.hid hOA; have hzA : wy.heap.size ≤ wA.heap.size := (by have := hBA.size; (try simp only [World.size_alloc] at this); omega); have HIA := Lib.hid (((hii.trans (Hi.ofDr hd5 (by omega))).alloc (.cells #[.int .i64 (belowV C 3 st').1] 3)).below' hBA (Nat.le_refl _)); clear hOA hBA hFA)
                      refine hK.out _ _ ?_ (fun hHeld => ?_)
                      · ((try dsimp only); exact Lib.hid trivial)
                      clear hK K
                      try walk_nrm
                      refine wpAnyH_take (i := 6) (v := ?_) rfl (by kernel_rfl) (by kernel_rfl) (by kernel_rfl) (fun _ _ _ h => h) (Or.inl ⟨by rfl, ?_⟩) (by assumption) ?_
                      rotate_left
                      · (intro w hSw; (try dsimp only at hSw); go_simp <;> with_reducible rfl)
                      try walk_nrm
                      refine wpAnyH_ready (rs := [7]) (by kernel_rfl) (by simp) ?_
                      refine AllReadyH.cons rfl (fun K hK => ?_) AllReadyH.nil
                      · go_simp
                        refine hK.out _ _ ?_ (fun hHeld => ?_)
                        · ((try dsimp only); exact Lib.hid trivial)
                        clear hK K
                        try walk_nrm
                        refine wpAnyH_done (by kernel_rfl) ?_ _
                        go_wp2_with fail
                        go_roundw
                        case rel => exact ⟨L.length + 1, b, L ++ [(belowV C 3 st').1], _, q', cap', by omega, by simp, HBX.out.set 2 _, HOA.out.hi intR_good ((Hi.refl _ _).set _ (.inl (by omega))) (fun _ h => h.elim), hCA.out.below ((Below.refl BM wA).setCell (Nat.le_refl _) _) (by omega), HEQN.out, hDA.out.set _ hB0, by simp [World.setCell]; omega, HIA.out.set _ (.inl (by omega))⟩
                        case measure =>
                          rw [lenCell_of HMC.out, lenCell_of (show (World.setCell wA ⟨BM, 2, none⟩ (.slice q' (L.length + 1) cap')).cell? ⟨BM, 2, none⟩ = some (.slice q' (L.length + 1) cap') from by have := (HBX.out.set 2 (.slice q' (L.length + 1) cap')).cellv (j := 2) (by simp); simpa using this)]
                          omega
        | succ b =>
          have hai : (a : Int) < (r : Int) := by omega
          have HEQN := Lib.hid (show numsV C b (L ++ [(belowV C 3 st').1]) (belowV C 3 st').2 = numsV C r [] st1 from HEQN.out)
          have h3 := belowV_in C 3 st' (by decide)
          subst hl
          go_wp2_with fail
          refine wp_region_held_drew (S := (fun W => Hid True)) (by kernel_rfl) ?_ (fun hHeld => ?_)
          · ((try dsimp only); exact Lib.hid trivial)
          refine wpAnyH_take (i := 0) (v := ?_) rfl (by kernel_rfl) (by kernel_rfl) (by kernel_rfl) (fun _ _ _ h => h) (Or.inl ⟨by rfl, ?_⟩) (by assumption) ?_
          rotate_left
          · (intro w hSw; (try dsimp only at hSw); go_simp <;> with_reducible rfl)
          try walk_nrm
          refine wpAnyH_take (i := 2) (v := ?_) rfl (by kernel_rfl) (by kernel_rfl) (by kernel_rfl) (fun _ _ _ h => h) (Or.inl ⟨by rfl, ?_⟩) (by assumption) ?_
          rotate_left
          · (intro w hSw; (try dsimp only at hSw); go_simp <;> with_reducible rfl)
          try walk_nrm
          refine wpAnyH_ready (rs := [1, 3]) (by kernel_rfl) (by simp) ?_
          refine AllReadyH.cons rfl (fun K hK => ?_) ?_
          · go_simp
            refine hK.out _ _ ?_ (fun hHeld => ?_)
            · ((try dsimp only); exact Lib.hid trivial)
            clear hK K
            try walk_nrm
            refine wpAnyH_ready (rs := [3]) (by kernel_rfl) (by simp) ?_
            refine AllReadyH.cons rfl (fun K hK => ?_) AllReadyH.nil
            · go_simp
              (go_at_call 139; (with_reducible refine (l01Below_any cb C st' 3 _ (hc.bel (by (repeat (first | assumption | exact Bel.refl _ | apply Bel.drewN | apply Bel.drew | apply Bel.alloc | refine Bel.trans ?_ (by assumption))))) (by omega)).mono ?_); rintro e w5 ⟨rfl, hc5, hd5⟩; have hd5 := (Dr.ofBel (cb := cb) (a := wr) (by (repeat (first | assumption | exact Bel.refl _ | apply Bel.drewN | apply Bel.drew | apply Bel.alloc | refine Bel.trans ?_ (by assumption))))).trans hd5; have mc := hd5.cell mc (by omega); have mca := fun o => ((Bel.refl w5).alloc o).cell mc; have hi5 := Hi.ofDr (B := BM + 1) hd5 (by omega); have hz5 := hd5.size)
              try go_wp2_with fail
              refine hK.out _ _ ?_ (fun hHeld => ?_)
              · ((try dsimp only); exact Lib.hid trivial)
              clear hK K
              try walk_nrm
              refine wpAnyH_ready (rs := [4]) (by kernel_rfl) (by simp) ?_
              refine AllReadyH.cons rfl (fun K hK => ?_) AllReadyH.nil
              · go_simp
                refine hK.out _ _ ?_ (fun hHeld => ?_)
                · ((try dsimp only); exact Lib.hid trivial)
                clear hK K
                try walk_nrm
                refine wpAnyH_ready (rs := [5]) (by kernel_rfl) (by simp) ?_
                refine AllReadyH.cons rfl (fun K hK => ?_) AllReadyH.nil
                · (refine step_appG (o := ⟨some 40, _, _, _, _, _⟩) (n := 1) intR_good _ (by rfl) _ _ 25 (by rfl) (.int .i64 0) 8 Try.underlying25 (by kernel_rfl) rfl (by decide) (by decide) q c L ((belowV C 3 st').1) (by rfl) (hO1.hi intR_good (by (repeat (first | assumption | exact Hi.refl _ _ | (with_reducible apply Hi.drew) | (with_reducible apply Hi.alloc) | refine Hi.trans ?_ (by assumption)))) (fun _ h => h.elim)) _ 1 [.int .i64 (belowV C 3 st').1] (by rfl) rfl (World.news_of_block (alloc_at (by first | rfl | (simp; done) | (simp; omega)))) (by intro u hu; simp at hu; subst hu; rfl) (intRep (by unfold I64; omega)) (by omega) (by first | omega | (simp; omega)) ?_; intro q' cap' wA hOA hBA hFA; have HBX := Lib.hid (((HBL.out.dr hd5 (by omega)).alloc (.cells #[.int .i64 (belowV C 3 st').1] 3)).below hBA (by omega)); have mA := HBX.out.cellv (j := 1) (by simp); have fA := HBX.out.frozen 1; simp only [List.getElem_cons_zero, List.getElem_cons_succ] at mA; have hCA := Lib.hid ((hc5.bel (w' := w5.alloc (.cells #[.int .i64 (belowV C 3 st').1] 3)) (by (repeat (first | assumption | exact Bel.refl _ | apply Bel.drewN | apply Bel.drew | apply Bel.alloc | refine Bel.trans ?_ (by assumption))))).below hBA (by omega)); have hDA := Lib.hid (((hd1.trans hd5).alloc (.cells #[.int .i64 (belowV C 3 st').1] 3)).below' hBA (by omega)); have HOA := Lib.hid hOA; have hzA : BM + 1 ≤ wA.heap.size := (by have := hBA.size; (try simp only [World.size_alloc] at this); omega); skip; clear hOA hBA hFA)
                  refine hK.out _ _ ?_ (fun hHeld => ?_)
                  · ((try dsimp only); exact Lib.hid trivial)
                  clear hK K
                  try walk_nrm
                  refine wpAnyH_take (i := 6) (v := ?_) rfl (by kernel_rfl) (by kernel_rfl) (by kernel_rfl) (fun _ _ _ h => h) (Or.inl ⟨by rfl, ?_⟩) (by assumption) ?_
                  rotate_left
                  · (intro w hSw; (try dsimp only at hSw); go_simp <;> with_reducible rfl)
                  try walk_nrm
                  refine wpAnyH_ready (rs := [7]) (by kernel_rfl) (by simp) ?_
                  refine AllReadyH.cons rfl (fun K hK => ?_) AllReadyH.nil
                  · go_simp
                    refine hK.out _ _ ?_ (fun hHeld => ?_)
                    · ((try dsimp only); exact Lib.hid trivial)
                    clear hK K
                    try walk_nrm
                    refine wpAnyH_done (by kernel_rfl) ?_ _
                    go_wp2_with fail
                    go_roundw
                    case rel => exact ⟨L.length + 1, b, L ++ [(belowV C 3 st').1], _, q', cap', by omega, by simp, HBX.out.set 1 _, HOA.out.hi intR_good ((Hi.refl _ _).set _ (.inl (by omega))) (fun _ h => h.elim), hCA.out.below ((Below.refl BM wA).setCell (Nat.le_refl _) _) (by omega), HEQN.out, hDA.out.set _ hB0, by simp [World.setCell]; omega⟩
                    case measure =>
                      rw [lenCell_of HMC.out, lenCell_of (show (World.setCell wA ⟨BM, 1, none⟩ (.slice q' (L.length + 1) cap')).cell? ⟨BM, 1, none⟩ = some (.slice q' (L.length + 1) cap') from by have := (HBX.out.set 1 (.slice q' (L.length + 1) cap')).cellv (j := 1) (by simp); simpa using this)]
                      omega
          refine AllReadyH.cons rfl (fun K hK => ?_) AllReadyH.nil
          · go_simp
            (go_at_call 139; (with_reducible refine (l01Below_any cb C st' 3 _ (hc.bel (by (repeat (first | assumption | exact Bel.refl _ | apply Bel.drewN | apply Bel.drew | apply Bel.alloc | refine Bel.trans ?_ (by assumption))))) (by omega)).mono ?_); rintro e w5 ⟨rfl, hc5, hd5⟩; have hd5 := (Dr.ofBel (cb := cb) (a := wr) (by (repeat (first | assumption | exact Bel.refl _ | apply Bel.drewN | apply Bel.drew | apply Bel.alloc | refine Bel.trans ?_ (by assumption))))).trans hd5; have mc := hd5.cell mc (by omega); have mca := fun o => ((Bel.refl w5).alloc o).cell mc; have hi5 := Hi.ofDr (B := BM + 1) hd5 (by omega); have hz5 := hd5.size)
            try go_wp2_with fail
            refine hK.out _ _ ?_ (fun hHeld => ?_)
            · ((try dsimp only); exact Lib.hid trivial)
            clear hK K
            try walk_nrm
            refine wpAnyH_ready (rs := [1, 4]) (by kernel_rfl) (by simp) ?_
            refine AllReadyH.cons rfl (fun K hK => ?_) ?_
            · go_simp
              refine hK.out _ _ ?_ (fun hHeld => ?_)
              · ((try dsimp only); exact Lib.hid trivial)
              clear hK K
              try walk_nrm
              refine wpAnyH_ready (rs := [4]) (by kernel_rfl) (by simp) ?_
              refine AllReadyH.cons rfl (fun K hK => ?_) AllReadyH.nil
              · go_simp
                refine hK.out _ _ ?_ (fun hHeld => ?_)
                · ((try dsimp only); exact Lib.hid trivial)
                clear hK K
                try walk_nrm
                refine wpAnyH_ready (rs := [5]) (by kernel_rfl) (by simp) ?_
                refine AllReadyH.cons rfl (fun K hK => ?_) AllReadyH.nil
                · (refine step_appG (o := ⟨some 40, _, _, _, _, _⟩) (n := 1) intR_good _ (by rfl) _ _ 25 (by rfl) (.int .i64 0) 8 Try.underlying25 (by kernel_rfl) rfl (by decide) (by decide) q c L ((belowV C 3 st').1) (by rfl) (hO1.hi intR_good (by (repeat (first | assumption | exact Hi.refl _ _ | (with_reducible apply Hi.drew) | (with_reducible apply Hi.alloc) | refine Hi.trans ?_ (by assumption)))) (fun _ h => h.elim)) _ 1 [.int .i64 (belowV C 3 st').1] (by rfl) rfl (World.news_of_block (alloc_at (by first | rfl | (simp; done) | (simp; omega)))) (by intro u hu; simp at hu; subst hu; rfl) (intRep (by unfold I64; omega)) (by omega) (by first | omega | (simp; omega)) ?_; intro q' cap' wA hOA hBA hFA; have HBX := Lib.hid (((HBL.out.dr hd5 (by omega)).alloc (.cells #[.int .i64 (belowV C 3 st').1] 3)).below hBA (by omega)); have mA := HBX.out.cellv (j := 1) (by simp); have fA := HBX.out.frozen 1; simp only [List.getElem_cons_zero, List.getElem_cons_succ] at mA; have hCA := Lib.hid ((hc5.bel (w' := w5.alloc (.cells #[.int .i64 (belowV C 3 st').1] 3)) (by (repeat (first | assumption | exact Bel.refl _ | apply Bel.drewN | apply Bel.drew | apply Bel.alloc | refine Bel.trans ?_ (by assumption))))).below hBA (by omega)); have hDA := Lib.hid (((hd1.trans hd5).alloc (.cells #[.int .i64 (belowV C 3 st').1] 3)).below' hBA (by omega)); have HOA := Lib.hid hOA; have hzA : BM + 1 ≤ wA.heap.size := (by have := hBA.size; (try simp only [World.size_alloc] at this); omega); skip; clear hOA hBA hFA)
                  refine hK.out _ _ ?_ (fun hHeld => ?_)
                  · ((try dsimp only); exact Lib.hid trivial)
                  clear hK K
                  try walk_nrm
                  refine wpAnyH_take (i := 6) (v := ?_) rfl (by kernel_rfl) (by kernel_rfl) (by kernel_rfl) (fun _ _ _ h => h) (Or.inl ⟨by rfl, ?_⟩) (by assumption) ?_
                  rotate_left
                  · (intro w hSw; (try dsimp only at hSw); go_simp <;> with_reducible rfl)
                  try walk_nrm
                  refine wpAnyH_ready (rs := [7]) (by kernel_rfl) (by simp) ?_
                  refine AllReadyH.cons rfl (fun K hK => ?_) AllReadyH.nil
                  · go_simp
                    refine hK.out _ _ ?_ (fun hHeld => ?_)
                    · ((try dsimp only); exact Lib.hid trivial)
                    clear hK K
                    try walk_nrm
                    refine wpAnyH_done (by kernel_rfl) ?_ _
                    go_wp2_with fail
                    go_roundw
                    case rel => exact ⟨L.length + 1, b, L ++ [(belowV C 3 st').1], _, q', cap', by omega, by simp, HBX.out.set 1 _, HOA.out.hi intR_good ((Hi.refl _ _).set _ (.inl (by omega))) (fun _ h => h.elim), hCA.out.below ((Below.refl BM wA).setCell (Nat.le_refl _) _) (by omega), HEQN.out, hDA.out.set _ hB0, by simp [World.setCell]; omega⟩
                    case measure =>
                      rw [lenCell_of HMC.out, lenCell_of (show (World.setCell wA ⟨BM, 1, none⟩ (.slice q' (L.length + 1) cap')).cell? ⟨BM, 1, none⟩ = some (.slice q' (L.length + 1) cap') from by have := (HBX.out.set 1 (.slice q' (L.length + 1) cap')).cellv (j := 1) (by simp); simpa using this)]
                      omega
            refine AllReadyH.cons rfl (fun K hK => ?_) AllReadyH.nil
            · go_simp
              refine hK.out _ _ ?_ (fun hHeld => ?_)
              · ((try dsimp only); exact Lib.hid trivial)
              clear hK K
              try walk_nrm
              refine wpAnyH_ready (rs := [1]) (by kernel_rfl) (by simp) ?_
              refine AllReadyH.cons rfl (fun K hK => ?_) AllReadyH.nil
              · go_simp
                refine hK.out _ _ ?_ (fun hHeld => ?_)
                · ((try dsimp only); exact Lib.hid trivial)
                clear hK K
                try walk_nrm
                refine wpAnyH_ready (rs := [5]) (by kernel_rfl) (by simp) ?_
                refine AllReadyH.cons rfl (fun K hK => ?_) AllReadyH.nil
                · (refine step_appG (o := ⟨some 40, _, _, _, _, _⟩) (n := 1) intR_good _ (by rfl) _ _ 25 (by rfl) (.int .i64 0) 8 Try.underlying25 (by kernel_rfl) rfl (by decide) (by decide) q c L ((belowV C 3 st').1) (by rfl) (hO1.hi intR_good (by (repeat (first | assumption | exact Hi.refl _ _ | (with_reducible apply Hi.drew) | (with_reducible apply Hi.alloc) | refine Hi.trans ?_ (by assumption)))) (fun _ h => h.elim)) _ 1 [.int .i64 (belowV C 3 st').1] (by rfl) rfl (World.news_of_block (alloc_at (by first | rfl | (simp; done) | (simp; omega)))) (by intro u hu; simp at hu; subst hu; rfl) (intRep (by unfold I64; omega)) (by omega) (by first | omega | (simp; omega)) ?_; intro q' cap' wA hOA hBA hFA; have HBX := Lib.hid (((HBL.out.dr hd5 (by omega)).alloc (.cells #[.int .i64 (belowV C 3 st').1] 3)).below hBA (by omega)); have mA := HBX.out.cellv (j := 1) (by simp); have fA := HBX.out.frozen 1; simp only [List.getElem_cons_zero, List.getElem_cons_succ] at mA; have hCA := Lib.hid ((hc5.bel (w' := w5.alloc (.cells #[.int .i64 (belowV C 3 st').1] 3)) (by (repeat (first | assumption | exact Bel.refl _ | apply Bel.drewN | apply Bel.drew | apply Bel.alloc | refine Bel.trans ?_ (by assumption))))).below hBA (by omega)); have hDA := Lib.hid (((hd1.trans hd5).alloc (.cells #[.int .i64 (belowV C 3 st').1] 3)).below' hBA (by omega)); have HOA := Lib.hid hOA; have hzA : BM + 1 ≤ wA.heap.size := (by have := hBA.size; (try simp only [World.size_alloc] at this); omega); skip; clear hOA hBA hFA)
                  refine hK.out _ _ ?_ (fun hHeld => ?_)
                  · ((try dsimp only); exact Lib.hid trivial)
                  clear hK K
                  try walk_nrm
                  refine wpAnyH_take (i := 6) (v := ?_) rfl (by kernel_rfl) (by kernel_rfl) (by kernel_rfl) (fun _ _ _ h => h) (Or.inl ⟨by rfl, ?_⟩) (by assumption) ?_
                  rotate_left
                  · (intro w hSw; (try dsimp only at hSw); go_simp <;> with_reducible rfl)
                  try walk_nrm
                  refine wpAnyH_ready (rs := [7]) (by kernel_rfl) (by simp) ?_
                  refine AllReadyH.cons rfl (fun K hK => ?_) AllReadyH.nil
                  · go_simp
                    refine hK.out _ _ ?_ (fun hHeld => ?_)
                    · ((try dsimp only); exact Lib.hid trivial)
                    clear hK K
                    try walk_nrm
                    refine wpAnyH_done (by kernel_rfl) ?_ _
                    go_wp2_with fail
                    go_roundw
                    case rel => exact ⟨L.length + 1, b, L ++ [(belowV C 3 st').1], _, q', cap', by omega, by simp, HBX.out.set 1 _, HOA.out.hi intR_good ((Hi.refl _ _).set _ (.inl (by omega))) (fun _ h => h.elim), hCA.out.below ((Below.refl BM wA).setCell (Nat.le_refl _) _) (by omega), HEQN.out, hDA.out.set _ hB0, by simp [World.setCell]; omega⟩
                    case measure =>
                      rw [lenCell_of HMC.out, lenCell_of (show (World.setCell wA ⟨BM, 1, none⟩ (.slice q' (L.length + 1) cap')).cell? ⟨BM, 1, none⟩ = some (.slice q' (L.length + 1) cap') from by have := (HBX.out.set 1 (.slice q' (L.length + 1) cap')).cellv (j := 1) (by simp); simpa using this)]
                      omega

end Go.Proofs.Ytiaamddhocdhaaa
