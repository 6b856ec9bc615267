/- Draws of projects. -/
import Derived.Test.YtiaamddhocdhaaaDraw3
import Derived.Test.YtiaamddhocdhaaaDrawQ
import Derived.Test.YtiaamddhocdhaaaApps
namespace Go.Proofs.Ytiaamddhocdhaaa
open Go.ChangeShapes Go.WideShapes Go.ChangeAt Go.RowKit
set_option linter.unusedVariables false

theorem cell_setNe {w : World} {b i j : Nat} {u v : Value} (h : w.cell? ⟨b, i, none⟩ = some v) (hij : i ≠ j) : (w.setCell ⟨b, j, none⟩ u).cell? ⟨b, i, none⟩ = some v := by
  have := cellSet w (j := j) (v := u) h
  rw [if_neg hij] at this
  exact this
theorem nilR {α : Type} {n : Nat} {R : RepT α} (S : Nat → Prop) (w : World) : sliceR n R S w [.slice none 0 0] [] := ⟨none, 0, rfl, Nat.le_refl _, Nat.zero_le _, fun i hi => absurd hi (Nat.not_lt_zero _)⟩
theorem Hi.up {B B' : Nat} {a b : World} (h : Hi B a b) (hB : B ≤ B') : Hi B' a b := ⟨h.1, fun k hk hlt => h.2 k (Nat.le_trans hB hk) hlt⟩
theorem linksV_stop {C : List Int} {m : Int} (h : ¬ m > 1) : ∀ (k : Nat) (L : List LinkT) (st : StT), linksV C m k L st = (L, st) := by
  intro k L st
  cases k with
  | zero => rfl
  | succ k => rw [linksV, if_neg h]
/-- A drawn project; its links lie in a row of their own, behind block M. -/
def DrO (cb : Nat) (C : List Int) (w : World) (x : ProjT × StT) (e : Ending) (w' : World) : Prop := ∃ (VA VR VS : Value) (Q : Option Addr) (K M : Nat), e = .returned (.agg #[.int .i64 x.1.1, VA, .slice Q x.1.2.2.1.length K, VR, VS]) ∧ w.heap.size ≤ M ∧ M ≤ w'.heap.size ∧ actsR (fun b => w.heap.size ≤ b ∧ b < M) w' [VA] x.1.2.1 ∧ ressR (fun b => w.heap.size ≤ b ∧ b < M) w' [VR] x.1.2.2.2.1 ∧ intsR (fun b => w.heap.size ≤ b ∧ b < M) w' [VS] x.1.2.2.2.2 ∧ Own (fun _ => False) 4 linkR 70 M w' Q K x.1.2.2.1 ∧ I64 x.1.1 ∧ Cur w' cb C x.2 ∧ Dr cb w w'
theorem DrO.any {cb : Nat} {C : List Int} {w : World} {x : ProjT × StT} {e : Ending} {w' : World} (h : DrO cb C w x e w') : DrA projR cb C w x e w' := by
  obtain ⟨VA, VR, VS, Q, K, M, rfl, h1, h2, h3, h4, h5, h6, h7, h8, h9⟩ := h
  have hS : ∀ b, (w.heap.size ≤ b ∧ b < M) → New w w' b := fun b hb => ⟨hb.1, Nat.lt_of_lt_of_le hb.2 h2⟩
  exact ⟨[.int .i64 x.1.1, VA, .slice Q x.1.2.2.1.length K, VR, VS], rfl, ⟨_, _, rfl, intRep h7, _, _, rfl, actsR_good.mono h3 hS, _, _, rfl, h6.done linkR_good (fun _ h _ => h.elim) (fun b k1 k2 => ⟨Nat.le_trans h1 k1, k2⟩), _, _, rfl, ressR_good.mono h4 hS, intsR_good.mono h5 hS⟩, h8, h9⟩
set_option maxRecDepth 100000 in
set_option maxHeartbeats 8000000 in
theorem l05Draw_own (cb : Nat) (C : List Int) (s : StT) (m : Nat) (w : World) (h : Cur w cb C s) (hm1 : 1 ≤ m) (hm : m ≤ 6) :
    Calls Try.prog 79 #[.pointer (some ⟨cb, 0, none⟩), .int .i64 m] w (DrO cb C w (drawP C m s)) := by
  have HLT := Lib.hid h.lt
  have hc := h
  have hltc := h.lt
  have HBR := Lib.hid (Blk.new' (w := w) (e := 34) [.int .i64 0, .slice none 0 0, .slice none 0 0, .slice none 0 0, .slice none 0 0] rfl)
  clear h
  go_enter Try.func79, Try.ntmps79
  go_wp2_with fail
  refine (l01Below_any cb C s 12 _ (hc.bel (by (repeat (first | assumption | exact Bel.refl _ | apply Bel.drewN | apply Bel.drew | apply Bel.alloc | refine Bel.trans ?_ (by assumption))))) (by omega)).mono ?_
  rintro e w2 ⟨rfl, hc2, hd2⟩
  have HBR := Lib.hid (HBR.out.dr hd2 (by omega))
  have hlt2 := HBR.out.lt
  have hd2 := (Dr.ofBel (cb := cb) (a := w) (by (repeat (first | assumption | exact Bel.refl _ | apply Bel.drewN | apply Bel.drew | apply Bel.alloc | refine Bel.trans ?_ (by assumption))))).trans hd2
  have hs2 := hd2.size
  have b2 := belowV_in C 12 s (by decide)
  obtain ⟨D, hD⟩ : ∃ D, (belowV C 12 s).1 = D := ⟨_, rfl⟩
  have HDQ := Lib.hid (show (dD C s).1 = D from hD)
  have hwd : IntKind.i64.wrap (12 + (belowV C 12 s).1) = 12 + D := by rw [hD]; exact IntWalk.i64_in _ (by omega)
  rw [hD] at b2
  obtain ⟨BP, hBP⟩ : ∃ n, n = w2.heap.size := ⟨_, rfl⟩
  obtain ⟨W2, hW2⟩ : ∃ W, W = w2.alloc (.cells #[.int .i64 (12 + D), .slice none 0 0, .slice none 0 0, .slice none 0 0, .slice none 0 0] 34) := ⟨_, rfl⟩
  have HBP := Lib.hid (show Blk W2 BP 34 [.int .i64 (12 + D), .slice none 0 0, .slice none 0 0, .slice none 0 0, .slice none 0 0] from by rw [hW2]; exact Blk.new' _ hBP)
  have HBR := Lib.hid (show Blk W2 w.heap.size 34 [.int .i64 0, .slice none 0 0, .slice none 0 0, .slice none 0 0, .slice none 0 0] from by rw [hW2]; exact HBR.out.alloc _)
  have hcW := hc2.bel (w' := W2) (by rw [hW2]; (repeat (first | assumption | exact Bel.refl _ | apply Bel.drewN | apply Bel.drew | apply Bel.alloc | refine Bel.trans ?_ (by assumption))))
  have hdW : Dr cb w W2 := by rw [hW2]; exact hd2.alloc _
  have hzW : W2.heap.size = BP + 1 := by rw [hW2, hBP]; simp
  have hBPw : w.heap.size < BP := by omega
  rw [hD]
  have HW2 := Lib.hid hW2
  have HBPQ := Lib.hid hBP
  clear hc hc2 hd2 hD hW2 hBP
  have b4 := belowV_in C 4 (belowV C 12 s).2 (by decide)
  go_wp2_with fail
  first | rw [hwd] | skip
  rw [← HW2.out]
  refine (l01Below_any cb C _ 4 _ hcW (by omega)).mono ?_
  rintro e w3 ⟨rfl, hc3, hd3⟩
  have HBP := Lib.hid (HBP.out.dr hd3 (by omega))
  have HBR := Lib.hid (HBR.out.dr hd3 (by omega))
  have hdw3 := hdW.trans hd3
  have hz3 : BP + 1 ≤ w3.heap.size := by have := hd3.size; omega
  have hq : ((belowV C 4 (belowV C 12 s).2).1).tdiv 2 = (belowV C 4 (belowV C 12 s).2).1 / 2 := Int.tdiv_eq_ediv_of_nonneg b4.1
  obtain ⟨N, hN⟩ : ∃ N : Nat, (belowV C 4 (belowV C 12 s).2).1 / 2 = N := Int.eq_ofNat_of_zero_le (by omega)
  have hN1 : N ≤ 1 := by omega
  have hNN : 1 + ((belowV C 4 (belowV C 12 s).2).1 / 2).toNat = N + 1 := by omega
  have HEQR := Lib.hid (show ressV C (N + 1) [] (belowV C 4 (belowV C 12 s).2).2 = dR C s from by unfold dR dD; rw [hNN])
  have hw1 : IntKind.i64.wrap (1 + (N : Int)) = 1 + (N : Int) := IntWalk.i64_in _ (by omega)
  have HNQ := Lib.hid hN
  clear hNN hN hd3 hdW hcW hwd
  rw [← HBPQ.out]
  go_wp2_with fail
  first | rw [hq] | skip
  rw [HNQ.out]
  first | rw [hw1] | skip
  clear hq b4 hw1
  go_loopw [6, 7] (fun kk _ wr => ∃ (n : Nat) (RS : List ResT) (st : StT) (Q : Option Addr) (Cp : Nat), kk = .int .i64 n ∧ RS.length + n ≤ 2 ∧ Blk wr BP 34 [.int .i64 (12 + D), .slice none 0 0, .slice none 0 0, .slice Q RS.length Cp, .slice none 0 0] ∧ Blk wr w.heap.size 34 [.int .i64 0, .slice none 0 0, .slice none 0 0, .slice none 0 0, .slice none 0 0] ∧ Own (fun b => BP + 1 ≤ b) 2 resR 65 (BP + 1) wr Q Cp RS ∧ Cur wr cb C st ∧ ressV C n RS st = dR C s ∧ Dr cb w wr ∧ BP + 1 ≤ wr.heap.size) (fun kk _ _ => (intOf kk).toNat)
  case atStart => exact ⟨N + 1, [], _, none, 0, by first | go_num | (congr 1; omega), by simp; omega, HBP.out, HBR.out, Own.nil _, hc3, HEQR.out, hdw3, hz3⟩
  case round =>
    clear hc3 hdw3 hz3
    obtain ⟨n, RS, st, Q, Cp, rfl, hmn, hBP', hBR', hO, hc, heq, hd, hzr⟩ := hrel
    have HBP := Lib.hid hBP'
    have HBR := Lib.hid hBR'
    have HEQ := Lib.hid heq
    have hwsz := hd.size
    clear hBP' hBR' heq
    cases n with
    | zero =>
      have HDR := Lib.hid (show dR C s = (RS, st) from HEQ.out.symm)
      have hle := hO.le
      unfold maxLen at hle
      have HRS := Lib.hid (show ressR (fun b => BP + 1 ≤ b ∧ b < wr.heap.size) wr [.slice Q RS.length Cp] RS from hO.done resR_good (fun b h1 h2 => ⟨h1, h2⟩) (fun b h1 h2 => ⟨h1, h2⟩))
      clear hO
      obtain ⟨WR, hWR⟩ : ∃ W, W = wr := ⟨wr, rfl⟩
      subst hWR
      go_wp2_with fail
      refine (l01Once_any cb C st 3 _ hc (by omega)).mono ?_
      rintro e wS ⟨rfl, hcS, hdS⟩
      have HBPs := Lib.hid (HBP.out.dr hdS (by omega))
      have HBRs := Lib.hid (HBR.out.dr hdS (by omega))
      have hIS := Hi.ofDr (B := BP + 1) hdS (by omega)
      have hsS := hdS.size
      have hdwS := hd.trans hdS
      have HDSQ := Lib.hid (show dS C s = stocksV C st from by unfold dS; rw [HDR.out])
      clear hc hd
      go_upto_if 40 with (fail)
      go_cut [] (fun wx => ∃ (qS : Option Addr) (cS : Nat), Blk wx BP 34 [.int .i64 (12 + D), .slice none 0 0, .slice none 0 0, .slice Q RS.length Cp, .slice qS (dS C s).1.length cS] ∧ intsR (fun b => WR.heap.size ≤ b ∧ b < wx.heap.size) wx [.slice qS (dS C s).1.length cS] (dS C s).1 ∧ Blk wx w.heap.size 34 [.int .i64 0, .slice none 0 0, .slice none 0 0, .slice none 0 0, .slice none 0 0] ∧ Cur wx cb C (dS C s).2 ∧ Dr cb w wx ∧ Hi (BP + 1) WR wx)
      case first =>
        cases ho : (onceV C 3 st).1
        · have HRV := Lib.hid (show dS C s = ([], (onceV C 3 st).2) from by rw [HDSQ.out]; unfold stocksV; rw [ho]; rfl)
          go_wp2_with fail
          go_meet
          exact ⟨none, 0, by rw [HRV.out]; exact HBPs.out, by rw [HRV.out]; exact nilR _ _, HBRs.out, by rw [HRV.out]; exact hcS, hdwS, hIS⟩
        · have HRV := Lib.hid (show dS C s = ([(belowV C 6 (onceV C 3 st).2).1], (belowV C 6 (onceV C 3 st).2).2) from by rw [HDSQ.out]; unfold stocksV; rw [ho]; rfl)
          have b6 := belowV_in C 6 (onceV C 3 st).2 (by decide)
          go_wp2_with fail
          refine (l01Below_any cb C _ 6 _ hcS (by omega)).mono ?_
          rintro e w6 ⟨rfl, hc6, hd6⟩
          have HBP6 := Lib.hid (HBPs.out.dr hd6 (by omega))
          have HBR6 := Lib.hid (HBRs.out.dr hd6 (by omega))
          have HI6 := Lib.hid (hIS.trans (Hi.ofDr hd6 (by omega)))
          have hs6 := hd6.size
          have HD6 := Lib.hid (hdwS.trans hd6)
          have p4 := HBP6.out.cellv (j := 4) (by simp)
          have fp4 := HBP6.out.frozen 4
          simp only [List.getElem_cons_zero, List.getElem_cons_succ] at p4
          have p4a := fun o => ((Bel.refl w6).alloc o).cell p4
          have fp4a := fun o => (HBP6.out.alloc o).frozen 4
          have HC6 := Lib.hid hc6
          have hbp6 := HBP6.out.lt
          clear hc6
          generalize belowV C 6 (onceV C 3 st).2 = V at *
          go_wp2_with fail
          go_meet
          refine ⟨some ⟨w6.heap.size, 0, none⟩, 1, by rw [HRV.out]; exact (HBP6.out.set 4 _).alloc _, ?_, (HBR6.out.setAt (by omega) 4 _).alloc _, ?_, ?_, ?_⟩
          · rw [HRV.out]
            exact intsR_good.mono (intsR_cell (alloc_at (by simp [World.setCell])) (by unfold I64; omega)) (fun b hb => by rw [hb]; exact ⟨by omega, by simp [World.setCell]⟩)
          · rw [HRV.out]
            exact (HC6.out.below ((Below.refl BP w6).setCell (Nat.le_refl _) _) (by omega)).bel ((Bel.refl _).alloc _)
          · exact (HD6.out.set _ (by omega)).alloc _
          · exact (HI6.out.set _ (.inl (by omega))).alloc _
      case rest =>
        obtain ⟨qS, cS, hbp, hsk, hbr, hc, hd, hi⟩ := hcut
        obtain ⟨NS, hNS⟩ : ∃ n, (dS C s).1.length = n := ⟨_, rfl⟩
        rw [hNS] at hbp hsk
        have HNS := Lib.hid hNS
        have hNS1 : NS ≤ 1 := by
          rw [← hNS, HDSQ.out]
          unfold stocksV
          split <;> simp
        have HBPS := Lib.hid hbp
        have HBRS := Lib.hid hbr
        have HSK := Lib.hid hsk
        obtain ⟨WS, hWS⟩ : ∃ W, W = wc := ⟨wc, rfl⟩
        subst hWS
        have HIR := Lib.hid hi
        have hziS := hi.1
        have bm := belowV_in C (m : Int) (dS C s).2 (by omega)
        clear hNS hbp hbr hsk hi hdS hIS hcS hdwS
        go_wp2_with fail
        refine (l01Below_any cb C _ (m : Int) _ hc (by omega)).mono ?_
        rintro e w7 ⟨rfl, hcA, hd7⟩
        have HBPS := Lib.hid (HBPS.out.dr hd7 (by omega))
        have HBRS := Lib.hid (HBRS.out.dr hd7 (by omega))
        have HIA := Lib.hid (Hi.ofDr (B := BP + 1) hd7 (by omega))
        have hdA := hd.trans hd7
        obtain ⟨NA, hNA⟩ : ∃ n : Nat, (belowV C (m : Int) (dS C s).2).1 = n := Int.eq_ofNat_of_zero_le bm.1
        have hNA1 : NA + 1 ≤ 6 := by omega
        have hwA : IntKind.i64.wrap (1 + (NA : Int)) = 1 + (NA : Int) := IntWalk.i64_in _ (by omega)
        have HEQA := Lib.hid (show actsV C RS.length NS (NA + 1) [] (belowV C (m : Int) (dS C s).2).2 = dA C m s from by
          unfold dA
          rw [HDR.out, HNS.out, hNA, Int.toNat_natCast, Nat.add_comm 1 NA])
        have HNA := Lib.hid hNA
        rw [hNA]
        clear hd hd7 hNA bm hc
        go_wp2_with fail
        first | rw [hwA] | skip
        clear hwA
        go_loopw [8] (fun kk wr => ∃ (n : Nat) (AS : List ActT) (st : StT) (Q2 : Option Addr) (C2 : Nat), kk = .int .i64 n ∧ AS.length + n ≤ 6 ∧ Blk wr BP 34 [.int .i64 (12 + D), .slice Q2 AS.length C2, .slice none 0 0, .slice Q RS.length Cp, .slice qS NS cS] ∧ Blk wr w.heap.size 34 [.int .i64 0, .slice none 0 0, .slice none 0 0, .slice none 0 0, .slice none 0 0] ∧ Own (fun b => WS.heap.size ≤ b) 3 actR 75 WS.heap.size wr Q2 C2 AS ∧ Cur wr cb C st ∧ actsV C RS.length NS n AS st = dA C m s ∧ Dr cb w wr ∧ Hi (BP + 1) WS wr) (fun kk _ => (intOf kk).toNat)
        case atStart => exact ⟨NA + 1, [], _, none, 0, by first | go_num | (congr 1; omega), by simp; omega, HBPS.out, HBRS.out, Own.nil _, hcA, HEQA.out, hdA, HIA.out⟩
        case round =>
          clear hcA hdA
          obtain ⟨n, AS, st, Q2, C2, rfl, hmn, hBP', hBR', hO, hc, heq, hd, hi⟩ := hrel
          have HBPl := Lib.hid hBP'
          have HBRl := Lib.hid hBR'
          have HEQ := Lib.hid heq
          have HIS := Lib.hid hi
          have hwsz := hd.size
          have hzr := hi.1
          clear hBP' hBR' heq hi
          cases n with
          | zero =>
            have HDA := Lib.hid (show dA C m s = (AS, st) from HEQ.out.symm)
            have hle2 := hO.le
            unfold maxLen at hle2
            have HAS := Lib.hid (show actsR (fun b => WS.heap.size ≤ b ∧ b < wr.heap.size) wr [.slice Q2 AS.length C2] AS from hO.done actR_good (fun b h1 h2 => ⟨h1, h2⟩) (fun b h1 h2 => ⟨h1, h2⟩))
            have HISA := HIS
            clear hO HIS
            obtain ⟨WA, hWA⟩ : ∃ W, W = wr := ⟨wr, rfl⟩
            subst hWA
            have p1 := HBPl.out.cellv (j := 1) (by simp)
            simp only [List.getElem_cons_zero, List.getElem_cons_succ] at p1
            have b4 := belowV_in C 4 st (by decide)
            go_wp2_with fail
            refine (l01Below_any cb C st 4 _ hc (by omega)).mono ?_
            rintro e w8 ⟨rfl, hcL, hd8⟩
            have HBPl := Lib.hid (HBPl.out.dr hd8 (by omega))
            have HBRl := Lib.hid (HBRl.out.dr hd8 (by omega))
            have HIL := Lib.hid (Hi.ofDr (B := BP + 1) hd8 (by omega))
            have hdL := hd.trans hd8
            obtain ⟨NL, hNL⟩ : ∃ n : Nat, (belowV C 4 st).1 = n := Int.eq_ofNat_of_zero_le b4.1
            have hNL1 : NL ≤ 3 := by omega
            have HEQL := Lib.hid (show linksV C AS.length NL [] (belowV C 4 st).2 = dL C m s from by
              unfold dL
              rw [HDA.out, hNL, Int.toNat_natCast])
            rw [hNL]
            have HNL := Lib.hid hNL
            clear hd hd8 hNL b4 hc p1
            go_wp2_with fail
            go_loopw [10, 11, 12] (fun kk _ _ wr => ∃ (n : Nat) (LS : List LinkT) (st : StT) (Q3 : Option Addr) (C3 : Nat), kk = .int .i64 n ∧ LS.length + n ≤ 3 ∧ Blk wr BP 34 [.int .i64 (12 + D), .slice Q2 AS.length C2, .slice Q3 LS.length C3, .slice Q RS.length Cp, .slice qS NS cS] ∧ Blk wr w.heap.size 34 [.int .i64 0, .slice none 0 0, .slice none 0 0, .slice none 0 0, .slice none 0 0] ∧ Own (fun _ => False) 4 linkR 70 WA.heap.size wr Q3 C3 LS ∧ Cur wr cb C st ∧ linksV C AS.length n LS st = dL C m s ∧ Dr cb w wr ∧ Hi (BP + 1) WA wr) (fun kk _ _ _ => (intOf kk).toNat)
            case atStart => exact ⟨NL, [], _, none, 0, rfl, by simp; omega, HBPl.out, HBRl.out, Own.nil _, hcL, HEQL.out, hdL, HIL.out⟩
            case round =>
              clear hcL hdL
              obtain ⟨n, LS, st, Q3, C3, rfl, hmn, hBP', hBR', hO, hc, heq, hd, hi⟩ := hrel
              have HBPl := Lib.hid hBP'
              have HBRl := Lib.hid hBR'
              have HEQ := Lib.hid heq
              have HIS := Lib.hid hi
              have hwsz := hd.size
              have hzr := hi.1
              clear hBP' hBR' heq hi
              cases n with
              | zero =>
                have HDL := Lib.hid (show dL C m s = (LS, st) from HEQ.out.symm)
                have HLS := Lib.hid (show linksR (fun b => WA.heap.size ≤ b ∧ b < wr.heap.size) wr [.slice Q3 LS.length C3] LS from hO.done linkR_good (fun b h _ => h.elim) (fun b h1 h2 => ⟨h1, h2⟩))
                have HCF := Lib.hid hc
                have HDF := Lib.hid hd
                have HOL := Lib.hid hO
                have p0 := HBPl.out.cellv (j := 0) (by simp)
                have p1 := HBPl.out.cellv (j := 1) (by simp)
                have p2 := HBPl.out.cellv (j := 2) (by simp)
                have p3 := HBPl.out.cellv (j := 3) (by simp)
                have p4 := HBPl.out.cellv (j := 4) (by simp)
                simp only [List.getElem_cons_zero, List.getElem_cons_succ] at p0 p1 p2 p3 p4
                have r0 := HBRl.out.cellv (j := 0) (by simp)
                have r1 := HBRl.out.cellv (j := 1) (by simp)
                have r2 := HBRl.out.cellv (j := 2) (by simp)
                have r3 := HBRl.out.cellv (j := 3) (by simp)
                have r4 := HBRl.out.cellv (j := 4) (by simp)
                simp only [List.getElem_cons_zero, List.getElem_cons_succ] at r0 r1 r2 r3 r4
                have fr0 := HBRl.out.frozen 0
                have fr1 := HBRl.out.frozen 1
                have fr2 := HBRl.out.frozen 2
                have fr3 := HBRl.out.frozen 3
                have fr4 := HBRl.out.frozen 4
                clear hO hc hd
                go_wp2_with fail
                have HBW := Lib.hid ((((((Below.refl w.heap.size wr).setCell (p := ⟨w.heap.size, 0, none⟩) (Nat.le_refl _) (.int .i64 (12 + D))).setCell (p := ⟨w.heap.size, 1, none⟩) (Nat.le_refl _) (.slice Q2 AS.length C2)).setCell (p := ⟨w.heap.size, 2, none⟩) (Nat.le_refl _) (.slice Q3 LS.length C3)).setCell (p := ⟨w.heap.size, 3, none⟩) (Nat.le_refl _) (.slice Q RS.length Cp)).setCell (p := ⟨w.heap.size, 4, none⟩) (Nat.le_refl _) (.slice qS NS cS))
                have HIF := Lib.hid ((((((Hi.refl (BP + 1) wr).set (q := w.heap.size) (j := 0) (.int .i64 (12 + D)) (.inl (by omega))).set (q := w.heap.size) (j := 1) (.slice Q2 AS.length C2) (.inl (by omega))).set (q := w.heap.size) (j := 2) (.slice Q3 LS.length C3) (.inl (by omega))).set (q := w.heap.size) (j := 3) (.slice Q RS.length Cp) (.inl (by omega))).set (q := w.heap.size) (j := 4) (.slice qS NS cS) (.inl (by omega)))
                have HBF := Lib.hid (((((HBRl.out.set 0 (.int .i64 (12 + D))).set 1 (.slice Q2 AS.length C2)).set 2 (.slice Q3 LS.length C3)).set 3 (.slice Q RS.length Cp)).set 4 (.slice qS NS cS))
                generalize ((((wr.setCell ⟨w.heap.size, 0, none⟩ (.int .i64 (12 + D))).setCell ⟨w.heap.size, 1, none⟩ (.slice Q2 AS.length C2)).setCell ⟨w.heap.size, 2, none⟩ (.slice Q3 LS.length C3)).setCell ⟨w.heap.size, 3, none⟩ (.slice Q RS.length Cp)).setCell ⟨w.heap.size, 4, none⟩ (.slice qS NS cS) = WF at *
                have HIA1 := Lib.hid (HIS.out.trans HIF.out)
                have HIA2 := Lib.hid (HISA.out.trans HIA1.out)
                have HIA3 := Lib.hid (HIR.out.trans HIA2.out)
                have hz0 := HIF.out.1
                have hz1 := HIA1.out.1
                have hz2 := HIA2.out.1
                have hz3 := HIA3.out.1
                have q1z := HIR.out.1
                have q2z := HISA.out.1
                have FA := actsR_good.stay HAS.out (fun b hb => HIA1.out.2 b (by have := hb.1; omega) hb.2)
                have FK := intsR_good.stay HSK.out (fun b hb => HIA2.out.2 b (by have := hb.1; omega) hb.2)
                have FR := ressR_good.stay HRS.out (fun b hb => HIA3.out.2 b (by have := hb.1; omega) hb.2)
                have FA := actsR_good.mono FA (T := fun b => w.heap.size ≤ b ∧ b < WA.heap.size) (fun b hb => ⟨by have := hb.1; omega, by have := hb.2; omega⟩)
                have FK := intsR_good.mono FK (T := fun b => w.heap.size ≤ b ∧ b < WA.heap.size) (fun b hb => ⟨by have := hb.1; omega, by have := hb.2; omega⟩)
                have FR := ressR_good.mono FR (T := fun b => w.heap.size ≤ b ∧ b < WA.heap.size) (fun b hb => ⟨by have := hb.1; omega, by have := hb.2; omega⟩)
                have FO := HOL.out.hi linkR_good (HIF.out.up (by omega)) (fun _ h => h.elim)
                have c0 := HBF.out.cellv (j := 0) (by simp)
                have c1 := HBF.out.cellv (j := 1) (by simp)
                have c2 := HBF.out.cellv (j := 2) (by simp)
                have c3 := HBF.out.cellv (j := 3) (by simp)
                have c4 := HBF.out.cellv (j := 4) (by simp)
                simp only [List.set_cons_zero, List.set_cons_succ, List.getElem_cons_zero, List.getElem_cons_succ] at c0 c1 c2 c3 c4
                have HDP := Lib.hid (show drawP C m s = ((12 + D, AS, LS, RS, (dS C s).1), st) from by unfold drawP; rw [HDQ.out, HDL.out, HDA.out, HDR.out])
                have HCW := HCF.out.below HBW.out HLT.out
                have HDW := HDF.out.below' HBW.out (Nat.le_refl _)
                clear HBF HBW
                exact bodyPost_ret (v := .agg #[.int .i64 (12 + D), .slice Q2 AS.length C2, .slice Q3 LS.length C3, .slice Q RS.length Cp, .slice qS NS cS]) (by simp [results, Try.results79, go_sem, c0, c1, c2, c3, c4]) rfl ⟨.slice Q2 AS.length C2, .slice Q RS.length Cp, .slice qS NS cS, Q3, C3, WA.heap.size, by rw [HDP.out], by omega, by omega, by rw [HDP.out]; exact FA, by rw [HDP.out]; exact FR, by rw [HDP.out]; exact FK, by rw [HDP.out]; exact FO, by rw [HDP.out]; unfold I64; simp only; omega, by rw [HDP.out]; exact HCW, HDW⟩
              | succ n =>
                by_cases hgt : (AS.length : Int) > 1
                rotate_left
                · have HDL := Lib.hid (show dL C m s = (LS, st) from by rw [← HEQ.out, linksV_stop hgt])
                  have hnp : (0 : Int) < ((n + 1 : Nat) : Int) := by omega
                  have hgi : ¬ (1 : Int) < (AS.length : Int) := by omega
                  have HLS := Lib.hid (show linksR (fun b => WA.heap.size ≤ b ∧ b < wr.heap.size) wr [.slice Q3 LS.length C3] LS from hO.done linkR_good (fun b h _ => h.elim) (fun b h1 h2 => ⟨h1, h2⟩))
                  have HCF := Lib.hid hc
                  have HDF := Lib.hid hd
                  have HOL := Lib.hid hO
                  have p0 := HBPl.out.cellv (j := 0) (by simp)
                  have p1 := HBPl.out.cellv (j := 1) (by simp)
                  have p2 := HBPl.out.cellv (j := 2) (by simp)
                  have p3 := HBPl.out.cellv (j := 3) (by simp)
                  have p4 := HBPl.out.cellv (j := 4) (by simp)
                  simp only [List.getElem_cons_zero, List.getElem_cons_succ] at p0 p1 p2 p3 p4
                  have r0 := HBRl.out.cellv (j := 0) (by simp)
                  have r1 := HBRl.out.cellv (j := 1) (by simp)
                  have r2 := HBRl.out.cellv (j := 2) (by simp)
                  have r3 := HBRl.out.cellv (j := 3) (by simp)
                  have r4 := HBRl.out.cellv (j := 4) (by simp)
                  simp only [List.getElem_cons_zero, List.getElem_cons_succ] at r0 r1 r2 r3 r4
                  have fr0 := HBRl.out.frozen 0
                  have fr1 := HBRl.out.frozen 1
                  have fr2 := HBRl.out.frozen 2
                  have fr3 := HBRl.out.frozen 3
                  have fr4 := HBRl.out.frozen 4
                  clear hO hc hd
                  go_wp2_with fail
                  have HBW := Lib.hid ((((((Below.refl w.heap.size wr).setCell (p := ⟨w.heap.size, 0, none⟩) (Nat.le_refl _) (.int .i64 (12 + D))).setCell (p := ⟨w.heap.size, 1, none⟩) (Nat.le_refl _) (.slice Q2 AS.length C2)).setCell (p := ⟨w.heap.size, 2, none⟩) (Nat.le_refl _) (.slice Q3 LS.length C3)).setCell (p := ⟨w.heap.size, 3, none⟩) (Nat.le_refl _) (.slice Q RS.length Cp)).setCell (p := ⟨w.heap.size, 4, none⟩) (Nat.le_refl _) (.slice qS NS cS))
                  have HIF := Lib.hid ((((((Hi.refl (BP + 1) wr).set (q := w.heap.size) (j := 0) (.int .i64 (12 + D)) (.inl (by omega))).set (q := w.heap.size) (j := 1) (.slice Q2 AS.length C2) (.inl (by omega))).set (q := w.heap.size) (j := 2) (.slice Q3 LS.length C3) (.inl (by omega))).set (q := w.heap.size) (j := 3) (.slice Q RS.length Cp) (.inl (by omega))).set (q := w.heap.size) (j := 4) (.slice qS NS cS) (.inl (by omega)))
                  have HBF := Lib.hid (((((HBRl.out.set 0 (.int .i64 (12 + D))).set 1 (.slice Q2 AS.length C2)).set 2 (.slice Q3 LS.length C3)).set 3 (.slice Q RS.length Cp)).set 4 (.slice qS NS cS))
                  generalize ((((wr.setCell ⟨w.heap.size, 0, none⟩ (.int .i64 (12 + D))).setCell ⟨w.heap.size, 1, none⟩ (.slice Q2 AS.length C2)).setCell ⟨w.heap.size, 2, none⟩ (.slice Q3 LS.length C3)).setCell ⟨w.heap.size, 3, none⟩ (.slice Q RS.length Cp)).setCell ⟨w.heap.size, 4, none⟩ (.slice qS NS cS) = WF at *
                  have HIA1 := Lib.hid (HIS.out.trans HIF.out)
                  have HIA2 := Lib.hid (HISA.out.trans HIA1.out)
                  have HIA3 := Lib.hid (HIR.out.trans HIA2.out)
                  have hz0 := HIF.out.1
                  have hz1 := HIA1.out.1
                  have hz2 := HIA2.out.1
                  have hz3 := HIA3.out.1
                  have q1z := HIR.out.1
                  have q2z := HISA.out.1
                  have FA := actsR_good.stay HAS.out (fun b hb => HIA1.out.2 b (by have := hb.1; omega) hb.2)
                  have FK := intsR_good.stay HSK.out (fun b hb => HIA2.out.2 b (by have := hb.1; omega) hb.2)
                  have FR := ressR_good.stay HRS.out (fun b hb => HIA3.out.2 b (by have := hb.1; omega) hb.2)
                  have FA := actsR_good.mono FA (T := fun b => w.heap.size ≤ b ∧ b < WA.heap.size) (fun b hb => ⟨by have := hb.1; omega, by have := hb.2; omega⟩)
                  have FK := intsR_good.mono FK (T := fun b => w.heap.size ≤ b ∧ b < WA.heap.size) (fun b hb => ⟨by have := hb.1; omega, by have := hb.2; omega⟩)
                  have FR := ressR_good.mono FR (T := fun b => w.heap.size ≤ b ∧ b < WA.heap.size) (fun b hb => ⟨by have := hb.1; omega, by have := hb.2; omega⟩)
                  have FO := HOL.out.hi linkR_good (HIF.out.up (by omega)) (fun _ h => h.elim)
                  have c0 := HBF.out.cellv (j := 0) (by simp)
                  have c1 := HBF.out.cellv (j := 1) (by simp)
                  have c2 := HBF.out.cellv (j := 2) (by simp)
                  have c3 := HBF.out.cellv (j := 3) (by simp)
                  have c4 := HBF.out.cellv (j := 4) (by simp)
                  simp only [List.set_cons_zero, List.set_cons_succ, List.getElem_cons_zero, List.getElem_cons_succ] at c0 c1 c2 c3 c4
                  have HDP := Lib.hid (show drawP C m s = ((12 + D, AS, LS, RS, (dS C s).1), st) from by unfold drawP; rw [HDQ.out, HDL.out, HDA.out, HDR.out])
                  have HCW := HCF.out.below HBW.out HLT.out
                  have HDW := HDF.out.below' HBW.out (Nat.le_refl _)
                  clear HBF HBW
                  exact bodyPost_ret (v := .agg #[.int .i64 (12 + D), .slice Q2 AS.length C2, .slice Q3 LS.length C3, .slice Q RS.length Cp, .slice qS NS cS]) (by simp [results, Try.results79, go_sem, c0, c1, c2, c3, c4]) rfl ⟨.slice Q2 AS.length C2, .slice Q RS.length Cp, .slice qS NS cS, Q3, C3, WA.heap.size, by rw [HDP.out], by omega, by omega, by rw [HDP.out]; exact FA, by rw [HDP.out]; exact FR, by rw [HDP.out]; exact FK, by rw [HDP.out]; exact FO, by rw [HDP.out]; unfold I64; simp only; omega, by rw [HDP.out]; exact HCW, HDW⟩
                · skip
                  have HEQ := Lib.hid (show linksV C AS.length n (LS ++ [(linkV C AS.length st).1]) (linkV C AS.length st).2 = dL C m s from by rw [← HEQ.out, linksV, if_pos hgt])
                  have hgt1 : 1 < AS.length := by omega
                  have HOKL := Lib.hid (linkOk_bd (linkV_ok C AS.length st hgt1))
                  have hnp : (0 : Int) < ((n + 1 : Nat) : Int) := by omega
                  have hgi : (1 : Int) < (AS.length : Int) := by omega
                  have hwn : IntKind.i64.wrap ((AS.length : Int) - 1) = (AS.length : Int) - 1 := IntWalk.i64_in _ (by omega)
                  obtain ⟨w0, hw0⟩ : ∃ W, W = wr := ⟨wr, rfl⟩
                  subst hw0
                  have bA := belowV_in C ((AS.length : Int) - 1) st (by omega)
                  go_wp2_with fail
                  refine (l01Below_any cb C st ((AS.length : Int) - 1) _ hc (by omega)).mono ?_
                  rintro e w9 ⟨rfl, hc9, hd9⟩
                  obtain ⟨A, hA⟩ : ∃ A, (belowV C ((AS.length : Int) - 1) st).1 = A := ⟨_, rfl⟩
                  have HAQ := Lib.hid (show (linkA C AS.length st).1 = A from hA)
                  rw [hA] at bA
                  rw [hA]
                  have hwA1 : IntKind.i64.wrap (A + 1) = A + 1 := IntWalk.i64_in _ (by omega)
                  have hwA2 : IntKind.i64.wrap ((AS.length : Int) - 1 - A) = (AS.length : Int) - 1 - A := IntWalk.i64_in _ (by omega)
                  have bB := belowV_in C ((AS.length : Int) - 1 - A) (belowV C ((AS.length : Int) - 1) st).2 (by omega)
                  clear hA
                  go_wp2_with fail
                  refine (l01Below_any cb C _ ((AS.length : Int) - 1 - A) _ hc9 (by omega)).mono ?_
                  rintro e w10 ⟨rfl, hc10, hd10⟩
                  obtain ⟨Bn, hB⟩ : ∃ B, (belowV C ((AS.length : Int) - 1 - A) (belowV C ((AS.length : Int) - 1) st).2).1 = B := ⟨_, rfl⟩
                  have HBQ := Lib.hid (show (linkB C AS.length st).1 = Bn from by unfold linkB; rw [HAQ.out]; exact hB)
                  have HB2 := Lib.hid (show (belowV C ((AS.length : Int) - 1 - A) (belowV C ((AS.length : Int) - 1) st).2).2 = (linkB C AS.length st).2 from by unfold linkB; rw [HAQ.out]; rfl)
                  rw [hB] at bB
                  rw [hB]
                  rw [HB2.out] at hc10
                  have hwB : IntKind.i64.wrap (A + 1 + Bn) = A + 1 + Bn := IntWalk.i64_in _ (by omega)
                  clear hB
                  go_wp2_with fail
                  refine (l01Once_any cb C _ 3 _ hc10 (by omega)).mono ?_
                  rintro e w11 ⟨rfl, hc11, hd11⟩
                  have bL := belowV_in C 3 (onceV C 3 (linkB C AS.length st).2).2 (by decide)
                  go_wp2_with fail
                  refine (l01Below_any cb C _ 3 _ hc11 (by omega)).mono ?_
                  rintro e w12 ⟨rfl, hc12, hd12⟩
                  have hd012 := ((hd9.trans hd10).trans hd11).trans hd12
                  have hs12 := hd012.size
                  have HEL := Lib.hid (show (linkE C AS.length st) = onceV C 3 (linkB C AS.length st).2 from rfl)
                  have HLL := Lib.hid (show linkL C AS.length st = belowV C 3 (onceV C 3 (linkB C AS.length st).2).2 from rfl)
                  rw [← HLL.out] at bL hc12
                  rw [← HLL.out, ← HEL.out]
                  obtain ⟨BX, hBX⟩ : ∃ n, n = w12.heap.size := ⟨_, rfl⟩
                  obtain ⟨W5, hW5⟩ : ∃ W, W = w12.alloc (.cells #[.int .i64 A, .int .i64 (A + 1 + Bn), .bool (!(linkE C AS.length st).1), .int .i64 (linkL C AS.length st).1] 70) := ⟨_, rfl⟩
                  have HBX := Lib.hid (show Blk W5 BX 70 [.int .i64 A, .int .i64 (A + 1 + Bn), .bool (!(linkE C AS.length st).1), .int .i64 (linkL C AS.length st).1] from by rw [hW5]; exact Blk.new' _ hBX)
                  have hcW := hc12.bel (w' := W5) (by rw [hW5]; (repeat (first | assumption | exact Bel.refl _ | apply Bel.drewN | apply Bel.drew | apply Bel.alloc | refine Bel.trans ?_ (by assumption))))
                  have hdW : Dr cb w12 W5 := by rw [hW5]; exact (Dr.refl _ _).alloc _
                  have hBXs : w12.heap.size ≤ BX ∧ BX ≤ w12.heap.size := by rw [hBX]; exact ⟨Nat.le_refl _, Nat.le_refl _⟩
                  have HW5 := Lib.hid hW5
                  have HBXQ := Lib.hid hBX
                  clear hc hc9 hc10 hc11 hc12 hd9 hd10 hd11 hd12 hBX hW5
                  go_wp2_with fail
                  rw [← HW5.out, ← HBXQ.out]
                  refine (l01Once_any cb C _ 6 _ hcW (by omega)).mono ?_
                  rintro e wO ⟨rfl, hcO, hdO'⟩
                  rw [show (onceV C 6 (linkL C AS.length st).2).1 = (linkO C AS.length st).1 from rfl]
                  have hcO : Cur wO cb C (linkO C AS.length st).2 := hcO
                  have hdO := hdW.trans hdO'
                  have HBXO := Lib.hid (HBX.out.dr hdO' (by omega))
                  have hbxO := HBXO.out.lt
                  clear hcW hdW hdO'
                  go_upto_if 103 with (fail)
                  go_cut [] (fun wx => Blk wx BX 70 [.int .i64 (linkV C AS.length st).1.1, .int .i64 (linkV C AS.length st).1.2.1, .bool (linkV C AS.length st).1.2.2.1, .int .i64 (linkV C AS.length st).1.2.2.2] ∧ Cur wx cb C (linkV C AS.length st).2 ∧ Dr cb w12 wx)
                  case first =>
                    cases ho : (linkO C AS.length st).1
                    · have HRV := Lib.hid (show linkV C AS.length st = ((A, A + 1 + Bn, !(linkE C AS.length st).1, (linkL C AS.length st).1), (linkO C AS.length st).2) from by unfold linkV; rw [ho, HAQ.out, HBQ.out]; rfl)
                      go_wp2_with fail
                      go_meet
                      exact ⟨by rw [HRV.out]; exact HBXO.out, by rw [HRV.out]; exact hcO, hdO⟩
                    · have HRV := Lib.hid (show linkV C AS.length st = ((A + 1 + Bn, A, false, -4 - (belowV C 9 (linkO C AS.length st).2).1), (belowV C 9 (linkO C AS.length st).2).2) from by unfold linkV; rw [ho, HAQ.out, HBQ.out]; rfl)
                      have b9 := belowV_in C 9 (linkO C AS.length st).2 (by decide)
                      have hw9 : IntKind.i64.wrap (-4 - (belowV C 9 (linkO C AS.length st).2).1) = -4 - (belowV C 9 (linkO C AS.length st).2).1 := IntWalk.i64_in _ (by omega)
                      have y0 := HBXO.out.cellv (j := 0) (by simp)
                      have y1 := HBXO.out.cellv (j := 1) (by simp)
                      simp only [List.getElem_cons_zero, List.getElem_cons_succ] at y0 y1
                      go_wp2_with fail
                      refine wp_region_held_drew (S := (fun W => Hid True)) (by kernel_rfl) ?_ (fun hHeld => ?_)
                      · ((try dsimp only); exact Lib.hid trivial)
                      refine wpAnyH_take (i := 0) (v := ?_) rfl (by kernel_rfl) (by kernel_rfl) (by kernel_rfl) (fun _ _ _ h => h) (Or.inl ⟨by rfl, ?_⟩) (by assumption) ?_
                      rotate_left
                      · (intro w hSw; (try dsimp only at hSw); go_simp <;> with_reducible rfl)
                      try walk_nrm
                      refine wpAnyH_take (i := 2) (v := ?_) rfl (by kernel_rfl) (by kernel_rfl) (by kernel_rfl) (fun _ _ _ h => h) (Or.inl ⟨by rfl, ?_⟩) (by assumption) ?_
                      rotate_left
                      · (intro w hSw; (try dsimp only at hSw); go_simp <;> with_reducible rfl)
                      try walk_nrm
                      refine wpAnyH_take (i := 4) (v := ?_) rfl (by kernel_rfl) (by kernel_rfl) (by kernel_rfl) (fun _ _ _ h => h) (Or.inl ⟨by rfl, ?_⟩) (by assumption) ?_
                      rotate_left
                      · (intro w hSw; (try dsimp only at hSw); go_simp <;> with_reducible rfl)
                      try walk_nrm
                      refine wpAnyH_ready (rs := [1, 3, 5]) (by kernel_rfl) (by simp) ?_
                      refine AllReadyH.cons rfl (fun K hK => ?_) ?_
                      · go_simp
                        refine hK.out _ _ ?_ (fun hHeld => ?_)
                        · ((try dsimp only); exact Lib.hid trivial)
                        clear hK K
                        try walk_nrm
                        refine wpAnyH_ready (rs := [3, 5]) (by kernel_rfl) (by simp) ?_
                        refine AllReadyH.cons rfl (fun K hK => ?_) ?_
                        · go_simp
                          refine hK.out _ _ ?_ (fun hHeld => ?_)
                          · ((try dsimp only); exact Lib.hid trivial)
                          clear hK K
                          try walk_nrm
                          refine wpAnyH_ready (rs := [5]) (by kernel_rfl) (by simp) ?_
                          refine AllReadyH.cons rfl (fun K hK => ?_) AllReadyH.nil
                          · go_simp
                            (go_at_call 139; (with_reducible refine (l01Below_any cb C (linkO C AS.length st).2 9 _ (hcO.bel (by (repeat (first | assumption | exact Bel.refl _ | apply Bel.drewN | apply Bel.drew | apply Bel.alloc | refine Bel.trans ?_ (by assumption))))) (by omega)).mono ?_); rintro e w13 ⟨rfl, hc13, hd13⟩; have hd13 := (Dr.ofBel (cb := cb) (a := wO) (by (repeat (first | assumption | exact Bel.refl _ | apply Bel.drewN | apply Bel.drew | apply Bel.alloc | refine Bel.trans ?_ (by assumption))))).trans hd13; have HBX13 := Lib.hid (HBXO.out.dr hd13 (by omega)); have z0 := HBX13.out.cellv (j := 0) (by simp); have z1 := HBX13.out.cellv (j := 1) (by simp); have z2 := HBX13.out.cellv (j := 2) (by simp); have z3 := HBX13.out.cellv (j := 3) (by simp); simp only [List.getElem_cons_zero, List.getElem_cons_succ] at z0 z1 z2 z3; have fz0 := HBX13.out.frozen 0; have fz1 := HBX13.out.frozen 1; have fz2 := HBX13.out.frozen 2; have fz3 := HBX13.out.frozen 3; have HC13 := Lib.hid hc13; have HD13 := Lib.hid (hdO.trans hd13); clear hc13)
                            try go_wp2_with fail
                            refine hK.out _ _ ?_ (fun hHeld => ?_)
                            · ((try dsimp only); exact Lib.hid trivial)
                            clear hK K
                            try walk_nrm
                            refine wpAnyH_take (i := 6) (v := ?_) rfl (by kernel_rfl) (by kernel_rfl) (by kernel_rfl) (fun _ _ _ h => h) (Or.inl ⟨by rfl, ?_⟩) (by assumption) ?_
                            rotate_left
                            · (intro w hSw; (try dsimp only at hSw); go_simp <;> with_reducible rfl)
                            try walk_nrm
                            refine wpAnyH_take (i := 7) (v := ?_) rfl (by kernel_rfl) (by kernel_rfl) (by kernel_rfl) (fun _ _ _ h => h) (Or.inl ⟨by rfl, ?_⟩) (by assumption) ?_
                            rotate_left
                            · (intro w hSw; (try dsimp only at hSw); go_simp <;> with_reducible rfl)
                            try walk_nrm
                            refine wpAnyH_ready (rs := [8]) (by kernel_rfl) (by simp) ?_
                            refine AllReadyH.cons rfl (fun K hK => ?_) AllReadyH.nil
                            · go_simp
                              refine hK.out _ _ ?_ (fun hHeld => ?_)
                              · ((try dsimp only); exact Lib.hid trivial)
                              clear hK K
                              try walk_nrm
                              refine wpAnyH_done (by kernel_rfl) ?_ _
                              go_wp2_with fail
                              go_meet
                              exact ⟨by rw [HRV.out]; exact (((HBX13.out.set 0 _).set 1 _).set 2 _).set 3 _, by rw [HRV.out]; exact HC13.out.below (((((Below.refl BX w13).setCell (Nat.le_refl _) _).setCell (Nat.le_refl _) _).setCell (Nat.le_refl _) _).setCell (Nat.le_refl _) _) (by omega), (((HD13.out.set _ (by omega)).set _ (by omega)).set _ (by omega)).set _ (by omega)⟩
                        refine AllReadyH.cons rfl (fun K hK => ?_) AllReadyH.nil
                        · go_simp
                          (go_at_call 139; (with_reducible refine (l01Below_any cb C (linkO C AS.length st).2 9 _ (hcO.bel (by (repeat (first | assumption | exact Bel.refl _ | apply Bel.drewN | apply Bel.drew | apply Bel.alloc | refine Bel.trans ?_ (by assumption))))) (by omega)).mono ?_); rintro e w13 ⟨rfl, hc13, hd13⟩; have hd13 := (Dr.ofBel (cb := cb) (a := wO) (by (repeat (first | assumption | exact Bel.refl _ | apply Bel.drewN | apply Bel.drew | apply Bel.alloc | refine Bel.trans ?_ (by assumption))))).trans hd13; have HBX13 := Lib.hid (HBXO.out.dr hd13 (by omega)); have z0 := HBX13.out.cellv (j := 0) (by simp); have z1 := HBX13.out.cellv (j := 1) (by simp); have z2 := HBX13.out.cellv (j := 2) (by simp); have z3 := HBX13.out.cellv (j := 3) (by simp); simp only [List.getElem_cons_zero, List.getElem_cons_succ] at z0 z1 z2 z3; have fz0 := HBX13.out.frozen 0; have fz1 := HBX13.out.frozen 1; have fz2 := HBX13.out.frozen 2; have fz3 := HBX13.out.frozen 3; have HC13 := Lib.hid hc13; have HD13 := Lib.hid (hdO.trans hd13); clear hc13)
                          try go_wp2_with fail
                          refine hK.out _ _ ?_ (fun hHeld => ?_)
                          · ((try dsimp only); exact Lib.hid trivial)
                          clear hK K
                          try walk_nrm
                          refine wpAnyH_take (i := 6) (v := ?_) rfl (by kernel_rfl) (by kernel_rfl) (by kernel_rfl) (fun _ _ _ h => h) (Or.inl ⟨by rfl, ?_⟩) (by assumption) ?_
                          rotate_left
                          · (intro w hSw; (try dsimp only at hSw); go_simp <;> with_reducible rfl)
                          try walk_nrm
                          refine wpAnyH_ready (rs := [3]) (by kernel_rfl) (by simp) ?_
                          refine AllReadyH.cons rfl (fun K hK => ?_) AllReadyH.nil
                          · go_simp
                            refine hK.out _ _ ?_ (fun hHeld => ?_)
                            · ((try dsimp only); exact Lib.hid trivial)
                            clear hK K
                            try walk_nrm
                            refine wpAnyH_take (i := 7) (v := ?_) rfl (by kernel_rfl) (by kernel_rfl) (by kernel_rfl) (fun _ _ _ h => h) (Or.inl ⟨by rfl, ?_⟩) (by assumption) ?_
                            rotate_left
                            · (intro w hSw; (try dsimp only at hSw); go_simp <;> with_reducible rfl)
                            try walk_nrm
                            refine wpAnyH_ready (rs := [8]) (by kernel_rfl) (by simp) ?_
                            refine AllReadyH.cons rfl (fun K hK => ?_) AllReadyH.nil
                            · go_simp
                              refine hK.out _ _ ?_ (fun hHeld => ?_)
                              · ((try dsimp only); exact Lib.hid trivial)
                              clear hK K
                              try walk_nrm
                              refine wpAnyH_done (by kernel_rfl) ?_ _
                              go_wp2_with fail
                              go_meet
                              exact ⟨by rw [HRV.out]; exact (((HBX13.out.set 0 _).set 1 _).set 2 _).set 3 _, by rw [HRV.out]; exact HC13.out.below (((((Below.refl BX w13).setCell (Nat.le_refl _) _).setCell (Nat.le_refl _) _).setCell (Nat.le_refl _) _).setCell (Nat.le_refl _) _) (by omega), (((HD13.out.set _ (by omega)).set _ (by omega)).set _ (by omega)).set _ (by omega)⟩
                      refine AllReadyH.cons rfl (fun K hK => ?_) ?_
                      · go_simp
                        refine hK.out _ _ ?_ (fun hHeld => ?_)
                        · ((try dsimp only); exact Lib.hid trivial)
                        clear hK K
                        try walk_nrm
                        refine wpAnyH_ready (rs := [1, 5]) (by kernel_rfl) (by simp) ?_
                        refine AllReadyH.cons rfl (fun K hK => ?_) ?_
                        · go_simp
                          refine hK.out _ _ ?_ (fun hHeld => ?_)
                          · ((try dsimp only); exact Lib.hid trivial)
                          clear hK K
                          try walk_nrm
                          refine wpAnyH_ready (rs := [5]) (by kernel_rfl) (by simp) ?_
                          refine AllReadyH.cons rfl (fun K hK => ?_) AllReadyH.nil
                          · go_simp
                            (go_at_call 139; (with_reducible refine (l01Below_any cb C (linkO C AS.length st).2 9 _ (hcO.bel (by (repeat (first | assumption | exact Bel.refl _ | apply Bel.drewN | apply Bel.drew | apply Bel.alloc | refine Bel.trans ?_ (by assumption))))) (by omega)).mono ?_); rintro e w13 ⟨rfl, hc13, hd13⟩; have hd13 := (Dr.ofBel (cb := cb) (a := wO) (by (repeat (first | assumption | exact Bel.refl _ | apply Bel.drewN | apply Bel.drew | apply Bel.alloc | refine Bel.trans ?_ (by assumption))))).trans hd13; have HBX13 := Lib.hid (HBXO.out.dr hd13 (by omega)); have z0 := HBX13.out.cellv (j := 0) (by simp); have z1 := HBX13.out.cellv (j := 1) (by simp); have z2 := HBX13.out.cellv (j := 2) (by simp); have z3 := HBX13.out.cellv (j := 3) (by simp); simp only [List.getElem_cons_zero, List.getElem_cons_succ] at z0 z1 z2 z3; have fz0 := HBX13.out.frozen 0; have fz1 := HBX13.out.frozen 1; have fz2 := HBX13.out.frozen 2; have fz3 := HBX13.out.frozen 3; have HC13 := Lib.hid hc13; have HD13 := Lib.hid (hdO.trans hd13); clear hc13)
                            try go_wp2_with fail
                            refine hK.out _ _ ?_ (fun hHeld => ?_)
                            · ((try dsimp only); exact Lib.hid trivial)
                            clear hK K
                            try walk_nrm
                            refine wpAnyH_take (i := 6) (v := ?_) rfl (by kernel_rfl) (by kernel_rfl) (by kernel_rfl) (fun _ _ _ h => h) (Or.inl ⟨by rfl, ?_⟩) (by assumption) ?_
                            rotate_left
                            · (intro w hSw; (try dsimp only at hSw); go_simp <;> with_reducible rfl)
                            try walk_nrm
                            refine wpAnyH_take (i := 7) (v := ?_) rfl (by kernel_rfl) (by kernel_rfl) (by kernel_rfl) (fun _ _ _ h => h) (Or.inl ⟨by rfl, ?_⟩) (by assumption) ?_
                            rotate_left
                            · (intro w hSw; (try dsimp only at hSw); go_simp <;> with_reducible rfl)
                            try walk_nrm
                            refine wpAnyH_ready (rs := [8]) (by kernel_rfl) (by simp) ?_
                            refine AllReadyH.cons rfl (fun K hK => ?_) AllReadyH.nil
                            · go_simp
                              refine hK.out _ _ ?_ (fun hHeld => ?_)
                              · ((try dsimp only); exact Lib.hid trivial)
                              clear hK K
                              try walk_nrm
                              refine wpAnyH_done (by kernel_rfl) ?_ _
                              go_wp2_with fail
                              go_meet
                              exact ⟨by rw [HRV.out]; exact (((HBX13.out.set 0 _).set 1 _).set 2 _).set 3 _, by rw [HRV.out]; exact HC13.out.below (((((Below.refl BX w13).setCell (Nat.le_refl _) _).setCell (Nat.le_refl _) _).setCell (Nat.le_refl _) _).setCell (Nat.le_refl _) _) (by omega), (((HD13.out.set _ (by omega)).set _ (by omega)).set _ (by omega)).set _ (by omega)⟩
                        refine AllReadyH.cons rfl (fun K hK => ?_) AllReadyH.nil
                        · go_simp
                          (go_at_call 139; (with_reducible refine (l01Below_any cb C (linkO C AS.length st).2 9 _ (hcO.bel (by (repeat (first | assumption | exact Bel.refl _ | apply Bel.drewN | apply Bel.drew | apply Bel.alloc | refine Bel.trans ?_ (by assumption))))) (by omega)).mono ?_); rintro e w13 ⟨rfl, hc13, hd13⟩; have hd13 := (Dr.ofBel (cb := cb) (a := wO) (by (repeat (first | assumption | exact Bel.refl _ | apply Bel.drewN | apply Bel.drew | apply Bel.alloc | refine Bel.trans ?_ (by assumption))))).trans hd13; have HBX13 := Lib.hid (HBXO.out.dr hd13 (by omega)); have z0 := HBX13.out.cellv (j := 0) (by simp); have z1 := HBX13.out.cellv (j := 1) (by simp); have z2 := HBX13.out.cellv (j := 2) (by simp); have z3 := HBX13.out.cellv (j := 3) (by simp); simp only [List.getElem_cons_zero, List.getElem_cons_succ] at z0 z1 z2 z3; have fz0 := HBX13.out.frozen 0; have fz1 := HBX13.out.frozen 1; have fz2 := HBX13.out.frozen 2; have fz3 := HBX13.out.frozen 3; have HC13 := Lib.hid hc13; have HD13 := Lib.hid (hdO.trans hd13); clear hc13)
                          try go_wp2_with fail
                          refine hK.out _ _ ?_ (fun hHeld => ?_)
                          · ((try dsimp only); exact Lib.hid trivial)
                          clear hK K
                          try walk_nrm
                          refine wpAnyH_take (i := 6) (v := ?_) rfl (by kernel_rfl) (by kernel_rfl) (by kernel_rfl) (fun _ _ _ h => h) (Or.inl ⟨by rfl, ?_⟩) (by assumption) ?_
                          rotate_left
                          · (intro w hSw; (try dsimp only at hSw); go_simp <;> with_reducible rfl)
                          try walk_nrm
                          refine wpAnyH_ready (rs := [1]) (by kernel_rfl) (by simp) ?_
                          refine AllReadyH.cons rfl (fun K hK => ?_) AllReadyH.nil
                          · go_simp
                            refine hK.out _ _ ?_ (fun hHeld => ?_)
                            · ((try dsimp only); exact Lib.hid trivial)
                            clear hK K
                            try walk_nrm
                            refine wpAnyH_take (i := 7) (v := ?_) rfl (by kernel_rfl) (by kernel_rfl) (by kernel_rfl) (fun _ _ _ h => h) (Or.inl ⟨by rfl, ?_⟩) (by assumption) ?_
                            rotate_left
                            · (intro w hSw; (try dsimp only at hSw); go_simp <;> with_reducible rfl)
                            try walk_nrm
                            refine wpAnyH_ready (rs := [8]) (by kernel_rfl) (by simp) ?_
                            refine AllReadyH.cons rfl (fun K hK => ?_) AllReadyH.nil
                            · go_simp
                              refine hK.out _ _ ?_ (fun hHeld => ?_)
                              · ((try dsimp only); exact Lib.hid trivial)
                              clear hK K
                              try walk_nrm
                              refine wpAnyH_done (by kernel_rfl) ?_ _
                              go_wp2_with fail
                              go_meet
                              exact ⟨by rw [HRV.out]; exact (((HBX13.out.set 0 _).set 1 _).set 2 _).set 3 _, by rw [HRV.out]; exact HC13.out.below (((((Below.refl BX w13).setCell (Nat.le_refl _) _).setCell (Nat.le_refl _) _).setCell (Nat.le_refl _) _).setCell (Nat.le_refl _) _) (by omega), (((HD13.out.set _ (by omega)).set _ (by omega)).set _ (by omega)).set _ (by omega)⟩
                      refine AllReadyH.cons rfl (fun K hK => ?_) AllReadyH.nil
                      · go_simp
                        (go_at_call 139; (with_reducible refine (l01Below_any cb C (linkO C AS.length st).2 9 _ (hcO.bel (by (repeat (first | assumption | exact Bel.refl _ | apply Bel.drewN | apply Bel.drew | apply Bel.alloc | refine Bel.trans ?_ (by assumption))))) (by omega)).mono ?_); rintro e w13 ⟨rfl, hc13, hd13⟩; have hd13 := (Dr.ofBel (cb := cb) (a := wO) (by (repeat (first | assumption | exact Bel.refl _ | apply Bel.drewN | apply Bel.drew | apply Bel.alloc | refine Bel.trans ?_ (by assumption))))).trans hd13; have HBX13 := Lib.hid (HBXO.out.dr hd13 (by omega)); have z0 := HBX13.out.cellv (j := 0) (by simp); have z1 := HBX13.out.cellv (j := 1) (by simp); have z2 := HBX13.out.cellv (j := 2) (by simp); have z3 := HBX13.out.cellv (j := 3) (by simp); simp only [List.getElem_cons_zero, List.getElem_cons_succ] at z0 z1 z2 z3; have fz0 := HBX13.out.frozen 0; have fz1 := HBX13.out.frozen 1; have fz2 := HBX13.out.frozen 2; have fz3 := HBX13.out.frozen 3; have HC13 := Lib.hid hc13; have HD13 := Lib.hid (hdO.trans hd13); clear hc13)
                        try go_wp2_with fail
                        refine hK.out _ _ ?_ (fun hHeld => ?_)
                        · ((try dsimp only); exact Lib.hid trivial)
                        clear hK K
                        try walk_nrm
                        refine wpAnyH_take (i := 6) (v := ?_) rfl (by kernel_rfl) (by kernel_rfl) (by kernel_rfl) (fun _ _ _ h => h) (Or.inl ⟨by rfl, ?_⟩) (by assumption) ?_
                        rotate_left
                        · (intro w hSw; (try dsimp only at hSw); go_simp <;> with_reducible rfl)
                        try walk_nrm
                        refine wpAnyH_ready (rs := [1, 3]) (by kernel_rfl) (by simp) ?_
                        refine AllReadyH.cons rfl (fun K hK => ?_) ?_
                        · go_simp
                          refine hK.out _ _ ?_ (fun hHeld => ?_)
                          · ((try dsimp only); exact Lib.hid trivial)
                          clear hK K
                          try walk_nrm
                          refine wpAnyH_ready (rs := [3]) (by kernel_rfl) (by simp) ?_
                          refine AllReadyH.cons rfl (fun K hK => ?_) AllReadyH.nil
                          · go_simp
                            refine hK.out _ _ ?_ (fun hHeld => ?_)
                            · ((try dsimp only); exact Lib.hid trivial)
                            clear hK K
                            try walk_nrm
                            refine wpAnyH_take (i := 7) (v := ?_) rfl (by kernel_rfl) (by kernel_rfl) (by kernel_rfl) (fun _ _ _ h => h) (Or.inl ⟨by rfl, ?_⟩) (by assumption) ?_
                            rotate_left
                            · (intro w hSw; (try dsimp only at hSw); go_simp <;> with_reducible rfl)
                            try walk_nrm
                            refine wpAnyH_ready (rs := [8]) (by kernel_rfl) (by simp) ?_
                            refine AllReadyH.cons rfl (fun K hK => ?_) AllReadyH.nil
                            · go_simp
                              refine hK.out _ _ ?_ (fun hHeld => ?_)
                              · ((try dsimp only); exact Lib.hid trivial)
                              clear hK K
                              try walk_nrm
                              refine wpAnyH_done (by kernel_rfl) ?_ _
                              go_wp2_with fail
                              go_meet
                              exact ⟨by rw [HRV.out]; exact (((HBX13.out.set 0 _).set 1 _).set 2 _).set 3 _, by rw [HRV.out]; exact HC13.out.below (((((Below.refl BX w13).setCell (Nat.le_refl _) _).setCell (Nat.le_refl _) _).setCell (Nat.le_refl _) _).setCell (Nat.le_refl _) _) (by omega), (((HD13.out.set _ (by omega)).set _ (by omega)).set _ (by omega)).set _ (by omega)⟩
                        refine AllReadyH.cons rfl (fun K hK => ?_) AllReadyH.nil
                        · go_simp
                          refine hK.out _ _ ?_ (fun hHeld => ?_)
                          · ((try dsimp only); exact Lib.hid trivial)
                          clear hK K
                          try walk_nrm
                          refine wpAnyH_ready (rs := [1]) (by kernel_rfl) (by simp) ?_
                          refine AllReadyH.cons rfl (fun K hK => ?_) AllReadyH.nil
                          · go_simp
                            refine hK.out _ _ ?_ (fun hHeld => ?_)
                            · ((try dsimp only); exact Lib.hid trivial)
                            clear hK K
                            try walk_nrm
                            refine wpAnyH_take (i := 7) (v := ?_) rfl (by kernel_rfl) (by kernel_rfl) (by kernel_rfl) (fun _ _ _ h => h) (Or.inl ⟨by rfl, ?_⟩) (by assumption) ?_
                            rotate_left
                            · (intro w hSw; (try dsimp only at hSw); go_simp <;> with_reducible rfl)
                            try walk_nrm
                            refine wpAnyH_ready (rs := [8]) (by kernel_rfl) (by simp) ?_
                            refine AllReadyH.cons rfl (fun K hK => ?_) AllReadyH.nil
                            · go_simp
                              refine hK.out _ _ ?_ (fun hHeld => ?_)
                              · ((try dsimp only); exact Lib.hid trivial)
                              clear hK K
                              try walk_nrm
                              refine wpAnyH_done (by kernel_rfl) ?_ _
                              go_wp2_with fail
                              go_meet
                              exact ⟨by rw [HRV.out]; exact (((HBX13.out.set 0 _).set 1 _).set 2 _).set 3 _, by rw [HRV.out]; exact HC13.out.below (((((Below.refl BX w13).setCell (Nat.le_refl _) _).setCell (Nat.le_refl _) _).setCell (Nat.le_refl _) _).setCell (Nat.le_refl _) _) (by omega), (((HD13.out.set _ (by omega)).set _ (by omega)).set _ (by omega)).set _ (by omega)⟩
                  case rest =>
                    obtain ⟨hbx, hc5, hd5⟩ := hcut
                    have HBX5 := Lib.hid hbx
                    have HC := Lib.hid hc5
                    have hd05 := hd012.trans hd5
                    have HDD := Lib.hid (hd.trans hd05)
                    have HBPr := Lib.hid (HBPl.out.dr hd05 (by omega))
                    have HBRr := Lib.hid (HBRl.out.dr hd05 (by omega))
                    have HIO := Lib.hid (show Hi WA.heap.size w0 wc from Hi.ofDr hd05 (by omega))
                    have HIW := Lib.hid (HIS.out.trans (Hi.ofDr hd05 (by omega)))
                    have hxwc := HBX5.out.lt
                    have hswc := hd05.size
                    have x0 := HBX5.out.cellv (j := 0) (by simp)
                    have x1 := HBX5.out.cellv (j := 1) (by simp)
                    have x2 := HBX5.out.cellv (j := 2) (by simp)
                    have x3 := HBX5.out.cellv (j := 3) (by simp)
                    have p2 := HBPr.out.cellv (j := 2) (by simp)
                    simp only [List.getElem_cons_zero, List.getElem_cons_succ] at x0 x1 x2 x3 p2
                    have HREP := Lib.hid (show linkR (fun b => False ∧ b < (wc.alloc (.cells #[.int .i64 (linkV C AS.length st).1.1, .int .i64 (linkV C AS.length st).1.2.1, .bool (linkV C AS.length st).1.2.2.1, .int .i64 (linkV C AS.length st).1.2.2.2] 70)).heap.size ∧ ∀ a, Q3 = some a → b ≠ a.block) (wc.alloc (.cells #[.int .i64 (linkV C AS.length st).1.1, .int .i64 (linkV C AS.length st).1.2.1, .bool (linkV C AS.length st).1.2.2.1, .int .i64 (linkV C AS.length st).1.2.2.2] 70)) [.int .i64 (linkV C AS.length st).1.1, .int .i64 (linkV C AS.length st).1.2.1, .bool (linkV C AS.length st).1.2.2.1, .int .i64 (linkV C AS.length st).1.2.2.2] (linkV C AS.length st).1 from by
                      obtain ⟨⟨a1, e1, h1⟩, ⟨a2, e2, h2⟩, -, h3, h4⟩ := HOKL.out
                      exact ⟨_, _, rfl, intRep (by rw [e1]; unfold I64; omega), _, _, rfl, intRep (by rw [e2]; unfold I64; omega), _, _, rfl, rfl, intRep (by unfold I64; omega)⟩)
                    clear hc5 hd5 hd05 hbx hd012 hcO hdO bA bB bL
                    go_wp2_with ((at_builtin; refine wpList_appG (n := 4) linkR_good _ rfl _ _ 31 rfl (.agg #[.int .i64 0, .int .i64 0, .bool false, .int .i64 0]) 32 Try.underlying31 (by kernel_rfl) rfl (by decide) (by decide) Q3 C3 LS ((linkV C AS.length st).1) rfl (hO.hi linkR_good (HIO.out.trans (Hi.ofBel (by (repeat (first | assumption | exact Bel.refl _ | apply Bel.drewN | apply Bel.drew | apply Bel.alloc | refine Bel.trans ?_ (by assumption)))))) (fun _ h => h.elim)) _ 1 [.int .i64 (linkV C AS.length st).1.1, .int .i64 (linkV C AS.length st).1.2.1, .bool (linkV C AS.length st).1.2.2.1, .int .i64 (linkV C AS.length st).1.2.2.2] rfl rfl (World.news_of_block (alloc_at (by first | rfl | (simp; done) | (simp; omega)))) (by intro u hu; simp at hu; rcases hu with rfl | rfl | rfl | rfl <;> rfl) HREP.out (by omega) (by first | omega | (simp; omega)) ?_; intro q' cap' wA hOA hBA hFA; have HO' := Lib.hid hOA; have HBPx := Lib.hid ((HBPr.out.alloc (.cells #[.int .i64 (linkV C AS.length st).1.1, .int .i64 (linkV C AS.length st).1.2.1, .bool (linkV C AS.length st).1.2.2.1, .int .i64 (linkV C AS.length st).1.2.2.2] 70)).below hBA (by omega)); have HBRx := Lib.hid ((HBRr.out.alloc (.cells #[.int .i64 (linkV C AS.length st).1.1, .int .i64 (linkV C AS.length st).1.2.1, .bool (linkV C AS.length st).1.2.2.1, .int .i64 (linkV C AS.length st).1.2.2.2] 70)).below hBA (by omega)); have hCA := Lib.hid ((HC.out.bel (w' := wc.alloc (.cells #[.int .i64 (linkV C AS.length st).1.1, .int .i64 (linkV C AS.length st).1.2.1, .bool (linkV C AS.length st).1.2.2.1, .int .i64 (linkV C AS.length st).1.2.2.2] 70)) (by (repeat (first | assumption | exact Bel.refl _ | apply Bel.drewN | apply Bel.drew | apply Bel.alloc | refine Bel.trans ?_ (by assumption))))).below hBA (by omega)); have hDA := Lib.hid ((HDD.out.alloc (.cells #[.int .i64 (linkV C AS.length st).1.1, .int .i64 (linkV C AS.length st).1.2.1, .bool (linkV C AS.length st).1.2.2.1, .int .i64 (linkV C AS.length st).1.2.2.2] 70)).below' hBA (by omega)); have HIX := Lib.hid ((HIW.out.alloc (.cells #[.int .i64 (linkV C AS.length st).1.1, .int .i64 (linkV C AS.length st).1.2.1, .bool (linkV C AS.length st).1.2.2.1, .int .i64 (linkV C AS.length st).1.2.2.2] 70)).below' hBA (Nat.le_refl _)); have px2 := HBPx.out.cellv (j := 2) (by simp); have fpx2 := HBPx.out.frozen 2; simp only [List.getElem_cons_zero, List.getElem_cons_succ] at px2; clear hOA hBA hFA))
                    go_roundw
                    case rel => exact ⟨n, LS ++ [(linkV C AS.length st).1], _, q', cap', by go_num, by simp; omega, by rw [List.length_append]; exact HBPx.out.set 2 _, HBRx.out.setAt (by omega) 2 _, HO'.out.hi linkR_good ((Hi.refl _ _).set _ (.inl (by omega))) (fun _ h => h.elim), hCA.out.below ((Below.refl BP wA).setCell (Nat.le_refl _) _) (by omega), HEQ.out, hDA.out.set _ (by omega), HIX.out.set _ (.inl (by omega))⟩
                    case measure => (simp [intOf] <;> omega)
          | succ n =>
            have HEQ := Lib.hid (show actsV C RS.length NS n (AS ++ [(actV C AS.length RS.length NS st).1]) (actV C AS.length RS.length NS st).2 = dA C m s from HEQ.out)
            have hnp : (0 : Int) < ((n + 1 : Nat) : Int) := by omega
            have hQlt := Lib.hid (fun a (ha : Q2 = some a) => (hO.lt ha).2)
            have p1 := HBPl.out.cellv (j := 1) (by simp)
            have p3 := HBPl.out.cellv (j := 3) (by simp)
            have p4 := HBPl.out.cellv (j := 4) (by simp)
            simp only [List.getElem_cons_zero, List.getElem_cons_succ] at p1 p3 p4
            go_wp2_with fail
            refine wp_region_held_drew (S := (fun W => W.cell? ⟨BP, 3, none⟩ = some (.slice Q RS.length Cp) ∧ W.cell? ⟨BP, 4, none⟩ = some (.slice qS NS cS))) (by kernel_rfl) ?_ (fun hHeld => ?_)
            · ((try dsimp only); (first | exact ⟨p3, p4⟩ | exact ⟨r3, r4⟩ | exact ⟨((Bel.refl _).alloc _).cell r3, ((Bel.refl _).alloc _).cell r4⟩ | exact ⟨s3, s4⟩ | exact ⟨cell_setNe s3 (by decide), cell_setNe s4 (by decide)⟩))
            refine wpAnyH_take (i := 0) (v := ?_) rfl (by kernel_rfl) (by kernel_rfl) (by kernel_rfl) (fun _ _ _ h => h) (Or.inl ⟨by rfl, ?_⟩) (by assumption) ?_
            rotate_left
            · (intro w hSw; (try dsimp only at hSw); go_simp <;> with_reducible rfl)
            try walk_nrm
            refine wpAnyH_take (i := 2) (v := ?_) rfl (by kernel_rfl) (by kernel_rfl) (by kernel_rfl) (fun _ _ _ h => h) (Or.inl ⟨by rfl, ?_⟩) (by assumption) ?_
            rotate_left
            · (intro w hSw; (try dsimp only at hSw); go_simp <;> with_reducible rfl)
            try walk_nrm
            refine wpAnyH_take (i := 3) (v := ?_) rfl (by kernel_rfl) (by kernel_rfl) (by kernel_rfl) (fun _ _ _ h => h) (Or.inl ⟨by rfl, ?_⟩) (by assumption) ?_
            rotate_left
            · (intro w hSw; (try dsimp only at hSw); go_simp <;> with_reducible rfl)
            try walk_nrm
            refine wpAnyH_take (i := 6) (v := ?_) rfl (by kernel_rfl) (by kernel_rfl) (by kernel_rfl) (fun _ _ _ h => h) (Or.inl ⟨by rfl, ?_⟩) (by assumption) ?_
            rotate_left
            · (intro w hSw; (try dsimp only at hSw); go_simp <;> with_reducible rfl)
            try walk_nrm
            refine wpAnyH_take (i := 7) (v := ?_) rfl (by kernel_rfl) (by kernel_rfl) (by kernel_rfl) (fun _ _ _ h => h) (Or.inl ⟨by rfl, ?_⟩) (by assumption) ?_
            rotate_left
            · (intro w hSw; (try dsimp only at hSw); go_simp <;> with_reducible rfl)
            try walk_nrm
            refine wpAnyH_take (i := 8) (v := ?_) rfl (by kernel_rfl) (by kernel_rfl) (by kernel_rfl) (fun _ _ _ h => h) (Or.inl ⟨by rfl, ?_⟩) (by assumption) ?_
            rotate_left
            · (intro w hSw; (try dsimp only at hSw); go_simp <;> with_reducible rfl)
            try walk_nrm
            refine wpAnyH_take (i := 9) (v := ?_) rfl (by kernel_rfl) (by kernel_rfl) (by kernel_rfl) (fun _ _ _ h => h) (Or.inl ⟨by rfl, ?_⟩) (by assumption) ?_
            rotate_left
            · (intro w hSw; (try dsimp only at hSw); go_simp <;> with_reducible rfl)
            try walk_nrm
            refine wpAnyH_take (i := 10) (v := ?_) rfl (by kernel_rfl) (by kernel_rfl) (by kernel_rfl) (fun _ _ _ h => h) (Or.inl ⟨by rfl, ?_⟩) (by assumption) ?_
            rotate_left
            · (intro w hSw; (try dsimp only at hSw); go_simp <;> with_reducible rfl)
            try walk_nrm
            refine wpAnyH_take (i := 11) (v := ?_) rfl (by kernel_rfl) (by kernel_rfl) (by kernel_rfl) (fun _ _ _ h => h) (Or.inl ⟨by rfl, ?_⟩) (by assumption) ?_
            rotate_left
            · (intro w hSw; (try dsimp only at hSw); go_simp <;> with_reducible rfl)
            try walk_nrm
            refine wpAnyH_ready (rs := [1, 4]) (by kernel_rfl) (by simp) ?_
            refine AllReadyH.cons rfl (fun K hK => ?_) ?_
            · go_simp
              refine hK.out _ _ ?_ (fun hHeld => ?_)
              · ((try dsimp only); (first | exact ⟨p3, p4⟩ | exact ⟨r3, r4⟩ | exact ⟨((Bel.refl _).alloc _).cell r3, ((Bel.refl _).alloc _).cell r4⟩ | exact ⟨s3, s4⟩ | exact ⟨cell_setNe s3 (by decide), cell_setNe s4 (by decide)⟩))
              clear hK K
              try walk_nrm
              refine wpAnyH_ready (rs := [4]) (by kernel_rfl) (by simp) ?_
              refine AllReadyH.cons rfl (fun K hK => ?_) AllReadyH.nil
              · go_simp
                refine hK.out _ _ ?_ (fun hHeld => ?_)
                · ((try dsimp only); (first | exact ⟨p3, p4⟩ | exact ⟨r3, r4⟩ | exact ⟨((Bel.refl _).alloc _).cell r3, ((Bel.refl _).alloc _).cell r4⟩ | exact ⟨s3, s4⟩ | exact ⟨cell_setNe s3 (by decide), cell_setNe s4 (by decide)⟩))
                clear hK K
                try walk_nrm
                refine wpAnyH_take (i := 5) (v := ?_) rfl (by kernel_rfl) (by kernel_rfl) (by kernel_rfl) (fun _ _ _ h => h) (Or.inl ⟨by rfl, ?_⟩) (by assumption) ?_
                rotate_left
                · (intro w hSw; (try dsimp only at hSw); go_simp <;> with_reducible rfl)
                try walk_nrm
                refine wpAnyH_ready (rs := [12]) (by kernel_rfl) (by simp) ?_
                refine AllReadyH.cons rfl (fun K hK => ?_) AllReadyH.nil
                · go_simp
                  (go_at_call 143; (with_reducible refine (l04Draw_any cb C st AS.length RS.length NS _ (hc.bel (by (repeat (first | assumption | exact Bel.refl _ | apply Bel.drewN | apply Bel.drew | apply Bel.alloc | refine Bel.trans ?_ (by assumption))))) (by omega) (by omega) (by omega)).mono ?_); rintro e w5 ⟨cs, rfl, hr5, hc5, hd5⟩; have hd5 := (Dr.ofBel (cb := cb) (a := wr) (by (repeat (first | assumption | exact Bel.refl _ | apply Bel.drewN | apply Bel.drew | apply Bel.alloc | refine Bel.trans ?_ (by assumption))))).trans hd5; have hswr := (show Bel wr wr.drew from by (repeat (first | assumption | exact Bel.refl _ | apply Bel.drewN | apply Bel.drew | apply Bel.alloc | refine Bel.trans ?_ (by assumption)))).size; obtain ⟨a2, rfl, aq0, aq1, aq2⟩ := actR_open hr5; obtain ⟨aq, ac, rfl, al, al', -⟩ := sliceR_open aq2; have HRA := Lib.hid hr5; have HBP5 := Lib.hid (HBPl.out.dr hd5 (by omega)); have r1 := HBP5.out.cellv (j := 1) (by simp); have r3 := HBP5.out.cellv (j := 3) (by simp); have r4 := HBP5.out.cellv (j := 4) (by simp); simp only [List.getElem_cons_zero, List.getElem_cons_succ] at r1 r3 r4; have p1 := r1; have p1a := fun o => ((Bel.refl w5).alloc o).cell r1; have hz5 := hd5.size; have HC5 := Lib.hid hc5; clear hr5 aq0 aq1 aq2 hc5)
                  try go_wp2_with fail
                  refine hK.out _ _ ?_ (fun hHeld => ?_)
                  · ((try dsimp only); (first | exact ⟨p3, p4⟩ | exact ⟨r3, r4⟩ | exact ⟨((Bel.refl _).alloc _).cell r3, ((Bel.refl _).alloc _).cell r4⟩ | exact ⟨s3, s4⟩ | exact ⟨cell_setNe s3 (by decide), cell_setNe s4 (by decide)⟩))
                  clear hK K
                  try walk_nrm
                  refine wpAnyH_ready (rs := [13]) (by kernel_rfl) (by simp) ?_
                  refine AllReadyH.cons rfl (fun K hK => ?_) AllReadyH.nil
                  · go_simp
                    refine hK.out _ _ ?_ (fun hHeld => ?_)
                    · ((try dsimp only); (first | exact ⟨p3, p4⟩ | exact ⟨r3, r4⟩ | exact ⟨((Bel.refl _).alloc _).cell r3, ((Bel.refl _).alloc _).cell r4⟩ | exact ⟨s3, s4⟩ | exact ⟨cell_setNe s3 (by decide), cell_setNe s4 (by decide)⟩))
                    clear hK K
                    try walk_nrm
                    refine wpAnyH_ready (rs := [14]) (by kernel_rfl) (by simp) ?_
                    refine AllReadyH.cons rfl (fun K hK => ?_) AllReadyH.nil
                    · (have HREP := Lib.hid (show actR (fun b => WS.heap.size ≤ b ∧ b < (w5.alloc (.cells #[.string (actV C AS.length RS.length NS st).1.1, .int .i64 (actV C AS.length RS.length NS st).1.2.1, .slice aq (actV C AS.length RS.length NS st).1.2.2.length ac] 75)).heap.size ∧ ∀ a, Q2 = some a → b ≠ a.block) (w5.alloc (.cells #[.string (actV C AS.length RS.length NS st).1.1, .int .i64 (actV C AS.length RS.length NS st).1.2.1, .slice aq (actV C AS.length RS.length NS st).1.2.2.length ac] 75)) [.string (actV C AS.length RS.length NS st).1.1, .int .i64 (actV C AS.length RS.length NS st).1.2.1, .slice aq (actV C AS.length RS.length NS st).1.2.2.length ac] (actV C AS.length RS.length NS st).1 from actR_good.mono (actR_good.stay HRA.out (fun b hb => ((Bel.refl w5).alloc _).block hb.2)) (fun b hb => ⟨by have := hb.1; omega, by have := hb.2; simp; omega, fun a ha => by have := hQlt.out a ha; have := hb.1; omega⟩)); refine step_appG (o := ⟨some 67, _, _, _, _, _⟩) (n := 3) actR_good _ (by rfl) _ _ 30 (by rfl) (.agg #[.string ⟨#[]⟩, .int .i64 0, .slice none 0 0]) 48 Try.underlying30 (by kernel_rfl) rfl (by decide) (by decide) Q2 C2 AS ((actV C AS.length RS.length NS st).1) (by rfl) (hO.hi actR_good ((Hi.ofDr hd5 (by omega)).trans (Hi.ofBel (by (repeat (first | assumption | exact Bel.refl _ | apply Bel.drewN | apply Bel.drew | apply Bel.alloc | refine Bel.trans ?_ (by assumption)))))) (fun _ h => h)) _ 1 [.string (actV C AS.length RS.length NS st).1.1, .int .i64 (actV C AS.length RS.length NS st).1.2.1, .slice aq (actV C AS.length RS.length NS st).1.2.2.length ac] (by rfl) rfl (World.news_of_block (alloc_at (by first | rfl | (simp; done) | (simp; omega)))) (by intro u hu; simp at hu; rcases hu with rfl | rfl | rfl <;> rfl) HREP.out (by omega) (by first | omega | (simp; omega)) ?_; intro q' cap' wA hOA hBA hFA; have HBX := Lib.hid ((HBP5.out.alloc (.cells #[.string (actV C AS.length RS.length NS st).1.1, .int .i64 (actV C AS.length RS.length NS st).1.2.1, .slice aq (actV C AS.length RS.length NS st).1.2.2.length ac] 75)).below hBA (by omega)); have HBRx := Lib.hid (((HBRl.out.dr hd5 (by omega)).alloc (.cells #[.string (actV C AS.length RS.length NS st).1.1, .int .i64 (actV C AS.length RS.length NS st).1.2.1, .slice aq (actV C AS.length RS.length NS st).1.2.2.length ac] 75)).below hBA (by omega)); have s1 := HBX.out.cellv (j := 1) (by simp); have fs1 := HBX.out.frozen 1; have s3 := HBX.out.cellv (j := 3) (by simp); have s4 := HBX.out.cellv (j := 4) (by simp); simp only [List.getElem_cons_zero, List.getElem_cons_succ] at s1 s3 s4; have hCA := Lib.hid ((HC5.out.bel (w' := w5.alloc (.cells #[.string (actV C AS.length RS.length NS st).1.1, .int .i64 (actV C AS.length RS.length NS st).1.2.1, .slice aq (actV C AS.length RS.length NS st).1.2.2.length ac] 75)) (by (repeat (first | assumption | exact Bel.refl _ | apply Bel.drewN | apply Bel.drew | apply Bel.alloc | refine Bel.trans ?_ (by assumption))))).below hBA (by omega)); have hDA := Lib.hid (((hd.trans hd5).alloc (.cells #[.string (actV C AS.length RS.length NS st).1.1, .int .i64 (actV C AS.length RS.length NS st).1.2.1, .slice aq (actV C AS.length RS.length NS st).1.2.2.length ac] 75)).below' hBA (by omega)); have HIA := Lib.hid (((HIS.out.trans (Hi.ofDr hd5 (by omega))).alloc (.cells #[.string (actV C AS.length RS.length NS st).1.1, .int .i64 (actV C AS.length RS.length NS st).1.2.1, .slice aq (actV C AS.length RS.length NS st).1.2.2.length ac] 75)).below' hBA (Nat.le_refl _)); have HOA := Lib.hid hOA; clear hOA hBA hFA)
                      refine hK.out _ _ ?_ (fun hHeld => ?_)
                      · ((try dsimp only); (first | exact ⟨p3, p4⟩ | exact ⟨r3, r4⟩ | exact ⟨((Bel.refl _).alloc _).cell r3, ((Bel.refl _).alloc _).cell r4⟩ | exact ⟨s3, s4⟩ | exact ⟨cell_setNe s3 (by decide), cell_setNe s4 (by decide)⟩))
                      clear hK K
                      try walk_nrm
                      refine wpAnyH_take (i := 15) (v := ?_) rfl (by kernel_rfl) (by kernel_rfl) (by kernel_rfl) (fun _ _ _ h => h) (Or.inl ⟨by rfl, ?_⟩) (by assumption) ?_
                      rotate_left
                      · (intro w hSw; (try dsimp only at hSw); go_simp <;> with_reducible rfl)
                      try walk_nrm
                      refine wpAnyH_ready (rs := [16]) (by kernel_rfl) (by simp) ?_
                      refine AllReadyH.cons rfl (fun K hK => ?_) AllReadyH.nil
                      · go_simp
                        refine hK.out _ _ ?_ (fun hHeld => ?_)
                        · ((try dsimp only); (first | exact ⟨p3, p4⟩ | exact ⟨r3, r4⟩ | exact ⟨((Bel.refl _).alloc _).cell r3, ((Bel.refl _).alloc _).cell r4⟩ | exact ⟨s3, s4⟩ | exact ⟨cell_setNe s3 (by decide), cell_setNe s4 (by decide)⟩))
                        clear hK K
                        try walk_nrm
                        refine wpAnyH_done (by kernel_rfl) ?_ _
                        go_wp2_with fail
                        go_roundw
                        case rel => exact ⟨n, AS ++ [(actV C AS.length RS.length NS st).1], _, q', cap', by go_num, by simp; omega, by rw [List.length_append]; exact HBX.out.set 1 _, HBRx.out.setAt (by omega) 1 _, HOA.out.hi actR_good ((Hi.refl _ _).set _ (.inl (by omega))) (fun _ h => h), hCA.out.below ((Below.refl BP wA).setCell (Nat.le_refl _) _) (by omega), HEQ.out, hDA.out.set _ (by omega), HIA.out.set _ (.inl (by omega))⟩
                        case measure => (simp [intOf] <;> omega)
            refine AllReadyH.cons rfl (fun K hK => ?_) AllReadyH.nil
            · go_simp
              refine hK.out _ _ ?_ (fun hHeld => ?_)
              · ((try dsimp only); (first | exact ⟨p3, p4⟩ | exact ⟨r3, r4⟩ | exact ⟨((Bel.refl _).alloc _).cell r3, ((Bel.refl _).alloc _).cell r4⟩ | exact ⟨s3, s4⟩ | exact ⟨cell_setNe s3 (by decide), cell_setNe s4 (by decide)⟩))
              clear hK K
              try walk_nrm
              refine wpAnyH_take (i := 5) (v := ?_) rfl (by kernel_rfl) (by kernel_rfl) (by kernel_rfl) (fun _ _ _ h => h) (Or.inl ⟨by rfl, ?_⟩) (by assumption) ?_
              rotate_left
              · (intro w hSw; (try dsimp only at hSw); go_simp <;> with_reducible rfl)
              try walk_nrm
              refine wpAnyH_ready (rs := [1, 12]) (by kernel_rfl) (by simp) ?_
              refine AllReadyH.cons rfl (fun K hK => ?_) ?_
              · go_simp
                refine hK.out _ _ ?_ (fun hHeld => ?_)
                · ((try dsimp only); (first | exact ⟨p3, p4⟩ | exact ⟨r3, r4⟩ | exact ⟨((Bel.refl _).alloc _).cell r3, ((Bel.refl _).alloc _).cell r4⟩ | exact ⟨s3, s4⟩ | exact ⟨cell_setNe s3 (by decide), cell_setNe s4 (by decide)⟩))
                clear hK K
                try walk_nrm
                refine wpAnyH_ready (rs := [12]) (by kernel_rfl) (by simp) ?_
                refine AllReadyH.cons rfl (fun K hK => ?_) AllReadyH.nil
                · go_simp
                  (go_at_call 143; (with_reducible refine (l04Draw_any cb C st AS.length RS.length NS _ (hc.bel (by (repeat (first | assumption | exact Bel.refl _ | apply Bel.drewN | apply Bel.drew | apply Bel.alloc | refine Bel.trans ?_ (by assumption))))) (by omega) (by omega) (by omega)).mono ?_); rintro e w5 ⟨cs, rfl, hr5, hc5, hd5⟩; have hd5 := (Dr.ofBel (cb := cb) (a := wr) (by (repeat (first | assumption | exact Bel.refl _ | apply Bel.drewN | apply Bel.drew | apply Bel.alloc | refine Bel.trans ?_ (by assumption))))).trans hd5; have hswr := (show Bel wr wr.drew from by (repeat (first | assumption | exact Bel.refl _ | apply Bel.drewN | apply Bel.drew | apply Bel.alloc | refine Bel.trans ?_ (by assumption)))).size; obtain ⟨a2, rfl, aq0, aq1, aq2⟩ := actR_open hr5; obtain ⟨aq, ac, rfl, al, al', -⟩ := sliceR_open aq2; have HRA := Lib.hid hr5; have HBP5 := Lib.hid (HBPl.out.dr hd5 (by omega)); have r1 := HBP5.out.cellv (j := 1) (by simp); have r3 := HBP5.out.cellv (j := 3) (by simp); have r4 := HBP5.out.cellv (j := 4) (by simp); simp only [List.getElem_cons_zero, List.getElem_cons_succ] at r1 r3 r4; have p1 := r1; have p1a := fun o => ((Bel.refl w5).alloc o).cell r1; have hz5 := hd5.size; have HC5 := Lib.hid hc5; clear hr5 aq0 aq1 aq2 hc5)
                  try go_wp2_with fail
                  refine hK.out _ _ ?_ (fun hHeld => ?_)
                  · ((try dsimp only); (first | exact ⟨p3, p4⟩ | exact ⟨r3, r4⟩ | exact ⟨((Bel.refl _).alloc _).cell r3, ((Bel.refl _).alloc _).cell r4⟩ | exact ⟨s3, s4⟩ | exact ⟨cell_setNe s3 (by decide), cell_setNe s4 (by decide)⟩))
                  clear hK K
                  try walk_nrm
                  refine wpAnyH_ready (rs := [13]) (by kernel_rfl) (by simp) ?_
                  refine AllReadyH.cons rfl (fun K hK => ?_) AllReadyH.nil
                  · go_simp
                    refine hK.out _ _ ?_ (fun hHeld => ?_)
                    · ((try dsimp only); (first | exact ⟨p3, p4⟩ | exact ⟨r3, r4⟩ | exact ⟨((Bel.refl _).alloc _).cell r3, ((Bel.refl _).alloc _).cell r4⟩ | exact ⟨s3, s4⟩ | exact ⟨cell_setNe s3 (by decide), cell_setNe s4 (by decide)⟩))
                    clear hK K
                    try walk_nrm
                    refine wpAnyH_ready (rs := [14]) (by kernel_rfl) (by simp) ?_
                    refine AllReadyH.cons rfl (fun K hK => ?_) AllReadyH.nil
                    · (have HREP := Lib.hid (show actR (fun b => WS.heap.size ≤ b ∧ b < (w5.alloc (.cells #[.string (actV C AS.length RS.length NS st).1.1, .int .i64 (actV C AS.length RS.length NS st).1.2.1, .slice aq (actV C AS.length RS.length NS st).1.2.2.length ac] 75)).heap.size ∧ ∀ a, Q2 = some a → b ≠ a.block) (w5.alloc (.cells #[.string (actV C AS.length RS.length NS st).1.1, .int .i64 (actV C AS.length RS.length NS st).1.2.1, .slice aq (actV C AS.length RS.length NS st).1.2.2.length ac] 75)) [.string (actV C AS.length RS.length NS st).1.1, .int .i64 (actV C AS.length RS.length NS st).1.2.1, .slice aq (actV C AS.length RS.length NS st).1.2.2.length ac] (actV C AS.length RS.length NS st).1 from actR_good.mono (actR_good.stay HRA.out (fun b hb => ((Bel.refl w5).alloc _).block hb.2)) (fun b hb => ⟨by have := hb.1; omega, by have := hb.2; simp; omega, fun a ha => by have := hQlt.out a ha; have := hb.1; omega⟩)); refine step_appG (o := ⟨some 67, _, _, _, _, _⟩) (n := 3) actR_good _ (by rfl) _ _ 30 (by rfl) (.agg #[.string ⟨#[]⟩, .int .i64 0, .slice none 0 0]) 48 Try.underlying30 (by kernel_rfl) rfl (by decide) (by decide) Q2 C2 AS ((actV C AS.length RS.length NS st).1) (by rfl) (hO.hi actR_good ((Hi.ofDr hd5 (by omega)).trans (Hi.ofBel (by (repeat (first | assumption | exact Bel.refl _ | apply Bel.drewN | apply Bel.drew | apply Bel.alloc | refine Bel.trans ?_ (by assumption)))))) (fun _ h => h)) _ 1 [.string (actV C AS.length RS.length NS st).1.1, .int .i64 (actV C AS.length RS.length NS st).1.2.1, .slice aq (actV C AS.length RS.length NS st).1.2.2.length ac] (by rfl) rfl (World.news_of_block (alloc_at (by first | rfl | (simp; done) | (simp; omega)))) (by intro u hu; simp at hu; rcases hu with rfl | rfl | rfl <;> rfl) HREP.out (by omega) (by first | omega | (simp; omega)) ?_; intro q' cap' wA hOA hBA hFA; have HBX := Lib.hid ((HBP5.out.alloc (.cells #[.string (actV C AS.length RS.length NS st).1.1, .int .i64 (actV C AS.length RS.length NS st).1.2.1, .slice aq (actV C AS.length RS.length NS st).1.2.2.length ac] 75)).below hBA (by omega)); have HBRx := Lib.hid (((HBRl.out.dr hd5 (by omega)).alloc (.cells #[.string (actV C AS.length RS.length NS st).1.1, .int .i64 (actV C AS.length RS.length NS st).1.2.1, .slice aq (actV C AS.length RS.length NS st).1.2.2.length ac] 75)).below hBA (by omega)); have s1 := HBX.out.cellv (j := 1) (by simp); have fs1 := HBX.out.frozen 1; have s3 := HBX.out.cellv (j := 3) (by simp); have s4 := HBX.out.cellv (j := 4) (by simp); simp only [List.getElem_cons_zero, List.getElem_cons_succ] at s1 s3 s4; have hCA := Lib.hid ((HC5.out.bel (w' := w5.alloc (.cells #[.string (actV C AS.length RS.length NS st).1.1, .int .i64 (actV C AS.length RS.length NS st).1.2.1, .slice aq (actV C AS.length RS.length NS st).1.2.2.length ac] 75)) (by (repeat (first | assumption | exact Bel.refl _ | apply Bel.drewN | apply Bel.drew | apply Bel.alloc | refine Bel.trans ?_ (by assumption))))).below hBA (by omega)); have hDA := Lib.hid (((hd.trans hd5).alloc (.cells #[.string (actV C AS.length RS.length NS st).1.1, .int .i64 (actV C AS.length RS.length NS st).1.2.1, .slice aq (actV C AS.length RS.length NS st).1.2.2.length ac] 75)).below' hBA (by omega)); have HIA := Lib.hid (((HIS.out.trans (Hi.ofDr hd5 (by omega))).alloc (.cells #[.string (actV C AS.length RS.length NS st).1.1, .int .i64 (actV C AS.length RS.length NS st).1.2.1, .slice aq (actV C AS.length RS.length NS st).1.2.2.length ac] 75)).below' hBA (Nat.le_refl _)); have HOA := Lib.hid hOA; clear hOA hBA hFA)
                      refine hK.out _ _ ?_ (fun hHeld => ?_)
                      · ((try dsimp only); (first | exact ⟨p3, p4⟩ | exact ⟨r3, r4⟩ | exact ⟨((Bel.refl _).alloc _).cell r3, ((Bel.refl _).alloc _).cell r4⟩ | exact ⟨s3, s4⟩ | exact ⟨cell_setNe s3 (by decide), cell_setNe s4 (by decide)⟩))
                      clear hK K
                      try walk_nrm
                      refine wpAnyH_take (i := 15) (v := ?_) rfl (by kernel_rfl) (by kernel_rfl) (by kernel_rfl) (fun _ _ _ h => h) (Or.inl ⟨by rfl, ?_⟩) (by assumption) ?_
                      rotate_left
                      · (intro w hSw; (try dsimp only at hSw); go_simp <;> with_reducible rfl)
                      try walk_nrm
                      refine wpAnyH_ready (rs := [16]) (by kernel_rfl) (by simp) ?_
                      refine AllReadyH.cons rfl (fun K hK => ?_) AllReadyH.nil
                      · go_simp
                        refine hK.out _ _ ?_ (fun hHeld => ?_)
                        · ((try dsimp only); (first | exact ⟨p3, p4⟩ | exact ⟨r3, r4⟩ | exact ⟨((Bel.refl _).alloc _).cell r3, ((Bel.refl _).alloc _).cell r4⟩ | exact ⟨s3, s4⟩ | exact ⟨cell_setNe s3 (by decide), cell_setNe s4 (by decide)⟩))
                        clear hK K
                        try walk_nrm
                        refine wpAnyH_done (by kernel_rfl) ?_ _
                        go_wp2_with fail
                        go_roundw
                        case rel => exact ⟨n, AS ++ [(actV C AS.length RS.length NS st).1], _, q', cap', by go_num, by simp; omega, by rw [List.length_append]; exact HBX.out.set 1 _, HBRx.out.setAt (by omega) 1 _, HOA.out.hi actR_good ((Hi.refl _ _).set _ (.inl (by omega))) (fun _ h => h), hCA.out.below ((Below.refl BP wA).setCell (Nat.le_refl _) _) (by omega), HEQ.out, hDA.out.set _ (by omega), HIA.out.set _ (.inl (by omega))⟩
                        case measure => (simp [intOf] <;> omega)
              refine AllReadyH.cons rfl (fun K hK => ?_) AllReadyH.nil
              · go_simp
                (go_at_call 143; (with_reducible refine (l04Draw_any cb C st AS.length RS.length NS _ (hc.bel (by (repeat (first | assumption | exact Bel.refl _ | apply Bel.drewN | apply Bel.drew | apply Bel.alloc | refine Bel.trans ?_ (by assumption))))) (by omega) (by omega) (by omega)).mono ?_); rintro e w5 ⟨cs, rfl, hr5, hc5, hd5⟩; have hd5 := (Dr.ofBel (cb := cb) (a := wr) (by (repeat (first | assumption | exact Bel.refl _ | apply Bel.drewN | apply Bel.drew | apply Bel.alloc | refine Bel.trans ?_ (by assumption))))).trans hd5; have hswr := (show Bel wr wr.drew from by (repeat (first | assumption | exact Bel.refl _ | apply Bel.drewN | apply Bel.drew | apply Bel.alloc | refine Bel.trans ?_ (by assumption)))).size; obtain ⟨a2, rfl, aq0, aq1, aq2⟩ := actR_open hr5; obtain ⟨aq, ac, rfl, al, al', -⟩ := sliceR_open aq2; have HRA := Lib.hid hr5; have HBP5 := Lib.hid (HBPl.out.dr hd5 (by omega)); have r1 := HBP5.out.cellv (j := 1) (by simp); have r3 := HBP5.out.cellv (j := 3) (by simp); have r4 := HBP5.out.cellv (j := 4) (by simp); simp only [List.getElem_cons_zero, List.getElem_cons_succ] at r1 r3 r4; have p1 := r1; have p1a := fun o => ((Bel.refl w5).alloc o).cell r1; have hz5 := hd5.size; have HC5 := Lib.hid hc5; clear hr5 aq0 aq1 aq2 hc5)
                try go_wp2_with fail
                refine hK.out _ _ ?_ (fun hHeld => ?_)
                · ((try dsimp only); (first | exact ⟨p3, p4⟩ | exact ⟨r3, r4⟩ | exact ⟨((Bel.refl _).alloc _).cell r3, ((Bel.refl _).alloc _).cell r4⟩ | exact ⟨s3, s4⟩ | exact ⟨cell_setNe s3 (by decide), cell_setNe s4 (by decide)⟩))
                clear hK K
                try walk_nrm
                refine wpAnyH_ready (rs := [1, 13]) (by kernel_rfl) (by simp) ?_
                refine AllReadyH.cons rfl (fun K hK => ?_) ?_
                · go_simp
                  refine hK.out _ _ ?_ (fun hHeld => ?_)
                  · ((try dsimp only); (first | exact ⟨p3, p4⟩ | exact ⟨r3, r4⟩ | exact ⟨((Bel.refl _).alloc _).cell r3, ((Bel.refl _).alloc _).cell r4⟩ | exact ⟨s3, s4⟩ | exact ⟨cell_setNe s3 (by decide), cell_setNe s4 (by decide)⟩))
                  clear hK K
                  try walk_nrm
                  refine wpAnyH_ready (rs := [13]) (by kernel_rfl) (by simp) ?_
                  refine AllReadyH.cons rfl (fun K hK => ?_) AllReadyH.nil
                  · go_simp
                    refine hK.out _ _ ?_ (fun hHeld => ?_)
                    · ((try dsimp only); (first | exact ⟨p3, p4⟩ | exact ⟨r3, r4⟩ | exact ⟨((Bel.refl _).alloc _).cell r3, ((Bel.refl _).alloc _).cell r4⟩ | exact ⟨s3, s4⟩ | exact ⟨cell_setNe s3 (by decide), cell_setNe s4 (by decide)⟩))
                    clear hK K
                    try walk_nrm
                    refine wpAnyH_ready (rs := [14]) (by kernel_rfl) (by simp) ?_
                    refine AllReadyH.cons rfl (fun K hK => ?_) AllReadyH.nil
                    · (have HREP := Lib.hid (show actR (fun b => WS.heap.size ≤ b ∧ b < (w5.alloc (.cells #[.string (actV C AS.length RS.length NS st).1.1, .int .i64 (actV C AS.length RS.length NS st).1.2.1, .slice aq (actV C AS.length RS.length NS st).1.2.2.length ac] 75)).heap.size ∧ ∀ a, Q2 = some a → b ≠ a.block) (w5.alloc (.cells #[.string (actV C AS.length RS.length NS st).1.1, .int .i64 (actV C AS.length RS.length NS st).1.2.1, .slice aq (actV C AS.length RS.length NS st).1.2.2.length ac] 75)) [.string (actV C AS.length RS.length NS st).1.1, .int .i64 (actV C AS.length RS.length NS st).1.2.1, .slice aq (actV C AS.length RS.length NS st).1.2.2.length ac] (actV C AS.length RS.length NS st).1 from actR_good.mono (actR_good.stay HRA.out (fun b hb => ((Bel.refl w5).alloc _).block hb.2)) (fun b hb => ⟨by have := hb.1; omega, by have := hb.2; simp; omega, fun a ha => by have := hQlt.out a ha; have := hb.1; omega⟩)); refine step_appG (o := ⟨some 67, _, _, _, _, _⟩) (n := 3) actR_good _ (by rfl) _ _ 30 (by rfl) (.agg #[.string ⟨#[]⟩, .int .i64 0, .slice none 0 0]) 48 Try.underlying30 (by kernel_rfl) rfl (by decide) (by decide) Q2 C2 AS ((actV C AS.length RS.length NS st).1) (by rfl) (hO.hi actR_good ((Hi.ofDr hd5 (by omega)).trans (Hi.ofBel (by (repeat (first | assumption | exact Bel.refl _ | apply Bel.drewN | apply Bel.drew | apply Bel.alloc | refine Bel.trans ?_ (by assumption)))))) (fun _ h => h)) _ 1 [.string (actV C AS.length RS.length NS st).1.1, .int .i64 (actV C AS.length RS.length NS st).1.2.1, .slice aq (actV C AS.length RS.length NS st).1.2.2.length ac] (by rfl) rfl (World.news_of_block (alloc_at (by first | rfl | (simp; done) | (simp; omega)))) (by intro u hu; simp at hu; rcases hu with rfl | rfl | rfl <;> rfl) HREP.out (by omega) (by first | omega | (simp; omega)) ?_; intro q' cap' wA hOA hBA hFA; have HBX := Lib.hid ((HBP5.out.alloc (.cells #[.string (actV C AS.length RS.length NS st).1.1, .int .i64 (actV C AS.length RS.length NS st).1.2.1, .slice aq (actV C AS.length RS.length NS st).1.2.2.length ac] 75)).below hBA (by omega)); have HBRx := Lib.hid (((HBRl.out.dr hd5 (by omega)).alloc (.cells #[.string (actV C AS.length RS.length NS st).1.1, .int .i64 (actV C AS.length RS.length NS st).1.2.1, .slice aq (actV C AS.length RS.length NS st).1.2.2.length ac] 75)).below hBA (by omega)); have s1 := HBX.out.cellv (j := 1) (by simp); have fs1 := HBX.out.frozen 1; have s3 := HBX.out.cellv (j := 3) (by simp); have s4 := HBX.out.cellv (j := 4) (by simp); simp only [List.getElem_cons_zero, List.getElem_cons_succ] at s1 s3 s4; have hCA := Lib.hid ((HC5.out.bel (w' := w5.alloc (.cells #[.string (actV C AS.length RS.length NS st).1.1, .int .i64 (actV C AS.length RS.length NS st).1.2.1, .slice aq (actV C AS.length RS.length NS st).1.2.2.length ac] 75)) (by (repeat (first | assumption | exact Bel.refl _ | apply Bel.drewN | apply Bel.drew | apply Bel.alloc | refine Bel.trans ?_ (by assumption))))).below hBA (by omega)); have hDA := Lib.hid (((hd.trans hd5).alloc (.cells #[.string (actV C AS.length RS.length NS st).1.1, .int .i64 (actV C AS.length RS.length NS st).1.2.1, .slice aq (actV C AS.length RS.length NS st).1.2.2.length ac] 75)).below' hBA (by omega)); have HIA := Lib.hid (((HIS.out.trans (Hi.ofDr hd5 (by omega))).alloc (.cells #[.string (actV C AS.length RS.length NS st).1.1, .int .i64 (actV C AS.length RS.length NS st).1.2.1, .slice aq (actV C AS.length RS.length NS st).1.2.2.length ac] 75)).below' hBA (Nat.le_refl _)); have HOA := Lib.hid hOA; clear hOA hBA hFA)
                      refine hK.out _ _ ?_ (fun hHeld => ?_)
                      · ((try dsimp only); (first | exact ⟨p3, p4⟩ | exact ⟨r3, r4⟩ | exact ⟨((Bel.refl _).alloc _).cell r3, ((Bel.refl _).alloc _).cell r4⟩ | exact ⟨s3, s4⟩ | exact ⟨cell_setNe s3 (by decide), cell_setNe s4 (by decide)⟩))
                      clear hK K
                      try walk_nrm
                      refine wpAnyH_take (i := 15) (v := ?_) rfl (by kernel_rfl) (by kernel_rfl) (by kernel_rfl) (fun _ _ _ h => h) (Or.inl ⟨by rfl, ?_⟩) (by assumption) ?_
                      rotate_left
                      · (intro w hSw; (try dsimp only at hSw); go_simp <;> with_reducible rfl)
                      try walk_nrm
                      refine wpAnyH_ready (rs := [16]) (by kernel_rfl) (by simp) ?_
                      refine AllReadyH.cons rfl (fun K hK => ?_) AllReadyH.nil
                      · go_simp
                        refine hK.out _ _ ?_ (fun hHeld => ?_)
                        · ((try dsimp only); (first | exact ⟨p3, p4⟩ | exact ⟨r3, r4⟩ | exact ⟨((Bel.refl _).alloc _).cell r3, ((Bel.refl _).alloc _).cell r4⟩ | exact ⟨s3, s4⟩ | exact ⟨cell_setNe s3 (by decide), cell_setNe s4 (by decide)⟩))
                        clear hK K
                        try walk_nrm
                        refine wpAnyH_done (by kernel_rfl) ?_ _
                        go_wp2_with fail
                        go_roundw
                        case rel => exact ⟨n, AS ++ [(actV C AS.length RS.length NS st).1], _, q', cap', by go_num, by simp; omega, by rw [List.length_append]; exact HBX.out.set 1 _, HBRx.out.setAt (by omega) 1 _, HOA.out.hi actR_good ((Hi.refl _ _).set _ (.inl (by omega))) (fun _ h => h), hCA.out.below ((Below.refl BP wA).setCell (Nat.le_refl _) _) (by omega), HEQ.out, hDA.out.set _ (by omega), HIA.out.set _ (.inl (by omega))⟩
                        case measure => (simp [intOf] <;> omega)
                refine AllReadyH.cons rfl (fun K hK => ?_) AllReadyH.nil
                · go_simp
                  refine hK.out _ _ ?_ (fun hHeld => ?_)
                  · ((try dsimp only); (first | exact ⟨p3, p4⟩ | exact ⟨r3, r4⟩ | exact ⟨((Bel.refl _).alloc _).cell r3, ((Bel.refl _).alloc _).cell r4⟩ | exact ⟨s3, s4⟩ | exact ⟨cell_setNe s3 (by decide), cell_setNe s4 (by decide)⟩))
                  clear hK K
                  try walk_nrm
                  refine wpAnyH_ready (rs := [1]) (by kernel_rfl) (by simp) ?_
                  refine AllReadyH.cons rfl (fun K hK => ?_) AllReadyH.nil
                  · go_simp
                    refine hK.out _ _ ?_ (fun hHeld => ?_)
                    · ((try dsimp only); (first | exact ⟨p3, p4⟩ | exact ⟨r3, r4⟩ | exact ⟨((Bel.refl _).alloc _).cell r3, ((Bel.refl _).alloc _).cell r4⟩ | exact ⟨s3, s4⟩ | exact ⟨cell_setNe s3 (by decide), cell_setNe s4 (by decide)⟩))
                    clear hK K
                    try walk_nrm
                    refine wpAnyH_ready (rs := [14]) (by kernel_rfl) (by simp) ?_
                    refine AllReadyH.cons rfl (fun K hK => ?_) AllReadyH.nil
                    · (have HREP := Lib.hid (show actR (fun b => WS.heap.size ≤ b ∧ b < (w5.alloc (.cells #[.string (actV C AS.length RS.length NS st).1.1, .int .i64 (actV C AS.length RS.length NS st).1.2.1, .slice aq (actV C AS.length RS.length NS st).1.2.2.length ac] 75)).heap.size ∧ ∀ a, Q2 = some a → b ≠ a.block) (w5.alloc (.cells #[.string (actV C AS.length RS.length NS st).1.1, .int .i64 (actV C AS.length RS.length NS st).1.2.1, .slice aq (actV C AS.length RS.length NS st).1.2.2.length ac] 75)) [.string (actV C AS.length RS.length NS st).1.1, .int .i64 (actV C AS.length RS.length NS st).1.2.1, .slice aq (actV C AS.length RS.length NS st).1.2.2.length ac] (actV C AS.length RS.length NS st).1 from actR_good.mono (actR_good.stay HRA.out (fun b hb => ((Bel.refl w5).alloc _).block hb.2)) (fun b hb => ⟨by have := hb.1; omega, by have := hb.2; simp; omega, fun a ha => by have := hQlt.out a ha; have := hb.1; omega⟩)); refine step_appG (o := ⟨some 67, _, _, _, _, _⟩) (n := 3) actR_good _ (by rfl) _ _ 30 (by rfl) (.agg #[.string ⟨#[]⟩, .int .i64 0, .slice none 0 0]) 48 Try.underlying30 (by kernel_rfl) rfl (by decide) (by decide) Q2 C2 AS ((actV C AS.length RS.length NS st).1) (by rfl) (hO.hi actR_good ((Hi.ofDr hd5 (by omega)).trans (Hi.ofBel (by (repeat (first | assumption | exact Bel.refl _ | apply Bel.drewN | apply Bel.drew | apply Bel.alloc | refine Bel.trans ?_ (by assumption)))))) (fun _ h => h)) _ 1 [.string (actV C AS.length RS.length NS st).1.1, .int .i64 (actV C AS.length RS.length NS st).1.2.1, .slice aq (actV C AS.length RS.length NS st).1.2.2.length ac] (by rfl) rfl (World.news_of_block (alloc_at (by first | rfl | (simp; done) | (simp; omega)))) (by intro u hu; simp at hu; rcases hu with rfl | rfl | rfl <;> rfl) HREP.out (by omega) (by first | omega | (simp; omega)) ?_; intro q' cap' wA hOA hBA hFA; have HBX := Lib.hid ((HBP5.out.alloc (.cells #[.string (actV C AS.length RS.length NS st).1.1, .int .i64 (actV C AS.length RS.length NS st).1.2.1, .slice aq (actV C AS.length RS.length NS st).1.2.2.length ac] 75)).below hBA (by omega)); have HBRx := Lib.hid (((HBRl.out.dr hd5 (by omega)).alloc (.cells #[.string (actV C AS.length RS.length NS st).1.1, .int .i64 (actV C AS.length RS.length NS st).1.2.1, .slice aq (actV C AS.length RS.length NS st).1.2.2.length ac] 75)).below hBA (by omega)); have s1 := HBX.out.cellv (j := 1) (by simp); have fs1 := HBX.out.frozen 1; have s3 := HBX.out.cellv (j := 3) (by simp); have s4 := HBX.out.cellv (j := 4) (by simp); simp only [List.getElem_cons_zero, List.getElem_cons_succ] at s1 s3 s4; have hCA := Lib.hid ((HC5.out.bel (w' := w5.alloc (.cells #[.string (actV C AS.length RS.length NS st).1.1, .int .i64 (actV C AS.length RS.length NS st).1.2.1, .slice aq (actV C AS.length RS.length NS st).1.2.2.length ac] 75)) (by (repeat (first | assumption | exact Bel.refl _ | apply Bel.drewN | apply Bel.drew | apply Bel.alloc | refine Bel.trans ?_ (by assumption))))).below hBA (by omega)); have hDA := Lib.hid (((hd.trans hd5).alloc (.cells #[.string (actV C AS.length RS.length NS st).1.1, .int .i64 (actV C AS.length RS.length NS st).1.2.1, .slice aq (actV C AS.length RS.length NS st).1.2.2.length ac] 75)).below' hBA (by omega)); have HIA := Lib.hid (((HIS.out.trans (Hi.ofDr hd5 (by omega))).alloc (.cells #[.string (actV C AS.length RS.length NS st).1.1, .int .i64 (actV C AS.length RS.length NS st).1.2.1, .slice aq (actV C AS.length RS.length NS st).1.2.2.length ac] 75)).below' hBA (Nat.le_refl _)); have HOA := Lib.hid hOA; clear hOA hBA hFA)
                      refine hK.out _ _ ?_ (fun hHeld => ?_)
                      · ((try dsimp only); (first | exact ⟨p3, p4⟩ | exact ⟨r3, r4⟩ | exact ⟨((Bel.refl _).alloc _).cell r3, ((Bel.refl _).alloc _).cell r4⟩ | exact ⟨s3, s4⟩ | exact ⟨cell_setNe s3 (by decide), cell_setNe s4 (by decide)⟩))
                      clear hK K
                      try walk_nrm
                      refine wpAnyH_take (i := 15) (v := ?_) rfl (by kernel_rfl) (by kernel_rfl) (by kernel_rfl) (fun _ _ _ h => h) (Or.inl ⟨by rfl, ?_⟩) (by assumption) ?_
                      rotate_left
                      · (intro w hSw; (try dsimp only at hSw); go_simp <;> with_reducible rfl)
                      try walk_nrm
                      refine wpAnyH_ready (rs := [16]) (by kernel_rfl) (by simp) ?_
                      refine AllReadyH.cons rfl (fun K hK => ?_) AllReadyH.nil
                      · go_simp
                        refine hK.out _ _ ?_ (fun hHeld => ?_)
                        · ((try dsimp only); (first | exact ⟨p3, p4⟩ | exact ⟨r3, r4⟩ | exact ⟨((Bel.refl _).alloc _).cell r3, ((Bel.refl _).alloc _).cell r4⟩ | exact ⟨s3, s4⟩ | exact ⟨cell_setNe s3 (by decide), cell_setNe s4 (by decide)⟩))
                        clear hK K
                        try walk_nrm
                        refine wpAnyH_done (by kernel_rfl) ?_ _
                        go_wp2_with fail
                        go_roundw
                        case rel => exact ⟨n, AS ++ [(actV C AS.length RS.length NS st).1], _, q', cap', by go_num, by simp; omega, by rw [List.length_append]; exact HBX.out.set 1 _, HBRx.out.setAt (by omega) 1 _, HOA.out.hi actR_good ((Hi.refl _ _).set _ (.inl (by omega))) (fun _ h => h), hCA.out.below ((Below.refl BP wA).setCell (Nat.le_refl _) _) (by omega), HEQ.out, hDA.out.set _ (by omega), HIA.out.set _ (.inl (by omega))⟩
                        case measure => (simp [intOf] <;> omega)
    | succ n =>
      have HEQ := Lib.hid (show ressV C n (RS ++ [(resV C st).1]) (resV C st).2 = dR C s from HEQ.out)
      have hnp : (0 : Int) < ((n + 1 : Nat) : Int) := by omega
      obtain ⟨w0, hw0⟩ : ∃ W, W = wr := ⟨wr, rfl⟩
      subst hw0
      go_wp2_with fail
      refine (l03Draw_any cb C st _ hc).mono ?_
      rintro e w1 ⟨v, rfl, hr1, hc1, hd1⟩
      obtain ⟨q1, c1, rfl, l1, l1', -⟩ := sliceR_open hr1
      unfold maxLen at l1'
      have HR1 := Lib.hid hr1
      have hs1 := hd1.size
      obtain ⟨n1, hn1⟩ : ∃ n, (steps0 C st).1.length = n := ⟨_, rfl⟩
      rw [hn1] at HR1
      have HN1 := Lib.hid hn1
      rw [hn1] at l1
      obtain ⟨BX, hBX⟩ : ∃ n, n = w1.heap.size := ⟨_, rfl⟩
      obtain ⟨W1, hW1⟩ : ∃ W, W = w1.alloc (.cells #[.slice q1 n1 c1, .slice none 0 0] 65) := ⟨_, rfl⟩
      have HBX := Lib.hid (show Blk W1 BX 65 [.slice q1 n1 c1, .slice none 0 0] from by rw [hW1]; exact Blk.new' _ hBX)
      have hcW := hc1.bel (w' := W1) (by rw [hW1]; (repeat (first | assumption | exact Bel.refl _ | apply Bel.drewN | apply Bel.drew | apply Bel.alloc | refine Bel.trans ?_ (by assumption))))
      have hdW : Dr cb w1 W1 := by rw [hW1]; exact (Dr.refl _ _).alloc _
      have HW1 := Lib.hid hW1
      have HBXQ := Lib.hid hBX
      rw [hn1]
      clear hn1 hBX hW1 hc1 hr1 hc
      have hBXs : w1.heap.size ≤ BX ∧ BX ≤ w1.heap.size := by rw [HBXQ.out]; exact ⟨Nat.le_refl _, Nat.le_refl _⟩
      go_wp2_with fail
      rw [← HW1.out, ← HBXQ.out]
      refine (l01Once_any cb C (steps0 C st).2 3 _ hcW (by omega)).mono ?_
      rintro e w4 ⟨rfl, hc4, hd4⟩
      have HBX4 := Lib.hid (HBX.out.dr hd4 (by omega))
      have hs4 := hd4.size
      have hd41 := hdW.trans hd4
      have hbx4 := HBX4.out.lt
      go_upto_if 29 with (fail)
      go_cut [] (fun wx => ∃ (q2 : Option Addr) (c2 : Nat), Blk wx BX 65 [.slice q1 n1 c1, .slice q2 (resV C st).1.2.length c2] ∧ rowsR (fun b => BX < b ∧ b < wx.heap.size) wx [.slice q2 (resV C st).1.2.length c2] (resV C st).1.2 ∧ (resV C st).1.1 = (steps0 C st).1 ∧ Cur wx cb C (resV C st).2 ∧ Dr cb w1 wx)
      case first =>
        cases ho : (onceV C 3 (steps0 C st).2).1
        · have HRV := Lib.hid (show resV C st = (((steps0 C st).1, []), (onceV C 3 (steps0 C st).2).2) from by unfold resV; rw [ho]; rfl)
          go_wp2_with fail
          go_meet
          exact ⟨none, 0, by rw [HRV.out]; exact HBX4.out, by rw [HRV.out]; exact nilR _ _, by rw [HRV.out], by rw [HRV.out]; exact hc4, hd41⟩
        · have HRV := Lib.hid (show resV C st = (((steps0 C st).1, (gridV C 4 [] (onceV C 3 (steps0 C st).2).2).1), (gridV C 4 [] (onceV C 3 (steps0 C st).2).2).2) from by unfold resV; rw [ho]; rfl)
          go_wp2_with fail
          refine (l05Setup_any cb C _ _ hc4).mono ?_
          rintro e w5 ⟨v5, rfl, hr5, hc5, hd5⟩
          obtain ⟨q2, c2, rfl, l2, l2', -⟩ := sliceR_open hr5
          have HBX5 := Lib.hid (HBX4.out.dr hd5 (by omega))
          have HR5 := Lib.hid hr5
          have x1 := HBX5.out.cellv (j := 1) (by simp)
          have fx1 := HBX5.out.frozen 1
          simp only [List.getElem_cons_zero, List.getElem_cons_succ] at x1
          obtain ⟨n2, hn2⟩ : ∃ n, (gridV C 4 [] (onceV C 3 (steps0 C st).2).2).1.length = n := ⟨_, rfl⟩
          rw [hn2] at HR5
          rw [hn2]
          have HN2 := Lib.hid hn2
          have HC5 := Lib.hid hc5
          have HD5 := Lib.hid (hd41.trans hd5)
          clear hr5 hn2 hc5
          go_wp2_with fail
          go_meet
          refine ⟨q2, c2, by rw [HRV.out]; simp only; rw [HN2.out]; exact HBX5.out.set 1 _, ?_, by rw [HRV.out], by rw [HRV.out]; exact HC5.out.below ((Below.refl BX w5).setCell (Nat.le_refl _) _) (by omega), HD5.out.set _ (by rw [HBXQ.out]; exact Nat.le_refl _)⟩
          rw [HRV.out]
          simp only
          rw [HN2.out]
          refine rowsR_good.mono (rowsR_good.stay HR5.out (fun b hb => Below.heap_setCell _ _ _ _ (show b ≠ BX by have := hb.1; omega))) (fun b hb => ⟨by have := hb.1; omega, by simp [World.setCell]; exact hb.2⟩)
      case rest =>
        obtain ⟨q2, c2, hbx, hrw, he, hc5, hd5⟩ := hcut
        have HBX5 := Lib.hid hbx
        have HRW := Lib.hid hrw
        have HC := Lib.hid hc5
        have hd05 := hd1.trans hd5
        have HDD := Lib.hid (hd.trans hd05)
        have HBPr := Lib.hid (HBP.out.dr hd05 (by omega))
        have HBRr := Lib.hid (HBR.out.dr hd05 (by omega))
        have HIO := Lib.hid (show Hi (BP + 1) w0 wc from Hi.ofDr hd05 (by omega))
        have hQlt := Lib.hid (fun a (ha : Q = some a) => (hO.lt ha).2)
        have hswc := hd5.size
        have hxwc := HBX5.out.lt
        have HST := Lib.hid (stepsR_good.dr HR1.out hd5 (fun b hb => ⟨hb.2, by have := hb.1; omega⟩))
        have HEE := Lib.hid he
        have hN1q := HN1.out
        obtain ⟨n2, hn2⟩ : ∃ n, (resV C st).1.2.length = n := ⟨_, rfl⟩
        rw [hn2] at HBX5 HRW
        have HN2 := Lib.hid hn2
        have hnl2 : n2 ≤ c2 ∧ c2 ≤ maxLen := by
          obtain ⟨_, _, e0, k1, k2, -⟩ := HRW.out
          rw [HN2.out] at e0 k1
          simp at e0
          omega
        unfold maxLen at hnl2
        have x0 := HBX5.out.cellv (j := 0) (by simp)
        have x1 := HBX5.out.cellv (j := 1) (by simp)
        have p3 := HBPr.out.cellv (j := 3) (by simp)
        have fp3 := HBPr.out.frozen 3
        simp only [List.getElem_cons_zero, List.getElem_cons_succ] at x0 x1 p3
        have HREP := Lib.hid (show resR (fun b => BP + 1 ≤ b ∧ b < (wc.alloc (.cells #[.slice q1 n1 c1, .slice q2 n2 c2] 65)).heap.size ∧ ∀ a, Q = some a → b ≠ a.block) (wc.alloc (.cells #[.slice q1 n1 c1, .slice q2 n2 c2] 65)) [.slice q1 n1 c1, .slice q2 n2 c2] (resV C st).1 from by
          have e1 : ∀ b, b < wc.heap.size → (wc.alloc (.cells #[.slice q1 n1 c1, .slice q2 n2 c2] 65)).heap[b]? = wc.heap[b]? := fun b hb => ((Bel.refl wc).alloc _).block hb
          have hS : ∀ b, w0.heap.size ≤ b ∧ b < wc.heap.size → BP + 1 ≤ b ∧ b < (wc.alloc (.cells #[.slice q1 n1 c1, .slice q2 n2 c2] 65)).heap.size ∧ ∀ a, Q = some a → b ≠ a.block := fun b hb => ⟨by have := hb.1; omega, by have := hb.2; simp; omega, fun a ha => by have := hQlt.out a ha; have := hb.1; omega⟩
          refine ⟨_, _, rfl, ?_, ?_⟩
          · rw [HEE.out]
            exact stepsR_good.mono (stepsR_good.stay HST.out (fun b hb => e1 b (by have := hb.2; omega))) (fun b hb => hS b ⟨hb.1, by have := hb.2; omega⟩)
          · exact rowsR_good.mono (rowsR_good.stay HRW.out (fun b hb => e1 b hb.2)) (fun b hb => hS b ⟨by have := hb.1; omega, hb.2⟩))
        clear hc5 hn2 hd5 hd05 hbx hrw he hN1q hd1
        go_wp2_with ((at_builtin; refine wpList_appG (n := 2) resR_good _ rfl _ _ 32 rfl (.agg #[.slice none 0 0, .slice none 0 0]) 48 Try.underlying32 (by kernel_rfl) rfl (by decide) (by decide) Q Cp RS ((resV C st).1) rfl (hO.hi resR_good (HIO.out.trans (Hi.ofBel (by (repeat (first | assumption | exact Bel.refl _ | apply Bel.drewN | apply Bel.drew | apply Bel.alloc | refine Bel.trans ?_ (by assumption)))))) (fun _ h => h)) _ 1 [.slice q1 n1 c1, .slice q2 n2 c2] rfl rfl (World.news_of_block (alloc_at (by first | rfl | (simp; done) | (simp; omega)))) (by intro u hu; simp at hu; rcases hu with rfl | rfl <;> rfl) HREP.out (by omega) (by first | omega | (simp; omega)) ?_; intro q' cap' wA hOA hBA hFA; have HO' := Lib.hid hOA; have HBPx := Lib.hid ((HBPr.out.alloc (.cells #[.slice q1 n1 c1, .slice q2 n2 c2] 65)).below hBA (by omega)); have HBRx := Lib.hid ((HBRr.out.alloc (.cells #[.slice q1 n1 c1, .slice q2 n2 c2] 65)).below hBA (by omega)); have hCA := Lib.hid ((HC.out.bel (w' := wc.alloc (.cells #[.slice q1 n1 c1, .slice q2 n2 c2] 65)) (by (repeat (first | assumption | exact Bel.refl _ | apply Bel.drewN | apply Bel.drew | apply Bel.alloc | refine Bel.trans ?_ (by assumption))))).below hBA (by omega)); have hDA := Lib.hid ((HDD.out.alloc (.cells #[.slice q1 n1 c1, .slice q2 n2 c2] 65)).below' hBA (by omega)); have hzA : BP + 1 ≤ wA.heap.size := (by have := hBA.size; (try simp only [World.size_alloc] at this); omega); have px3 := HBPx.out.cellv (j := 3) (by simp); have fpx3 := HBPx.out.frozen 3; simp only [List.getElem_cons_zero, List.getElem_cons_succ] at px3; clear hOA hBA hFA))
        go_roundw
        case rel => exact ⟨n, RS ++ [(resV C st).1], _, q', cap', by go_num, by simp; omega, by rw [List.length_append]; exact HBPx.out.set 3 _, HBRx.out.setAt (by omega) 3 _, HO'.out.hi resR_good ((Hi.refl _ _).set _ (.inl (by omega))) (fun _ h => h), hCA.out.below ((Below.refl BP wA).setCell (Nat.le_refl _) _) (by omega), HEQ.out, hDA.out.set _ (by omega), by simp [World.setCell]; exact hzA⟩
        case measure => (simp [intOf] <;> omega)

theorem l05Draw_any (cb : Nat) (C : List Int) (s : StT) (m : Nat) (w : World) (h : Cur w cb C s) (hm1 : 1 ≤ m) (hm : m ≤ 6) :
    Calls Try.prog 79 #[.pointer (some ⟨cb, 0, none⟩), .int .i64 m] w (DrA projR cb C w (drawP C m s)) := (l05Draw_own cb C s m w h hm1 hm).mono fun _ _ h => h.any

end Go.Proofs.Ytiaamddhocdhaaa
