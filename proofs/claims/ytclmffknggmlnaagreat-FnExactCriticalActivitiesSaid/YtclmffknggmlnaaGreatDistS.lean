/- The distances, in the reference. -/
import Derived.Test.YtclmffknggmlnaaGreatDistF
import Derived.Test.YtclmffknggmlnaaGreatPos
import Derived.Deep.DeepCutAuto
import Derived.Deep.RegionHeld3
import Derived.Deep.DrawnRows
import Derived.Conc.WalkWords
namespace Go.Proofs.YtclmffknggmlnaaGreat
open Go.ChangeShapes Go.WideShapes Go.ChangeAt Go.RowKit
set_option linter.unusedVariables false

set_option maxRecDepth 100000 in
set_option maxHeartbeats 4000000 in
theorem l08Dist_any (v : Value) (p : ProjT) (S : Nat → Prop) (w : World) (hx : aggR projR S w v p) (hS : ∀ b, S b → b < w.heap.size) (hp : projOk p = true) (hN : ∀ (l : List Nat) (i : Nat), (netOf p).wk i l i → (netOf p).wt l ≤ 0) :
    Calls Tryz.prog 48 #[v] w (GridRes p w) := by
  obtain ⟨cs, rfl, hx⟩ := hx
  obtain ⟨c1, c2, c3, c4, rfl, q0, q1, q2, q3, q4⟩ := projR_open hx
  have Q1 := Lib.hid q1
  have Q2 := Lib.hid q2
  have Q3 := Lib.hid q3
  have Q4 := Lib.hid q4
  have HP := Lib.hid hx
  obtain ⟨p1, k1, rfl, l1, l1', -⟩ := sliceR_open q1
  obtain ⟨p2, k2, rfl, l2, l2', -⟩ := sliceR_open q2
  obtain ⟨p3, k3, rfl, l3, l3', -⟩ := sliceR_open q3
  obtain ⟨p4, k4, rfl, l4, l4', -⟩ := sliceR_open q4
  unfold maxLen at l1' l2' l3' l4'
  clear hx q0 q1 q2 q3 q4
  have HS := Lib.hid hS
  have HPO := Lib.hid hp
  have HN := Lib.hid hN
  have HF := Lib.hid (netOf_fine hp)
  have hpl := (projOk_bd hp).2.1
  have hp1 := (projOk_bd hp).1
  have hk12 : p.2.2.1.length ≤ 12 := (projOk_bd hp).2.2.2.2.1
  clear hS hp hN
  have HP1 := Lib.hid (show ∀ W, Bel w W → aggR projR S W (.agg #[.int .i64 p.1, .slice p1 p.2.1.length k1, .slice p2 p.2.2.1.length k2, .slice p3 p.2.2.2.1.length k3, .slice p4 p.2.2.2.2.length k4]) p from fun W hW => aggR_mk (projR_good.bel HP.out hW HS.out))
  show Calls Tryz.prog 48 #[.agg #[.int .i64 p.1, .slice p1 p.2.1.length k1, .slice p2 p.2.2.1.length k2, .slice p3 p.2.2.2.1.length k3, .slice p4 p.2.2.2.2.length k4]] w _
  go_enter Tryz.func48, Tryz.ntmps48
  obtain ⟨W0, hW0, hwW, hsz0, hbx⟩ : ∃ W0, W0 = w.alloc (.cells #[.int .i64 p.1, .slice p1 p.2.1.length k1, .slice p2 p.2.2.1.length k2, .slice p3 p.2.2.2.1.length k3, .slice p4 p.2.2.2.2.length k4] 34) ∧ Bel w W0 ∧ W0.heap.size = w.heap.size + 1 ∧ W0.cell? ⟨w.heap.size, 0, none⟩ = some (.int .i64 p.1) ∧ W0.cell? ⟨w.heap.size, 1, none⟩ = some (.slice p1 p.2.1.length k1) ∧ W0.cell? ⟨w.heap.size, 2, none⟩ = some (.slice p2 p.2.2.1.length k2) ∧ W0.cell? ⟨w.heap.size, 3, none⟩ = some (.slice p3 p.2.2.2.1.length k3) ∧ W0.cell? ⟨w.heap.size, 4, none⟩ = some (.slice p4 p.2.2.2.2.length k4) := ⟨_, rfl, by (repeat (first | assumption | exact Bel.refl _ | apply Bel.drewN | apply Bel.drew | apply Bel.alloc | refine Bel.trans ?_ (by assumption))), by simp, by simp [go_sem], by simp [go_sem], by simp [go_sem], by simp [go_sem], by simp [go_sem]⟩
  have HBX := Lib.hid (show ∀ W, Bel W0 W → W.cell? ⟨w.heap.size, 0, none⟩ = some (.int .i64 p.1) ∧ W.cell? ⟨w.heap.size, 1, none⟩ = some (.slice p1 p.2.1.length k1) ∧ W.cell? ⟨w.heap.size, 2, none⟩ = some (.slice p2 p.2.2.1.length k2) ∧ W.cell? ⟨w.heap.size, 3, none⟩ = some (.slice p3 p.2.2.2.1.length k3) ∧ W.cell? ⟨w.heap.size, 4, none⟩ = some (.slice p4 p.2.2.2.2.length k4) from fun W hW => keep5 hbx hW)
  clear hbx
  have hB0 : W0.heap.size ≤ w.heap.size + 1 := by omega
  have hB00 : w.heap.size ≤ W0.heap.size := by omega
  have HSZ0 := Lib.hid hsz0
  clear hsz0
  obtain ⟨b0, b1, b2, b3, b4⟩ := HBX.out (W0.alloc (.cells #[] 25)) (by (repeat (first | assumption | exact Bel.refl _ | apply Bel.drewN | apply Bel.drew | apply Bel.alloc | refine Bel.trans ?_ (by assumption))))
  go_upto_region 1 with (fail)
  rw [← hW0]
  clear hW0
  have hO0 : Own (fun b => W0.heap.size ≤ b) 1 brow 25 W0.heap.size (W0.alloc (.cells #[] 25)) (some ⟨W0.heap.size, 0, none⟩) 0 [] := Own.empty (alloc_at rfl) (Nat.le_refl _)
  go_wp2_with fail
  clear b0 b1 b2 b3 b4
  go_loopw [3, 17] (fun o i wr => ∃ (rows : List (Nat × List Int)) (q : Option Addr) (cap : Nat), rows.length ≤ p.2.1.length ∧ i = .int .i64 rows.length ∧ o = .slice q rows.length cap ∧ Rows0 (netOf p) wr rows ∧ Own (fun b => W0.heap.size ≤ b) 1 brow 25 W0.heap.size wr q cap rows ∧ Bel W0 wr) (fun _ i _ => p.2.1.length - (intOf i).toNat)
  case atStart => exact ⟨[], _, _, Nat.zero_le _, rfl, rfl, Rows0.nil _ _, hO0, by (repeat (first | assumption | exact Bel.refl _ | apply Bel.drewN | apply Bel.drew | apply Bel.alloc | refine Bel.trans ?_ (by assumption)))⟩
  case round =>
    clear hO0
    obtain ⟨rows, q, cap, hk, rfl, rfl, hrows, hO, hB1⟩ := hrel
    have HR0 := Lib.hid hrows
    clear hrows
    have hsz := hB1.size
    obtain ⟨b0, b1, b2, b3, b4⟩ := HBX.out wr hB1
    by_cases hlt : rows.length < p.2.1.length
    · obtain ⟨Wr, hWr⟩ : ∃ W, W = wr := ⟨wr, rfl⟩
      subst hWr
      have hX0 : Own (fun _ => False) 1 intR 3 Wr.heap.size (Wr.alloc (.cells #[] 3)) (some ⟨Wr.heap.size, 0, none⟩) 0 [] := Own.empty (alloc_at rfl) (Nat.le_refl _)
      clear b0 b1 b2 b3 b4
      obtain ⟨b0, b1, b2, b3, b4⟩ := HBX.out (Wr.alloc (.cells #[] 3)) (by (repeat (first | assumption | exact Bel.refl _ | apply Bel.drewN | apply Bel.drew | apply Bel.alloc | refine Bel.trans ?_ (by assumption))))
      go_wp2_with fail
      clear b0 b1 b2 b3 b4
      go_loopw [5, 24] (fun r i wx => ∃ (k : Nat) (xs : List Int) (q1 : Option Addr) (c1 : Nat), k ≤ p.2.1.length ∧ i = .int .i64 k ∧ r = .slice q1 xs.length c1 ∧ xs = row0 (netOf p) rows.length k ∧ Own (fun _ => False) 1 intR 3 Wr.heap.size wx q1 c1 xs ∧ Bel Wr wx) (fun _ i _ => p.2.1.length - (intOf i).toNat)
      case atStart => exact ⟨0, [], _, _, Nat.zero_le _, rfl, rfl, rfl, hX0, by (repeat (first | assumption | exact Bel.refl _ | apply Bel.drewN | apply Bel.drew | apply Bel.alloc | refine Bel.trans ?_ (by assumption)))⟩
      case round =>
        clear hX0
        obtain ⟨k, xs, q1, c1, hk2, rfl, rfl, hxs, hX, hBx⟩ := hrel
        have HXS := Lib.hid hxs
        have hxl : xs.length = k := by rw [hxs]; exact row0_length _ _ _
        clear hxs
        have HXL := Lib.hid hxl
        have hBx0 : Bel W0 _ := hB1.trans hBx
        have hsx := hBx.size
        obtain ⟨b0, b1, b2, b3, b4⟩ := HBX.out _ hBx0
        have hxl2 : xs.length ≤ 6 := by omega
        clear hxl
        by_cases hlk : k < p.2.1.length
        · by_cases hmk : rows.length = k
          · have HSN := Lib.hid (show xs ++ [(0 : Int)] = row0 (netOf p) rows.length (k + 1) from by rw [HXS.out, row0_snoc, if_pos hmk])
            subst hmk
            go_wp2_with ((at_builtin; refine wpList_app (n := 1) intR_good _ rfl _ _ 25 rfl (.int .i64 0) 8 Tryz.underlying25 (by kernel_rfl) rfl (by decide) (by decide) q1 c1 xs ((0 : Int)) rfl (hX.bel intR_good (by (repeat (first | assumption | exact Bel.refl _ | apply Bel.drewN | apply Bel.drew | apply Bel.alloc | refine Bel.trans ?_ (by assumption))))) _ 1 [.int .i64 (0 : Int)] rfl rfl (World.news_of_block (alloc_at (by simp))) (by intro u hu; simp at hu; subst hu; rfl) (intRep (by unfold I64; omega)) (by omega) (by first | omega | (simp; omega)) ?_; intro q' cap' w' hO' hBW hsz'))
            have HB := Lib.hid (hBW Wr (by (repeat (first | assumption | exact Bel.refl _ | apply Bel.drewN | apply Bel.drew | apply Bel.alloc | refine Bel.trans ?_ (by assumption)))) (Nat.le_refl _))
            clear hBW hsz'
            go_roundw
            case rel => exact ⟨rows.length + 1, xs ++ [(0 : Int)], q', cap', by omega, by go_num, by simp, HSN.out, hO', HB.out⟩
            case measure => simp [intOf]; omega
          · have HSN := Lib.hid (show xs ++ [(-1000 : Int)] = row0 (netOf p) rows.length (k + 1) from by rw [HXS.out, row0_snoc, if_neg hmk])
            have hmki : ((rows.length : Int) == (k : Int)) = false := by simpa using (by omega : ¬ (rows.length : Int) = (k : Int))
            clear hmk
            go_wp2_with ((at_builtin; refine wpList_app (n := 1) intR_good _ rfl _ _ 25 rfl (.int .i64 0) 8 Tryz.underlying25 (by kernel_rfl) rfl (by decide) (by decide) q1 c1 xs ((-1000 : Int)) rfl (hX.bel intR_good (by (repeat (first | assumption | exact Bel.refl _ | apply Bel.drewN | apply Bel.drew | apply Bel.alloc | refine Bel.trans ?_ (by assumption))))) _ 1 [.int .i64 (-1000 : Int)] rfl rfl (World.news_of_block (alloc_at (by simp))) (by intro u hu; simp at hu; subst hu; rfl) (intRep (by unfold I64; omega)) (by omega) (by first | omega | (simp; omega)) ?_; intro q' cap' w' hO' hBW hsz'))
            have HB := Lib.hid (hBW Wr (by (repeat (first | assumption | exact Bel.refl _ | apply Bel.drewN | apply Bel.drew | apply Bel.alloc | refine Bel.trans ?_ (by assumption)))) (Nat.le_refl _))
            clear hBW hsz'
            go_roundw
            case rel => exact ⟨k + 1, xs ++ [(-1000 : Int)], q', cap', by omega, by go_num, by simp, HSN.out, hO', HB.out⟩
            case measure => simp [intOf]; omega
        · have hkn : k = p.2.1.length := by omega
          subst hkn
          have hq0 : ∀ a, q = some a → a.block < Wr.heap.size := fun a ha => by
            rcases hO.cases with ⟨h1, _⟩ | ⟨g0, cur, h1, h2, h3, h4, _⟩
            · rw [h1] at ha; cases ha
            · rw [h1] at ha; cases ha; exact h4
          obtain ⟨g, rfl, hg1, hg2, hbr⟩ := brow_of_own (T := fun b => W0.heap.size ≤ b ∧ b < _ ∧ ∀ a, q = some a → b ≠ a.block) hX (by intro e; have hxl := HXL.out; rw [e] at hxl; simp at hxl; omega) (fun b h1 h2 => ⟨by omega, h2, fun a ha => by have := hq0 a ha; omega⟩)
          have HBR := Lib.hid hbr
          have hO := hO.bel brow_good hBx
          clear hbr hq0
          go_wp2_with ((at_builtin; refine wpList_app (n := 1) brow_good _ rfl _ _ 46 rfl (.slice none 0 0) 24 Tryz.underlying46 (by kernel_rfl) rfl (by decide) (by decide) q cap rows ((g, xs)) rfl (hO.bel brow_good (by (repeat (first | assumption | exact Bel.refl _ | apply Bel.drewN | apply Bel.drew | apply Bel.alloc | refine Bel.trans ?_ (by assumption))))) _ 1 [.slice (some ⟨g, 0, none⟩) xs.length c1] rfl rfl (World.news_of_block (alloc_at (by simp))) (by intro u hu; simp at hu; subst hu; rfl) (brow_good.mono (brow_good.bel HBR.out (by (repeat (first | assumption | exact Bel.refl _ | apply Bel.drewN | apply Bel.drew | apply Bel.alloc | refine Bel.trans ?_ (by assumption)))) (fun b hb => hb.2.1)) (fun b hb => ⟨hb.1, Nat.lt_of_lt_of_le hb.2.1 (Bel.size (by (repeat (first | assumption | exact Bel.refl _ | apply Bel.drewN | apply Bel.drew | apply Bel.alloc | refine Bel.trans ?_ (by assumption))))), hb.2.2⟩)) (by omega) (by first | omega | (simp; omega)) ?_; intro q' cap' w' hO' hBW hsz'))
          have HB := Lib.hid (hBW W0 (by (repeat (first | assumption | exact Bel.refl _ | apply Bel.drewN | apply Bel.drew | apply Bel.alloc | refine Bel.trans ?_ (by assumption)))) (Nat.le_refl _))
          have HRR := Lib.hid (HR0.out.snoc (w' := w') (g := g) (xs := xs) (HXS.out) ⟨hg1, by simp at hsz'; omega⟩)
          clear hBW hsz'
          go_roundw
          case rel => exact ⟨rows ++ [(g, xs)], q', cap', by simp; omega, by simp, by simp, HRR.out, hO', HB.out⟩
          case measure => simp [intOf]; omega
    · have hrl : rows.length = p.2.1.length := by omega
      obtain ⟨o, rb, cp, rfl, hc1, hc2, hG0⟩ := grid_rows0 hO HR0.out hrl rfl (by omega)
      rw [hrl]
      clear hrl hlt hk hO HR0
      have HC := Lib.hid (And.intro hc1 hc2)
      unfold maxLen at hc2
      obtain ⟨Wa, hWa⟩ : ∃ W, W = wr := ⟨wr, rfl⟩
      subst hWa
      have HO := Lib.hid (fun i hi => hG0.slot i hi)
      go_wp2_with fail
      clear b0 b1 b2 b3 b4
      go_loopw [43] (fun i wr => ∃ t : Nat, t ≤ p.2.2.1.length ∧ i = .int .i64 t ∧ Grid W0.heap.size wr o p.2.1.length p.2.1.length rb cp (intsV (dist0 (netOf p) t)) ∧ Bel W0 wr) (fun i _ => p.2.2.1.length - (intOf i).toNat)
      case atStart => exact ⟨0, Nat.zero_le _, rfl, hG0, hB1⟩
      case round =>
        clear hG0 HO
        obtain ⟨t, ht, rfl, hG, hB2⟩ := hrel
        have HG := Lib.hid hG
        have hBr : Bel w wr := hwW.trans hB2
        have hsz2 := hB2.size
        obtain ⟨b0, b1, b2, b3, b4⟩ := HBX.out wr hB2
        by_cases hlt : t < p.2.2.1.length
        · obtain ⟨nk1, nk2, nk3, nk4, -, ng0, ng1⟩ := netOf_at HPO.out hlt
          obtain ⟨lb, lo, ea, lk0, lk1, lk2, lk3⟩ := link_at Q2.out hlt
          obtain rfl : p2 = some ⟨lb, lo, none⟩ := ea
          rw [nk1] at lk0
          rw [nk2] at lk1
          have lk0 := hBr.cell lk0
          have lk1 := hBr.cell lk1
          have lk2 := hBr.cell lk2
          have lk3 := hBr.cell lk3
          have HLT := Lib.hid hlt
          have HGK := Lib.hid (show fullGapV p (p.2.2.1.getD t zLink) = (netOf p).gp t from rfl)
          have HGL := Lib.hid (fun (X : World) (hX : Grid W0.heap.size X o p.2.1.length p.2.1.length rb cp (intsV (dist0 (netOf p) t))) => grid_link hX nk3 nk4 (maxI_lt _ _))
          have HBS := Lib.hid (fun (X : World) (hX : Bel W0 X) (u : Value) => grid_bel_set (k := (netOf p).to t) hG hX (Nat.le_refl _) nk3 u)
          have HSL := Lib.hid (hG.slot _ nk3)
          have HCE := Lib.hid (show wr.cell? ⟨rb ((netOf p).fr t), (netOf p).to t, none⟩ = some (Value.int .i64 (dist0 (netOf p) t ((netOf p).fr t) ((netOf p).to t))) ∧ wr.frozen? ⟨rb ((netOf p).fr t), (netOf p).to t, none⟩ = false from hG.cell _ _ nk3 nk4)
          have HBA := Lib.hid (hG.base _ nk3)
          have HTO := Lib.hid hG.top
          have HCALL := Lib.hid (show ∀ W, Bel w W → Calls Tryz.prog 75 #[.agg #[.int .i64 p.1, .slice p1 p.2.1.length k1, .slice (some ⟨lb, lo, none⟩) p.2.2.1.length k2, .slice p3 p.2.2.2.1.length k3, .slice p4 p.2.2.2.2.length k4], .int .i64 (t : Int)] W (fun e w' => e = .returned (.int .i64 ((netOf p).gp t)) ∧ Bel W w') from fun W hW => l07All_any _ p S t W (HP1.out W hW) (fun b hb => Nat.lt_of_lt_of_le (HS.out b hb) (Bel.size hW)) HPO.out HLT.out)
          clear HGK
          generalize dist0 (netOf p) t ((netOf p).fr t) ((netOf p).to t) = DD at *
          generalize (netOf p).gp t = GK at *
          generalize (netOf p).fr t = FR at *
          generalize (netOf p).to t = TO at *
          generalize p.2.2.1.getD t zLink = X at *
          clear nk1 nk2 hG
          have hFR : (FR : Int) < (p.2.1.length : Int) := by omega
          have hTO : (TO : Int) < (p.2.1.length : Int) := by omega
          have hFR0 : (0 : Int) ≤ (FR : Int) := by omega
          have hTO0 : (0 : Int) ≤ (TO : Int) := by omega
          have hwF : IntKind.i64.wrap (FR : Int) = (FR : Int) := IntWalk.i64_in _ (by omega)
          have hwT : IntKind.i64.wrap (TO : Int) = (TO : Int) := IntWalk.i64_in _ (by omega)
          generalize rb FR = RB at *
          generalize cp FR = CP at *
          obtain ⟨W2, hW2, hB22, HSZ2, hl0, hl1, hl2, hl3⟩ : ∃ W2, W2 = wr.alloc (.cells #[.int .i64 (FR : Int), .int .i64 (TO : Int), .bool X.2.2.1, .int .i64 X.2.2.2] 75) ∧ Bel wr W2 ∧ Hid (W2.heap.size = wr.heap.size + 1) ∧ W2.cell? ⟨wr.heap.size, 0, none⟩ = some (.int .i64 (FR : Int)) ∧ W2.cell? ⟨wr.heap.size, 1, none⟩ = some (.int .i64 (TO : Int)) ∧ W2.cell? ⟨wr.heap.size, 2, none⟩ = some (.bool X.2.2.1) ∧ W2.cell? ⟨wr.heap.size, 3, none⟩ = some (.int .i64 X.2.2.2) := ⟨_, rfl, (Bel.refl _).alloc _, Lib.hid (by simp), by simp [go_sem], by simp [go_sem], by simp [go_sem], by simp [go_sem]⟩
          have hB20 : Bel W0 W2 := hB2.trans hB22
          have hBw2 : Bel w W2 := hwW.trans hB20
          have HKP := Lib.hid (show ∀ W, Bel W2 W → W.cell? ⟨w.heap.size, 0, none⟩ = some (.int .i64 p.1) ∧ W.cell? ⟨w.heap.size, 1, none⟩ = some (.slice p1 p.2.1.length k1) ∧ W.cell? ⟨w.heap.size, 2, none⟩ = some (.slice (some ⟨lb, lo, none⟩) p.2.2.1.length k2) ∧ W.cell? ⟨w.heap.size, 3, none⟩ = some (.slice p3 p.2.2.2.1.length k3) ∧ W.cell? ⟨w.heap.size, 4, none⟩ = some (.slice p4 p.2.2.2.2.length k4) ∧ W.cell? ⟨wr.heap.size, 0, none⟩ = some (.int .i64 (FR : Int)) ∧ W.cell? ⟨wr.heap.size, 1, none⟩ = some (.int .i64 (TO : Int)) ∧ W.cell? ⟨wr.heap.size, 2, none⟩ = some (.bool X.2.2.1) ∧ W.cell? ⟨wr.heap.size, 3, none⟩ = some (.int .i64 X.2.2.2) ∧ W.cell? ⟨o, FR, none⟩ = some (.slice (some ⟨RB, 0, none⟩) p.2.1.length CP) from fun W hW => by
            obtain ⟨b0, b1, b2, b3, b4⟩ := HBX.out W (hB20.trans hW)
            exact ⟨b0, b1, b2, b3, b4, hW.cell hl0, hW.cell hl1, hW.cell hl2, hW.cell hl3, (hB22.trans hW).cell HSL.out.1⟩)
          have HKS := Lib.hid (show ∀ V, Bel W2 V → ∀ (j : Nat) (u : Value), (fun W : World => W.cell? ⟨w.heap.size, 0, none⟩ = some (.int .i64 p.1) ∧ W.cell? ⟨w.heap.size, 1, none⟩ = some (.slice p1 p.2.1.length k1) ∧ W.cell? ⟨w.heap.size, 2, none⟩ = some (.slice (some ⟨lb, lo, none⟩) p.2.2.1.length k2) ∧ W.cell? ⟨w.heap.size, 3, none⟩ = some (.slice p3 p.2.2.2.1.length k3) ∧ W.cell? ⟨w.heap.size, 4, none⟩ = some (.slice p4 p.2.2.2.2.length k4) ∧ W.cell? ⟨wr.heap.size, 0, none⟩ = some (.int .i64 (FR : Int)) ∧ W.cell? ⟨wr.heap.size, 1, none⟩ = some (.int .i64 (TO : Int)) ∧ W.cell? ⟨wr.heap.size, 2, none⟩ = some (.bool X.2.2.1) ∧ W.cell? ⟨wr.heap.size, 3, none⟩ = some (.int .i64 X.2.2.2) ∧ W.cell? ⟨o, FR, none⟩ = some (.slice (some ⟨RB, 0, none⟩) p.2.1.length CP)) (V.setCell ⟨RB, j, none⟩ u) from fun V hV j u => by
            obtain ⟨b0, b1, b2, b3, b4, d0, d1, d2, d3, d4⟩ := HKP.out V hV
            have h1 := HSZ0.out
            obtain ⟨h2, h3, h4⟩ := HBA.out
            exact ⟨cell_setAt b0 (by omega) u, cell_setAt b1 (by omega) u, cell_setAt b2 (by omega) u, cell_setAt b3 (by omega) u, cell_setAt b4 (by omega) u, cell_setAt d0 (by omega) u, cell_setAt d1 (by omega) u, cell_setAt d2 (by omega) u, cell_setAt d3 (by omega) u, cell_setAt d4 (fun e => h4 e.symm) u⟩)
          have hce := (cell_keep HCE.out (hB22.block HBA.out.2.1)).1
          have hfr := (cell_keep HCE.out (hB22.block HBA.out.2.1)).2
          have hRB2 := Nat.lt_of_lt_of_le HBA.out.2.1 hB22.size
          have HRB := Lib.hid hRB2
          clear hl0 hl1 hl2 hl3 hRB2
          go_upto_region 19 with (fail)
          rw [← hW2]
          clear hW2 b0 b1 b2 b3 b4
          refine wp_region_held_drew (S := (fun W => W.cell? ⟨w.heap.size, 0, none⟩ = some (.int .i64 p.1) ∧ W.cell? ⟨w.heap.size, 1, none⟩ = some (.slice p1 p.2.1.length k1) ∧ W.cell? ⟨w.heap.size, 2, none⟩ = some (.slice (some ⟨lb, lo, none⟩) p.2.2.1.length k2) ∧ W.cell? ⟨w.heap.size, 3, none⟩ = some (.slice p3 p.2.2.2.1.length k3) ∧ W.cell? ⟨w.heap.size, 4, none⟩ = some (.slice p4 p.2.2.2.2.length k4) ∧ W.cell? ⟨wr.heap.size, 0, none⟩ = some (.int .i64 (FR : Int)) ∧ W.cell? ⟨wr.heap.size, 1, none⟩ = some (.int .i64 (TO : Int)) ∧ W.cell? ⟨wr.heap.size, 2, none⟩ = some (.bool X.2.2.1) ∧ W.cell? ⟨wr.heap.size, 3, none⟩ = some (.int .i64 X.2.2.2) ∧ W.cell? ⟨o, FR, none⟩ = some (.slice (some ⟨RB, 0, none⟩) p.2.1.length CP))) (by kernel_rfl) ?_ (fun hHeld => ?_)
          · ((try dsimp only); (first | (with_reducible exact HKS.out _ (by (repeat (first | assumption | exact Bel.refl _ | apply Bel.drewN | apply Bel.drew | apply Bel.alloc | refine Bel.trans ?_ (by assumption)))) _ _) | exact HKP.out _ (by (repeat (first | assumption | exact Bel.refl _ | apply Bel.drewN | apply Bel.drew | apply Bel.alloc | refine Bel.trans ?_ (by assumption))))))
          refine wpAnyH_take (i := 0) (v := ?_) rfl (by kernel_rfl) (by kernel_rfl) (by kernel_rfl) (fun _ _ _ h => h) (Or.inl ⟨by rfl, ?_⟩) (by assumption) ?_
          rotate_left
          · (intro w hSw; (try dsimp only at hSw); go_simp <;> with_reducible rfl)
          try walk_nrm
          refine wpAnyH_take (i := 1) (v := ?_) rfl (by kernel_rfl) (by kernel_rfl) (by kernel_rfl) (fun _ _ _ h => h) (Or.inl ⟨by rfl, ?_⟩) (by assumption) ?_
          rotate_left
          · (intro w hSw; (try dsimp only at hSw); go_simp <;> with_reducible rfl)
          try walk_nrm
          refine wpAnyH_take (i := 2) (v := ?_) rfl (by kernel_rfl) (by kernel_rfl) (by kernel_rfl) (fun _ _ _ h => h) (Or.inl ⟨by rfl, ?_⟩) (by assumption) ?_
          rotate_left
          · (intro w hSw; (try dsimp only at hSw); go_simp <;> with_reducible rfl)
          try walk_nrm
          refine wpAnyH_take (i := 3) (v := ?_) rfl (by kernel_rfl) (by kernel_rfl) (by kernel_rfl) (fun _ _ _ h => h) (Or.inl ⟨by rfl, ?_⟩) (by assumption) ?_
          rotate_left
          · (intro w hSw; (try dsimp only at hSw); go_simp <;> with_reducible rfl)
          try walk_nrm
          refine wpAnyH_take (i := 4) (v := ?_) rfl (by kernel_rfl) (by kernel_rfl) (by kernel_rfl) (fun _ _ _ h => h) (Or.inl ⟨by rfl, ?_⟩) (by assumption) ?_
          rotate_left
          · (intro w hSw; (try dsimp only at hSw); go_simp <;> with_reducible rfl)
          try walk_nrm
          refine wpAnyH_take (i := 5) (v := ?_) rfl (by kernel_rfl) (by kernel_rfl) (by kernel_rfl) (fun _ _ _ h => h) (Or.inl ⟨by rfl, ?_⟩) (by assumption) ?_
          rotate_left
          · (intro w hSw; (try dsimp only at hSw); go_simp <;> with_reducible rfl)
          try walk_nrm
          refine wpAnyH_take (i := 6) (v := ?_) rfl (by kernel_rfl) (by kernel_rfl) (by kernel_rfl) (fun _ _ _ h => h) (Or.inl ⟨by rfl, ?_⟩) (by assumption) ?_
          rotate_left
          · (intro w hSw; (try dsimp only at hSw); go_simp <;> with_reducible rfl)
          try walk_nrm
          refine wpAnyH_take (i := 7) (v := ?_) rfl (by kernel_rfl) (by kernel_rfl) (by kernel_rfl) (fun _ _ _ h => h) (Or.inl ⟨by rfl, ?_⟩) (by assumption) ?_
          rotate_left
          · (intro w hSw; (try dsimp only at hSw); go_simp <;> with_reducible rfl)
          try walk_nrm
          refine wpAnyH_take (i := 8) (v := ?_) rfl (by kernel_rfl) (by kernel_rfl) (by kernel_rfl) (fun _ _ _ h => h) (Or.inl ⟨by rfl, ?_⟩) (by assumption) ?_
          rotate_left
          · (intro w hSw; (try dsimp only at hSw); go_simp <;> with_reducible rfl)
          try walk_nrm
          refine wpAnyH_take (i := 9) (v := ?_) rfl (by kernel_rfl) (by kernel_rfl) (by kernel_rfl) (fun _ _ _ h => h) (Or.inl ⟨by rfl, ?_⟩) (by assumption) ?_
          rotate_left
          · (intro w hSw; (try dsimp only at hSw); go_simp <;> with_reducible rfl)
          try walk_nrm
          refine wpAnyH_take (i := 10) (v := ?_) rfl (by kernel_rfl) (by kernel_rfl) (by kernel_rfl) (fun _ _ _ h => h) (Or.inl ⟨by rfl, ?_⟩) (by assumption) ?_
          rotate_left
          · (intro w hSw; (try dsimp only at hSw); go_simp <;> with_reducible rfl)
          try walk_nrm
          refine wpAnyH_take (i := 11) (v := ?_) rfl (by kernel_rfl) (by kernel_rfl) (by kernel_rfl) (fun _ _ _ h => h) (Or.inl ⟨by rfl, ?_⟩) (by assumption) ?_
          rotate_left
          · (intro w hSw; (try dsimp only at hSw); go_simp <;> with_reducible rfl)
          try walk_nrm
          refine wpAnyH_take (i := 12) (v := ?_) rfl (by kernel_rfl) (by kernel_rfl) (by kernel_rfl) (fun _ _ _ h => h) (Or.inl ⟨by rfl, ?_⟩) (by assumption) ?_
          rotate_left
          · (intro w hSw; (try dsimp only at hSw); go_simp <;> with_reducible rfl)
          try walk_nrm
          refine wpAnyH_take (i := 13) (v := ?_) rfl (by kernel_rfl) (by kernel_rfl) (by kernel_rfl) (fun _ _ _ h => h) (Or.inl ⟨by rfl, ?_⟩) (by assumption) ?_
          rotate_left
          · (intro w hSw; (try dsimp only at hSw); go_simp <;> with_reducible rfl)
          try walk_nrm
          refine wpAnyH_take (i := 14) (v := ?_) rfl (by kernel_rfl) (by kernel_rfl) (by kernel_rfl) (fun _ _ _ h => h) (Or.inl ⟨by rfl, ?_⟩) (by assumption) ?_
          rotate_left
          · (intro w hSw; (try dsimp only at hSw); go_simp <;> with_reducible rfl)
          try walk_nrm
          refine wpAnyH_take (i := 16) (v := ?_) rfl (by kernel_rfl) (by kernel_rfl) (by kernel_rfl) (fun _ _ _ h => h) (Or.inl ⟨by rfl, ?_⟩) (by assumption) ?_
          rotate_left
          · (intro w hSw; (try dsimp only at hSw); go_simp <;> with_reducible rfl)
          try walk_nrm
          refine wpAnyH_take (i := 17) (v := ?_) rfl (by kernel_rfl) (by kernel_rfl) (by kernel_rfl) (fun _ _ _ h => h) (Or.inl ⟨by rfl, ?_⟩) (by assumption) ?_
          rotate_left
          · (intro w hSw; (try dsimp only at hSw); go_simp <;> with_reducible rfl)
          try walk_nrm
          refine wpAnyH_ready (rs := [15, 18]) (by kernel_rfl) (by simp) ?_
          refine AllReadyH.cons rfl (fun K hK => ?_) ?_
          · go_simp
            refine hK.out _ _ ?_ (fun hHeld => ?_)
            · ((try dsimp only); (first | (with_reducible exact HKS.out _ (by (repeat (first | assumption | exact Bel.refl _ | apply Bel.drewN | apply Bel.drew | apply Bel.alloc | refine Bel.trans ?_ (by assumption)))) _ _) | exact HKP.out _ (by (repeat (first | assumption | exact Bel.refl _ | apply Bel.drewN | apply Bel.drew | apply Bel.alloc | refine Bel.trans ?_ (by assumption))))))
            clear hK K
            try walk_nrm
            refine wpAnyH_ready (rs := [18]) (by kernel_rfl) (by simp) ?_
            refine AllReadyH.cons rfl (fun K hK => ?_) AllReadyH.nil
            · go_simp
              (go_at_call 75; (with_reducible refine (HCALL.out _ (by (repeat (first | assumption | exact Bel.refl _ | apply Bel.drewN | apply Bel.drew | apply Bel.alloc | refine Bel.trans ?_ (by assumption))))).mono ?_); rintro e wg ⟨rfl, gG⟩; have hwg := Bel.trans (a := wr) (by (repeat (first | assumption | exact Bel.refl _ | apply Bel.drewN | apply Bel.drew | apply Bel.alloc | refine Bel.trans ?_ (by assumption)))) gG; have hwg0 := Bel.trans (a := W0) (by (repeat (first | assumption | exact Bel.refl _ | apply Bel.drewN | apply Bel.drew | apply Bel.alloc | refine Bel.trans ?_ (by assumption)))) gG; have hwg2 := Bel.trans (a := W2) (by (repeat (first | assumption | exact Bel.refl _ | apply Bel.drewN | apply Bel.drew | apply Bel.alloc | refine Bel.trans ?_ (by assumption)))) gG; have hkk := cell_keep (And.intro hce hfr) (hwg2.block HRB.out); have hce := hkk.1; have hfr := hkk.2; clear hkk)
              try go_wp2_with fail
              refine hK.out _ _ ?_ (fun hHeld => ?_)
              · ((try dsimp only); (first | (with_reducible exact HKS.out _ (by (repeat (first | assumption | exact Bel.refl _ | apply Bel.drewN | apply Bel.drew | apply Bel.alloc | refine Bel.trans ?_ (by assumption)))) _ _) | exact HKP.out _ (by (repeat (first | assumption | exact Bel.refl _ | apply Bel.drewN | apply Bel.drew | apply Bel.alloc | refine Bel.trans ?_ (by assumption))))))
              clear hK K
              try walk_nrm
              refine wpAnyH_ready (rs := [19]) (by kernel_rfl) (by simp) ?_
              refine AllReadyH.cons rfl (fun K hK => ?_) AllReadyH.nil
              · go_simp
                (go_at_call 27; (with_reducible refine (l02Max_any _ _ _).mono ?_); rintro e wm ⟨rfl, rfl⟩)
                try go_wp2_with fail
                refine hK.out _ _ ?_ (fun hHeld => ?_)
                · ((try dsimp only); (first | (with_reducible exact HKS.out _ (by (repeat (first | assumption | exact Bel.refl _ | apply Bel.drewN | apply Bel.drew | apply Bel.alloc | refine Bel.trans ?_ (by assumption)))) _ _) | exact HKP.out _ (by (repeat (first | assumption | exact Bel.refl _ | apply Bel.drewN | apply Bel.drew | apply Bel.alloc | refine Bel.trans ?_ (by assumption))))))
                clear hK K
                try walk_nrm
                refine wpAnyH_take (i := 20) (v := ?_) rfl (by kernel_rfl) (by kernel_rfl) (by kernel_rfl) (fun _ _ _ h => h) (Or.inl ⟨by rfl, ?_⟩) (by assumption) ?_
                rotate_left
                · (intro w hSw; (try dsimp only at hSw); go_simp <;> with_reducible rfl)
                try walk_nrm
                refine wpAnyH_ready (rs := [21]) (by kernel_rfl) (by simp) ?_
                refine AllReadyH.cons rfl (fun K hK => ?_) AllReadyH.nil
                · go_simp
                  refine hK.out _ _ ?_ (fun hHeld => ?_)
                  · ((try dsimp only); (first | (with_reducible exact HKS.out _ (by (repeat (first | assumption | exact Bel.refl _ | apply Bel.drewN | apply Bel.drew | apply Bel.alloc | refine Bel.trans ?_ (by assumption)))) _ _) | exact HKP.out _ (by (repeat (first | assumption | exact Bel.refl _ | apply Bel.drewN | apply Bel.drew | apply Bel.alloc | refine Bel.trans ?_ (by assumption))))))
                  clear hK K
                  try walk_nrm
                  refine wpAnyH_done (by kernel_rfl) ?_ _
                  (go_wp2_with fail; go_roundw; (case rel => exact ⟨t + 1, by omega, by go_num, HGL.out _ (HG.out.bel (by (repeat (first | assumption | exact Bel.refl _ | apply Bel.drewN | apply Bel.drew | apply Bel.alloc | refine Bel.trans ?_ (by assumption))))), HBS.out _ (by (repeat (first | assumption | exact Bel.refl _ | apply Bel.drewN | apply Bel.drew | apply Bel.alloc | refine Bel.trans ?_ (by assumption)))) _⟩); (case measure => simp [intOf]; omega))
          refine AllReadyH.cons rfl (fun K hK => ?_) AllReadyH.nil
          · go_simp
            (go_at_call 75; (with_reducible refine (HCALL.out _ (by (repeat (first | assumption | exact Bel.refl _ | apply Bel.drewN | apply Bel.drew | apply Bel.alloc | refine Bel.trans ?_ (by assumption))))).mono ?_); rintro e wg ⟨rfl, gG⟩; have hwg := Bel.trans (a := wr) (by (repeat (first | assumption | exact Bel.refl _ | apply Bel.drewN | apply Bel.drew | apply Bel.alloc | refine Bel.trans ?_ (by assumption)))) gG; have hwg0 := Bel.trans (a := W0) (by (repeat (first | assumption | exact Bel.refl _ | apply Bel.drewN | apply Bel.drew | apply Bel.alloc | refine Bel.trans ?_ (by assumption)))) gG; have hwg2 := Bel.trans (a := W2) (by (repeat (first | assumption | exact Bel.refl _ | apply Bel.drewN | apply Bel.drew | apply Bel.alloc | refine Bel.trans ?_ (by assumption)))) gG; have hkk := cell_keep (And.intro hce hfr) (hwg2.block HRB.out); have hce := hkk.1; have hfr := hkk.2; clear hkk)
            try go_wp2_with fail
            refine hK.out _ _ ?_ (fun hHeld => ?_)
            · ((try dsimp only); (first | (with_reducible exact HKS.out _ (by (repeat (first | assumption | exact Bel.refl _ | apply Bel.drewN | apply Bel.drew | apply Bel.alloc | refine Bel.trans ?_ (by assumption)))) _ _) | exact HKP.out _ (by (repeat (first | assumption | exact Bel.refl _ | apply Bel.drewN | apply Bel.drew | apply Bel.alloc | refine Bel.trans ?_ (by assumption))))))
            clear hK K
            try walk_nrm
            refine wpAnyH_ready (rs := [15]) (by kernel_rfl) (by simp) ?_
            refine AllReadyH.cons rfl (fun K hK => ?_) AllReadyH.nil
            · go_simp
              refine hK.out _ _ ?_ (fun hHeld => ?_)
              · ((try dsimp only); (first | (with_reducible exact HKS.out _ (by (repeat (first | assumption | exact Bel.refl _ | apply Bel.drewN | apply Bel.drew | apply Bel.alloc | refine Bel.trans ?_ (by assumption)))) _ _) | exact HKP.out _ (by (repeat (first | assumption | exact Bel.refl _ | apply Bel.drewN | apply Bel.drew | apply Bel.alloc | refine Bel.trans ?_ (by assumption))))))
              clear hK K
              try walk_nrm
              refine wpAnyH_ready (rs := [19]) (by kernel_rfl) (by simp) ?_
              refine AllReadyH.cons rfl (fun K hK => ?_) AllReadyH.nil
              · go_simp
                (go_at_call 27; (with_reducible refine (l02Max_any _ _ _).mono ?_); rintro e wm ⟨rfl, rfl⟩)
                try go_wp2_with fail
                refine hK.out _ _ ?_ (fun hHeld => ?_)
                · ((try dsimp only); (first | (with_reducible exact HKS.out _ (by (repeat (first | assumption | exact Bel.refl _ | apply Bel.drewN | apply Bel.drew | apply Bel.alloc | refine Bel.trans ?_ (by assumption)))) _ _) | exact HKP.out _ (by (repeat (first | assumption | exact Bel.refl _ | apply Bel.drewN | apply Bel.drew | apply Bel.alloc | refine Bel.trans ?_ (by assumption))))))
                clear hK K
                try walk_nrm
                refine wpAnyH_take (i := 20) (v := ?_) rfl (by kernel_rfl) (by kernel_rfl) (by kernel_rfl) (fun _ _ _ h => h) (Or.inl ⟨by rfl, ?_⟩) (by assumption) ?_
                rotate_left
                · (intro w hSw; (try dsimp only at hSw); go_simp <;> with_reducible rfl)
                try walk_nrm
                refine wpAnyH_ready (rs := [21]) (by kernel_rfl) (by simp) ?_
                refine AllReadyH.cons rfl (fun K hK => ?_) AllReadyH.nil
                · go_simp
                  refine hK.out _ _ ?_ (fun hHeld => ?_)
                  · ((try dsimp only); (first | (with_reducible exact HKS.out _ (by (repeat (first | assumption | exact Bel.refl _ | apply Bel.drewN | apply Bel.drew | apply Bel.alloc | refine Bel.trans ?_ (by assumption)))) _ _) | exact HKP.out _ (by (repeat (first | assumption | exact Bel.refl _ | apply Bel.drewN | apply Bel.drew | apply Bel.alloc | refine Bel.trans ?_ (by assumption))))))
                  clear hK K
                  try walk_nrm
                  refine wpAnyH_done (by kernel_rfl) ?_ _
                  (go_wp2_with fail; go_roundw; (case rel => exact ⟨t + 1, by omega, by go_num, HGL.out _ (HG.out.bel (by (repeat (first | assumption | exact Bel.refl _ | apply Bel.drewN | apply Bel.drew | apply Bel.alloc | refine Bel.trans ?_ (by assumption))))), HBS.out _ (by (repeat (first | assumption | exact Bel.refl _ | apply Bel.drewN | apply Bel.drew | apply Bel.alloc | refine Bel.trans ?_ (by assumption)))) _⟩); (case measure => simp [intOf]; omega))
        · have hG := hG.congr (V' := intsV (distM (netOf p) 0)) (fun a b _ _ => by
            obtain rfl : t = p.2.2.1.length := by omega
            rfl)
          clear HG
          obtain ⟨Wa, hWa⟩ : ∃ W, W = wr := ⟨wr, rfl⟩
          subst hWa
          go_wp2_with fail
          clear b0 b1 b2 b3 b4
          go_loopw [73] (fun i wr => ∃ m : Nat, m ≤ p.2.1.length ∧ i = .int .i64 m ∧ Grid W0.heap.size wr o p.2.1.length p.2.1.length rb cp (intsV (distM (netOf p) m)) ∧ Bel W0 wr) (fun i _ => p.2.1.length - (intOf i).toNat)
          case atStart => exact ⟨0, Nat.zero_le _, rfl, hG, hB2⟩
          case round =>
            clear hG
            obtain ⟨m, hm, rfl, hG, hB3⟩ := hrel
            obtain ⟨b0, b1, b2, b3, b4⟩ := HBX.out wr hB3
            by_cases hlm : m < p.2.1.length
            · have HDG := Lib.hid ((dist_all _ HF.out HN.out m hm).diag m hlm)
              have HLM := Lib.hid hlm
              have hG0 := grid_first hG
              clear hG
              obtain ⟨Wb, hWb⟩ : ∃ W, W = wr := ⟨wr, rfl⟩
              subst hWb
              go_wp2_with fail
              clear b0 b1 b2 b3 b4
              go_loopw [79] (fun i wr => ∃ i' : Nat, i' ≤ p.2.1.length ∧ i = .int .i64 i' ∧ Grid W0.heap.size wr o p.2.1.length p.2.1.length rb cp (intsV (distS (netOf p) m i' 0)) ∧ Bel W0 wr) (fun i _ => p.2.1.length - (intOf i).toNat)
              case atStart => exact ⟨0, Nat.zero_le _, rfl, hG0, hB3⟩
              case round =>
                clear hG0
                obtain ⟨i, hi, rfl, hG, hB4⟩ := hrel
                obtain ⟨b0, b1, b2, b3, b4⟩ := HBX.out wr hB4
                by_cases hli : i < p.2.1.length
                · have HLI := Lib.hid hli
                  obtain ⟨Wc, hWc⟩ : ∃ W, W = wr := ⟨wr, rfl⟩
                  subst hWc
                  go_wp2_with fail
                  clear b0 b1 b2 b3 b4
                  go_loopw [85] (fun j wr => ∃ k : Nat, k ≤ p.2.1.length ∧ j = .int .i64 k ∧ Grid W0.heap.size wr o p.2.1.length p.2.1.length rb cp (intsV (distS (netOf p) m i k)) ∧ Bel W0 wr) (fun j _ => p.2.1.length - (intOf j).toNat)
                  case atStart => exact ⟨0, Nat.zero_le _, rfl, hG, hB4⟩
                  case round =>
                    clear hG
                    obtain ⟨k, hk, rfl, hG, hB5⟩ := hrel
                    have HG := Lib.hid hG
                    by_cases hlk : k < p.2.1.length
                    · have hb1 := distS_bd HF.out HN.out (x := i) (y := k) (m := m) (i := i) (k := m) hlm hli hlm
                      have hb2 := distS_bd HF.out HN.out (x := i) (y := k) (m := m) (i := m) (k := k) hlm hlm hlk
                      have HGN := Lib.hid (fun (X : World) (hX : Grid W0.heap.size X o p.2.1.length p.2.1.length rb cp (intsV (distS (netOf p) m i k))) (h : distS (netOf p) m i k i m = -1000 ∨ distS (netOf p) m i k m k = -1000) => grid_skip hX (by rw [tri_at HDG.out]; unfold triV; rw [if_pos h, distS_at]))
                      have HGT := Lib.hid (fun (X : World) (hX : Grid W0.heap.size X o p.2.1.length p.2.1.length rb cp (intsV (distS (netOf p) m i k))) (h1 : ¬ distS (netOf p) m i k i m = -1000) (h2 : ¬ distS (netOf p) m i k m k = -1000) => grid_tri (x := maxI (distS (netOf p) m i k i k) (distS (netOf p) m i k i m + distS (netOf p) m i k m k)) hX hli hlk (by rw [tri_at HDG.out]; unfold triV; rw [if_neg (by intro h; rcases h with h | h; exact h1 h; exact h2 h), maxI_lt]))
                      have HBS := Lib.hid (fun (X : World) (hX : Bel W0 X) (u : Value) => grid_bel_set (k := k) hG hX (Nat.le_refl _) hli u)
                      obtain ⟨si, sif⟩ := hG.slot i hli
                      obtain ⟨sm, smf⟩ := hG.slot m hlm
                      obtain ⟨cik, cikf⟩ := hG.cell i k hli hlk
                      obtain ⟨cim, -⟩ := hG.cell i m hli hlm
                      obtain ⟨cmk, -⟩ := hG.cell m k hlm hlk
                      have HBA := Lib.hid (hG.base i hli)
                      simp only [intsV] at cik cim cmk
                      generalize distS (netOf p) m i k i k = DIK at *
                      generalize distS (netOf p) m i k i m = DIM at *
                      generalize distS (netOf p) m i k m k = DMK at *
                      generalize rb i = RI at *
                      generalize rb m = RM at *
                      generalize cp i = CI at *
                      generalize cp m = CM at *
                      clear hG smf sif
                      by_cases h1 : DIM = -1000
                      · subst h1
                        go_wp2
                        go_roundw
                        case rel => exact ⟨k + 1, by omega, by go_num, HGN.out _ (HG.out.bel (by (repeat (first | assumption | exact Bel.refl _ | apply Bel.drewN | apply Bel.drew | apply Bel.alloc | refine Bel.trans ?_ (by assumption))))) (.inl rfl), by (repeat (first | assumption | exact Bel.refl _ | apply Bel.drewN | apply Bel.drew | apply Bel.alloc | refine Bel.trans ?_ (by assumption)))⟩
                        case measure => simp [intOf]; omega
                      have h1b : (DIM == (-1000 : Int)) = false := by simpa using h1
                      have h1c : (DIM != (-1000 : Int)) = true := by simpa using h1
                      by_cases h2 : DMK = -1000
                      · subst h2
                        go_wp2
                        go_roundw
                        case rel => exact ⟨k + 1, by omega, by go_num, HGN.out _ (HG.out.bel (by (repeat (first | assumption | exact Bel.refl _ | apply Bel.drewN | apply Bel.drew | apply Bel.alloc | refine Bel.trans ?_ (by assumption))))) (.inr rfl), by (repeat (first | assumption | exact Bel.refl _ | apply Bel.drewN | apply Bel.drew | apply Bel.alloc | refine Bel.trans ?_ (by assumption)))⟩
                        case measure => simp [intOf]; omega
                      have h2b : (DMK == (-1000 : Int)) = false := by simpa using h2
                      have h2c : (DMK != (-1000 : Int)) = true := by simpa using h2
                      have hsum : IntKind.i64.wrap (DIM + DMK) = DIM + DMK := IntWalk.i64_in _ (by omega)
                      have H12 := Lib.hid (And.intro h1 h2)
                      go_upto_region 31 with (fail)
                      have HKP := Lib.hid (show ∀ W, Bel wr W → W.cell? ⟨o, i, none⟩ = some (.slice (some ⟨RI, 0, none⟩) p.2.1.length CI) ∧ W.cell? ⟨o, m, none⟩ = some (.slice (some ⟨RM, 0, none⟩) p.2.1.length CM) from fun W hW => ⟨hW.cell si, hW.cell sm⟩)
                      have HKS := Lib.hid (show ∀ V, Bel wr V → ∀ (j : Nat) (u : Value), (fun W : World => W.cell? ⟨o, i, none⟩ = some (.slice (some ⟨RI, 0, none⟩) p.2.1.length CI) ∧ W.cell? ⟨o, m, none⟩ = some (.slice (some ⟨RM, 0, none⟩) p.2.1.length CM)) (V.setCell ⟨RI, j, none⟩ u) from fun V hV j u => by
                        obtain ⟨d0, d1⟩ := HKP.out V hV
                        exact ⟨cell_setAt d0 (fun e => HBA.out.2.2 e.symm) u, cell_setAt d1 (fun e => HBA.out.2.2 e.symm) u⟩)
                      have HKD := Lib.hid (show ∀ V, Bel wr V → ∀ (j : Nat) (u : Value), (fun W : World => W.cell? ⟨o, i, none⟩ = some (.slice (some ⟨RI, 0, none⟩) p.2.1.length CI) ∧ W.cell? ⟨o, m, none⟩ = some (.slice (some ⟨RM, 0, none⟩) p.2.1.length CM)) (V.setCell ⟨RI, j, none⟩ u).drew from fun V hV j u => HKS.out V hV j u)
                      refine wp_region_held_drew (S := (fun W => W.cell? ⟨o, i, none⟩ = some (.slice (some ⟨RI, 0, none⟩) p.2.1.length CI) ∧ W.cell? ⟨o, m, none⟩ = some (.slice (some ⟨RM, 0, none⟩) p.2.1.length CM))) (by kernel_rfl) ?_ (fun hHeld => ?_)
                      · ((try dsimp only); (first | (with_reducible exact HKD.out _ (by (repeat (first | assumption | exact Bel.refl _ | apply Bel.drewN | apply Bel.drew | apply Bel.alloc | refine Bel.trans ?_ (by assumption)))) _ _) | (with_reducible exact HKS.out _ (by (repeat (first | assumption | exact Bel.refl _ | apply Bel.drewN | apply Bel.drew | apply Bel.alloc | refine Bel.trans ?_ (by assumption)))) _ _) | exact HKP.out _ (by (repeat (first | assumption | exact Bel.refl _ | apply Bel.drewN | apply Bel.drew | apply Bel.alloc | refine Bel.trans ?_ (by assumption))))))
                      refine wpAnyH_take (i := 0) (v := ?_) rfl (by kernel_rfl) (by kernel_rfl) (by kernel_rfl) (fun _ _ _ h => h) (Or.inl ⟨by rfl, ?_⟩) (by assumption) ?_
                      rotate_left
                      · (intro w hSw; (try dsimp only at hSw); go_simp <;> with_reducible rfl)
                      try walk_nrm
                      refine wpAnyH_take (i := 1) (v := ?_) rfl (by kernel_rfl) (by kernel_rfl) (by kernel_rfl) (fun _ _ _ h => h) (Or.inl ⟨by rfl, ?_⟩) (by assumption) ?_
                      rotate_left
                      · (intro w hSw; (try dsimp only at hSw); go_simp <;> with_reducible rfl)
                      try walk_nrm
                      refine wpAnyH_take (i := 2) (v := ?_) rfl (by kernel_rfl) (by kernel_rfl) (by kernel_rfl) (fun _ _ _ h => h) (Or.inl ⟨by rfl, ?_⟩) (by assumption) ?_
                      rotate_left
                      · (intro w hSw; (try dsimp only at hSw); go_simp <;> with_reducible rfl)
                      try walk_nrm
                      refine wpAnyH_take (i := 3) (v := ?_) rfl (by kernel_rfl) (by kernel_rfl) (by kernel_rfl) (fun _ _ _ h => h) (Or.inl ⟨by rfl, ?_⟩) (by assumption) ?_
                      rotate_left
                      · (intro w hSw; (try dsimp only at hSw); go_simp <;> with_reducible rfl)
                      try walk_nrm
                      refine wpAnyH_take (i := 4) (v := ?_) rfl (by kernel_rfl) (by kernel_rfl) (by kernel_rfl) (fun _ _ _ h => h) (Or.inl ⟨by rfl, ?_⟩) (by assumption) ?_
                      rotate_left
                      · (intro w hSw; (try dsimp only at hSw); go_simp <;> with_reducible rfl)
                      try walk_nrm
                      refine wpAnyH_take (i := 5) (v := ?_) rfl (by kernel_rfl) (by kernel_rfl) (by kernel_rfl) (fun _ _ _ h => h) (Or.inl ⟨by rfl, ?_⟩) (by assumption) ?_
                      rotate_left
                      · (intro w hSw; (try dsimp only at hSw); go_simp <;> with_reducible rfl)
                      try walk_nrm
                      refine wpAnyH_take (i := 6) (v := ?_) rfl (by kernel_rfl) (by kernel_rfl) (by kernel_rfl) (fun _ _ _ h => h) (Or.inl ⟨by rfl, ?_⟩) (by assumption) ?_
                      rotate_left
                      · (intro w hSw; (try dsimp only at hSw); go_simp <;> with_reducible rfl)
                      try walk_nrm
                      refine wpAnyH_take (i := 7) (v := ?_) rfl (by kernel_rfl) (by kernel_rfl) (by kernel_rfl) (fun _ _ _ h => h) (Or.inl ⟨by rfl, ?_⟩) (by assumption) ?_
                      rotate_left
                      · (intro w hSw; (try dsimp only at hSw); go_simp <;> with_reducible rfl)
                      try walk_nrm
                      refine wpAnyH_take (i := 8) (v := ?_) rfl (by kernel_rfl) (by kernel_rfl) (by kernel_rfl) (fun _ _ _ h => h) (Or.inl ⟨by rfl, ?_⟩) (by assumption) ?_
                      rotate_left
                      · (intro w hSw; (try dsimp only at hSw); go_simp <;> with_reducible rfl)
                      try walk_nrm
                      refine wpAnyH_take (i := 9) (v := ?_) rfl (by kernel_rfl) (by kernel_rfl) (by kernel_rfl) (fun _ _ _ h => h) (Or.inl ⟨by rfl, ?_⟩) (by assumption) ?_
                      rotate_left
                      · (intro w hSw; (try dsimp only at hSw); go_simp <;> with_reducible rfl)
                      try walk_nrm
                      refine wpAnyH_take (i := 10) (v := ?_) rfl (by kernel_rfl) (by kernel_rfl) (by kernel_rfl) (fun _ _ _ h => h) (Or.inl ⟨by rfl, ?_⟩) (by assumption) ?_
                      rotate_left
                      · (intro w hSw; (try dsimp only at hSw); go_simp <;> with_reducible rfl)
                      try walk_nrm
                      refine wpAnyH_take (i := 12) (v := ?_) rfl (by kernel_rfl) (by kernel_rfl) (by kernel_rfl) (fun _ _ _ h => h) (Or.inl ⟨by rfl, ?_⟩) (by assumption) ?_
                      rotate_left
                      · (intro w hSw; (try dsimp only at hSw); go_simp <;> with_reducible rfl)
                      try walk_nrm
                      refine wpAnyH_take (i := 13) (v := ?_) rfl (by kernel_rfl) (by kernel_rfl) (by kernel_rfl) (fun _ _ _ h => h) (Or.inl ⟨by rfl, ?_⟩) (by assumption) ?_
                      rotate_left
                      · (intro w hSw; (try dsimp only at hSw); go_simp <;> with_reducible rfl)
                      try walk_nrm
                      refine wpAnyH_take (i := 14) (v := ?_) rfl (by kernel_rfl) (by kernel_rfl) (by kernel_rfl) (fun _ _ _ h => h) (Or.inl ⟨by rfl, ?_⟩) (by assumption) ?_
                      rotate_left
                      · (intro w hSw; (try dsimp only at hSw); go_simp <;> with_reducible rfl)
                      try walk_nrm
                      refine wpAnyH_take (i := 15) (v := ?_) rfl (by kernel_rfl) (by kernel_rfl) (by kernel_rfl) (fun _ _ _ h => h) (Or.inl ⟨by rfl, ?_⟩) (by assumption) ?_
                      rotate_left
                      · (intro w hSw; (try dsimp only at hSw); go_simp <;> with_reducible rfl)
                      try walk_nrm
                      refine wpAnyH_take (i := 16) (v := ?_) rfl (by kernel_rfl) (by kernel_rfl) (by kernel_rfl) (fun _ _ _ h => h) (Or.inl ⟨by rfl, ?_⟩) (by assumption) ?_
                      rotate_left
                      · (intro w hSw; (try dsimp only at hSw); go_simp <;> with_reducible rfl)
                      try walk_nrm
                      refine wpAnyH_take (i := 17) (v := ?_) rfl (by kernel_rfl) (by kernel_rfl) (by kernel_rfl) (fun _ _ _ h => h) (Or.inl ⟨by rfl, ?_⟩) (by assumption) ?_
                      rotate_left
                      · (intro w hSw; (try dsimp only at hSw); go_simp <;> with_reducible rfl)
                      try walk_nrm
                      refine wpAnyH_take (i := 19) (v := ?_) rfl (by kernel_rfl) (by kernel_rfl) (by kernel_rfl) (fun _ _ _ h => h) (Or.inl ⟨by rfl, ?_⟩) (by assumption) ?_
                      rotate_left
                      · (intro w hSw; (try dsimp only at hSw); go_simp <;> with_reducible rfl)
                      try walk_nrm
                      refine wpAnyH_take (i := 20) (v := ?_) rfl (by kernel_rfl) (by kernel_rfl) (by kernel_rfl) (fun _ _ _ h => h) (Or.inl ⟨by rfl, ?_⟩) (by assumption) ?_
                      rotate_left
                      · (intro w hSw; (try dsimp only at hSw); go_simp <;> with_reducible rfl)
                      try walk_nrm
                      refine wpAnyH_take (i := 21) (v := ?_) rfl (by kernel_rfl) (by kernel_rfl) (by kernel_rfl) (fun _ _ _ h => h) (Or.inl ⟨by rfl, ?_⟩) (by assumption) ?_
                      rotate_left
                      · (intro w hSw; (try dsimp only at hSw); go_simp <;> with_reducible rfl)
                      try walk_nrm
                      refine wpAnyH_take (i := 22) (v := ?_) rfl (by kernel_rfl) (by kernel_rfl) (by kernel_rfl) (fun _ _ _ h => h) (Or.inl ⟨by rfl, ?_⟩) (by assumption) ?_
                      rotate_left
                      · (intro w hSw; (try dsimp only at hSw); go_simp <;> with_reducible rfl)
                      try walk_nrm
                      refine wpAnyH_take (i := 23) (v := ?_) rfl (by kernel_rfl) (by kernel_rfl) (by kernel_rfl) (fun _ _ _ h => h) (Or.inl ⟨by rfl, ?_⟩) (by assumption) ?_
                      rotate_left
                      · (intro w hSw; (try dsimp only at hSw); go_simp <;> with_reducible rfl)
                      try walk_nrm
                      refine wpAnyH_take (i := 24) (v := ?_) rfl (by kernel_rfl) (by kernel_rfl) (by kernel_rfl) (fun _ _ _ h => h) (Or.inl ⟨by rfl, ?_⟩) (by assumption) ?_
                      rotate_left
                      · (intro w hSw; (try dsimp only at hSw); go_simp <;> with_reducible rfl)
                      try walk_nrm
                      refine wpAnyH_ready (rs := [11, 18, 25]) (by kernel_rfl) (by simp) ?_
                      refine AllReadyH.cons rfl (fun K hK => ?_) ?_
                      · go_simp
                        refine hK.out _ _ ?_ (fun hHeld => ?_)
                        · ((try dsimp only); (first | (with_reducible exact HKD.out _ (by (repeat (first | assumption | exact Bel.refl _ | apply Bel.drewN | apply Bel.drew | apply Bel.alloc | refine Bel.trans ?_ (by assumption)))) _ _) | (with_reducible exact HKS.out _ (by (repeat (first | assumption | exact Bel.refl _ | apply Bel.drewN | apply Bel.drew | apply Bel.alloc | refine Bel.trans ?_ (by assumption)))) _ _) | exact HKP.out _ (by (repeat (first | assumption | exact Bel.refl _ | apply Bel.drewN | apply Bel.drew | apply Bel.alloc | refine Bel.trans ?_ (by assumption))))))
                        clear hK K
                        try walk_nrm
                        refine wpAnyH_ready (rs := [18, 25]) (by kernel_rfl) (by simp) ?_
                        refine AllReadyH.cons rfl (fun K hK => ?_) ?_
                        · go_simp
                          refine hK.out _ _ ?_ (fun hHeld => ?_)
                          · ((try dsimp only); (first | (with_reducible exact HKD.out _ (by (repeat (first | assumption | exact Bel.refl _ | apply Bel.drewN | apply Bel.drew | apply Bel.alloc | refine Bel.trans ?_ (by assumption)))) _ _) | (with_reducible exact HKS.out _ (by (repeat (first | assumption | exact Bel.refl _ | apply Bel.drewN | apply Bel.drew | apply Bel.alloc | refine Bel.trans ?_ (by assumption)))) _ _) | exact HKP.out _ (by (repeat (first | assumption | exact Bel.refl _ | apply Bel.drewN | apply Bel.drew | apply Bel.alloc | refine Bel.trans ?_ (by assumption))))))
                          clear hK K
                          try walk_nrm
                          refine wpAnyH_ready (rs := [25]) (by kernel_rfl) (by simp) ?_
                          refine AllReadyH.cons rfl (fun K hK => ?_) AllReadyH.nil
                          · go_simp
                            refine hK.out _ _ ?_ (fun hHeld => ?_)
                            · ((try dsimp only); (first | (with_reducible exact HKD.out _ (by (repeat (first | assumption | exact Bel.refl _ | apply Bel.drewN | apply Bel.drew | apply Bel.alloc | refine Bel.trans ?_ (by assumption)))) _ _) | (with_reducible exact HKS.out _ (by (repeat (first | assumption | exact Bel.refl _ | apply Bel.drewN | apply Bel.drew | apply Bel.alloc | refine Bel.trans ?_ (by assumption)))) _ _) | exact HKP.out _ (by (repeat (first | assumption | exact Bel.refl _ | apply Bel.drewN | apply Bel.drew | apply Bel.alloc | refine Bel.trans ?_ (by assumption))))))
                            clear hK K
                            try walk_nrm
                            refine wpAnyH_take (i := 26) (v := ?_) rfl (by kernel_rfl) (by kernel_rfl) (by kernel_rfl) (fun _ _ _ h => h) (Or.inl ⟨by rfl, ?_⟩) (by assumption) ?_
                            rotate_left
                            · (intro w hSw; (try dsimp only at hSw); go_simp <;> with_reducible rfl)
                            try walk_nrm
                            refine wpAnyH_ready (rs := [27]) (by kernel_rfl) (by simp) ?_
                            refine AllReadyH.cons rfl (fun K hK => ?_) AllReadyH.nil
                            · go_simp
                              (go_at_call 27; (with_reducible refine (l02Max_any _ _ _).mono ?_); rintro e wm ⟨rfl, rfl⟩)
                              try go_wp2_with fail
                              refine hK.out _ _ ?_ (fun hHeld => ?_)
                              · ((try dsimp only); (first | (with_reducible exact HKD.out _ (by (repeat (first | assumption | exact Bel.refl _ | apply Bel.drewN | apply Bel.drew | apply Bel.alloc | refine Bel.trans ?_ (by assumption)))) _ _) | (with_reducible exact HKS.out _ (by (repeat (first | assumption | exact Bel.refl _ | apply Bel.drewN | apply Bel.drew | apply Bel.alloc | refine Bel.trans ?_ (by assumption)))) _ _) | exact HKP.out _ (by (repeat (first | assumption | exact Bel.refl _ | apply Bel.drewN | apply Bel.drew | apply Bel.alloc | refine Bel.trans ?_ (by assumption))))))
                              clear hK K
                              try walk_nrm
                              refine wpAnyH_take (i := 28) (v := ?_) rfl (by kernel_rfl) (by kernel_rfl) (by kernel_rfl) (fun _ _ _ h => h) (Or.inl ⟨by rfl, ?_⟩) (by assumption) ?_
                              rotate_left
                              · (intro w hSw; (try dsimp only at hSw); go_simp <;> with_reducible rfl)
                              try walk_nrm
                              refine wpAnyH_ready (rs := [29]) (by kernel_rfl) (by simp) ?_
                              refine AllReadyH.cons rfl (fun K hK => ?_) AllReadyH.nil
                              · go_simp
                                refine hK.out _ _ ?_ (fun hHeld => ?_)
                                · ((try dsimp only); (first | (with_reducible exact HKD.out _ (by (repeat (first | assumption | exact Bel.refl _ | apply Bel.drewN | apply Bel.drew | apply Bel.alloc | refine Bel.trans ?_ (by assumption)))) _ _) | (with_reducible exact HKS.out _ (by (repeat (first | assumption | exact Bel.refl _ | apply Bel.drewN | apply Bel.drew | apply Bel.alloc | refine Bel.trans ?_ (by assumption)))) _ _) | exact HKP.out _ (by (repeat (first | assumption | exact Bel.refl _ | apply Bel.drewN | apply Bel.drew | apply Bel.alloc | refine Bel.trans ?_ (by assumption))))))
                                clear hK K
                                try walk_nrm
                                refine wpAnyH_done (by kernel_rfl) ?_ _
                                (go_wp2_with fail; go_roundw; (case rel => exact ⟨k + 1, by omega, by go_num, (HGT.out wr HG.out H12.out.1 H12.out.2).bel (by (repeat (first | assumption | exact Bel.refl _ | apply Bel.drewN | apply Bel.drew | apply Bel.alloc | refine Bel.trans ?_ (by assumption)))), (HBS.out wr hB5 _).trans (by (repeat (first | assumption | exact Bel.refl _ | apply Bel.drewN | apply Bel.drew | apply Bel.alloc | refine Bel.trans ?_ (by assumption))))⟩); (case measure => simp [intOf]; omega))
                        refine AllReadyH.cons rfl (fun K hK => ?_) AllReadyH.nil
                        · go_simp
                          refine hK.out _ _ ?_ (fun hHeld => ?_)
                          · ((try dsimp only); (first | (with_reducible exact HKD.out _ (by (repeat (first | assumption | exact Bel.refl _ | apply Bel.drewN | apply Bel.drew | apply Bel.alloc | refine Bel.trans ?_ (by assumption)))) _ _) | (with_reducible exact HKS.out _ (by (repeat (first | assumption | exact Bel.refl _ | apply Bel.drewN | apply Bel.drew | apply Bel.alloc | refine Bel.trans ?_ (by assumption)))) _ _) | exact HKP.out _ (by (repeat (first | assumption | exact Bel.refl _ | apply Bel.drewN | apply Bel.drew | apply Bel.alloc | refine Bel.trans ?_ (by assumption))))))
                          clear hK K
                          try walk_nrm
                          refine wpAnyH_ready (rs := [18]) (by kernel_rfl) (by simp) ?_
                          refine AllReadyH.cons rfl (fun K hK => ?_) AllReadyH.nil
                          · go_simp
                            refine hK.out _ _ ?_ (fun hHeld => ?_)
                            · ((try dsimp only); (first | (with_reducible exact HKD.out _ (by (repeat (first | assumption | exact Bel.refl _ | apply Bel.drewN | apply Bel.drew | apply Bel.alloc | refine Bel.trans ?_ (by assumption)))) _ _) | (with_reducible exact HKS.out _ (by (repeat (first | assumption | exact Bel.refl _ | apply Bel.drewN | apply Bel.drew | apply Bel.alloc | refine Bel.trans ?_ (by assumption)))) _ _) | exact HKP.out _ (by (repeat (first | assumption | exact Bel.refl _ | apply Bel.drewN | apply Bel.drew | apply Bel.alloc | refine Bel.trans ?_ (by assumption))))))
                            clear hK K
                            try walk_nrm
                            refine wpAnyH_take (i := 26) (v := ?_) rfl (by kernel_rfl) (by kernel_rfl) (by kernel_rfl) (fun _ _ _ h => h) (Or.inl ⟨by rfl, ?_⟩) (by assumption) ?_
                            rotate_left
                            · (intro w hSw; (try dsimp only at hSw); go_simp <;> with_reducible rfl)
                            try walk_nrm
                            refine wpAnyH_ready (rs := [27]) (by kernel_rfl) (by simp) ?_
                            refine AllReadyH.cons rfl (fun K hK => ?_) AllReadyH.nil
                            · go_simp
                              (go_at_call 27; (with_reducible refine (l02Max_any _ _ _).mono ?_); rintro e wm ⟨rfl, rfl⟩)
                              try go_wp2_with fail
                              refine hK.out _ _ ?_ (fun hHeld => ?_)
                              · ((try dsimp only); (first | (with_reducible exact HKD.out _ (by (repeat (first | assumption | exact Bel.refl _ | apply Bel.drewN | apply Bel.drew | apply Bel.alloc | refine Bel.trans ?_ (by assumption)))) _ _) | (with_reducible exact HKS.out _ (by (repeat (first | assumption | exact Bel.refl _ | apply Bel.drewN | apply Bel.drew | apply Bel.alloc | refine Bel.trans ?_ (by assumption)))) _ _) | exact HKP.out _ (by (repeat (first | assumption | exact Bel.refl _ | apply Bel.drewN | apply Bel.drew | apply Bel.alloc | refine Bel.trans ?_ (by assumption))))))
                              clear hK K
                              try walk_nrm
                              refine wpAnyH_take (i := 28) (v := ?_) rfl (by kernel_rfl) (by kernel_rfl) (by kernel_rfl) (fun _ _ _ h => h) (Or.inl ⟨by rfl, ?_⟩) (by assumption) ?_
                              rotate_left
                              · (intro w hSw; (try dsimp only at hSw); go_simp <;> with_reducible rfl)
                              try walk_nrm
                              refine wpAnyH_ready (rs := [29]) (by kernel_rfl) (by simp) ?_
                              refine AllReadyH.cons rfl (fun K hK => ?_) AllReadyH.nil
                              · go_simp
                                refine hK.out _ _ ?_ (fun hHeld => ?_)
                                · ((try dsimp only); (first | (with_reducible exact HKD.out _ (by (repeat (first | assumption | exact Bel.refl _ | apply Bel.drewN | apply Bel.drew | apply Bel.alloc | refine Bel.trans ?_ (by assumption)))) _ _) | (with_reducible exact HKS.out _ (by (repeat (first | assumption | exact Bel.refl _ | apply Bel.drewN | apply Bel.drew | apply Bel.alloc | refine Bel.trans ?_ (by assumption)))) _ _) | exact HKP.out _ (by (repeat (first | assumption | exact Bel.refl _ | apply Bel.drewN | apply Bel.drew | apply Bel.alloc | refine Bel.trans ?_ (by assumption))))))
                                clear hK K
                                try walk_nrm
                                refine wpAnyH_done (by kernel_rfl) ?_ _
                                (go_wp2_with fail; go_roundw; (case rel => exact ⟨k + 1, by omega, by go_num, (HGT.out wr HG.out H12.out.1 H12.out.2).bel (by (repeat (first | assumption | exact Bel.refl _ | apply Bel.drewN | apply Bel.drew | apply Bel.alloc | refine Bel.trans ?_ (by assumption)))), (HBS.out wr hB5 _).trans (by (repeat (first | assumption | exact Bel.refl _ | apply Bel.drewN | apply Bel.drew | apply Bel.alloc | refine Bel.trans ?_ (by assumption))))⟩); (case measure => simp [intOf]; omega))
                      refine AllReadyH.cons rfl (fun K hK => ?_) ?_
                      · go_simp
                        refine hK.out _ _ ?_ (fun hHeld => ?_)
                        · ((try dsimp only); (first | (with_reducible exact HKD.out _ (by (repeat (first | assumption | exact Bel.refl _ | apply Bel.drewN | apply Bel.drew | apply Bel.alloc | refine Bel.trans ?_ (by assumption)))) _ _) | (with_reducible exact HKS.out _ (by (repeat (first | assumption | exact Bel.refl _ | apply Bel.drewN | apply Bel.drew | apply Bel.alloc | refine Bel.trans ?_ (by assumption)))) _ _) | exact HKP.out _ (by (repeat (first | assumption | exact Bel.refl _ | apply Bel.drewN | apply Bel.drew | apply Bel.alloc | refine Bel.trans ?_ (by assumption))))))
                        clear hK K
                        try walk_nrm
                        refine wpAnyH_ready (rs := [11, 25]) (by kernel_rfl) (by simp) ?_
                        refine AllReadyH.cons rfl (fun K hK => ?_) ?_
                        · go_simp
                          refine hK.out _ _ ?_ (fun hHeld => ?_)
                          · ((try dsimp only); (first | (with_reducible exact HKD.out _ (by (repeat (first | assumption | exact Bel.refl _ | apply Bel.drewN | apply Bel.drew | apply Bel.alloc | refine Bel.trans ?_ (by assumption)))) _ _) | (with_reducible exact HKS.out _ (by (repeat (first | assumption | exact Bel.refl _ | apply Bel.drewN | apply Bel.drew | apply Bel.alloc | refine Bel.trans ?_ (by assumption)))) _ _) | exact HKP.out _ (by (repeat (first | assumption | exact Bel.refl _ | apply Bel.drewN | apply Bel.drew | apply Bel.alloc | refine Bel.trans ?_ (by assumption))))))
                          clear hK K
                          try walk_nrm
                          refine wpAnyH_ready (rs := [25]) (by kernel_rfl) (by simp) ?_
                          refine AllReadyH.cons rfl (fun K hK => ?_) AllReadyH.nil
                          · go_simp
                            refine hK.out _ _ ?_ (fun hHeld => ?_)
                            · ((try dsimp only); (first | (with_reducible exact HKD.out _ (by (repeat (first | assumption | exact Bel.refl _ | apply Bel.drewN | apply Bel.drew | apply Bel.alloc | refine Bel.trans ?_ (by assumption)))) _ _) | (with_reducible exact HKS.out _ (by (repeat (first | assumption | exact Bel.refl _ | apply Bel.drewN | apply Bel.drew | apply Bel.alloc | refine Bel.trans ?_ (by assumption)))) _ _) | exact HKP.out _ (by (repeat (first | assumption | exact Bel.refl _ | apply Bel.drewN | apply Bel.drew | apply Bel.alloc | refine Bel.trans ?_ (by assumption))))))
                            clear hK K
                            try walk_nrm
                            refine wpAnyH_take (i := 26) (v := ?_) rfl (by kernel_rfl) (by kernel_rfl) (by kernel_rfl) (fun _ _ _ h => h) (Or.inl ⟨by rfl, ?_⟩) (by assumption) ?_
                            rotate_left
                            · (intro w hSw; (try dsimp only at hSw); go_simp <;> with_reducible rfl)
                            try walk_nrm
                            refine wpAnyH_ready (rs := [27]) (by kernel_rfl) (by simp) ?_
                            refine AllReadyH.cons rfl (fun K hK => ?_) AllReadyH.nil
                            · go_simp
                              (go_at_call 27; (with_reducible refine (l02Max_any _ _ _).mono ?_); rintro e wm ⟨rfl, rfl⟩)
                              try go_wp2_with fail
                              refine hK.out _ _ ?_ (fun hHeld => ?_)
                              · ((try dsimp only); (first | (with_reducible exact HKD.out _ (by (repeat (first | assumption | exact Bel.refl _ | apply Bel.drewN | apply Bel.drew | apply Bel.alloc | refine Bel.trans ?_ (by assumption)))) _ _) | (with_reducible exact HKS.out _ (by (repeat (first | assumption | exact Bel.refl _ | apply Bel.drewN | apply Bel.drew | apply Bel.alloc | refine Bel.trans ?_ (by assumption)))) _ _) | exact HKP.out _ (by (repeat (first | assumption | exact Bel.refl _ | apply Bel.drewN | apply Bel.drew | apply Bel.alloc | refine Bel.trans ?_ (by assumption))))))
                              clear hK K
                              try walk_nrm
                              refine wpAnyH_take (i := 28) (v := ?_) rfl (by kernel_rfl) (by kernel_rfl) (by kernel_rfl) (fun _ _ _ h => h) (Or.inl ⟨by rfl, ?_⟩) (by assumption) ?_
                              rotate_left
                              · (intro w hSw; (try dsimp only at hSw); go_simp <;> with_reducible rfl)
                              try walk_nrm
                              refine wpAnyH_ready (rs := [29]) (by kernel_rfl) (by simp) ?_
                              refine AllReadyH.cons rfl (fun K hK => ?_) AllReadyH.nil
                              · go_simp
                                refine hK.out _ _ ?_ (fun hHeld => ?_)
                                · ((try dsimp only); (first | (with_reducible exact HKD.out _ (by (repeat (first | assumption | exact Bel.refl _ | apply Bel.drewN | apply Bel.drew | apply Bel.alloc | refine Bel.trans ?_ (by assumption)))) _ _) | (with_reducible exact HKS.out _ (by (repeat (first | assumption | exact Bel.refl _ | apply Bel.drewN | apply Bel.drew | apply Bel.alloc | refine Bel.trans ?_ (by assumption)))) _ _) | exact HKP.out _ (by (repeat (first | assumption | exact Bel.refl _ | apply Bel.drewN | apply Bel.drew | apply Bel.alloc | refine Bel.trans ?_ (by assumption))))))
                                clear hK K
                                try walk_nrm
                                refine wpAnyH_done (by kernel_rfl) ?_ _
                                (go_wp2_with fail; go_roundw; (case rel => exact ⟨k + 1, by omega, by go_num, (HGT.out wr HG.out H12.out.1 H12.out.2).bel (by (repeat (first | assumption | exact Bel.refl _ | apply Bel.drewN | apply Bel.drew | apply Bel.alloc | refine Bel.trans ?_ (by assumption)))), (HBS.out wr hB5 _).trans (by (repeat (first | assumption | exact Bel.refl _ | apply Bel.drewN | apply Bel.drew | apply Bel.alloc | refine Bel.trans ?_ (by assumption))))⟩); (case measure => simp [intOf]; omega))
                        refine AllReadyH.cons rfl (fun K hK => ?_) AllReadyH.nil
                        · go_simp
                          refine hK.out _ _ ?_ (fun hHeld => ?_)
                          · ((try dsimp only); (first | (with_reducible exact HKD.out _ (by (repeat (first | assumption | exact Bel.refl _ | apply Bel.drewN | apply Bel.drew | apply Bel.alloc | refine Bel.trans ?_ (by assumption)))) _ _) | (with_reducible exact HKS.out _ (by (repeat (first | assumption | exact Bel.refl _ | apply Bel.drewN | apply Bel.drew | apply Bel.alloc | refine Bel.trans ?_ (by assumption)))) _ _) | exact HKP.out _ (by (repeat (first | assumption | exact Bel.refl _ | apply Bel.drewN | apply Bel.drew | apply Bel.alloc | refine Bel.trans ?_ (by assumption))))))
                          clear hK K
                          try walk_nrm
                          refine wpAnyH_take (i := 26) (v := ?_) rfl (by kernel_rfl) (by kernel_rfl) (by kernel_rfl) (fun _ _ _ h => h) (Or.inl ⟨by rfl, ?_⟩) (by assumption) ?_
                          rotate_left
                          · (intro w hSw; (try dsimp only at hSw); go_simp <;> with_reducible rfl)
                          try walk_nrm
                          refine wpAnyH_ready (rs := [11]) (by kernel_rfl) (by simp) ?_
                          refine AllReadyH.cons rfl (fun K hK => ?_) AllReadyH.nil
                          · go_simp
                            refine hK.out _ _ ?_ (fun hHeld => ?_)
                            · ((try dsimp only); (first | (with_reducible exact HKD.out _ (by (repeat (first | assumption | exact Bel.refl _ | apply Bel.drewN | apply Bel.drew | apply Bel.alloc | refine Bel.trans ?_ (by assumption)))) _ _) | (with_reducible exact HKS.out _ (by (repeat (first | assumption | exact Bel.refl _ | apply Bel.drewN | apply Bel.drew | apply Bel.alloc | refine Bel.trans ?_ (by assumption)))) _ _) | exact HKP.out _ (by (repeat (first | assumption | exact Bel.refl _ | apply Bel.drewN | apply Bel.drew | apply Bel.alloc | refine Bel.trans ?_ (by assumption))))))
                            clear hK K
                            try walk_nrm
                            refine wpAnyH_ready (rs := [27]) (by kernel_rfl) (by simp) ?_
                            refine AllReadyH.cons rfl (fun K hK => ?_) AllReadyH.nil
                            · go_simp
                              (go_at_call 27; (with_reducible refine (l02Max_any _ _ _).mono ?_); rintro e wm ⟨rfl, rfl⟩)
                              try go_wp2_with fail
                              refine hK.out _ _ ?_ (fun hHeld => ?_)
                              · ((try dsimp only); (first | (with_reducible exact HKD.out _ (by (repeat (first | assumption | exact Bel.refl _ | apply Bel.drewN | apply Bel.drew | apply Bel.alloc | refine Bel.trans ?_ (by assumption)))) _ _) | (with_reducible exact HKS.out _ (by (repeat (first | assumption | exact Bel.refl _ | apply Bel.drewN | apply Bel.drew | apply Bel.alloc | refine Bel.trans ?_ (by assumption)))) _ _) | exact HKP.out _ (by (repeat (first | assumption | exact Bel.refl _ | apply Bel.drewN | apply Bel.drew | apply Bel.alloc | refine Bel.trans ?_ (by assumption))))))
                              clear hK K
                              try walk_nrm
                              refine wpAnyH_take (i := 28) (v := ?_) rfl (by kernel_rfl) (by kernel_rfl) (by kernel_rfl) (fun _ _ _ h => h) (Or.inl ⟨by rfl, ?_⟩) (by assumption) ?_
                              rotate_left
                              · (intro w hSw; (try dsimp only at hSw); go_simp <;> with_reducible rfl)
                              try walk_nrm
                              refine wpAnyH_ready (rs := [29]) (by kernel_rfl) (by simp) ?_
                              refine AllReadyH.cons rfl (fun K hK => ?_) AllReadyH.nil
                              · go_simp
                                refine hK.out _ _ ?_ (fun hHeld => ?_)
                                · ((try dsimp only); (first | (with_reducible exact HKD.out _ (by (repeat (first | assumption | exact Bel.refl _ | apply Bel.drewN | apply Bel.drew | apply Bel.alloc | refine Bel.trans ?_ (by assumption)))) _ _) | (with_reducible exact HKS.out _ (by (repeat (first | assumption | exact Bel.refl _ | apply Bel.drewN | apply Bel.drew | apply Bel.alloc | refine Bel.trans ?_ (by assumption)))) _ _) | exact HKP.out _ (by (repeat (first | assumption | exact Bel.refl _ | apply Bel.drewN | apply Bel.drew | apply Bel.alloc | refine Bel.trans ?_ (by assumption))))))
                                clear hK K
                                try walk_nrm
                                refine wpAnyH_done (by kernel_rfl) ?_ _
                                (go_wp2_with fail; go_roundw; (case rel => exact ⟨k + 1, by omega, by go_num, (HGT.out wr HG.out H12.out.1 H12.out.2).bel (by (repeat (first | assumption | exact Bel.refl _ | apply Bel.drewN | apply Bel.drew | apply Bel.alloc | refine Bel.trans ?_ (by assumption)))), (HBS.out wr hB5 _).trans (by (repeat (first | assumption | exact Bel.refl _ | apply Bel.drewN | apply Bel.drew | apply Bel.alloc | refine Bel.trans ?_ (by assumption))))⟩); (case measure => simp [intOf]; omega))
                      refine AllReadyH.cons rfl (fun K hK => ?_) AllReadyH.nil
                      · go_simp
                        refine hK.out _ _ ?_ (fun hHeld => ?_)
                        · ((try dsimp only); (first | (with_reducible exact HKD.out _ (by (repeat (first | assumption | exact Bel.refl _ | apply Bel.drewN | apply Bel.drew | apply Bel.alloc | refine Bel.trans ?_ (by assumption)))) _ _) | (with_reducible exact HKS.out _ (by (repeat (first | assumption | exact Bel.refl _ | apply Bel.drewN | apply Bel.drew | apply Bel.alloc | refine Bel.trans ?_ (by assumption)))) _ _) | exact HKP.out _ (by (repeat (first | assumption | exact Bel.refl _ | apply Bel.drewN | apply Bel.drew | apply Bel.alloc | refine Bel.trans ?_ (by assumption))))))
                        clear hK K
                        try walk_nrm
                        refine wpAnyH_ready (rs := [11, 18]) (by kernel_rfl) (by simp) ?_
                        refine AllReadyH.cons rfl (fun K hK => ?_) ?_
                        · go_simp
                          refine hK.out _ _ ?_ (fun hHeld => ?_)
                          · ((try dsimp only); (first | (with_reducible exact HKD.out _ (by (repeat (first | assumption | exact Bel.refl _ | apply Bel.drewN | apply Bel.drew | apply Bel.alloc | refine Bel.trans ?_ (by assumption)))) _ _) | (with_reducible exact HKS.out _ (by (repeat (first | assumption | exact Bel.refl _ | apply Bel.drewN | apply Bel.drew | apply Bel.alloc | refine Bel.trans ?_ (by assumption)))) _ _) | exact HKP.out _ (by (repeat (first | assumption | exact Bel.refl _ | apply Bel.drewN | apply Bel.drew | apply Bel.alloc | refine Bel.trans ?_ (by assumption))))))
                          clear hK K
                          try walk_nrm
                          refine wpAnyH_ready (rs := [18]) (by kernel_rfl) (by simp) ?_
                          refine AllReadyH.cons rfl (fun K hK => ?_) AllReadyH.nil
                          · go_simp
                            refine hK.out _ _ ?_ (fun hHeld => ?_)
                            · ((try dsimp only); (first | (with_reducible exact HKD.out _ (by (repeat (first | assumption | exact Bel.refl _ | apply Bel.drewN | apply Bel.drew | apply Bel.alloc | refine Bel.trans ?_ (by assumption)))) _ _) | (with_reducible exact HKS.out _ (by (repeat (first | assumption | exact Bel.refl _ | apply Bel.drewN | apply Bel.drew | apply Bel.alloc | refine Bel.trans ?_ (by assumption)))) _ _) | exact HKP.out _ (by (repeat (first | assumption | exact Bel.refl _ | apply Bel.drewN | apply Bel.drew | apply Bel.alloc | refine Bel.trans ?_ (by assumption))))))
                            clear hK K
                            try walk_nrm
                            refine wpAnyH_take (i := 26) (v := ?_) rfl (by kernel_rfl) (by kernel_rfl) (by kernel_rfl) (fun _ _ _ h => h) (Or.inl ⟨by rfl, ?_⟩) (by assumption) ?_
                            rotate_left
                            · (intro w hSw; (try dsimp only at hSw); go_simp <;> with_reducible rfl)
                            try walk_nrm
                            refine wpAnyH_ready (rs := [27]) (by kernel_rfl) (by simp) ?_
                            refine AllReadyH.cons rfl (fun K hK => ?_) AllReadyH.nil
                            · go_simp
                              (go_at_call 27; (with_reducible refine (l02Max_any _ _ _).mono ?_); rintro e wm ⟨rfl, rfl⟩)
                              try go_wp2_with fail
                              refine hK.out _ _ ?_ (fun hHeld => ?_)
                              · ((try dsimp only); (first | (with_reducible exact HKD.out _ (by (repeat (first | assumption | exact Bel.refl _ | apply Bel.drewN | apply Bel.drew | apply Bel.alloc | refine Bel.trans ?_ (by assumption)))) _ _) | (with_reducible exact HKS.out _ (by (repeat (first | assumption | exact Bel.refl _ | apply Bel.drewN | apply Bel.drew | apply Bel.alloc | refine Bel.trans ?_ (by assumption)))) _ _) | exact HKP.out _ (by (repeat (first | assumption | exact Bel.refl _ | apply Bel.drewN | apply Bel.drew | apply Bel.alloc | refine Bel.trans ?_ (by assumption))))))
                              clear hK K
                              try walk_nrm
                              refine wpAnyH_take (i := 28) (v := ?_) rfl (by kernel_rfl) (by kernel_rfl) (by kernel_rfl) (fun _ _ _ h => h) (Or.inl ⟨by rfl, ?_⟩) (by assumption) ?_
                              rotate_left
                              · (intro w hSw; (try dsimp only at hSw); go_simp <;> with_reducible rfl)
                              try walk_nrm
                              refine wpAnyH_ready (rs := [29]) (by kernel_rfl) (by simp) ?_
                              refine AllReadyH.cons rfl (fun K hK => ?_) AllReadyH.nil
                              · go_simp
                                refine hK.out _ _ ?_ (fun hHeld => ?_)
                                · ((try dsimp only); (first | (with_reducible exact HKD.out _ (by (repeat (first | assumption | exact Bel.refl _ | apply Bel.drewN | apply Bel.drew | apply Bel.alloc | refine Bel.trans ?_ (by assumption)))) _ _) | (with_reducible exact HKS.out _ (by (repeat (first | assumption | exact Bel.refl _ | apply Bel.drewN | apply Bel.drew | apply Bel.alloc | refine Bel.trans ?_ (by assumption)))) _ _) | exact HKP.out _ (by (repeat (first | assumption | exact Bel.refl _ | apply Bel.drewN | apply Bel.drew | apply Bel.alloc | refine Bel.trans ?_ (by assumption))))))
                                clear hK K
                                try walk_nrm
                                refine wpAnyH_done (by kernel_rfl) ?_ _
                                (go_wp2_with fail; go_roundw; (case rel => exact ⟨k + 1, by omega, by go_num, (HGT.out wr HG.out H12.out.1 H12.out.2).bel (by (repeat (first | assumption | exact Bel.refl _ | apply Bel.drewN | apply Bel.drew | apply Bel.alloc | refine Bel.trans ?_ (by assumption)))), (HBS.out wr hB5 _).trans (by (repeat (first | assumption | exact Bel.refl _ | apply Bel.drewN | apply Bel.drew | apply Bel.alloc | refine Bel.trans ?_ (by assumption))))⟩); (case measure => simp [intOf]; omega))
                        refine AllReadyH.cons rfl (fun K hK => ?_) AllReadyH.nil
                        · go_simp
                          refine hK.out _ _ ?_ (fun hHeld => ?_)
                          · ((try dsimp only); (first | (with_reducible exact HKD.out _ (by (repeat (first | assumption | exact Bel.refl _ | apply Bel.drewN | apply Bel.drew | apply Bel.alloc | refine Bel.trans ?_ (by assumption)))) _ _) | (with_reducible exact HKS.out _ (by (repeat (first | assumption | exact Bel.refl _ | apply Bel.drewN | apply Bel.drew | apply Bel.alloc | refine Bel.trans ?_ (by assumption)))) _ _) | exact HKP.out _ (by (repeat (first | assumption | exact Bel.refl _ | apply Bel.drewN | apply Bel.drew | apply Bel.alloc | refine Bel.trans ?_ (by assumption))))))
                          clear hK K
                          try walk_nrm
                          refine wpAnyH_take (i := 26) (v := ?_) rfl (by kernel_rfl) (by kernel_rfl) (by kernel_rfl) (fun _ _ _ h => h) (Or.inl ⟨by rfl, ?_⟩) (by assumption) ?_
                          rotate_left
                          · (intro w hSw; (try dsimp only at hSw); go_simp <;> with_reducible rfl)
                          try walk_nrm
                          refine wpAnyH_ready (rs := [11]) (by kernel_rfl) (by simp) ?_
                          refine AllReadyH.cons rfl (fun K hK => ?_) AllReadyH.nil
                          · go_simp
                            refine hK.out _ _ ?_ (fun hHeld => ?_)
                            · ((try dsimp only); (first | (with_reducible exact HKD.out _ (by (repeat (first | assumption | exact Bel.refl _ | apply Bel.drewN | apply Bel.drew | apply Bel.alloc | refine Bel.trans ?_ (by assumption)))) _ _) | (with_reducible exact HKS.out _ (by (repeat (first | assumption | exact Bel.refl _ | apply Bel.drewN | apply Bel.drew | apply Bel.alloc | refine Bel.trans ?_ (by assumption)))) _ _) | exact HKP.out _ (by (repeat (first | assumption | exact Bel.refl _ | apply Bel.drewN | apply Bel.drew | apply Bel.alloc | refine Bel.trans ?_ (by assumption))))))
                            clear hK K
                            try walk_nrm
                            refine wpAnyH_ready (rs := [27]) (by kernel_rfl) (by simp) ?_
                            refine AllReadyH.cons rfl (fun K hK => ?_) AllReadyH.nil
                            · go_simp
                              (go_at_call 27; (with_reducible refine (l02Max_any _ _ _).mono ?_); rintro e wm ⟨rfl, rfl⟩)
                              try go_wp2_with fail
                              refine hK.out _ _ ?_ (fun hHeld => ?_)
                              · ((try dsimp only); (first | (with_reducible exact HKD.out _ (by (repeat (first | assumption | exact Bel.refl _ | apply Bel.drewN | apply Bel.drew | apply Bel.alloc | refine Bel.trans ?_ (by assumption)))) _ _) | (with_reducible exact HKS.out _ (by (repeat (first | assumption | exact Bel.refl _ | apply Bel.drewN | apply Bel.drew | apply Bel.alloc | refine Bel.trans ?_ (by assumption)))) _ _) | exact HKP.out _ (by (repeat (first | assumption | exact Bel.refl _ | apply Bel.drewN | apply Bel.drew | apply Bel.alloc | refine Bel.trans ?_ (by assumption))))))
                              clear hK K
                              try walk_nrm
                              refine wpAnyH_take (i := 28) (v := ?_) rfl (by kernel_rfl) (by kernel_rfl) (by kernel_rfl) (fun _ _ _ h => h) (Or.inl ⟨by rfl, ?_⟩) (by assumption) ?_
                              rotate_left
                              · (intro w hSw; (try dsimp only at hSw); go_simp <;> with_reducible rfl)
                              try walk_nrm
                              refine wpAnyH_ready (rs := [29]) (by kernel_rfl) (by simp) ?_
                              refine AllReadyH.cons rfl (fun K hK => ?_) AllReadyH.nil
                              · go_simp
                                refine hK.out _ _ ?_ (fun hHeld => ?_)
                                · ((try dsimp only); (first | (with_reducible exact HKD.out _ (by (repeat (first | assumption | exact Bel.refl _ | apply Bel.drewN | apply Bel.drew | apply Bel.alloc | refine Bel.trans ?_ (by assumption)))) _ _) | (with_reducible exact HKS.out _ (by (repeat (first | assumption | exact Bel.refl _ | apply Bel.drewN | apply Bel.drew | apply Bel.alloc | refine Bel.trans ?_ (by assumption)))) _ _) | exact HKP.out _ (by (repeat (first | assumption | exact Bel.refl _ | apply Bel.drewN | apply Bel.drew | apply Bel.alloc | refine Bel.trans ?_ (by assumption))))))
                                clear hK K
                                try walk_nrm
                                refine wpAnyH_done (by kernel_rfl) ?_ _
                                (go_wp2_with fail; go_roundw; (case rel => exact ⟨k + 1, by omega, by go_num, (HGT.out wr HG.out H12.out.1 H12.out.2).bel (by (repeat (first | assumption | exact Bel.refl _ | apply Bel.drewN | apply Bel.drew | apply Bel.alloc | refine Bel.trans ?_ (by assumption)))), (HBS.out wr hB5 _).trans (by (repeat (first | assumption | exact Bel.refl _ | apply Bel.drewN | apply Bel.drew | apply Bel.alloc | refine Bel.trans ?_ (by assumption))))⟩); (case measure => simp [intOf]; omega))
                    · obtain rfl : k = p.2.1.length := by omega
                      have hGn := grid_row hG
                      clear HG hG
                      go_wp2
                      go_roundw
                      case rel => exact ⟨i + 1, by omega, by go_num, hGn, hB5⟩
                      case measure => simp [intOf]; omega
                · obtain rfl : i = p.2.1.length := by omega
                  have hGn := grid_last hG
                  clear hG
                  go_wp2
                  go_roundw
                  case rel => exact ⟨m + 1, by omega, by go_num, hGn, hB4⟩
                  case measure => simp [intOf]; omega
            · obtain rfl : m = p.2.1.length := by omega
              have HRES := Lib.hid (hG.low hB00)
              clear hG
              go_wp2
              go_ret
              exact ⟨o, cap, rb, cp, rfl, HC.out.1, HC.out.2, HRES.out, hwW.trans hB3⟩

set_option maxRecDepth 100000 in
set_option maxHeartbeats 1000000 in
theorem sDistances_any (v : Value) (p : ProjT) (S : Nat → Prop) (w : World) (hx : aggR projR S w v p) (hS : ∀ b, S b → b < w.heap.size) (_hn : bulkProject p ≤ 1048576) : Calls Tryz.prog 26 #[v] w (DistRes p w) := by
  obtain ⟨cs, rfl, hx⟩ := hx
  obtain ⟨c1, c2, c3, c4, rfl, q0, q1, q2, q3, q4⟩ := projR_open hx
  have Q1 := Lib.hid q1
  have Q2 := Lib.hid q2
  have Q3 := Lib.hid q3
  have Q4 := Lib.hid q4
  have HP := Lib.hid hx
  obtain ⟨p1, k1, rfl, l1, l1', -⟩ := sliceR_open q1
  obtain ⟨p2, k2, rfl, l2, l2', -⟩ := sliceR_open q2
  obtain ⟨p3, k3, rfl, l3, l3', -⟩ := sliceR_open q3
  obtain ⟨p4, k4, rfl, l4, l4', -⟩ := sliceR_open q4
  unfold maxLen at l1' l2' l3' l4'
  clear hx q0 q1 q2 q3 q4
  have HS := Lib.hid hS
  have HNB := Lib.hid _hn
  clear hS _hn
  have HP1 := Lib.hid (show ∀ W, Bel w W → aggR projR S W (.agg #[.int .i64 p.1, .slice p1 p.2.1.length k1, .slice p2 p.2.2.1.length k2, .slice p3 p.2.2.2.1.length k3, .slice p4 p.2.2.2.2.length k4]) p from fun W hW => aggR_mk (projR_good.bel HP.out hW HS.out))
  show Calls Tryz.prog 26 #[.agg #[.int .i64 p.1, .slice p1 p.2.1.length k1, .slice p2 p.2.2.1.length k2, .slice p3 p.2.2.2.1.length k3, .slice p4 p.2.2.2.2.length k4]] w _
  go_enter Tryz.func26, Tryz.ntmps26
  obtain ⟨W0, hW0, hwW, hsz0, hbx⟩ : ∃ W0, W0 = w.alloc (.cells #[.int .i64 p.1, .slice p1 p.2.1.length k1, .slice p2 p.2.2.1.length k2, .slice p3 p.2.2.2.1.length k3, .slice p4 p.2.2.2.2.length k4] 34) ∧ Bel w W0 ∧ W0.heap.size = w.heap.size + 1 ∧ W0.cell? ⟨w.heap.size, 0, none⟩ = some (.int .i64 p.1) ∧ W0.cell? ⟨w.heap.size, 1, none⟩ = some (.slice p1 p.2.1.length k1) ∧ W0.cell? ⟨w.heap.size, 2, none⟩ = some (.slice p2 p.2.2.1.length k2) ∧ W0.cell? ⟨w.heap.size, 3, none⟩ = some (.slice p3 p.2.2.2.1.length k3) ∧ W0.cell? ⟨w.heap.size, 4, none⟩ = some (.slice p4 p.2.2.2.2.length k4) := ⟨_, rfl, by (repeat (first | assumption | exact Bel.refl _ | apply Bel.drewN | apply Bel.drew | apply Bel.alloc | refine Bel.trans ?_ (by assumption))), by simp, by simp [go_sem], by simp [go_sem], by simp [go_sem], by simp [go_sem], by simp [go_sem]⟩
  have HBX := Lib.hid (show ∀ W, Bel W0 W → W.cell? ⟨w.heap.size, 0, none⟩ = some (.int .i64 p.1) ∧ W.cell? ⟨w.heap.size, 1, none⟩ = some (.slice p1 p.2.1.length k1) ∧ W.cell? ⟨w.heap.size, 2, none⟩ = some (.slice p2 p.2.2.1.length k2) ∧ W.cell? ⟨w.heap.size, 3, none⟩ = some (.slice p3 p.2.2.2.1.length k3) ∧ W.cell? ⟨w.heap.size, 4, none⟩ = some (.slice p4 p.2.2.2.2.length k4) from fun W hW => keep5 hbx hW)
  clear hbx
  have hB0 : W0.heap.size ≤ w.heap.size + 1 := by omega
  have hB00 : w.heap.size ≤ W0.heap.size := by omega
  have HSZ0 := Lib.hid hsz0
  clear hsz0
  go_wp2_with fail
  rw [← hW0]
  clear hW0
  refine (sProjectOk_any _ p S _ (HP1.out _ (by (repeat (first | assumption | exact Bel.refl _ | apply Bel.drewN | apply Bel.drew | apply Bel.alloc | refine Bel.trans ?_ (by assumption))))) (fun b hb => Nat.lt_of_lt_of_le (HS.out b hb) (Bel.size (by (repeat (first | assumption | exact Bel.refl _ | apply Bel.drewN | apply Bel.drew | apply Bel.alloc | refine Bel.trans ?_ (by assumption))))))).mono ?_
  rintro e w1 ⟨rfl, g1⟩
  have G1 : Bel W0 w1 := by (repeat (first | assumption | exact Bel.refl _ | apply Bel.drewN | apply Bel.drew | apply Bel.alloc | refine Bel.trans ?_ (by assumption)))
  cases hp : projOk p
  · have HV := Lib.hid (show ¬ (projOk p = true ∧ (netOf p).posF = []) from by rw [hp]; rintro ⟨h, _⟩; cases h)
    clear hp
    go_wp2
    go_ret
    exact .inl ⟨HV.out, rfl, by (repeat (first | assumption | exact Bel.refl _ | apply Bel.drewN | apply Bel.drew | apply Bel.alloc | refine Bel.trans ?_ (by assumption)))⟩
  have HPO := Lib.hid hp
  have HF := Lib.hid (netOf_fine hp)
  have HPV := Lib.hid (posV_ok hp)
  clear hp
  obtain ⟨b0, b1, b2, b3, b4⟩ := HBX.out w1 G1
  go_wp2_with fail
  clear b0 b1 b2 b3 b4
  refine (sPositiveCycle_any _ p S _ (HP1.out _ (by (repeat (first | assumption | exact Bel.refl _ | apply Bel.drewN | apply Bel.drew | apply Bel.alloc | refine Bel.trans ?_ (by assumption))))) (fun b hb => Nat.lt_of_lt_of_le (HS.out b hb) (Bel.size (by (repeat (first | assumption | exact Bel.refl _ | apply Bel.drewN | apply Bel.drew | apply Bel.alloc | refine Bel.trans ?_ (by assumption)))))) HNB.out).mono ?_
  rintro e w2 ⟨vr, rfl, hr, g2⟩
  have G2 : Bel W0 w2 := by (repeat (first | assumption | exact Bel.refl _ | apply Bel.drewN | apply Bel.drew | apply Bel.alloc | refine Bel.trans ?_ (by assumption)))
  have HRV := Lib.hid hr
  obtain ⟨rp, rk, rfl, rl, rl', -⟩ := sliceR_open hr
  unfold maxLen at rl'
  by_cases hpos : posV p = []
  rotate_left
  · have HV := Lib.hid (show ¬ (projOk p = true ∧ (netOf p).posF = []) from by
      rintro ⟨_, h⟩
      exact hpos (by rw [HPV.out, h]; rfl))
    have hl := List.length_pos_iff.2 hpos
    have hli : (0 : Int) < ((posV p).length : Int) := by omega
    clear hr hpos
    go_wp2
    go_ret
    exact .inl ⟨HV.out, rfl, by (repeat (first | assumption | exact Bel.refl _ | apply Bel.drewN | apply Bel.drew | apply Bel.alloc | refine Bel.trans ?_ (by assumption)))⟩
  have HPN := Lib.hid (show (netOf p).posF = [] from by
    have h := HPV.out
    rw [hpos] at h
    cases hh : (netOf p).posF with
    | nil => rfl
    | cons a t => rw [hh] at h; simp [nI] at h)
  have HN := Lib.hid ((netOf p).posF_none HF.out HPN.out)
  rw [hpos]
  clear hr hpos rl
  obtain ⟨b0, b1, b2, b3, b4⟩ := HBX.out w2 G2
  go_wp2_with fail
  clear b0 b1 b2 b3 b4
  refine (l08Dist_any _ p S _ (HP1.out _ (by (repeat (first | assumption | exact Bel.refl _ | apply Bel.drewN | apply Bel.drew | apply Bel.alloc | refine Bel.trans ?_ (by assumption))))) (fun b hb => Nat.lt_of_lt_of_le (HS.out b hb) (Bel.size (by (repeat (first | assumption | exact Bel.refl _ | apply Bel.drewN | apply Bel.drew | apply Bel.alloc | refine Bel.trans ?_ (by assumption)))))) HPO.out HN.out).mono ?_
  rintro e w3 ⟨o, c, rb, cp, rfl, h1, h2, hG, g3⟩
  have HRES := Lib.hid (show GridRes p w (.returned (.slice (some ⟨o, 0, none⟩) p.2.1.length c)) w3 from ⟨o, c, rb, cp, rfl, h1, h2, hG.low (by have := hwW.size; have := G2.size; omega), by (repeat (first | assumption | exact Bel.refl _ | apply Bel.drewN | apply Bel.drew | apply Bel.alloc | refine Bel.trans ?_ (by assumption)))⟩)
  unfold maxLen at h2
  clear hG
  go_wp2
  go_ret
  exact .inr ⟨HPO.out, HPN.out, HRES.out⟩

end Go.Proofs.YtclmffknggmlnaaGreat
