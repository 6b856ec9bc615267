/- ParseLiteral of the program. -/
import Derived.Test.YtkfpciggolkjeaaGreatDoorLitParse
import Derived.Test.YtkfpciggolkjeaaGreatDoorLitQ
import Derived.Deep.CutBlock
namespace Go.Proofs.YtkfpciggolkjeaaGreatDoor
open Go.ChangeShapes Go.WideShapes Go.ChangeAt Go.RowKit
set_option linter.unusedVariables false

set_option maxRecDepth 100000 in
set_option maxHeartbeats 4000000 in
theorem iParseLiteral_any (v : Value) (p : ProjT) (S : Nat → Prop) (s : ByteArray) (w : World) (hx : aggR projR S w v p) (hS : ∀ b, S b → b < w.heap.size) (_hn : bulkProject p ≤ 1048576) (hs : s.size ≤ 1048576) (htab : Lib.TabIs Tryz.prog w "internal/strconv.uint64pow10" .u64 Lib.pow10Tab) (herr : ErrVars w) :
    Calls Tryz.prog 14 #[v, .string s] w fun e w' => e = .returned (.tuple #[.agg #[.int .i64 (parseLitV p s).1.1, .int .i64 (parseLitV p s).1.2.1, .int .i64 (parseLitV p s).1.2.2], .bool (parseLitV p s).2]) ∧ Bel w w' := by
  obtain ⟨cs, rfl, hx⟩ := hx
  obtain ⟨c1, c2, c3, c4, rfl, q0, q1, q2, q3, q4⟩ := projR_open hx
  have Q1 := Lib.hid q1
  have Q2 := Lib.hid q2
  have Q3 := Lib.hid q3
  have Q4 := Lib.hid q4
  have HP := Lib.hid hx
  obtain ⟨p1, k1, rfl, l1, l1', -⟩ := sliceR_open q1
  obtain ⟨p2, k2, rfl, l2, l2', -⟩ := sliceR_open q2
  obtain ⟨p3, k3, rfl, l3, l3', -⟩ := sliceR_open q3
  obtain ⟨p4, k4, rfl, l4, l4', -⟩ := sliceR_open q4
  unfold maxLen at l1' l2' l3' l4'
  clear hx q0 q1 q2 q3 q4
  have HS := Lib.hid hS
  have HNB := Lib.hid _hn
  have HTB := Lib.hid htab
  have HER := Lib.hid herr
  clear hS _hn htab herr
  have HPR := Lib.hid (show ∀ W, Bel w W → aggR projR S W (.agg #[.int .i64 p.1, .slice p1 p.2.1.length k1, .slice p2 p.2.2.1.length k2, .slice p3 p.2.2.2.1.length k3, .slice p4 p.2.2.2.2.length k4]) p ∧ (∀ b, S b → b < W.heap.size) from fun W hW => ⟨aggR_mk (projR_good.bel HP.out hW HS.out), fun b hb => Nat.lt_of_lt_of_le (HS.out b hb) hW.size⟩)
  show Calls Tryz.prog 14 #[.agg #[.int .i64 p.1, .slice p1 p.2.1.length k1, .slice p2 p.2.2.1.length k2, .slice p3 p.2.2.2.1.length k3, .slice p4 p.2.2.2.2.length k4], .string s] w _
  go_enter Tryz.func14, Tryz.ntmps14
  go_upto_block 0 with fail
  obtain ⟨W0, hW0⟩ : ∃ W, W = (w.alloc (.cells #[.int .i64 p.1, .slice p1 p.2.1.length k1, .slice p2 p.2.2.1.length k2, .slice p3 p.2.2.2.1.length k3, .slice p4 p.2.2.2.2.length k4] 36)).alloc (.cells #[.int .i64 0, .int .i64 0, .int .i64 0] 43) := ⟨_, rfl⟩
  rw [← hW0]
  have G0 : Bel w W0 := by rw [hW0]; (repeat (first | assumption | exact Bel.refl _ | apply Bel.drewN | apply Bel.drew | apply Bel.alloc | refine Bel.trans ?_ (by assumption)))
  have HRB := Lib.hid (show Blk W0 (w.heap.size + 1) 43 [.int .i64 0, .int .i64 0, .int .i64 0] from by rw [hW0]; exact Blk.new' _ (by simp))
  have HBOX := Lib.hid (show ∀ W, Bel W0 W → W.cell? ⟨w.heap.size, 0, none⟩ = some (.int .i64 p.1) ∧ W.cell? ⟨w.heap.size, 1, none⟩ = some (.slice p1 p.2.1.length k1) ∧ W.cell? ⟨w.heap.size, 2, none⟩ = some (.slice p2 p.2.2.1.length k2) ∧ W.cell? ⟨w.heap.size, 3, none⟩ = some (.slice p3 p.2.2.2.1.length k3) ∧ W.cell? ⟨w.heap.size, 4, none⟩ = some (.slice p4 p.2.2.2.2.length k4) from fun W hW => ⟨hW.cell (by rw [hW0]; simp [go_sem]), hW.cell (by rw [hW0]; simp [go_sem]), hW.cell (by rw [hW0]; simp [go_sem]), hW.cell (by rw [hW0]; simp [go_sem]), hW.cell (by rw [hW0]; simp [go_sem])⟩)
  have HW0 := Lib.hid hW0
  clear hW0
  go_cut [6] (fun j wx => ∃ k : Nat, j = .int .i64 k ∧ NameEnd s k ∧ Bel W0 wx)
  case first =>
    go_wp2_with fail
    go_loopw [6] (fun j wr => ∃ k : Nat, k ≤ s.size ∧ j = .int .i64 k ∧ (∀ m (hm : m < s.size), m < k → nmP s[m] = true) ∧ Bel W0 wr) (fun j _ => s.size - (intOf j).toNat)
    case atStart => exact ⟨0, Nat.zero_le _, rfl, fun m _ h => by omega, by (repeat (first | assumption | exact Bel.refl _ | apply Bel.drewN | apply Bel.drew | apply Bel.alloc | refine Bel.trans ?_ (by assumption)))⟩
    case round =>
      obtain ⟨k, hk, rfl, hall, hB⟩ := hrel
      have HA := Lib.hid hall
      clear hall
      by_cases hlt : k < s.size
      · have hki : (k : Int) < (s.size : Int) := by omega
        by_cases a1 : (97 : Int) ≤ (s[k].toNat : Int)
        · by_cases a2 : (s[k].toNat : Int) ≤ 122
          · have HB := Lib.hid (show nmP s[k] = true from by unfold nmP; simp; omega)
            go_wp2_with fail
            exact ⟨⟨k + 1, by omega, by go_num, fun m hm h => (by
              by_cases e : m < k
              · exact HA.out m hm e
              · obtain rfl : m = k := by omega
                exact HB.out), by (repeat (first | assumption | exact Bel.refl _ | apply Bel.drewN | apply Bel.drew | apply Bel.alloc | refine Bel.trans ?_ (by assumption)))⟩, by simp [intOf]; omega⟩
          · have a3 : (48 : Int) ≤ (s[k].toNat : Int) := by omega
            have a4 : ¬ (s[k].toNat : Int) ≤ 57 := by omega
            have HB := Lib.hid (show nmP s[k] = false from by unfold nmP; simp; omega)
            go_wp2_with fail
            go_meet
            exact ⟨k, rfl, ⟨hk, HA.out, fun _ => HB.out⟩, by (repeat (first | assumption | exact Bel.refl _ | apply Bel.drewN | apply Bel.drew | apply Bel.alloc | refine Bel.trans ?_ (by assumption)))⟩
        · by_cases a3 : (48 : Int) ≤ (s[k].toNat : Int)
          · by_cases a4 : (s[k].toNat : Int) ≤ 57
            · have HB := Lib.hid (show nmP s[k] = true from by unfold nmP; simp; omega)
              go_wp2_with fail
              exact ⟨⟨k + 1, by omega, by go_num, fun m hm h => (by
                by_cases e : m < k
                · exact HA.out m hm e
                · obtain rfl : m = k := by omega
                  exact HB.out), by (repeat (first | assumption | exact Bel.refl _ | apply Bel.drewN | apply Bel.drew | apply Bel.alloc | refine Bel.trans ?_ (by assumption)))⟩, by simp [intOf]; omega⟩
            · have HB := Lib.hid (show nmP s[k] = false from by unfold nmP; simp; omega)
              go_wp2_with fail
              go_meet
              exact ⟨k, rfl, ⟨hk, HA.out, fun _ => HB.out⟩, by (repeat (first | assumption | exact Bel.refl _ | apply Bel.drewN | apply Bel.drew | apply Bel.alloc | refine Bel.trans ?_ (by assumption)))⟩
          · have HB := Lib.hid (show nmP s[k] = false from by unfold nmP; simp; omega)
            go_wp2_with fail
            go_meet
            exact ⟨k, rfl, ⟨hk, HA.out, fun _ => HB.out⟩, by (repeat (first | assumption | exact Bel.refl _ | apply Bel.drewN | apply Bel.drew | apply Bel.alloc | refine Bel.trans ?_ (by assumption)))⟩
      · go_wp2_with fail
        go_meet
        exact ⟨k, rfl, ⟨hk, HA.out, fun h => absurd h hlt⟩, by (repeat (first | assumption | exact Bel.refl _ | apply Bel.drewN | apply Bel.drew | apply Bel.alloc | refine Bel.trans ?_ (by assumption)))⟩
  case rest =>
    obtain ⟨n, rfl, hNE, hB0⟩ := hcut
    have hn := hNE.1
    have HLI := Lib.hid (fun l (h : LitOf p s l) => litOf_imp h hNE)
    have HSG := Lib.hid (fun l (h : LitOf p s l) => litOf_sgn h)
    have HNE := Lib.hid hNE
    clear hNE
    have GC : Bel w wc := G0.trans hB0
    go_wp2_with fail
    go_loopw [7] (fun kk wr => ∃ k : Nat, 1 ≤ k ∧ k ≤ 5 ∧ kk = .int .i64 k ∧ (∀ l, LitOf p s l → (k : Int) ≤ l.1) ∧ Bel wc wr) (fun kk _ => 5 - (intOf kk).toNat)
    case atStart => exact ⟨1, by omega, by omega, rfl, fun l h => (HSG.out l h).1, by (repeat (first | assumption | exact Bel.refl _ | apply Bel.drewN | apply Bel.drew | apply Bel.alloc | refine Bel.trans ?_ (by assumption)))⟩
    case round =>
      obtain ⟨k, hk1, hk5, rfl, hall, hB⟩ := hrel
      have HA := Lib.hid hall
      clear hall
      have GB : Bel w wr := GC.trans hB
      have GB1 : Bel W0 wr := hB0.trans hB
      have HRW := Lib.hid (HRB.out.bel GB1)
      have hszr2 := hB.size
      have hszr0 := GB.size
      have rb := HRW.out.lt
      by_cases hk : k ≤ 4
      · have hki : (k : Int) ≤ 4 := by omega
        have hsp := sign_pos (n := (k : Int)) ⟨by omega, by omega⟩
        go_wp2_with fail
        refine (iLiteralSign _ _).mono ?_
        rintro e w3 ⟨rfl, rfl⟩
        have HLK := Lib.hid (fun l (h : LitOf p s l) (e : l.1 = (k : Int)) => e ▸ HLI.out l h)
        obtain ⟨sg, hsg⟩ : ∃ x, signF (k : Int) = x := ⟨_, rfl⟩
        rw [hsg] at hsp HLK ⊢
        clear hsg
        obtain ⟨m, hm⟩ : ∃ m : Nat, n + sg.size = m := ⟨_, rfl⟩
        rw [hm] at HLK
        have hmi : (n : Int) + (sg.size : Int) = (m : Int) := by omega
        have hmb : n + 1 ≤ m ∧ m ≤ 1048578 := by omega
        have hmw : IntKind.i64.wrap ((n : Int) + (sg.size : Int)) = (m : Int) := by rw [IntWalk.i64_in _ (by omega)]; exact hmi
        clear hm
        by_cases hfit : m ≤ s.size
        · have hfi : (m : Int) ≤ (s.size : Int) := by omega
          have hni : (n : Int) ≤ (m : Int) := by omega
          by_cases heq : s.extract n m = sg
          · have hE : ((s.extract n m).toList == sg.toList) = true := by rw [heq]; simp
            have HC0 := Lib.hid (fun l (h : LitOf p s l) (e : l.1 = (k : Int)) => (HLK.out l h e).2)
            have HNS := Lib.hid (show s ≠ ⟨#[]⟩ from by rintro rfl; have : m ≤ 0 := hfit; omega)
            have hzl : (s.extract m s.size).size ≤ s.size := extract_size _ _ _
            clear heq HLK
            go_wp2_with fail
            refine (iParseInt_any (s.extract m s.size) _ (by omega) (tabIs_bel HTB.out (by (repeat (first | assumption | exact Bel.refl _ | apply Bel.drewN | apply Bel.drew | apply Bel.alloc | refine Bel.trans ?_ (by assumption))))) (errVars_bel HER.out (by (repeat (first | assumption | exact Bel.refl _ | apply Bel.drewN | apply Bel.drew | apply Bel.alloc | refine Bel.trans ?_ (by assumption)))))).mono ?_
            rintro e w4 ⟨rfl, g4⟩
            have hB4 : Bel wc w4 := by (repeat (first | assumption | exact Bel.refl _ | apply Bel.drewN | apply Bel.drew | apply Bel.alloc | refine Bel.trans ?_ (by assumption)))
            have GB4 : Bel w w4 := by (repeat (first | assumption | exact Bel.refl _ | apply Bel.drewN | apply Bel.drew | apply Bel.alloc | refine Bel.trans ?_ (by assumption)))
            have HRW4 := Lib.hid (HRB.out.bel (show Bel W0 w4 from hB0.trans hB4))
            have hsz4 := GB4.size
            have rb4 := HRW4.out.lt
            have hB04 : Bel W0 w4 := hB0.trans hB4
            have hz04 := hB04.size
            have hz4c := hB4.size
            obtain ⟨ai, hai⟩ : ∃ x, actIndex p.2.1 (s.extract 0 n) = x := ⟨_, rfl⟩
            rw [hai] at HC0
            have HAI := Lib.hid hai
            generalize (parseV (s.extract m s.size)).1 = pn at *
            generalize (parseV (s.extract m s.size)).2 = pb at *
            obtain ⟨b0, b1, b2, b3, b4⟩ := HBOX.out w4 hB04
            have hn0 : (n : Int) ≤ (s.size : Int) := by omega
            clear hai hE hmi hmw hfi hni hzl g4
            go_upto_region 10 with (fail)
            have HBX := Lib.hid (show ∀ W, Bel (w4.alloc (.cells #[.int .i64 0, .int .i64 0, .int .i64 0] 43)) W → Blk W w4.heap.size 43 [.int .i64 0, .int .i64 0, .int .i64 0] from fun W hW => (Blk.new' _ rfl).bel hW)
            clear b0 b1 b2 b3 b4
            refine wp_region_held_drew (S := (fun W => W.cell? ⟨w.heap.size, 0, none⟩ = some (.int .i64 p.1) ∧ W.cell? ⟨w.heap.size, 1, none⟩ = some (.slice p1 p.2.1.length k1) ∧ W.cell? ⟨w.heap.size, 2, none⟩ = some (.slice p2 p.2.2.1.length k2) ∧ W.cell? ⟨w.heap.size, 3, none⟩ = some (.slice p3 p.2.2.2.1.length k3) ∧ W.cell? ⟨w.heap.size, 4, none⟩ = some (.slice p4 p.2.2.2.2.length k4))) (by kernel_rfl) ?_ (fun hHeld => ?_)
            · ((try dsimp only); (first | (with_reducible exact HBOX.out _ (by (repeat (first | assumption | exact Bel.refl _ | apply Bel.drewN | apply Bel.drew | apply Bel.alloc | refine Bel.set ?_ (by first | exact Nat.le_refl _ | exact Nat.le_add_right _ _ | (simp; done) | (simp; omega) | omega) _ | refine Bel.trans ?_ (by assumption))))) | exact HBOX.out _ (by (repeat (first | assumption | exact Bel.refl _ | apply Bel.drewN | apply Bel.drew | apply Bel.alloc | refine Bel.set ?_ (by first | exact Nat.le_refl _ | exact Nat.le_add_right _ _ | (simp; done) | (simp; omega) | omega) _ | refine Bel.trans ?_ (by assumption))))))
            refine wpAnyH_take (i := 0) (v := ?_) rfl (by kernel_rfl) (by kernel_rfl) (by kernel_rfl) (fun _ _ _ h => h) (Or.inl ⟨by rfl, ?_⟩) (by assumption) ?_
            rotate_left
            · (intro w hSw; (try dsimp only at hSw); go_simp <;> with_reducible rfl)
            try walk_nrm
            refine wpAnyH_take (i := 1) (v := ?_) rfl (by kernel_rfl) (by kernel_rfl) (by kernel_rfl) (fun _ _ _ h => h) (Or.inl ⟨by rfl, ?_⟩) (by assumption) ?_
            rotate_left
            · (intro w hSw; (try dsimp only at hSw); go_simp <;> with_reducible rfl)
            try walk_nrm
            refine wpAnyH_take (i := 2) (v := ?_) rfl (by kernel_rfl) (by kernel_rfl) (by kernel_rfl) (fun _ _ _ h => h) (Or.inl ⟨by rfl, ?_⟩) (by assumption) ?_
            rotate_left
            · (intro w hSw; (try dsimp only at hSw); go_simp <;> with_reducible rfl)
            try walk_nrm
            refine wpAnyH_take (i := 3) (v := ?_) rfl (by kernel_rfl) (by kernel_rfl) (by kernel_rfl) (fun _ _ _ h => h) (Or.inl ⟨by rfl, ?_⟩) (by assumption) ?_
            rotate_left
            · (intro w hSw; (try dsimp only at hSw); go_simp <;> with_reducible rfl)
            try walk_nrm
            refine wpAnyH_take (i := 4) (v := ?_) rfl (by kernel_rfl) (by kernel_rfl) (by kernel_rfl) (fun _ _ _ h => h) (Or.inl ⟨by rfl, ?_⟩) (by assumption) ?_
            rotate_left
            · (intro w hSw; (try dsimp only at hSw); go_simp <;> with_reducible rfl)
            try walk_nrm
            refine wpAnyH_take (i := 6) (v := ?_) rfl (by kernel_rfl) (by kernel_rfl) (by kernel_rfl) (fun _ _ _ h => h) (Or.inl ⟨by rfl, ?_⟩) (by assumption) ?_
            rotate_left
            · (intro w hSw; (try dsimp only at hSw); go_simp <;> with_reducible rfl)
            try walk_nrm
            refine wpAnyH_ready (rs := [5, 8]) (by kernel_rfl) (by simp) ?_
            refine AllReadyH.cons rfl (fun K hK => ?_) ?_
            · go_simp
              (go_at_call 51; (with_reducible refine (iActivityIndex_any _ p (s.extract 0 n) S _ (HPR.out _ (by (repeat (first | assumption | exact Bel.refl _ | apply Bel.drewN | apply Bel.drew | apply Bel.alloc | refine Bel.trans ?_ (by assumption))))).1 (HPR.out _ (by (repeat (first | assumption | exact Bel.refl _ | apply Bel.drewN | apply Bel.drew | apply Bel.alloc | refine Bel.trans ?_ (by assumption))))).2).mono ?_); rintro e wt ⟨rfl, gt⟩; rw [HAI.out])
              try go_wp2_with fail
              refine hK.out _ _ ?_ (fun hHeld => ?_)
              · ((try dsimp only); (first | (with_reducible exact HBOX.out _ (by (repeat (first | assumption | exact Bel.refl _ | apply Bel.drewN | apply Bel.drew | apply Bel.alloc | refine Bel.set ?_ (by first | exact Nat.le_refl _ | exact Nat.le_add_right _ _ | (simp; done) | (simp; omega) | omega) _ | refine Bel.trans ?_ (by assumption))))) | exact HBOX.out _ (by (repeat (first | assumption | exact Bel.refl _ | apply Bel.drewN | apply Bel.drew | apply Bel.alloc | refine Bel.set ?_ (by first | exact Nat.le_refl _ | exact Nat.le_add_right _ _ | (simp; done) | (simp; omega) | omega) _ | refine Bel.trans ?_ (by assumption))))))
              clear hK K
              try walk_nrm
              refine wpAnyH_take (i := 7) (v := ?_) rfl (by kernel_rfl) (by kernel_rfl) (by kernel_rfl) (fun _ _ _ h => h) (Or.inl ⟨by rfl, ?_⟩) (by assumption) ?_
              rotate_left
              · (intro w hSw; (try dsimp only at hSw); go_simp <;> with_reducible rfl)
              try walk_nrm
              refine wpAnyH_ready (rs := [8]) (by kernel_rfl) (by simp) ?_
              refine AllReadyH.cons rfl (fun K hK => ?_) AllReadyH.nil
              · go_simp
                refine hK.out _ _ ?_ (fun hHeld => ?_)
                · ((try dsimp only); (first | (with_reducible exact HBOX.out _ (by (repeat (first | assumption | exact Bel.refl _ | apply Bel.drewN | apply Bel.drew | apply Bel.alloc | refine Bel.set ?_ (by first | exact Nat.le_refl _ | exact Nat.le_add_right _ _ | (simp; done) | (simp; omega) | omega) _ | refine Bel.trans ?_ (by assumption))))) | exact HBOX.out _ (by (repeat (first | assumption | exact Bel.refl _ | apply Bel.drewN | apply Bel.drew | apply Bel.alloc | refine Bel.set ?_ (by first | exact Nat.le_refl _ | exact Nat.le_add_right _ _ | (simp; done) | (simp; omega) | omega) _ | refine Bel.trans ?_ (by assumption))))))
                clear hK K
                try walk_nrm
                refine wpAnyH_ready (rs := [9]) (by kernel_rfl) (by simp) ?_
                refine AllReadyH.cons rfl (fun K hK => ?_) AllReadyH.nil
                · go_simp
                  (first | (have hh := HBX.out wt (Bel.trans (Bel.drew (Bel.refl _)) gt); have x0 := hh.cellv (j := 0) (by simp); have x1 := hh.cellv (j := 1) (by simp); have x2 := hh.cellv (j := 2) (by simp); have y0 := hh.frozen 0; have y1 := hh.frozen 1; have y2 := hh.frozen 2; simp only [List.getElem_cons_zero, List.getElem_cons_succ] at x0 x1 x2; have HH := Lib.hid hh; clear hh; go_simp) | skip)
                  try go_wp2_with fail
                  refine hK.out _ _ ?_ (fun hHeld => ?_)
                  · ((try dsimp only); (first | (with_reducible exact HBOX.out _ (by (repeat (first | assumption | exact Bel.refl _ | apply Bel.drewN | apply Bel.drew | apply Bel.alloc | refine Bel.set ?_ (by first | exact Nat.le_refl _ | exact Nat.le_add_right _ _ | (simp; done) | (simp; omega) | omega) _ | refine Bel.trans ?_ (by assumption))))) | exact HBOX.out _ (by (repeat (first | assumption | exact Bel.refl _ | apply Bel.drewN | apply Bel.drew | apply Bel.alloc | refine Bel.set ?_ (by first | exact Nat.le_refl _ | exact Nat.le_add_right _ _ | (simp; done) | (simp; omega) | omega) _ | refine Bel.trans ?_ (by assumption))))))
                  clear hK K
                  try walk_nrm
                  refine wpAnyH_done (by kernel_rfl) ?_ _
                  cases pb
                  · have HNO := Lib.hid (fun l (h : LitOf p s l) (e : l.1 = (k : Int)) => (show False from by have h9 := (HC0.out l h e).1; cases h9))
                    go_wp2_with fail
                    exact ⟨⟨k + 1, by omega, by omega, by go_num, fun l h => (by have h1 := HA.out l h; have h2 : l.1 ≠ (k : Int) := (fun e => HNO.out l h e); omega), hB4.trans (by (repeat (first | assumption | exact Bel.refl _ | apply Bel.drewN | apply Bel.drew | apply Bel.alloc | refine Bel.set ?_ (by first | exact Nat.le_refl _ | exact Nat.le_add_right _ _ | (simp; done) | (simp; omega) | omega) _ | refine Bel.trans ?_ (by assumption))))⟩, by simp [intOf]; omega⟩
                  · go_wp2_with fail
                    refine (iFormatLiteral_any _ p S ((k : Int), ai, pn) _ (HPR.out _ (GB4.trans (by (repeat (first | assumption | exact Bel.refl _ | apply Bel.drewN | apply Bel.drew | apply Bel.alloc | refine Bel.set ?_ (by first | exact Nat.le_refl _ | exact Nat.le_add_right _ _ | (simp; done) | (simp; omega) | omega) _ | refine Bel.trans ?_ (by assumption)))))).1 (HPR.out _ (GB4.trans (by (repeat (first | assumption | exact Bel.refl _ | apply Bel.drewN | apply Bel.drew | apply Bel.alloc | refine Bel.set ?_ (by first | exact Nat.le_refl _ | exact Nat.le_add_right _ _ | (simp; done) | (simp; omega) | omega) _ | refine Bel.trans ?_ (by assumption)))))).2 HNB.out (tabIs_bel HTB.out (GB4.trans (by (repeat (first | assumption | exact Bel.refl _ | apply Bel.drewN | apply Bel.drew | apply Bel.alloc | refine Bel.set ?_ (by first | exact Nat.le_refl _ | exact Nat.le_add_right _ _ | (simp; done) | (simp; omega) | omega) _ | refine Bel.trans ?_ (by assumption))))))).mono ?_
                    rintro e wf ⟨rfl, gf⟩
                    have HT := Lib.hid (show Blk wf wt.heap.size 43 [.int .i64 (k : Int), .int .i64 ai, .int .i64 pn] from (Blk.new' _ rfl).bel gf)
                    have t0 := HT.out.cellv (j := 0) (by simp)
                    have t1 := HT.out.cellv (j := 1) (by simp)
                    have t2 := HT.out.cellv (j := 2) (by simp)
                    simp only [List.getElem_cons_zero, List.getElem_cons_succ] at t0 t1 t2
                    have GF : Bel w4 wf := by (repeat (first | assumption | exact Bel.refl _ | apply Bel.drewN | apply Bel.drew | apply Bel.alloc | refine Bel.set ?_ (by first | exact Nat.le_refl _ | exact Nat.le_add_right _ _ | (simp; done) | (simp; omega) | omega) _ | refine Bel.trans ?_ (by assumption)))
                    by_cases hc : fmtLitV p ((k : Int), ai, pn) = s
                    · have hE2 : ((fmtLitV p ((k : Int), ai, pn)).toList == s.toList) = true := by rw [hc]; simp
                      have HF := Lib.hid (parseLit_of (litOf_fmt hc HNS.out))
                      have HRF := Lib.hid (HRW4.out.bel GF)
                      have f0 := HRF.out.frozen 0
                      have f1 := HRF.out.frozen 1
                      have f2 := HRF.out.frozen 2
                      have c0 := HRF.out.cellv (j := 0) (by simp)
                      have c1 := HRF.out.cellv (j := 1) (by simp)
                      have c2 := HRF.out.cellv (j := 2) (by simp)
                      simp only [List.getElem_cons_zero, List.getElem_cons_succ] at c0 c1 c2
                      have GWF : Bel w wf := GB4.trans GF
                      clear hc
                      go_wp2_with fail
                      rw [HF.out]
                      exact bodyPost_ret (v := .tuple #[.agg #[.int .i64 (k : Int), .int .i64 ai, .int .i64 pn], .bool true]) (by simp [results, Tryz.results14, go_sem, c0, c1, c2]) rfl ⟨rfl, by (repeat (first | assumption | exact Bel.refl _ | apply Bel.drewN | apply Bel.drew | apply Bel.alloc | refine Bel.set ?_ (by first | exact Nat.le_refl _ | exact Nat.le_add_right _ _ | (simp; done) | (simp; omega) | omega) _ | refine Bel.trans ?_ (by assumption)))⟩
                    · have hE2 : ((fmtLitV p ((k : Int), ai, pn)).toList == s.toList) = false := by rw [beq_eq_false_iff_ne]; intro h; exact hc (toList_inj h)
                      have HNO := Lib.hid (fun l (h : LitOf p s l) (e : l.1 = (k : Int)) => hc (by have h1 := (HC0.out l h e).2; rw [← h1]; exact h.2))
                      clear hc
                      go_wp2_with fail
                      exact ⟨⟨k + 1, by omega, by omega, by go_num, fun l h => (by have h1 := HA.out l h; have h2 : l.1 ≠ (k : Int) := (fun e => HNO.out l h e); omega), hB4.trans GF⟩, by simp [intOf]; omega⟩
            refine AllReadyH.cons rfl (fun K hK => ?_) AllReadyH.nil
            · go_simp
              refine hK.out _ _ ?_ (fun hHeld => ?_)
              · ((try dsimp only); (first | (with_reducible exact HBOX.out _ (by (repeat (first | assumption | exact Bel.refl _ | apply Bel.drewN | apply Bel.drew | apply Bel.alloc | refine Bel.set ?_ (by first | exact Nat.le_refl _ | exact Nat.le_add_right _ _ | (simp; done) | (simp; omega) | omega) _ | refine Bel.trans ?_ (by assumption))))) | exact HBOX.out _ (by (repeat (first | assumption | exact Bel.refl _ | apply Bel.drewN | apply Bel.drew | apply Bel.alloc | refine Bel.set ?_ (by first | exact Nat.le_refl _ | exact Nat.le_add_right _ _ | (simp; done) | (simp; omega) | omega) _ | refine Bel.trans ?_ (by assumption))))))
              clear hK K
              try walk_nrm
              refine wpAnyH_ready (rs := [5]) (by kernel_rfl) (by simp) ?_
              refine AllReadyH.cons rfl (fun K hK => ?_) AllReadyH.nil
              · go_simp
                (go_at_call 51; (with_reducible refine (iActivityIndex_any _ p (s.extract 0 n) S _ (HPR.out _ (by (repeat (first | assumption | exact Bel.refl _ | apply Bel.drewN | apply Bel.drew | apply Bel.alloc | refine Bel.trans ?_ (by assumption))))).1 (HPR.out _ (by (repeat (first | assumption | exact Bel.refl _ | apply Bel.drewN | apply Bel.drew | apply Bel.alloc | refine Bel.trans ?_ (by assumption))))).2).mono ?_); rintro e wt ⟨rfl, gt⟩; rw [HAI.out])
                try go_wp2_with fail
                refine hK.out _ _ ?_ (fun hHeld => ?_)
                · ((try dsimp only); (first | (with_reducible exact HBOX.out _ (by (repeat (first | assumption | exact Bel.refl _ | apply Bel.drewN | apply Bel.drew | apply Bel.alloc | refine Bel.set ?_ (by first | exact Nat.le_refl _ | exact Nat.le_add_right _ _ | (simp; done) | (simp; omega) | omega) _ | refine Bel.trans ?_ (by assumption))))) | exact HBOX.out _ (by (repeat (first | assumption | exact Bel.refl _ | apply Bel.drewN | apply Bel.drew | apply Bel.alloc | refine Bel.set ?_ (by first | exact Nat.le_refl _ | exact Nat.le_add_right _ _ | (simp; done) | (simp; omega) | omega) _ | refine Bel.trans ?_ (by assumption))))))
                clear hK K
                try walk_nrm
                refine wpAnyH_take (i := 7) (v := ?_) rfl (by kernel_rfl) (by kernel_rfl) (by kernel_rfl) (fun _ _ _ h => h) (Or.inl ⟨by rfl, ?_⟩) (by assumption) ?_
                rotate_left
                · (intro w hSw; (try dsimp only at hSw); go_simp <;> with_reducible rfl)
                try walk_nrm
                refine wpAnyH_ready (rs := [9]) (by kernel_rfl) (by simp) ?_
                refine AllReadyH.cons rfl (fun K hK => ?_) AllReadyH.nil
                · go_simp
                  (first | (have hh := HBX.out wt (Bel.trans (Bel.drew (Bel.refl _)) gt); have x0 := hh.cellv (j := 0) (by simp); have x1 := hh.cellv (j := 1) (by simp); have x2 := hh.cellv (j := 2) (by simp); have y0 := hh.frozen 0; have y1 := hh.frozen 1; have y2 := hh.frozen 2; simp only [List.getElem_cons_zero, List.getElem_cons_succ] at x0 x1 x2; have HH := Lib.hid hh; clear hh; go_simp) | skip)
                  try go_wp2_with fail
                  refine hK.out _ _ ?_ (fun hHeld => ?_)
                  · ((try dsimp only); (first | (with_reducible exact HBOX.out _ (by (repeat (first | assumption | exact Bel.refl _ | apply Bel.drewN | apply Bel.drew | apply Bel.alloc | refine Bel.set ?_ (by first | exact Nat.le_refl _ | exact Nat.le_add_right _ _ | (simp; done) | (simp; omega) | omega) _ | refine Bel.trans ?_ (by assumption))))) | exact HBOX.out _ (by (repeat (first | assumption | exact Bel.refl _ | apply Bel.drewN | apply Bel.drew | apply Bel.alloc | refine Bel.set ?_ (by first | exact Nat.le_refl _ | exact Nat.le_add_right _ _ | (simp; done) | (simp; omega) | omega) _ | refine Bel.trans ?_ (by assumption))))))
                  clear hK K
                  try walk_nrm
                  refine wpAnyH_done (by kernel_rfl) ?_ _
                  cases pb
                  · have HNO := Lib.hid (fun l (h : LitOf p s l) (e : l.1 = (k : Int)) => (show False from by have h9 := (HC0.out l h e).1; cases h9))
                    go_wp2_with fail
                    exact ⟨⟨k + 1, by omega, by omega, by go_num, fun l h => (by have h1 := HA.out l h; have h2 : l.1 ≠ (k : Int) := (fun e => HNO.out l h e); omega), hB4.trans (by (repeat (first | assumption | exact Bel.refl _ | apply Bel.drewN | apply Bel.drew | apply Bel.alloc | refine Bel.set ?_ (by first | exact Nat.le_refl _ | exact Nat.le_add_right _ _ | (simp; done) | (simp; omega) | omega) _ | refine Bel.trans ?_ (by assumption))))⟩, by simp [intOf]; omega⟩
                  · go_wp2_with fail
                    refine (iFormatLiteral_any _ p S ((k : Int), ai, pn) _ (HPR.out _ (GB4.trans (by (repeat (first | assumption | exact Bel.refl _ | apply Bel.drewN | apply Bel.drew | apply Bel.alloc | refine Bel.set ?_ (by first | exact Nat.le_refl _ | exact Nat.le_add_right _ _ | (simp; done) | (simp; omega) | omega) _ | refine Bel.trans ?_ (by assumption)))))).1 (HPR.out _ (GB4.trans (by (repeat (first | assumption | exact Bel.refl _ | apply Bel.drewN | apply Bel.drew | apply Bel.alloc | refine Bel.set ?_ (by first | exact Nat.le_refl _ | exact Nat.le_add_right _ _ | (simp; done) | (simp; omega) | omega) _ | refine Bel.trans ?_ (by assumption)))))).2 HNB.out (tabIs_bel HTB.out (GB4.trans (by (repeat (first | assumption | exact Bel.refl _ | apply Bel.drewN | apply Bel.drew | apply Bel.alloc | refine Bel.set ?_ (by first | exact Nat.le_refl _ | exact Nat.le_add_right _ _ | (simp; done) | (simp; omega) | omega) _ | refine Bel.trans ?_ (by assumption))))))).mono ?_
                    rintro e wf ⟨rfl, gf⟩
                    have HT := Lib.hid (show Blk wf w4.heap.size 43 [.int .i64 (k : Int), .int .i64 ai, .int .i64 pn] from (((HH.out.set 0 (.int .i64 (k : Int))).set 1 (.int .i64 ai)).set 2 (.int .i64 pn)).bel gf)
                    have t0 := HT.out.cellv (j := 0) (by simp)
                    have t1 := HT.out.cellv (j := 1) (by simp)
                    have t2 := HT.out.cellv (j := 2) (by simp)
                    simp only [List.getElem_cons_zero, List.getElem_cons_succ] at t0 t1 t2
                    have GF : Bel w4 wf := by (repeat (first | assumption | exact Bel.refl _ | apply Bel.drewN | apply Bel.drew | apply Bel.alloc | refine Bel.set ?_ (by first | exact Nat.le_refl _ | exact Nat.le_add_right _ _ | (simp; done) | (simp; omega) | omega) _ | refine Bel.trans ?_ (by assumption)))
                    by_cases hc : fmtLitV p ((k : Int), ai, pn) = s
                    · have hE2 : ((fmtLitV p ((k : Int), ai, pn)).toList == s.toList) = true := by rw [hc]; simp
                      have HF := Lib.hid (parseLit_of (litOf_fmt hc HNS.out))
                      have HRF := Lib.hid (HRW4.out.bel GF)
                      have f0 := HRF.out.frozen 0
                      have f1 := HRF.out.frozen 1
                      have f2 := HRF.out.frozen 2
                      have c0 := HRF.out.cellv (j := 0) (by simp)
                      have c1 := HRF.out.cellv (j := 1) (by simp)
                      have c2 := HRF.out.cellv (j := 2) (by simp)
                      simp only [List.getElem_cons_zero, List.getElem_cons_succ] at c0 c1 c2
                      have GWF : Bel w wf := GB4.trans GF
                      clear hc
                      go_wp2_with fail
                      rw [HF.out]
                      exact bodyPost_ret (v := .tuple #[.agg #[.int .i64 (k : Int), .int .i64 ai, .int .i64 pn], .bool true]) (by simp [results, Tryz.results14, go_sem, c0, c1, c2]) rfl ⟨rfl, by (repeat (first | assumption | exact Bel.refl _ | apply Bel.drewN | apply Bel.drew | apply Bel.alloc | refine Bel.set ?_ (by first | exact Nat.le_refl _ | exact Nat.le_add_right _ _ | (simp; done) | (simp; omega) | omega) _ | refine Bel.trans ?_ (by assumption)))⟩
                    · have hE2 : ((fmtLitV p ((k : Int), ai, pn)).toList == s.toList) = false := by rw [beq_eq_false_iff_ne]; intro h; exact hc (toList_inj h)
                      have HNO := Lib.hid (fun l (h : LitOf p s l) (e : l.1 = (k : Int)) => hc (by have h1 := (HC0.out l h e).2; rw [← h1]; exact h.2))
                      clear hc
                      go_wp2_with fail
                      exact ⟨⟨k + 1, by omega, by omega, by go_num, fun l h => (by have h1 := HA.out l h; have h2 : l.1 ≠ (k : Int) := (fun e => HNO.out l h e); omega), hB4.trans GF⟩, by simp [intOf]; omega⟩
          · have hE : ((s.extract n m).toList == sg.toList) = false := by rw [beq_eq_false_iff_ne]; intro h; exact heq (toList_inj h)
            have HNO := Lib.hid (fun l (h : LitOf p s l) (e : l.1 = (k : Int)) => heq (HLK.out l h e).1.2)
            clear heq
            go_wp2_with fail
            exact ⟨⟨k + 1, by omega, by omega, by go_num, fun l h => (by have h1 := HA.out l h; have h2 : l.1 ≠ (k : Int) := (fun e => HNO.out l h e); omega), by (repeat (first | assumption | exact Bel.refl _ | apply Bel.drewN | apply Bel.drew | apply Bel.alloc | refine Bel.trans ?_ (by assumption)))⟩, by simp [intOf]; omega⟩
        · have hfi : ¬ (m : Int) ≤ (s.size : Int) := by omega
          have HNO := Lib.hid (fun l (h : LitOf p s l) (e : l.1 = (k : Int)) => hfit (HLK.out l h e).1.1)
          go_wp2_with fail
          exact ⟨⟨k + 1, by omega, by omega, by go_num, fun l h => (by have h1 := HA.out l h; have h2 : l.1 ≠ (k : Int) := (fun e => HNO.out l h e); omega), by (repeat (first | assumption | exact Bel.refl _ | apply Bel.drewN | apply Bel.drew | apply Bel.alloc | refine Bel.trans ?_ (by assumption)))⟩, by simp [intOf]; omega⟩
      · obtain rfl : k = 5 := by omega
        have HF := Lib.hid (parseLit_no (p := p) (s := s) fun l h => by have h1 := HA.out l h; have h2 := (HSG.out l h).2; omega)
        have f0 := HRW.out.frozen 0
        have f1 := HRW.out.frozen 1
        have f2 := HRW.out.frozen 2
        have c0 := HRW.out.cellv (j := 0) (by simp)
        have c1 := HRW.out.cellv (j := 1) (by simp)
        have c2 := HRW.out.cellv (j := 2) (by simp)
        simp only [List.getElem_cons_zero, List.getElem_cons_succ] at c0 c1 c2
        go_wp2_with fail
        rw [HF.out]
        exact bodyPost_ret (v := .tuple #[.agg #[.int .i64 0, .int .i64 0, .int .i64 0], .bool false]) (by simp [results, Tryz.results14, go_sem, c0, c1, c2]) rfl ⟨rfl, by (repeat (first | assumption | exact Bel.refl _ | apply Bel.drewN | apply Bel.drew | apply Bel.alloc | refine Bel.set ?_ (by first | exact Nat.le_refl _ | exact Nat.le_add_right _ _ | (simp; done) | (simp; omega) | omega) _ | refine Bel.trans ?_ (by assumption)))⟩

end Go.Proofs.YtkfpciggolkjeaaGreatDoor
