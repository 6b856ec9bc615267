/- ParseLiteral, both sides. -/
import Derived.Test.YtkfpciggolkjeaaGreatDoorLitP
import Derived.Test.YtkfpciggolkjeaaGreatDoorParseI
import Derived.Test.YtkfpciggolkjeaaGreatDoorFmtLit
import Derived.Test.YtkfpciggolkjeaaGreatDoorActIdx
import Derived.Test.YtkfpciggolkjeaaGreatDoorSplit
import Derived.Deep.RegionHeld3
import Derived.StillTailTactics
import Derived.Deep.Cut
import Derived.Conc.WalkWords
import Derived.Deep.DrawnRows
import Derived.Deep.DeepCutAuto
namespace Go.Proofs.YtkfpciggolkjeaaGreatDoor
open Go.ChangeShapes Go.WideShapes Go.ChangeAt Go.RowKit
set_option linter.unusedVariables false

theorem splitV_size {s by_ : ByteArray} : ∀ x ∈ splitV s by_, x.size ≤ s.size := by
  have key : ∀ k, ∀ x ∈ (splitSt s by_ k).1, x.size ≤ s.size := by
    intro k
    induction k with
    | zero => intro x hx; cases hx
    | succ k ih =>
      intro x hx
      unfold splitSt at hx
      split at hx
      · rcases List.mem_append.1 hx with h | h
        · exact ih x h
        · rw [List.mem_singleton.1 h]; exact extract_size _ _ _
      · exact ih x hx
  intro x hx
  unfold splitV at hx
  rcases List.mem_append.1 hx with h | h
  · exact key _ x h
  · rw [List.mem_singleton.1 h]; exact extract_size _ _ _
theorem splitV_le (s by_ : ByteArray) : 1 ≤ (splitV s by_).length ∧ (splitV s by_).length ≤ s.size + 1 := by
  have := (splitSt_le s by_ s.size).2
  unfold splitV; rw [List.length_append]; simp; omega
theorem splitV_len (s by_ : ByteArray) : 1 ≤ (splitV s by_).length := by unfold splitV; rw [List.length_append]; simp
theorem splitV_getD {s by_ : ByteArray} (k : Nat) : ((splitV s by_).getD k ⟨#[]⟩).size ≤ s.size := by
  rw [List.getD_eq_getElem?_getD]
  cases h : (splitV s by_)[k]? with
  | none => exact Nat.zero_le _
  | some x => exact splitV_size x (List.mem_of_getElem? h)
theorem litOf_ne {p : ProjT} {s : ByteArray} {l : LitT} (h : LitOf p s l) : s ≠ ⟨#[]⟩ := by
  obtain ⟨N, h1⟩ := lit_parts h.1 h.2
  rintro rfl
  have h2 := h1.txt
  have h3 := (sign_bytes h1.sgn).2.1
  have h4 : ([] : List UInt8) = N.data.toList ++ ((signF l.1).data.toList ++ Lib.itoa l.2.2) := h2
  rw [List.nil_eq_append_iff, List.append_eq_nil_iff] at h4
  exact h3 h4.2.1
theorem litOf_sgn {p : ProjT} {s : ByteArray} {l : LitT} (h : LitOf p s l) : 1 ≤ l.1 ∧ l.1 ≤ 4 := by
  obtain ⟨N, h1⟩ := lit_parts h.1 h.2
  exact h1.sgn
theorem litOf_cand {p : ProjT} {s : ByteArray} {l : LitT} (h : LitOf p s l) : l = (l.1, actIndex p.2.1 ((splitV s ⟨#[60, 62, 61, 33]⟩).getD 0 ⟨#[]⟩), (parseV ((splitV s ⟨#[60, 62, 61, 33]⟩).getD ((splitV s ⟨#[60, 62, 61, 33]⟩).length - 1) ⟨#[]⟩)).1) := by
  obtain ⟨N, h1⟩ := lit_parts h.1 h.2
  rw [h1.split.1, h1.split.2, h1.act, parseV_of h1.num]
set_option maxRecDepth 100000 in
set_option maxHeartbeats 4000000 in
theorem sParseLiteral_any (v : Value) (p : ProjT) (S : Nat → Prop) (s : ByteArray) (w : World) (hx : aggR projR S w v p) (hS : ∀ b, S b → b < w.heap.size) (_hn : bulkProject p ≤ 1048576) (hs : s.size ≤ 1048576) :
    Calls Tryz.prog 13 #[v, .string s] w fun e w' => e = .returned (.tuple #[.agg #[.int .i64 (parseLitV p s).1.1, .int .i64 (parseLitV p s).1.2.1, .int .i64 (parseLitV p s).1.2.2], .bool (parseLitV p s).2]) ∧ Bel w w' := by
  obtain ⟨cs, rfl, hx⟩ := hx
  obtain ⟨c1, c2, c3, c4, rfl, q0, q1, q2, q3, q4⟩ := projR_open hx
  have Q1 := Lib.hid q1
  have Q2 := Lib.hid q2
  have Q3 := Lib.hid q3
  have Q4 := Lib.hid q4
  have HP := Lib.hid hx
  obtain ⟨p1, k1, rfl, l1, l1', -⟩ := sliceR_open q1
  obtain ⟨p2, k2, rfl, l2, l2', -⟩ := sliceR_open q2
  obtain ⟨p3, k3, rfl, l3, l3', -⟩ := sliceR_open q3
  obtain ⟨p4, k4, rfl, l4, l4', -⟩ := sliceR_open q4
  unfold maxLen at l1' l2' l3' l4'
  clear hx q0 q1 q2 q3 q4
  have HS := Lib.hid hS
  have HNB := Lib.hid _hn
  clear hS _hn
  have HPR := Lib.hid (show ∀ W, Bel w W → aggR projR S W (.agg #[.int .i64 p.1, .slice p1 p.2.1.length k1, .slice p2 p.2.2.1.length k2, .slice p3 p.2.2.2.1.length k3, .slice p4 p.2.2.2.2.length k4]) p ∧ (∀ b, S b → b < W.heap.size) from fun W hW => ⟨aggR_mk (projR_good.bel HP.out hW HS.out), fun b hb => Nat.lt_of_lt_of_le (HS.out b hb) hW.size⟩)
  show Calls Tryz.prog 13 #[.agg #[.int .i64 p.1, .slice p1 p.2.1.length k1, .slice p2 p.2.2.1.length k2, .slice p3 p.2.2.2.1.length k3, .slice p4 p.2.2.2.2.length k4], .string s] w _
  go_enter Tryz.func13, Tryz.ntmps13
  go_wp2_with fail
  refine (sSplitAny_any s ⟨#[60, 62, 61, 33]⟩ _ hs (by decide)).mono ?_
  rintro e w1 ⟨vq, rfl, hq, g1⟩
  have hlen := splitV_len s ⟨#[60, 62, 61, 33]⟩
  have HC0 := Lib.hid (fun l (h : LitOf p s l) => litOf_cand h)
  have hz0 := splitV_getD (s := s) (by_ := ⟨#[60, 62, 61, 33]⟩) 0
  have hzl := splitV_getD (s := s) (by_ := ⟨#[60, 62, 61, 33]⟩) ((splitV s ⟨#[60, 62, 61, 33]⟩).length - 1)
  generalize splitV s ⟨#[60, 62, 61, 33]⟩ = ws at *
  obtain ⟨qb, qo, qcs, hqs, qrow, qel⟩ := sliceR_at ⟨#[]⟩ hq (i := 0) (by omega)
  obtain ⟨qb2, qo2, qcs2, hqs2, qrow2, qel2⟩ := sliceR_at ⟨#[]⟩ hq (i := ws.length - 1) (by omega)
  obtain ⟨pq, cq, rfl, lq, lq2, -⟩ := sliceR_open hq
  obtain rfl : pq = some ⟨qb, qo, none⟩ := hqs
  obtain ⟨rfl, rfl⟩ : qb = qb2 ∧ qo = qo2 := by simpa [sliceAt] using hqs2
  obtain ⟨rfl, -⟩ := qel
  obtain ⟨rfl, -⟩ := qel2
  have d0 := (qrow 0 (by simp)).1
  have dl := (qrow2 0 (by simp)).1
  simp only [List.getElem_cons_zero, Nat.add_zero, Nat.mul_one] at d0 dl
  unfold maxLen at lq2
  generalize ws.getD 0 ⟨#[]⟩ = n0 at *
  generalize ws.getD (ws.length - 1) ⟨#[]⟩ = nl at *
  have HBOX := Lib.hid (show ∀ W, Bel w1 W → W.cell? ⟨w.heap.size, 0, none⟩ = some (.int .i64 p.1) ∧ W.cell? ⟨w.heap.size, 1, none⟩ = some (.slice p1 p.2.1.length k1) ∧ W.cell? ⟨w.heap.size, 2, none⟩ = some (.slice p2 p.2.2.1.length k2) ∧ W.cell? ⟨w.heap.size, 3, none⟩ = some (.slice p3 p.2.2.2.1.length k3) ∧ W.cell? ⟨w.heap.size, 4, none⟩ = some (.slice p4 p.2.2.2.2.length k4) ∧ W.cell? ⟨qb, qo, none⟩ = some (.string n0) from fun W hW => ⟨hW.cell (g1.cell (by simp [go_sem])), hW.cell (g1.cell (by simp [go_sem])), hW.cell (g1.cell (by simp [go_sem])), hW.cell (g1.cell (by simp [go_sem])), hW.cell (g1.cell (by simp [go_sem])), hW.cell d0⟩)
  have HRB := Lib.hid (show Blk w1 (w.heap.size + 1) 43 [.int .i64 0, .int .i64 0, .int .i64 0] from (Blk.new' _ (by simp)).bel g1)
  have G : Bel w w1 := by (repeat (first | assumption | exact Bel.refl _ | apply Bel.drewN | apply Bel.drew | apply Bel.alloc | refine Bel.trans ?_ (by assumption)))
  have hw1 : IntKind.i64.wrap ((ws.length : Int) - 1) = ((ws.length - 1 : Nat) : Int) := by rw [IntWalk.i64_in _ (by omega)]; omega
  have hw2 : wrap64 ((ws.length : Int) - 1) = ((ws.length - 1 : Nat) : Int) := by unfold wrap64; omega
  have hw3 : (ws.length : Int) - 1 = ((ws.length - 1 : Nat) : Int) := by omega
  have hli : ((ws.length - 1 : Nat) : Int) < (ws.length : Int) := by omega
  clear g1 qrow qrow2 hq d0
  go_wp2_with fail
  refine (sParseInt_any nl _ (by omega)).mono ?_
  rintro e w2 ⟨rfl, g2⟩
  have G12 : Bel w1 w2 := by (repeat (first | assumption | exact Bel.refl _ | apply Bel.drewN | apply Bel.drew | apply Bel.alloc | refine Bel.trans ?_ (by assumption)))
  have G2 : Bel w w2 := G.trans G12
  have HSG := Lib.hid (fun l (h : LitOf p s l) => litOf_sgn h)
  generalize (parseV nl).1 = pn at *
  generalize (parseV nl).2 = pb at *
  clear dl hw1 hw2 hw3 hli
  go_wp2_with fail
  go_loopw [9] (fun kk wr => ∃ k : Nat, 1 ≤ k ∧ k ≤ 5 ∧ kk = .int .i64 k ∧ (∀ l, LitOf p s l → (k : Int) ≤ l.1) ∧ Bel w2 wr) (fun kk _ => 5 - (intOf kk).toNat)
  case atStart => exact ⟨1, by omega, by omega, rfl, fun l h => (HSG.out l h).1, by (repeat (first | assumption | exact Bel.refl _ | apply Bel.drewN | apply Bel.drew | apply Bel.alloc | refine Bel.trans ?_ (by assumption)))⟩
  case round =>
    obtain ⟨k, hk1, hk5, rfl, hall, hB⟩ := hrel
    have HA := Lib.hid hall
    clear hall
    have GB : Bel w wr := G2.trans hB
    have GB1 : Bel w1 wr := G12.trans hB
    have HRW := Lib.hid (HRB.out.bel GB1)
    have hszr := GB1.size
    have hszr2 := hB.size
    have hszr0 := GB.size
    have rb := HRW.out.lt
    by_cases hk : k ≤ 4
    · have hki : (k : Int) ≤ 4 := by omega
      have h0i : 0 < ws.length := by omega
      obtain ⟨b0, b1, b2, b3, b4, b5⟩ := HBOX.out wr GB1
      go_upto_region 6 with (fail)
      have HBX := Lib.hid (show ∀ W, Bel (wr.alloc (.cells #[.int .i64 0, .int .i64 0, .int .i64 0] 43)) W → Blk W wr.heap.size 43 [.int .i64 0, .int .i64 0, .int .i64 0] from fun W hW => (Blk.new' _ rfl).bel hW)
      clear b0 b1 b2 b3 b4 b5
      refine wp_region_held_drew (S := (fun W => W.cell? ⟨w.heap.size, 0, none⟩ = some (.int .i64 p.1) ∧ W.cell? ⟨w.heap.size, 1, none⟩ = some (.slice p1 p.2.1.length k1) ∧ W.cell? ⟨w.heap.size, 2, none⟩ = some (.slice p2 p.2.2.1.length k2) ∧ W.cell? ⟨w.heap.size, 3, none⟩ = some (.slice p3 p.2.2.2.1.length k3) ∧ W.cell? ⟨w.heap.size, 4, none⟩ = some (.slice p4 p.2.2.2.2.length k4) ∧ W.cell? ⟨qb, qo, none⟩ = some (.string n0))) (by kernel_rfl) ?_ (fun hHeld => ?_)
      · ((try dsimp only); (first | (with_reducible exact HBOX.out _ (by (repeat (first | assumption | exact Bel.refl _ | apply Bel.drewN | apply Bel.drew | apply Bel.alloc | refine Bel.set ?_ (by first | exact Nat.le_refl _ | exact Nat.le_add_right _ _ | (simp; done) | (simp; omega) | omega) _ | refine Bel.trans ?_ (by assumption))))) | exact HBOX.out _ (by (repeat (first | assumption | exact Bel.refl _ | apply Bel.drewN | apply Bel.drew | apply Bel.alloc | refine Bel.set ?_ (by first | exact Nat.le_refl _ | exact Nat.le_add_right _ _ | (simp; done) | (simp; omega) | omega) _ | refine Bel.trans ?_ (by assumption))))))
      refine wpAnyH_take (i := 0) (v := ?_) rfl (by kernel_rfl) (by kernel_rfl) (by kernel_rfl) (fun _ _ _ h => h) (Or.inl ⟨by rfl, ?_⟩) (by assumption) ?_
      rotate_left
      · (intro w hSw; (try dsimp only at hSw); go_simp <;> with_reducible rfl)
      try walk_nrm
      refine wpAnyH_take (i := 1) (v := ?_) rfl (by kernel_rfl) (by kernel_rfl) (by kernel_rfl) (fun _ _ _ h => h) (Or.inl ⟨by rfl, ?_⟩) (by assumption) ?_
      rotate_left
      · (intro w hSw; (try dsimp only at hSw); go_simp <;> with_reducible rfl)
      try walk_nrm
      refine wpAnyH_take (i := 2) (v := ?_) rfl (by kernel_rfl) (by kernel_rfl) (by kernel_rfl) (fun _ _ _ h => h) (Or.inl ⟨by rfl, ?_⟩) (by assumption) ?_
      rotate_left
      · (intro w hSw; (try dsimp only at hSw); go_simp <;> with_reducible rfl)
      try walk_nrm
      refine wpAnyH_take (i := 3) (v := ?_) rfl (by kernel_rfl) (by kernel_rfl) (by kernel_rfl) (fun _ _ _ h => h) (Or.inl ⟨by rfl, ?_⟩) (by assumption) ?_
      rotate_left
      · (intro w hSw; (try dsimp only at hSw); go_simp <;> with_reducible rfl)
      try walk_nrm
      refine wpAnyH_take (i := 4) (v := ?_) rfl (by kernel_rfl) (by kernel_rfl) (by kernel_rfl) (fun _ _ _ h => h) (Or.inl ⟨by rfl, ?_⟩) (by assumption) ?_
      rotate_left
      · (intro w hSw; (try dsimp only at hSw); go_simp <;> with_reducible rfl)
      try walk_nrm
      refine wpAnyH_take (i := 6) (v := ?_) rfl (by kernel_rfl) (by kernel_rfl) (by kernel_rfl) (fun _ _ _ h => h) (Or.inl ⟨by rfl, ?_⟩) (by assumption) ?_
      rotate_left
      · (intro w hSw; (try dsimp only at hSw); go_simp <;> with_reducible rfl)
      try walk_nrm
      refine wpAnyH_ready (rs := [5, 8]) (by kernel_rfl) (by simp) ?_
      refine AllReadyH.cons rfl (fun K hK => ?_) ?_
      · go_simp
        (go_at_call 47; (with_reducible refine (sActivityIndex_any _ p n0 S _ (HPR.out _ (by (repeat (first | assumption | exact Bel.refl _ | apply Bel.drewN | apply Bel.drew | apply Bel.alloc | refine Bel.trans ?_ (by assumption))))).1 (HPR.out _ (by (repeat (first | assumption | exact Bel.refl _ | apply Bel.drewN | apply Bel.drew | apply Bel.alloc | refine Bel.trans ?_ (by assumption))))).2).mono ?_); rintro e wt ⟨rfl, gt⟩)
        try go_wp2_with fail
        refine hK.out _ _ ?_ (fun hHeld => ?_)
        · ((try dsimp only); (first | (with_reducible exact HBOX.out _ (by (repeat (first | assumption | exact Bel.refl _ | apply Bel.drewN | apply Bel.drew | apply Bel.alloc | refine Bel.set ?_ (by first | exact Nat.le_refl _ | exact Nat.le_add_right _ _ | (simp; done) | (simp; omega) | omega) _ | refine Bel.trans ?_ (by assumption))))) | exact HBOX.out _ (by (repeat (first | assumption | exact Bel.refl _ | apply Bel.drewN | apply Bel.drew | apply Bel.alloc | refine Bel.set ?_ (by first | exact Nat.le_refl _ | exact Nat.le_add_right _ _ | (simp; done) | (simp; omega) | omega) _ | refine Bel.trans ?_ (by assumption))))))
        clear hK K
        try walk_nrm
        refine wpAnyH_take (i := 7) (v := ?_) rfl (by kernel_rfl) (by kernel_rfl) (by kernel_rfl) (fun _ _ _ h => h) (Or.inl ⟨by rfl, ?_⟩) (by assumption) ?_
        rotate_left
        · (intro w hSw; (try dsimp only at hSw); go_simp <;> with_reducible rfl)
        try walk_nrm
        refine wpAnyH_ready (rs := [8]) (by kernel_rfl) (by simp) ?_
        refine AllReadyH.cons rfl (fun K hK => ?_) AllReadyH.nil
        · go_simp
          refine hK.out _ _ ?_ (fun hHeld => ?_)
          · ((try dsimp only); (first | (with_reducible exact HBOX.out _ (by (repeat (first | assumption | exact Bel.refl _ | apply Bel.drewN | apply Bel.drew | apply Bel.alloc | refine Bel.set ?_ (by first | exact Nat.le_refl _ | exact Nat.le_add_right _ _ | (simp; done) | (simp; omega) | omega) _ | refine Bel.trans ?_ (by assumption))))) | exact HBOX.out _ (by (repeat (first | assumption | exact Bel.refl _ | apply Bel.drewN | apply Bel.drew | apply Bel.alloc | refine Bel.set ?_ (by first | exact Nat.le_refl _ | exact Nat.le_add_right _ _ | (simp; done) | (simp; omega) | omega) _ | refine Bel.trans ?_ (by assumption))))))
          clear hK K
          try walk_nrm
          refine wpAnyH_ready (rs := [9]) (by kernel_rfl) (by simp) ?_
          refine AllReadyH.cons rfl (fun K hK => ?_) AllReadyH.nil
          · go_simp
            (first | (have hh := HBX.out wt (Bel.trans (Bel.drew (Bel.refl _)) gt); have x0 := hh.cellv (j := 0) (by simp); have x1 := hh.cellv (j := 1) (by simp); have x2 := hh.cellv (j := 2) (by simp); have y0 := hh.frozen 0; have y1 := hh.frozen 1; have y2 := hh.frozen 2; simp only [List.getElem_cons_zero, List.getElem_cons_succ] at x0 x1 x2; have HH := Lib.hid hh; clear hh; go_simp) | skip)
            try go_wp2_with fail
            refine hK.out _ _ ?_ (fun hHeld => ?_)
            · ((try dsimp only); (first | (with_reducible exact HBOX.out _ (by (repeat (first | assumption | exact Bel.refl _ | apply Bel.drewN | apply Bel.drew | apply Bel.alloc | refine Bel.set ?_ (by first | exact Nat.le_refl _ | exact Nat.le_add_right _ _ | (simp; done) | (simp; omega) | omega) _ | refine Bel.trans ?_ (by assumption))))) | exact HBOX.out _ (by (repeat (first | assumption | exact Bel.refl _ | apply Bel.drewN | apply Bel.drew | apply Bel.alloc | refine Bel.set ?_ (by first | exact Nat.le_refl _ | exact Nat.le_add_right _ _ | (simp; done) | (simp; omega) | omega) _ | refine Bel.trans ?_ (by assumption))))))
            clear hK K
            try walk_nrm
            refine wpAnyH_done (by kernel_rfl) ?_ _
            go_wp2_with fail
            refine (sFormatLiteral_any _ p S ((k : Int), actIndex p.2.1 n0, pn) _ (HPR.out _ (GB.trans (by (repeat (first | assumption | exact Bel.refl _ | apply Bel.drewN | apply Bel.drew | apply Bel.alloc | refine Bel.set ?_ (by first | exact Nat.le_refl _ | exact Nat.le_add_right _ _ | (simp; done) | (simp; omega) | omega) _ | refine Bel.trans ?_ (by assumption)))))).1 (HPR.out _ (GB.trans (by (repeat (first | assumption | exact Bel.refl _ | apply Bel.drewN | apply Bel.drew | apply Bel.alloc | refine Bel.set ?_ (by first | exact Nat.le_refl _ | exact Nat.le_add_right _ _ | (simp; done) | (simp; omega) | omega) _ | refine Bel.trans ?_ (by assumption)))))).2 HNB.out).mono ?_
            rintro e wf ⟨rfl, gf⟩
            have HT := Lib.hid (show Blk wf wt.heap.size 43 [.int .i64 (k : Int), .int .i64 (actIndex p.2.1 n0), .int .i64 pn] from (Blk.new' _ rfl).bel gf)
            have t0 := HT.out.cellv (j := 0) (by simp)
            have t1 := HT.out.cellv (j := 1) (by simp)
            have t2 := HT.out.cellv (j := 2) (by simp)
            simp only [List.getElem_cons_zero, List.getElem_cons_succ] at t0 t1 t2
            have GF : Bel wr wf := by (repeat (first | assumption | exact Bel.refl _ | apply Bel.drewN | apply Bel.drew | apply Bel.alloc | refine Bel.set ?_ (by first | exact Nat.le_refl _ | exact Nat.le_add_right _ _ | (simp; done) | (simp; omega) | omega) _ | refine Bel.trans ?_ (by assumption)))
            by_cases hc : fmtLitV p ((k : Int), actIndex p.2.1 n0, pn) = s
            · have hE2 : ((fmtLitV p ((k : Int), actIndex p.2.1 n0, pn)).toList == s.toList) = true := by rw [hc]; simp
              by_cases he : s = ⟨#[]⟩
              · have HNO := Lib.hid (fun l (h : LitOf p s l) (_ : l.1 = (k : Int)) => litOf_ne h he)
                have hE1 : s.toList.isEmpty = true := by rw [he, ByteArray.toList_eq]; rfl
                have hE0 : s.toList = [] := by rw [he, ByteArray.toList_eq]
                have hE3 : (fmtLitV p ((k : Int), actIndex p.2.1 n0, pn)).toList = [] := by rw [hc, hE0]
                clear he hc
                go_wp2_with fail
                exact ⟨⟨k + 1, by omega, by omega, by go_num, fun l h => (by have h1 := HA.out l h; have h2 : l.1 ≠ (k : Int) := (fun e => HNO.out l h e); omega), hB.trans GF⟩, by simp [intOf]; omega⟩
              · have HF := Lib.hid (parseLit_of (litOf_fmt hc he))
                have hE0 : ¬ s.toList = [] := fun h => he (toList_inj (h.trans (by rw [ByteArray.toList_eq])))
                have hE1 : s.toList.isEmpty = false := by cases hl : s.toList with | nil => exact absurd hl hE0 | cons _ _ => rfl
                have HRF := Lib.hid (HRW.out.bel GF)
                have f0 := HRF.out.frozen 0
                have f1 := HRF.out.frozen 1
                have f2 := HRF.out.frozen 2
                have c0 := HRF.out.cellv (j := 0) (by simp)
                have c1 := HRF.out.cellv (j := 1) (by simp)
                have c2 := HRF.out.cellv (j := 2) (by simp)
                simp only [List.getElem_cons_zero, List.getElem_cons_succ] at c0 c1 c2
                have GWF : Bel w wf := GB.trans GF
                clear he hc
                go_wp2_with fail
                rw [HF.out]
                exact bodyPost_ret (v := .tuple #[.agg #[.int .i64 (k : Int), .int .i64 (actIndex p.2.1 n0), .int .i64 pn], .bool true]) (by simp [results, Tryz.results13, go_sem, c0, c1, c2]) rfl ⟨rfl, by (repeat (first | assumption | exact Bel.refl _ | apply Bel.drewN | apply Bel.drew | apply Bel.alloc | refine Bel.set ?_ (by first | exact Nat.le_refl _ | exact Nat.le_add_right _ _ | (simp; done) | (simp; omega) | omega) _ | refine Bel.trans ?_ (by assumption)))⟩
            · have hE2 : ((fmtLitV p ((k : Int), actIndex p.2.1 n0, pn)).toList == s.toList) = false := by rw [beq_eq_false_iff_ne]; intro h; exact hc (toList_inj h)
              have HNO := Lib.hid (fun l (h : LitOf p s l) (e : l.1 = (k : Int)) => hc (by have h1 := HC0.out l h; rw [e] at h1; rw [← h1]; exact h.2))
              clear hc
              go_wp2_with fail
              exact ⟨⟨k + 1, by omega, by omega, by go_num, fun l h => (by have h1 := HA.out l h; have h2 : l.1 ≠ (k : Int) := (fun e => HNO.out l h e); omega), hB.trans GF⟩, by simp [intOf]; omega⟩
      refine AllReadyH.cons rfl (fun K hK => ?_) AllReadyH.nil
      · go_simp
        refine hK.out _ _ ?_ (fun hHeld => ?_)
        · ((try dsimp only); (first | (with_reducible exact HBOX.out _ (by (repeat (first | assumption | exact Bel.refl _ | apply Bel.drewN | apply Bel.drew | apply Bel.alloc | refine Bel.set ?_ (by first | exact Nat.le_refl _ | exact Nat.le_add_right _ _ | (simp; done) | (simp; omega) | omega) _ | refine Bel.trans ?_ (by assumption))))) | exact HBOX.out _ (by (repeat (first | assumption | exact Bel.refl _ | apply Bel.drewN | apply Bel.drew | apply Bel.alloc | refine Bel.set ?_ (by first | exact Nat.le_refl _ | exact Nat.le_add_right _ _ | (simp; done) | (simp; omega) | omega) _ | refine Bel.trans ?_ (by assumption))))))
        clear hK K
        try walk_nrm
        refine wpAnyH_ready (rs := [5]) (by kernel_rfl) (by simp) ?_
        refine AllReadyH.cons rfl (fun K hK => ?_) AllReadyH.nil
        · go_simp
          (go_at_call 47; (with_reducible refine (sActivityIndex_any _ p n0 S _ (HPR.out _ (by (repeat (first | assumption | exact Bel.refl _ | apply Bel.drewN | apply Bel.drew | apply Bel.alloc | refine Bel.trans ?_ (by assumption))))).1 (HPR.out _ (by (repeat (first | assumption | exact Bel.refl _ | apply Bel.drewN | apply Bel.drew | apply Bel.alloc | refine Bel.trans ?_ (by assumption))))).2).mono ?_); rintro e wt ⟨rfl, gt⟩)
          try go_wp2_with fail
          refine hK.out _ _ ?_ (fun hHeld => ?_)
          · ((try dsimp only); (first | (with_reducible exact HBOX.out _ (by (repeat (first | assumption | exact Bel.refl _ | apply Bel.drewN | apply Bel.drew | apply Bel.alloc | refine Bel.set ?_ (by first | exact Nat.le_refl _ | exact Nat.le_add_right _ _ | (simp; done) | (simp; omega) | omega) _ | refine Bel.trans ?_ (by assumption))))) | exact HBOX.out _ (by (repeat (first | assumption | exact Bel.refl _ | apply Bel.drewN | apply Bel.drew | apply Bel.alloc | refine Bel.set ?_ (by first | exact Nat.le_refl _ | exact Nat.le_add_right _ _ | (simp; done) | (simp; omega) | omega) _ | refine Bel.trans ?_ (by assumption))))))
          clear hK K
          try walk_nrm
          refine wpAnyH_take (i := 7) (v := ?_) rfl (by kernel_rfl) (by kernel_rfl) (by kernel_rfl) (fun _ _ _ h => h) (Or.inl ⟨by rfl, ?_⟩) (by assumption) ?_
          rotate_left
          · (intro w hSw; (try dsimp only at hSw); go_simp <;> with_reducible rfl)
          try walk_nrm
          refine wpAnyH_ready (rs := [9]) (by kernel_rfl) (by simp) ?_
          refine AllReadyH.cons rfl (fun K hK => ?_) AllReadyH.nil
          · go_simp
            (first | (have hh := HBX.out wt (Bel.trans (Bel.drew (Bel.refl _)) gt); have x0 := hh.cellv (j := 0) (by simp); have x1 := hh.cellv (j := 1) (by simp); have x2 := hh.cellv (j := 2) (by simp); have y0 := hh.frozen 0; have y1 := hh.frozen 1; have y2 := hh.frozen 2; simp only [List.getElem_cons_zero, List.getElem_cons_succ] at x0 x1 x2; have HH := Lib.hid hh; clear hh; go_simp) | skip)
            try go_wp2_with fail
            refine hK.out _ _ ?_ (fun hHeld => ?_)
            · ((try dsimp only); (first | (with_reducible exact HBOX.out _ (by (repeat (first | assumption | exact Bel.refl _ | apply Bel.drewN | apply Bel.drew | apply Bel.alloc | refine Bel.set ?_ (by first | exact Nat.le_refl _ | exact Nat.le_add_right _ _ | (simp; done) | (simp; omega) | omega) _ | refine Bel.trans ?_ (by assumption))))) | exact HBOX.out _ (by (repeat (first | assumption | exact Bel.refl _ | apply Bel.drewN | apply Bel.drew | apply Bel.alloc | refine Bel.set ?_ (by first | exact Nat.le_refl _ | exact Nat.le_add_right _ _ | (simp; done) | (simp; omega) | omega) _ | refine Bel.trans ?_ (by assumption))))))
            clear hK K
            try walk_nrm
            refine wpAnyH_done (by kernel_rfl) ?_ _
            go_wp2_with fail
            refine (sFormatLiteral_any _ p S ((k : Int), actIndex p.2.1 n0, pn) _ (HPR.out _ (GB.trans (by (repeat (first | assumption | exact Bel.refl _ | apply Bel.drewN | apply Bel.drew | apply Bel.alloc | refine Bel.set ?_ (by first | exact Nat.le_refl _ | exact Nat.le_add_right _ _ | (simp; done) | (simp; omega) | omega) _ | refine Bel.trans ?_ (by assumption)))))).1 (HPR.out _ (GB.trans (by (repeat (first | assumption | exact Bel.refl _ | apply Bel.drewN | apply Bel.drew | apply Bel.alloc | refine Bel.set ?_ (by first | exact Nat.le_refl _ | exact Nat.le_add_right _ _ | (simp; done) | (simp; omega) | omega) _ | refine Bel.trans ?_ (by assumption)))))).2 HNB.out).mono ?_
            rintro e wf ⟨rfl, gf⟩
            have HT := Lib.hid (show Blk wf wr.heap.size 43 [.int .i64 (k : Int), .int .i64 (actIndex p.2.1 n0), .int .i64 pn] from (((HH.out.set 0 (.int .i64 (k : Int))).set 1 (.int .i64 (actIndex p.2.1 n0))).set 2 (.int .i64 pn)).bel gf)
            have t0 := HT.out.cellv (j := 0) (by simp)
            have t1 := HT.out.cellv (j := 1) (by simp)
            have t2 := HT.out.cellv (j := 2) (by simp)
            simp only [List.getElem_cons_zero, List.getElem_cons_succ] at t0 t1 t2
            have GF : Bel wr wf := by (repeat (first | assumption | exact Bel.refl _ | apply Bel.drewN | apply Bel.drew | apply Bel.alloc | refine Bel.set ?_ (by first | exact Nat.le_refl _ | exact Nat.le_add_right _ _ | (simp; done) | (simp; omega) | omega) _ | refine Bel.trans ?_ (by assumption)))
            by_cases hc : fmtLitV p ((k : Int), actIndex p.2.1 n0, pn) = s
            · have hE2 : ((fmtLitV p ((k : Int), actIndex p.2.1 n0, pn)).toList == s.toList) = true := by rw [hc]; simp
              by_cases he : s = ⟨#[]⟩
              · have HNO := Lib.hid (fun l (h : LitOf p s l) (_ : l.1 = (k : Int)) => litOf_ne h he)
                have hE1 : s.toList.isEmpty = true := by rw [he, ByteArray.toList_eq]; rfl
                have hE0 : s.toList = [] := by rw [he, ByteArray.toList_eq]
                have hE3 : (fmtLitV p ((k : Int), actIndex p.2.1 n0, pn)).toList = [] := by rw [hc, hE0]
                clear he hc
                go_wp2_with fail
                exact ⟨⟨k + 1, by omega, by omega, by go_num, fun l h => (by have h1 := HA.out l h; have h2 : l.1 ≠ (k : Int) := (fun e => HNO.out l h e); omega), hB.trans GF⟩, by simp [intOf]; omega⟩
              · have HF := Lib.hid (parseLit_of (litOf_fmt hc he))
                have hE0 : ¬ s.toList = [] := fun h => he (toList_inj (h.trans (by rw [ByteArray.toList_eq])))
                have hE1 : s.toList.isEmpty = false := by cases hl : s.toList with | nil => exact absurd hl hE0 | cons _ _ => rfl
                have HRF := Lib.hid (HRW.out.bel GF)
                have f0 := HRF.out.frozen 0
                have f1 := HRF.out.frozen 1
                have f2 := HRF.out.frozen 2
                have c0 := HRF.out.cellv (j := 0) (by simp)
                have c1 := HRF.out.cellv (j := 1) (by simp)
                have c2 := HRF.out.cellv (j := 2) (by simp)
                simp only [List.getElem_cons_zero, List.getElem_cons_succ] at c0 c1 c2
                have GWF : Bel w wf := GB.trans GF
                clear he hc
                go_wp2_with fail
                rw [HF.out]
                exact bodyPost_ret (v := .tuple #[.agg #[.int .i64 (k : Int), .int .i64 (actIndex p.2.1 n0), .int .i64 pn], .bool true]) (by simp [results, Tryz.results13, go_sem, c0, c1, c2]) rfl ⟨rfl, by (repeat (first | assumption | exact Bel.refl _ | apply Bel.drewN | apply Bel.drew | apply Bel.alloc | refine Bel.set ?_ (by first | exact Nat.le_refl _ | exact Nat.le_add_right _ _ | (simp; done) | (simp; omega) | omega) _ | refine Bel.trans ?_ (by assumption)))⟩
            · have hE2 : ((fmtLitV p ((k : Int), actIndex p.2.1 n0, pn)).toList == s.toList) = false := by rw [beq_eq_false_iff_ne]; intro h; exact hc (toList_inj h)
              have HNO := Lib.hid (fun l (h : LitOf p s l) (e : l.1 = (k : Int)) => hc (by have h1 := HC0.out l h; rw [e] at h1; rw [← h1]; exact h.2))
              clear hc
              go_wp2_with fail
              exact ⟨⟨k + 1, by omega, by omega, by go_num, fun l h => (by have h1 := HA.out l h; have h2 : l.1 ≠ (k : Int) := (fun e => HNO.out l h e); omega), hB.trans GF⟩, by simp [intOf]; omega⟩
    · obtain rfl : k = 5 := by omega
      have HF := Lib.hid (parseLit_no (p := p) (s := s) fun l h => by have h1 := HA.out l h; have h2 := (HSG.out l h).2; omega)
      have f0 := HRW.out.frozen 0
      have f1 := HRW.out.frozen 1
      have f2 := HRW.out.frozen 2
      have c0 := HRW.out.cellv (j := 0) (by simp)
      have c1 := HRW.out.cellv (j := 1) (by simp)
      have c2 := HRW.out.cellv (j := 2) (by simp)
      simp only [List.getElem_cons_zero, List.getElem_cons_succ] at c0 c1 c2
      go_wp2_with fail
      rw [HF.out]
      exact bodyPost_ret (v := .tuple #[.agg #[.int .i64 0, .int .i64 0, .int .i64 0], .bool false]) (by simp [results, Tryz.results13, go_sem, c0, c1, c2]) rfl ⟨rfl, by (repeat (first | assumption | exact Bel.refl _ | apply Bel.drewN | apply Bel.drew | apply Bel.alloc | refine Bel.set ?_ (by first | exact Nat.le_refl _ | exact Nat.le_add_right _ _ | (simp; done) | (simp; omega) | omega) _ | refine Bel.trans ?_ (by assumption)))⟩

end Go.Proofs.YtkfpciggolkjeaaGreatDoor
