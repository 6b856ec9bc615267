/- SingletonDomain, both sides. -/
import Derived.Test.YtjeeajgijdcdbaaAppsK
import Derived.Test.YtjeeajgijdcdbaaHas
import Derived.Test.YtjeeajgijdcdbaaOwnS
import Derived.Deep.RegionHeld3
import Derived.Deep.Cut
import Derived.Conc.WalkWords
import Derived.Deep.DrawnRows
import Derived.Deep.DeepCutAuto
namespace Go.Proofs.Ytjeeajgijdcdbaa
open Go.ChangeShapes Go.WideShapes Go.ChangeAt Go.RowKit
set_option linter.unusedVariables false

def singV (s : SchT) : DomT := (s.1, s.1, s.2.map fun m => [m])
theorem singV_len (s : SchT) (h : bulkSchedule s ≤ 1048576) : domC (domN (singV s)) ≤ 4194304 := by
  unfold bulkSchedule bulkIntS at h
  have key : ∀ l : List Int, sumL ((l.map fun m => [m]).map List.length) = l.length := by
    intro l
    induction l with
    | nil => rfl
    | cons a l ih =>
      show 1 + sumL ((l.map fun m => [m]).map List.length) = l.length + 1
      rw [ih]
      omega
  have e := key s.2
  simp only [singV, domC, domN, e]
  omega
theorem ints_i64 {S : Nat → Prop} {w : World} {v : Value} {xs : List Int} (h : intsR S w [v] xs) {i : Nat} (hi : i < xs.length) : I64 (xs.getD i 0) := by
  obtain ⟨p', cap', _, _, _, h4⟩ := h
  obtain ⟨b, off, ecs, e1, e2, e3, e4, e5, e6⟩ := h4 i hi
  rw [List.getD_eq_getElem?_getD, List.getElem?_eq_getElem hi]
  exact e6
theorem take_one {l : List Int} {k : Nat} (h : k < l.length) : (l.take (k + 1)).map (fun m => [m]) = (l.take k).map (fun m => [m]) ++ [[l.getD k 0]] := by
  rw [List.take_succ_eq_append_getElem h, List.map_append, List.getD_eq_getElem?_getD, List.getElem?_eq_getElem h]
  rfl
theorem allocS {w : World} {g : Nat} {o o' : Obj} (h : w.heap[g]? = some o) : (w.alloc o').heap[g]? = some o := by
  have hlt := (Array.getElem?_eq_some_iff.1 h).1
  rw [← h]
  show (w.heap.push _)[g]? = _
  rw [Array.getElem?_push, if_neg (by omega)]
theorem Blk.belowS {B : Nat} {w w' : World} {g : Nat} {e : TypeId} {arr : List Value} (h : Blk w g e arr) (hd : Below B w w') (hg : g < B) : Blk w' g e arr := by
  unfold Blk at h ⊢
  rw [Below.block hd g hg]
  exact h
theorem Blk.farS {w w' : World} {g : Nat} {e : TypeId} {arr : List Value} {q q' : Option Addr} (h : Blk w g e arr) (hf : FarA w w' q q') (hq : ∀ a, q = some a → a.block ≠ g) : Blk w' g e arr := by
  have := hf g h.lt (fun a ha e => hq a ha e.symm)
  unfold Blk at h ⊢
  rw [this.1]
  exact h
section
variable {t1 t2 : TypeId} {B : Nat} {X Y : List Int} {VS : List Value} {RS : List (List Int)} {q1 q2 q3 : Option Addr} {c1 c2 c3 : Nat} {G : Nat → Nat → Prop}
/-- A store into a block that is none of the domain's. -/
theorem Dom3.setS {w : World} (h : Dom3 t1 t2 B w X Y VS RS q1 c1 q2 c2 q3 c3 G) {g : Nat} (h1 : ∀ a, q1 = some a → a.block ≠ g) (h2 : ∀ a, q2 = some a → a.block ≠ g) (h3 : ∀ a, q3 = some a → a.block ≠ g) (hr : ∀ i b, i < RS.length → G i b → b ≠ g) (j : Nat) (u : Value) : Dom3 t1 t2 B (w.setCell ⟨g, j, none⟩ u) X Y VS RS q1 c1 q2 c2 q3 c3 G where
  o1 := h.o1.setAt intR_good (fun a ha => (h1 a ha).symm) j u
  o2 := h.o2.setAt intR_good (fun a ha => (h2 a ha).symm) j u
  o3 := h.o3.setAt valR_good (fun a ha => (h3 a ha).symm) j u
  a12 := h.a12
  a13 := h.a13
  a23 := h.a23
  len := h.len
  row := fun i hi => intsR_good.stay (h.row i hi) fun b hb => Below.heap_setCell _ _ _ _ (hr i b hi hb)
  sub := fun i b hi hb => ⟨(h.sub i b hi hb).1, by have := (h.sub i b hi hb).2; simp [World.setCell]; exact this⟩
  gq := h.gq
  ap := h.ap
end
theorem row_ne {RS : List (List Int)} {r : List Int} {GG : Nat → Nat → Prop} {n g : Nat} (hn : g < n) (h : ∀ i b, i < RS.length → GG i b → b ≠ g) : ∀ i b, i < (RS ++ [r]).length → (if i = RS.length then (fun b => b = n) else GG i) b → b ≠ g := by
  intro i b hi hb
  rw [List.length_append, List.length_singleton] at hi
  by_cases e : i = RS.length
  · rw [if_pos e] at hb
    have hb' : b = n := hb
    omega
  · rw [if_neg e] at hb
    exact h i b (by omega) hb
set_option maxRecDepth 100000 in
set_option maxHeartbeats 8000000 in
theorem sSingletonDomain_any (v : Value) (s : SchT) (T : Nat → Prop) (w : World) (hs : aggR schR T w v s) (hT : ∀ b, T b → b < w.heap.size) (_hn : bulkSchedule s ≤ 1048576) :
    Calls Try.prog 5 #[v] w (FreshA domM w (singV s)) := by
  obtain ⟨zs, rfl, hs⟩ := hs
  obtain ⟨z0, z1, rfl, zq0, zq1⟩ := schR_open hs
  have HQ0 := zq0
  have A1 := Lib.hid (fun i hi => intsR_at' zq1 (i := i) hi)
  have HI := Lib.hid (fun i hi => ints_i64 zq1 (i := i) hi)
  obtain ⟨sp0, sk0, rfl, sl0, sl0', -⟩ := sliceR_open zq0
  obtain ⟨sp1, sk1, rfl, sl1, sl1', -⟩ := sliceR_open zq1
  have HQ0 := Lib.hid HQ0
  have HT := Lib.hid hT
  unfold bulkSchedule bulkIntS at _hn
  have hl0 : s.1.length ≤ 1048576 := by omega
  have hl1 : s.2.length ≤ 1048576 := by omega
  clear hs zq0 zq1 hT _hn sl0 sl0' sl1 sl1'
  show Calls Try.prog 5 #[.agg #[.slice sp0 s.1.length sk0, .slice sp1 s.2.length sk1]] w _
  go_enter Try.func5, Try.ntmps5
  go_upto_region 1 with (fail)
  obtain ⟨W0, hW0⟩ : ∃ W, W = (w.alloc (.cells #[.slice sp0 s.1.length sk0, .slice sp1 s.2.length sk1] 30)).alloc (.cells #[.slice none 0 0, .slice none 0 0, .slice none 0 0] 28) := ⟨_, rfl⟩
  rw [← hW0]
  have hwW0 : Bel w W0 := by rw [hW0]; (repeat (first | assumption | exact Bel.refl _ | apply Bel.drewN | apply Bel.drew | apply Bel.alloc | refine Bel.trans ?_ (by assumption)))
  have HBX := Lib.hid (show ∀ W, Bel W0 W → W.cell? ⟨w.heap.size, 0, none⟩ = some (.slice sp0 s.1.length sk0) ∧ W.cell? ⟨w.heap.size, 1, none⟩ = some (.slice sp1 s.2.length sk1) from fun W hW => ⟨hW.cell (by rw [hW0]; simp [go_sem]), hW.cell (by rw [hW0]; simp [go_sem])⟩)
  have HBRz := Lib.hid (show Blk W0 (w.heap.size + 1) 28 [.slice none 0 0, .slice none 0 0, .slice none 0 0] from by rw [hW0]; exact Blk.new' _ (by simp))
  have hzW0 : (w.heap.size + 1) + 1 ≤ W0.heap.size := by rw [hW0]; simp
  have HW0 := Lib.hid hW0
  clear hW0
  have HST0 := Lib.hid (show ∀ W, Bel W0 W → intsR T W [.slice sp0 s.1.length sk0] s.1 from fun W hW => intsR_good.bel HQ0.out (hwW0.trans hW) HT.out)
  go_cut [3] (fun sl wx => ∃ (g : Nat) (q1 : Option Addr) (c1 : Nat) (q2 : Option Addr) (c2 : Nat), sl = .pointer (some ⟨g, 0, none⟩) ∧ W0.heap.size ≤ g ∧ Blk wx g 28 [.slice q1 s.1.length c1, .slice q2 s.1.length c2, .slice none 0 0] ∧ OwnI 3 W0.heap.size wx q1 c1 s.1 ∧ OwnI 3 W0.heap.size wx q2 c2 s.1 ∧ ApartD q1 q2 ∧ (∀ a, q1 = some a → a.block ≠ g) ∧ (∀ a, q2 = some a → a.block ≠ g) ∧ Bel W0 wx)
  case first =>
    have G := Lib.hid (show Bel W0 W0.drew ∧ True from ⟨(Bel.refl _).drew, trivial⟩)
    refine wp_region_held_drew (S := (fun W => W.cell? ⟨w.heap.size, 0, none⟩ = some (.slice sp0 s.1.length sk0) ∧ W.cell? ⟨w.heap.size, 1, none⟩ = some (.slice sp1 s.2.length sk1))) (by kernel_rfl) ?_ (fun hHeld => ?_)
    · ((try dsimp only); (first | exact HBX.out _ G.out.1 | exact HBX.out _ (Bel.refl _) | exact HBX.out _ (by have G1 := G.out.1; (repeat (first | assumption | exact Bel.refl _ | apply Bel.drewN | apply Bel.drew | apply Bel.alloc | refine Bel.set ?_ (by first | exact Nat.le_refl _ | exact Nat.le_add_right _ _ | (simp; done) | (simp; omega) | omega) _ | refine Bel.trans ?_ (by assumption))))))
    refine wpAnyH_take (i := 1) (v := ?_) rfl (by kernel_rfl) (by kernel_rfl) (by kernel_rfl) (fun _ _ _ h => h) (Or.inl ⟨by rfl, ?_⟩) (by assumption) ?_
    rotate_left
    · (intro w hSw; (try dsimp only at hSw); go_simp <;> with_reducible rfl)
    try walk_nrm
    refine wpAnyH_take (i := 2) (v := ?_) rfl (by kernel_rfl) (by kernel_rfl) (by kernel_rfl) (fun _ _ _ h => h) (Or.inl ⟨by rfl, ?_⟩) (by assumption) ?_
    rotate_left
    · (intro w hSw; (try dsimp only at hSw); go_simp <;> with_reducible rfl)
    try walk_nrm
    refine wpAnyH_take (i := 5) (v := ?_) rfl (by kernel_rfl) (by kernel_rfl) (by kernel_rfl) (fun _ _ _ h => h) (Or.inl ⟨by rfl, ?_⟩) (by assumption) ?_
    rotate_left
    · (intro w hSw; (try dsimp only at hSw); go_simp <;> with_reducible rfl)
    try walk_nrm
    refine wpAnyH_take (i := 6) (v := ?_) rfl (by kernel_rfl) (by kernel_rfl) (by kernel_rfl) (fun _ _ _ h => h) (Or.inl ⟨by rfl, ?_⟩) (by assumption) ?_
    rotate_left
    · (intro w hSw; (try dsimp only at hSw); go_simp <;> with_reducible rfl)
    try walk_nrm
    refine wpAnyH_ready (rs := [0, 4, 9]) (by kernel_rfl) (by simp) ?_
    refine AllReadyH.cons rfl (fun K hK => ?_) ?_
    · go_simp
      (refine nameK ?_; intro V0 hV0; obtain ⟨g0, e0, L0, c0, lb0, ub0⟩ := (by first | exact alloc_block hV0 | exact alloc_blockD hV0 : AllocB _ V0 _); (try simp only [World.size_drew] at e0 lb0); rw [e0]; clear hV0 e0; (try have E0 := Lib.hid (E0.out.bel L0)); (try have E4 := Lib.hid (E4.out.bel L0)); (try have R1 := Lib.hid (R1.out.bel L0)); (try have R2 := Lib.hid (R2.out.bel L0)); (try have HB9 := Lib.hid (HB9.out.bel L0)); have szq0 := G.out.1.size; have E0 := Lib.hid (OwnI.empty (e := 3) (B := W0.heap.size) c0 (by (try simp only [World.size_drew] at *); omega)); clear c0; have G := Lib.hid (show Bel W0 V0 ∧ True from ⟨by first | exact G.out.1.trans L0 | exact L0, trivial⟩); have szgV0 := G.out.1.size; have szlV0 := L0.size; clear L0; skip)
      try go_wp2_with fail
      refine hK.out _ _ ?_ (fun hHeld => ?_)
      · ((try dsimp only); (first | exact HBX.out _ G.out.1 | exact HBX.out _ (Bel.refl _) | exact HBX.out _ (by have G1 := G.out.1; (repeat (first | assumption | exact Bel.refl _ | apply Bel.drewN | apply Bel.drew | apply Bel.alloc | refine Bel.set ?_ (by first | exact Nat.le_refl _ | exact Nat.le_add_right _ _ | (simp; done) | (simp; omega) | omega) _ | refine Bel.trans ?_ (by assumption))))))
      clear hK K
      try walk_nrm
      refine wpAnyH_ready (rs := [3, 4, 9]) (by kernel_rfl) (by simp) ?_
      refine AllReadyH.cons rfl (fun K hK => ?_) ?_
      · (refine step_appsK (o := ⟨some 9, _, _, _, _, _⟩) (e := 3) (B := W0.heap.size) _ (by rfl) _ _ 22 (by rfl) (.int .i64 0) 8 Try.underlying22 (by kernel_rfl) rfl (by decide) (some ⟨g0, 0, none⟩) 0 0 [] (by rfl) E0.out rfl sp0 s.1.length sk0 s.1 T (by rfl) (HST0.out _ G.out.1) rfl (by simp; omega) (by have := G.out.1.size; omega) ?_; intro q1 c1 wA hO hG hN; clear hN; have szp := hG.size; (try have N14 := Lib.hid (fun a (ha : q1 = some a) => (hG.at (E4.out.lt (a := ⟨g4, 0, none⟩) rfl).2 (fun a' ha' => by cases ha'; show g4 ≠ g0; omega)).2 a ha)); (try have E4 := Lib.hid (E4.out.keep (fun a ha => by cases ha; exact (hG.at (E4.out.lt (a := ⟨g4, 0, none⟩) rfl).2 (fun a' ha' => by cases ha'; show g4 ≠ g0; omega)).1))); (try have N19 := Lib.hid (fun a (ha : q1 = some a) => (hG.at HB9.out.lt (fun a' ha' => by cases ha'; show g9 ≠ g0; omega)).2 a ha)); (try have HB9 := Lib.hid (HB9.out.of (hG.at HB9.out.lt (fun a' ha' => by cases ha'; show g9 ≠ g0; omega)).1)); have R1 := Lib.hid (show OwnI 3 W0.heap.size wA q1 c1 s.1 from by simpa using hO); have G := Lib.hid (show Bel W0 wA ∧ True from ⟨hG.bel W0 G.out.1 (Nat.le_refl _), trivial⟩); have szgwA := G.out.1.size; clear hO hG)
        refine hK.out _ _ ?_ (fun hHeld => ?_)
        · ((try dsimp only); (first | exact HBX.out _ G.out.1 | exact HBX.out _ (Bel.refl _) | exact HBX.out _ (by have G1 := G.out.1; (repeat (first | assumption | exact Bel.refl _ | apply Bel.drewN | apply Bel.drew | apply Bel.alloc | refine Bel.set ?_ (by first | exact Nat.le_refl _ | exact Nat.le_add_right _ _ | (simp; done) | (simp; omega) | omega) _ | refine Bel.trans ?_ (by assumption))))))
        clear hK K
        try walk_nrm
        refine wpAnyH_ready (rs := [4, 9]) (by kernel_rfl) (by simp) ?_
        refine AllReadyH.cons rfl (fun K hK => ?_) ?_
        · go_simp
          (refine nameK ?_; intro V4 hV4; obtain ⟨g4, e4, L4, c4, lb4, ub4⟩ := (by first | exact alloc_block hV4 | exact alloc_blockD hV4 : AllocB _ V4 _); (try simp only [World.size_drew] at e4 lb4); rw [e4]; clear hV4 e4; (try have N14 := Lib.hid (fun a (ha : q1 = some a) => (show a.block ≠ g4 from by have := (R1.out.lt ha).2; omega))); (try have E0 := Lib.hid (E0.out.bel L4)); (try have E4 := Lib.hid (E4.out.bel L4)); (try have R1 := Lib.hid (R1.out.bel L4)); (try have R2 := Lib.hid (R2.out.bel L4)); (try have HB9 := Lib.hid (HB9.out.bel L4)); have szq4 := G.out.1.size; have E4 := Lib.hid (OwnI.empty (e := 3) (B := W0.heap.size) c4 (by (try simp only [World.size_drew] at *); omega)); clear c4; have G := Lib.hid (show Bel W0 V4 ∧ True from ⟨by first | exact G.out.1.trans L4 | exact L4, trivial⟩); have szgV4 := G.out.1.size; have szlV4 := L4.size; clear L4; skip)
          try go_wp2_with fail
          refine hK.out _ _ ?_ (fun hHeld => ?_)
          · ((try dsimp only); (first | exact HBX.out _ G.out.1 | exact HBX.out _ (Bel.refl _) | exact HBX.out _ (by have G1 := G.out.1; (repeat (first | assumption | exact Bel.refl _ | apply Bel.drewN | apply Bel.drew | apply Bel.alloc | refine Bel.set ?_ (by first | exact Nat.le_refl _ | exact Nat.le_add_right _ _ | (simp; done) | (simp; omega) | omega) _ | refine Bel.trans ?_ (by assumption))))))
          clear hK K
          try walk_nrm
          refine wpAnyH_ready (rs := [7, 9]) (by kernel_rfl) (by simp) ?_
          refine AllReadyH.cons rfl (fun K hK => ?_) ?_
          · (refine step_appsK (o := ⟨some 13, _, _, _, _, _⟩) (e := 3) (B := W0.heap.size) _ (by rfl) _ _ 22 (by rfl) (.int .i64 0) 8 Try.underlying22 (by kernel_rfl) rfl (by decide) (some ⟨g4, 0, none⟩) 0 0 [] (by rfl) E4.out rfl sp0 s.1.length sk0 s.1 T (by rfl) (HST0.out _ G.out.1) rfl (by simp; omega) (by have := G.out.1.size; omega) ?_; intro q2 c2 wB hO hG hN; clear hN; have szp := hG.size; have N12 := Lib.hid (fun a b (ha : q1 = some a) (hb : q2 = some b) => (fun e => (hG.at (R1.out.lt ha).2 (fun a' ha' => by cases ha'; exact N14.out a ha)).2 b hb e.symm : a.block ≠ b.block)); have R1 := Lib.hid (R1.out.keep (fun a ha => (hG.at (R1.out.lt ha).2 (fun a' ha' => by cases ha'; exact N14.out a ha)).1)); (try have N29 := Lib.hid (fun a (ha : q2 = some a) => (hG.at HB9.out.lt (fun a' ha' => by cases ha'; show g9 ≠ g4; omega)).2 a ha)); (try have HB9 := Lib.hid (HB9.out.of (hG.at HB9.out.lt (fun a' ha' => by cases ha'; show g9 ≠ g4; omega)).1)); have R2 := Lib.hid (show OwnI 3 W0.heap.size wB q2 c2 s.1 from by simpa using hO); have G := Lib.hid (show Bel W0 wB ∧ True from ⟨hG.bel W0 G.out.1 (Nat.le_refl _), trivial⟩); have szgwB := G.out.1.size; clear hO hG)
            refine hK.out _ _ ?_ (fun hHeld => ?_)
            · ((try dsimp only); (first | exact HBX.out _ G.out.1 | exact HBX.out _ (Bel.refl _) | exact HBX.out _ (by have G1 := G.out.1; (repeat (first | assumption | exact Bel.refl _ | apply Bel.drewN | apply Bel.drew | apply Bel.alloc | refine Bel.set ?_ (by first | exact Nat.le_refl _ | exact Nat.le_add_right _ _ | (simp; done) | (simp; omega) | omega) _ | refine Bel.trans ?_ (by assumption))))))
            clear hK K
            try walk_nrm
            refine wpAnyH_take (i := 8) (v := ?_) rfl (by kernel_rfl) (by kernel_rfl) (by kernel_rfl) (fun _ _ _ h => h) (Or.inl ⟨by rfl, ?_⟩) (by assumption) ?_
            rotate_left
            · (intro w hSw; (try dsimp only at hSw); go_simp <;> with_reducible rfl)
            try walk_nrm
            refine wpAnyH_ready (rs := [9]) (by kernel_rfl) (by simp) ?_
            refine AllReadyH.cons rfl (fun K hK => ?_) AllReadyH.nil
            · go_simp
              (refine nameK ?_; intro V9 hV9; obtain ⟨g9, e9, L9, c9, lb9, ub9⟩ := (by first | exact alloc_block hV9 | exact alloc_blockD hV9 : AllocB _ V9 _); (try simp only [World.size_drew] at e9 lb9); rw [e9]; clear hV9 e9; (try have N19 := Lib.hid (fun a (ha : q1 = some a) => (show a.block ≠ g9 from by have := (R1.out.lt ha).2; omega))); (try have N29 := Lib.hid (fun a (ha : q2 = some a) => (show a.block ≠ g9 from by have := (R2.out.lt ha).2; omega))); (try have E0 := Lib.hid (E0.out.bel L9)); (try have E4 := Lib.hid (E4.out.bel L9)); (try have R1 := Lib.hid (R1.out.bel L9)); (try have R2 := Lib.hid (R2.out.bel L9)); (try have HB9 := Lib.hid (HB9.out.bel L9)); have HB9 := Lib.hid (show Blk V9 g9 28 [.slice none 0 0, .slice none 0 0, .slice none 0 0] from c9); clear c9; have G := Lib.hid (show Bel W0 V9 ∧ True from ⟨by first | exact G.out.1.trans L9 | exact L9, trivial⟩); have szgV9 := G.out.1.size; have szlV9 := L9.size; clear L9; skip)
              try go_wp2_with fail
              refine hK.out _ _ ?_ (fun hHeld => ?_)
              · ((try dsimp only); (first | exact HBX.out _ G.out.1 | exact HBX.out _ (Bel.refl _) | exact HBX.out _ (by have G1 := G.out.1; (repeat (first | assumption | exact Bel.refl _ | apply Bel.drewN | apply Bel.drew | apply Bel.alloc | refine Bel.set ?_ (by first | exact Nat.le_refl _ | exact Nat.le_add_right _ _ | (simp; done) | (simp; omega) | omega) _ | refine Bel.trans ?_ (by assumption))))))
              clear hK K
              try walk_nrm
              refine wpAnyH_ready (rs := [10]) (by kernel_rfl) (by simp) ?_
              refine AllReadyH.cons rfl (fun K hK => ?_) AllReadyH.nil
              · go_simp
                (first | (have x0 := HB9.out.cellv (j := 0) (by simp); have x1 := HB9.out.cellv (j := 1) (by simp); have x2 := HB9.out.cellv (j := 2) (by simp); simp only [List.getElem_cons_zero, List.getElem_cons_succ] at x0 x1 x2; have y0 := HB9.out.frozen 0; have y1 := HB9.out.frozen 1; have y2 := HB9.out.frozen 2; go_simp) | skip)
                try go_wp2_with fail
                refine hK.out _ _ ?_ (fun hHeld => ?_)
                · ((try dsimp only); (first | exact HBX.out _ G.out.1 | exact HBX.out _ (Bel.refl _) | exact HBX.out _ (by have G1 := G.out.1; (repeat (first | assumption | exact Bel.refl _ | apply Bel.drewN | apply Bel.drew | apply Bel.alloc | refine Bel.set ?_ (by first | exact Nat.le_refl _ | exact Nat.le_add_right _ _ | (simp; done) | (simp; omega) | omega) _ | refine Bel.trans ?_ (by assumption))))))
                clear hK K
                try walk_nrm
                refine wpAnyH_done (by kernel_rfl) ?_ _
                go_wp2_with fail
                go_meet
                exact ⟨g9, q1, c1, q2, c2, rfl, by omega, ((HB9.out.set 0 (.slice q1 s.1.length c1)).set 1 (.slice q2 s.1.length c2)).set 2 (.slice none 0 0), OwnI.ofOwn (((R1.out.toOwn.setAt intR_good (q := g9) (fun a ha => (N19.out a ha).symm) 0 (.slice q1 s.1.length c1)).setAt intR_good (q := g9) (fun a ha => (N19.out a ha).symm) 1 (.slice q2 s.1.length c2)).setAt intR_good (q := g9) (fun a ha => (N19.out a ha).symm) 2 (.slice none 0 0)), OwnI.ofOwn (((R2.out.toOwn.setAt intR_good (q := g9) (fun a ha => (N29.out a ha).symm) 0 (.slice q1 s.1.length c1)).setAt intR_good (q := g9) (fun a ha => (N29.out a ha).symm) 1 (.slice q2 s.1.length c2)).setAt intR_good (q := g9) (fun a ha => (N29.out a ha).symm) 2 (.slice none 0 0)), N12.out, N19.out, N29.out, by have G1 := G.out.1; (repeat (first | assumption | exact Bel.refl _ | apply Bel.drewN | apply Bel.drew | apply Bel.alloc | refine Bel.set ?_ (by first | exact Nat.le_refl _ | exact Nat.le_add_right _ _ | (simp; done) | (simp; omega) | omega) _ | refine Bel.trans ?_ (by assumption)))⟩
          refine AllReadyH.cons rfl (fun K hK => ?_) AllReadyH.nil
          · go_simp
            (refine nameK ?_; intro V9 hV9; obtain ⟨g9, e9, L9, c9, lb9, ub9⟩ := (by first | exact alloc_block hV9 | exact alloc_blockD hV9 : AllocB _ V9 _); (try simp only [World.size_drew] at e9 lb9); rw [e9]; clear hV9 e9; (try have N19 := Lib.hid (fun a (ha : q1 = some a) => (show a.block ≠ g9 from by have := (R1.out.lt ha).2; omega))); (try have N29 := Lib.hid (fun a (ha : q2 = some a) => (show a.block ≠ g9 from by have := (R2.out.lt ha).2; omega))); (try have E0 := Lib.hid (E0.out.bel L9)); (try have E4 := Lib.hid (E4.out.bel L9)); (try have R1 := Lib.hid (R1.out.bel L9)); (try have R2 := Lib.hid (R2.out.bel L9)); (try have HB9 := Lib.hid (HB9.out.bel L9)); have HB9 := Lib.hid (show Blk V9 g9 28 [.slice none 0 0, .slice none 0 0, .slice none 0 0] from c9); clear c9; have G := Lib.hid (show Bel W0 V9 ∧ True from ⟨by first | exact G.out.1.trans L9 | exact L9, trivial⟩); have szgV9 := G.out.1.size; have szlV9 := L9.size; clear L9; skip)
            try go_wp2_with fail
            refine hK.out _ _ ?_ (fun hHeld => ?_)
            · ((try dsimp only); (first | exact HBX.out _ G.out.1 | exact HBX.out _ (Bel.refl _) | exact HBX.out _ (by have G1 := G.out.1; (repeat (first | assumption | exact Bel.refl _ | apply Bel.drewN | apply Bel.drew | apply Bel.alloc | refine Bel.set ?_ (by first | exact Nat.le_refl _ | exact Nat.le_add_right _ _ | (simp; done) | (simp; omega) | omega) _ | refine Bel.trans ?_ (by assumption))))))
            clear hK K
            try walk_nrm
            refine wpAnyH_ready (rs := [7]) (by kernel_rfl) (by simp) ?_
            refine AllReadyH.cons rfl (fun K hK => ?_) AllReadyH.nil
            · (refine step_appsK (o := ⟨some 13, _, _, _, _, _⟩) (e := 3) (B := W0.heap.size) _ (by rfl) _ _ 22 (by rfl) (.int .i64 0) 8 Try.underlying22 (by kernel_rfl) rfl (by decide) (some ⟨g4, 0, none⟩) 0 0 [] (by rfl) E4.out rfl sp0 s.1.length sk0 s.1 T (by rfl) (HST0.out _ G.out.1) rfl (by simp; omega) (by have := G.out.1.size; omega) ?_; intro q2 c2 wB hO hG hN; clear hN; have szp := hG.size; have N12 := Lib.hid (fun a b (ha : q1 = some a) (hb : q2 = some b) => (fun e => (hG.at (R1.out.lt ha).2 (fun a' ha' => by cases ha'; exact N14.out a ha)).2 b hb e.symm : a.block ≠ b.block)); have R1 := Lib.hid (R1.out.keep (fun a ha => (hG.at (R1.out.lt ha).2 (fun a' ha' => by cases ha'; exact N14.out a ha)).1)); (try have N29 := Lib.hid (fun a (ha : q2 = some a) => (hG.at HB9.out.lt (fun a' ha' => by cases ha'; show g9 ≠ g4; omega)).2 a ha)); (try have HB9 := Lib.hid (HB9.out.of (hG.at HB9.out.lt (fun a' ha' => by cases ha'; show g9 ≠ g4; omega)).1)); have R2 := Lib.hid (show OwnI 3 W0.heap.size wB q2 c2 s.1 from by simpa using hO); have G := Lib.hid (show Bel W0 wB ∧ True from ⟨hG.bel W0 G.out.1 (Nat.le_refl _), trivial⟩); have szgwB := G.out.1.size; clear hO hG)
              refine hK.out _ _ ?_ (fun hHeld => ?_)
              · ((try dsimp only); (first | exact HBX.out _ G.out.1 | exact HBX.out _ (Bel.refl _) | exact HBX.out _ (by have G1 := G.out.1; (repeat (first | assumption | exact Bel.refl _ | apply Bel.drewN | apply Bel.drew | apply Bel.alloc | refine Bel.set ?_ (by first | exact Nat.le_refl _ | exact Nat.le_add_right _ _ | (simp; done) | (simp; omega) | omega) _ | refine Bel.trans ?_ (by assumption))))))
              clear hK K
              try walk_nrm
              refine wpAnyH_take (i := 8) (v := ?_) rfl (by kernel_rfl) (by kernel_rfl) (by kernel_rfl) (fun _ _ _ h => h) (Or.inl ⟨by rfl, ?_⟩) (by assumption) ?_
              rotate_left
              · (intro w hSw; (try dsimp only at hSw); go_simp <;> with_reducible rfl)
              try walk_nrm
              refine wpAnyH_ready (rs := [10]) (by kernel_rfl) (by simp) ?_
              refine AllReadyH.cons rfl (fun K hK => ?_) AllReadyH.nil
              · go_simp
                (first | (have x0 := HB9.out.cellv (j := 0) (by simp); have x1 := HB9.out.cellv (j := 1) (by simp); have x2 := HB9.out.cellv (j := 2) (by simp); simp only [List.getElem_cons_zero, List.getElem_cons_succ] at x0 x1 x2; have y0 := HB9.out.frozen 0; have y1 := HB9.out.frozen 1; have y2 := HB9.out.frozen 2; go_simp) | skip)
                try go_wp2_with fail
                refine hK.out _ _ ?_ (fun hHeld => ?_)
                · ((try dsimp only); (first | exact HBX.out _ G.out.1 | exact HBX.out _ (Bel.refl _) | exact HBX.out _ (by have G1 := G.out.1; (repeat (first | assumption | exact Bel.refl _ | apply Bel.drewN | apply Bel.drew | apply Bel.alloc | refine Bel.set ?_ (by first | exact Nat.le_refl _ | exact Nat.le_add_right _ _ | (simp; done) | (simp; omega) | omega) _ | refine Bel.trans ?_ (by assumption))))))
                clear hK K
                try walk_nrm
                refine wpAnyH_done (by kernel_rfl) ?_ _
                go_wp2_with fail
                go_meet
                exact ⟨g9, q1, c1, q2, c2, rfl, by omega, ((HB9.out.set 0 (.slice q1 s.1.length c1)).set 1 (.slice q2 s.1.length c2)).set 2 (.slice none 0 0), OwnI.ofOwn (((R1.out.toOwn.setAt intR_good (q := g9) (fun a ha => (N19.out a ha).symm) 0 (.slice q1 s.1.length c1)).setAt intR_good (q := g9) (fun a ha => (N19.out a ha).symm) 1 (.slice q2 s.1.length c2)).setAt intR_good (q := g9) (fun a ha => (N19.out a ha).symm) 2 (.slice none 0 0)), OwnI.ofOwn (((R2.out.toOwn.setAt intR_good (q := g9) (fun a ha => (N29.out a ha).symm) 0 (.slice q1 s.1.length c1)).setAt intR_good (q := g9) (fun a ha => (N29.out a ha).symm) 1 (.slice q2 s.1.length c2)).setAt intR_good (q := g9) (fun a ha => (N29.out a ha).symm) 2 (.slice none 0 0)), N12.out, N19.out, N29.out, by have G1 := G.out.1; (repeat (first | assumption | exact Bel.refl _ | apply Bel.drewN | apply Bel.drew | apply Bel.alloc | refine Bel.set ?_ (by first | exact Nat.le_refl _ | exact Nat.le_add_right _ _ | (simp; done) | (simp; omega) | omega) _ | refine Bel.trans ?_ (by assumption)))⟩
        refine AllReadyH.cons rfl (fun K hK => ?_) AllReadyH.nil
        · go_simp
          (refine nameK ?_; intro V9 hV9; obtain ⟨g9, e9, L9, c9, lb9, ub9⟩ := (by first | exact alloc_block hV9 | exact alloc_blockD hV9 : AllocB _ V9 _); (try simp only [World.size_drew] at e9 lb9); rw [e9]; clear hV9 e9; (try have N19 := Lib.hid (fun a (ha : q1 = some a) => (show a.block ≠ g9 from by have := (R1.out.lt ha).2; omega))); (try have N29 := Lib.hid (fun a (ha : q2 = some a) => (show a.block ≠ g9 from by have := (R2.out.lt ha).2; omega))); (try have E0 := Lib.hid (E0.out.bel L9)); (try have E4 := Lib.hid (E4.out.bel L9)); (try have R1 := Lib.hid (R1.out.bel L9)); (try have R2 := Lib.hid (R2.out.bel L9)); (try have HB9 := Lib.hid (HB9.out.bel L9)); have HB9 := Lib.hid (show Blk V9 g9 28 [.slice none 0 0, .slice none 0 0, .slice none 0 0] from c9); clear c9; have G := Lib.hid (show Bel W0 V9 ∧ True from ⟨by first | exact G.out.1.trans L9 | exact L9, trivial⟩); have szgV9 := G.out.1.size; have szlV9 := L9.size; clear L9; skip)
          try go_wp2_with fail
          refine hK.out _ _ ?_ (fun hHeld => ?_)
          · ((try dsimp only); (first | exact HBX.out _ G.out.1 | exact HBX.out _ (Bel.refl _) | exact HBX.out _ (by have G1 := G.out.1; (repeat (first | assumption | exact Bel.refl _ | apply Bel.drewN | apply Bel.drew | apply Bel.alloc | refine Bel.set ?_ (by first | exact Nat.le_refl _ | exact Nat.le_add_right _ _ | (simp; done) | (simp; omega) | omega) _ | refine Bel.trans ?_ (by assumption))))))
          clear hK K
          try walk_nrm
          refine wpAnyH_ready (rs := [4]) (by kernel_rfl) (by simp) ?_
          refine AllReadyH.cons rfl (fun K hK => ?_) AllReadyH.nil
          · go_simp
            (refine nameK ?_; intro V4 hV4; obtain ⟨g4, e4, L4, c4, lb4, ub4⟩ := (by first | exact alloc_block hV4 | exact alloc_blockD hV4 : AllocB _ V4 _); (try simp only [World.size_drew] at e4 lb4); rw [e4]; clear hV4 e4; (try have N14 := Lib.hid (fun a (ha : q1 = some a) => (show a.block ≠ g4 from by have := (R1.out.lt ha).2; omega))); (try have E0 := Lib.hid (E0.out.bel L4)); (try have E4 := Lib.hid (E4.out.bel L4)); (try have R1 := Lib.hid (R1.out.bel L4)); (try have R2 := Lib.hid (R2.out.bel L4)); (try have HB9 := Lib.hid (HB9.out.bel L4)); have szq4 := G.out.1.size; have E4 := Lib.hid (OwnI.empty (e := 3) (B := W0.heap.size) c4 (by (try simp only [World.size_drew] at *); omega)); clear c4; have G := Lib.hid (show Bel W0 V4 ∧ True from ⟨by first | exact G.out.1.trans L4 | exact L4, trivial⟩); have szgV4 := G.out.1.size; have szlV4 := L4.size; clear L4; skip)
            try go_wp2_with fail
            refine hK.out _ _ ?_ (fun hHeld => ?_)
            · ((try dsimp only); (first | exact HBX.out _ G.out.1 | exact HBX.out _ (Bel.refl _) | exact HBX.out _ (by have G1 := G.out.1; (repeat (first | assumption | exact Bel.refl _ | apply Bel.drewN | apply Bel.drew | apply Bel.alloc | refine Bel.set ?_ (by first | exact Nat.le_refl _ | exact Nat.le_add_right _ _ | (simp; done) | (simp; omega) | omega) _ | refine Bel.trans ?_ (by assumption))))))
            clear hK K
            try walk_nrm
            refine wpAnyH_ready (rs := [7]) (by kernel_rfl) (by simp) ?_
            refine AllReadyH.cons rfl (fun K hK => ?_) AllReadyH.nil
            · (refine step_appsK (o := ⟨some 13, _, _, _, _, _⟩) (e := 3) (B := W0.heap.size) _ (by rfl) _ _ 22 (by rfl) (.int .i64 0) 8 Try.underlying22 (by kernel_rfl) rfl (by decide) (some ⟨g4, 0, none⟩) 0 0 [] (by rfl) E4.out rfl sp0 s.1.length sk0 s.1 T (by rfl) (HST0.out _ G.out.1) rfl (by simp; omega) (by have := G.out.1.size; omega) ?_; intro q2 c2 wB hO hG hN; clear hN; have szp := hG.size; have N12 := Lib.hid (fun a b (ha : q1 = some a) (hb : q2 = some b) => (fun e => (hG.at (R1.out.lt ha).2 (fun a' ha' => by cases ha'; exact N14.out a ha)).2 b hb e.symm : a.block ≠ b.block)); have R1 := Lib.hid (R1.out.keep (fun a ha => (hG.at (R1.out.lt ha).2 (fun a' ha' => by cases ha'; exact N14.out a ha)).1)); (try have N29 := Lib.hid (fun a (ha : q2 = some a) => (hG.at HB9.out.lt (fun a' ha' => by cases ha'; show g9 ≠ g4; omega)).2 a ha)); (try have HB9 := Lib.hid (HB9.out.of (hG.at HB9.out.lt (fun a' ha' => by cases ha'; show g9 ≠ g4; omega)).1)); have R2 := Lib.hid (show OwnI 3 W0.heap.size wB q2 c2 s.1 from by simpa using hO); have G := Lib.hid (show Bel W0 wB ∧ True from ⟨hG.bel W0 G.out.1 (Nat.le_refl _), trivial⟩); have szgwB := G.out.1.size; clear hO hG)
              refine hK.out _ _ ?_ (fun hHeld => ?_)
              · ((try dsimp only); (first | exact HBX.out _ G.out.1 | exact HBX.out _ (Bel.refl _) | exact HBX.out _ (by have G1 := G.out.1; (repeat (first | assumption | exact Bel.refl _ | apply Bel.drewN | apply Bel.drew | apply Bel.alloc | refine Bel.set ?_ (by first | exact Nat.le_refl _ | exact Nat.le_add_right _ _ | (simp; done) | (simp; omega) | omega) _ | refine Bel.trans ?_ (by assumption))))))
              clear hK K
              try walk_nrm
              refine wpAnyH_take (i := 8) (v := ?_) rfl (by kernel_rfl) (by kernel_rfl) (by kernel_rfl) (fun _ _ _ h => h) (Or.inl ⟨by rfl, ?_⟩) (by assumption) ?_
              rotate_left
              · (intro w hSw; (try dsimp only at hSw); go_simp <;> with_reducible rfl)
              try walk_nrm
              refine wpAnyH_ready (rs := [10]) (by kernel_rfl) (by simp) ?_
              refine AllReadyH.cons rfl (fun K hK => ?_) AllReadyH.nil
              · go_simp
                (first | (have x0 := HB9.out.cellv (j := 0) (by simp); have x1 := HB9.out.cellv (j := 1) (by simp); have x2 := HB9.out.cellv (j := 2) (by simp); simp only [List.getElem_cons_zero, List.getElem_cons_succ] at x0 x1 x2; have y0 := HB9.out.frozen 0; have y1 := HB9.out.frozen 1; have y2 := HB9.out.frozen 2; go_simp) | skip)
                try go_wp2_with fail
                refine hK.out _ _ ?_ (fun hHeld => ?_)
                · ((try dsimp only); (first | exact HBX.out _ G.out.1 | exact HBX.out _ (Bel.refl _) | exact HBX.out _ (by have G1 := G.out.1; (repeat (first | assumption | exact Bel.refl _ | apply Bel.drewN | apply Bel.drew | apply Bel.alloc | refine Bel.set ?_ (by first | exact Nat.le_refl _ | exact Nat.le_add_right _ _ | (simp; done) | (simp; omega) | omega) _ | refine Bel.trans ?_ (by assumption))))))
                clear hK K
                try walk_nrm
                refine wpAnyH_done (by kernel_rfl) ?_ _
                go_wp2_with fail
                go_meet
                exact ⟨g9, q1, c1, q2, c2, rfl, by omega, ((HB9.out.set 0 (.slice q1 s.1.length c1)).set 1 (.slice q2 s.1.length c2)).set 2 (.slice none 0 0), OwnI.ofOwn (((R1.out.toOwn.setAt intR_good (q := g9) (fun a ha => (N19.out a ha).symm) 0 (.slice q1 s.1.length c1)).setAt intR_good (q := g9) (fun a ha => (N19.out a ha).symm) 1 (.slice q2 s.1.length c2)).setAt intR_good (q := g9) (fun a ha => (N19.out a ha).symm) 2 (.slice none 0 0)), OwnI.ofOwn (((R2.out.toOwn.setAt intR_good (q := g9) (fun a ha => (N29.out a ha).symm) 0 (.slice q1 s.1.length c1)).setAt intR_good (q := g9) (fun a ha => (N29.out a ha).symm) 1 (.slice q2 s.1.length c2)).setAt intR_good (q := g9) (fun a ha => (N29.out a ha).symm) 2 (.slice none 0 0)), N12.out, N19.out, N29.out, by have G1 := G.out.1; (repeat (first | assumption | exact Bel.refl _ | apply Bel.drewN | apply Bel.drew | apply Bel.alloc | refine Bel.set ?_ (by first | exact Nat.le_refl _ | exact Nat.le_add_right _ _ | (simp; done) | (simp; omega) | omega) _ | refine Bel.trans ?_ (by assumption)))⟩
      refine AllReadyH.cons rfl (fun K hK => ?_) ?_
      · go_simp
        (refine nameK ?_; intro V4 hV4; obtain ⟨g4, e4, L4, c4, lb4, ub4⟩ := (by first | exact alloc_block hV4 | exact alloc_blockD hV4 : AllocB _ V4 _); (try simp only [World.size_drew] at e4 lb4); rw [e4]; clear hV4 e4; (try have N14 := Lib.hid (fun a (ha : q1 = some a) => (show a.block ≠ g4 from by have := (R1.out.lt ha).2; omega))); (try have E0 := Lib.hid (E0.out.bel L4)); (try have E4 := Lib.hid (E4.out.bel L4)); (try have R1 := Lib.hid (R1.out.bel L4)); (try have R2 := Lib.hid (R2.out.bel L4)); (try have HB9 := Lib.hid (HB9.out.bel L4)); have szq4 := G.out.1.size; have E4 := Lib.hid (OwnI.empty (e := 3) (B := W0.heap.size) c4 (by (try simp only [World.size_drew] at *); omega)); clear c4; have G := Lib.hid (show Bel W0 V4 ∧ True from ⟨by first | exact G.out.1.trans L4 | exact L4, trivial⟩); have szgV4 := G.out.1.size; have szlV4 := L4.size; clear L4; skip)
        try go_wp2_with fail
        refine hK.out _ _ ?_ (fun hHeld => ?_)
        · ((try dsimp only); (first | exact HBX.out _ G.out.1 | exact HBX.out _ (Bel.refl _) | exact HBX.out _ (by have G1 := G.out.1; (repeat (first | assumption | exact Bel.refl _ | apply Bel.drewN | apply Bel.drew | apply Bel.alloc | refine Bel.set ?_ (by first | exact Nat.le_refl _ | exact Nat.le_add_right _ _ | (simp; done) | (simp; omega) | omega) _ | refine Bel.trans ?_ (by assumption))))))
        clear hK K
        try walk_nrm
        refine wpAnyH_ready (rs := [3, 9]) (by kernel_rfl) (by simp) ?_
        refine AllReadyH.cons rfl (fun K hK => ?_) ?_
        · (refine step_appsK (o := ⟨some 9, _, _, _, _, _⟩) (e := 3) (B := W0.heap.size) _ (by rfl) _ _ 22 (by rfl) (.int .i64 0) 8 Try.underlying22 (by kernel_rfl) rfl (by decide) (some ⟨g0, 0, none⟩) 0 0 [] (by rfl) E0.out rfl sp0 s.1.length sk0 s.1 T (by rfl) (HST0.out _ G.out.1) rfl (by simp; omega) (by have := G.out.1.size; omega) ?_; intro q1 c1 wA hO hG hN; clear hN; have szp := hG.size; (try have N14 := Lib.hid (fun a (ha : q1 = some a) => (hG.at (E4.out.lt (a := ⟨g4, 0, none⟩) rfl).2 (fun a' ha' => by cases ha'; show g4 ≠ g0; omega)).2 a ha)); (try have E4 := Lib.hid (E4.out.keep (fun a ha => by cases ha; exact (hG.at (E4.out.lt (a := ⟨g4, 0, none⟩) rfl).2 (fun a' ha' => by cases ha'; show g4 ≠ g0; omega)).1))); (try have N19 := Lib.hid (fun a (ha : q1 = some a) => (hG.at HB9.out.lt (fun a' ha' => by cases ha'; show g9 ≠ g0; omega)).2 a ha)); (try have HB9 := Lib.hid (HB9.out.of (hG.at HB9.out.lt (fun a' ha' => by cases ha'; show g9 ≠ g0; omega)).1)); have R1 := Lib.hid (show OwnI 3 W0.heap.size wA q1 c1 s.1 from by simpa using hO); have G := Lib.hid (show Bel W0 wA ∧ True from ⟨hG.bel W0 G.out.1 (Nat.le_refl _), trivial⟩); have szgwA := G.out.1.size; clear hO hG)
          refine hK.out _ _ ?_ (fun hHeld => ?_)
          · ((try dsimp only); (first | exact HBX.out _ G.out.1 | exact HBX.out _ (Bel.refl _) | exact HBX.out _ (by have G1 := G.out.1; (repeat (first | assumption | exact Bel.refl _ | apply Bel.drewN | apply Bel.drew | apply Bel.alloc | refine Bel.set ?_ (by first | exact Nat.le_refl _ | exact Nat.le_add_right _ _ | (simp; done) | (simp; omega) | omega) _ | refine Bel.trans ?_ (by assumption))))))
          clear hK K
          try walk_nrm
          refine wpAnyH_ready (rs := [7, 9]) (by kernel_rfl) (by simp) ?_
          refine AllReadyH.cons rfl (fun K hK => ?_) ?_
          · (refine step_appsK (o := ⟨some 13, _, _, _, _, _⟩) (e := 3) (B := W0.heap.size) _ (by rfl) _ _ 22 (by rfl) (.int .i64 0) 8 Try.underlying22 (by kernel_rfl) rfl (by decide) (some ⟨g4, 0, none⟩) 0 0 [] (by rfl) E4.out rfl sp0 s.1.length sk0 s.1 T (by rfl) (HST0.out _ G.out.1) rfl (by simp; omega) (by have := G.out.1.size; omega) ?_; intro q2 c2 wB hO hG hN; clear hN; have szp := hG.size; have N12 := Lib.hid (fun a b (ha : q1 = some a) (hb : q2 = some b) => (fun e => (hG.at (R1.out.lt ha).2 (fun a' ha' => by cases ha'; exact N14.out a ha)).2 b hb e.symm : a.block ≠ b.block)); have R1 := Lib.hid (R1.out.keep (fun a ha => (hG.at (R1.out.lt ha).2 (fun a' ha' => by cases ha'; exact N14.out a ha)).1)); (try have N29 := Lib.hid (fun a (ha : q2 = some a) => (hG.at HB9.out.lt (fun a' ha' => by cases ha'; show g9 ≠ g4; omega)).2 a ha)); (try have HB9 := Lib.hid (HB9.out.of (hG.at HB9.out.lt (fun a' ha' => by cases ha'; show g9 ≠ g4; omega)).1)); have R2 := Lib.hid (show OwnI 3 W0.heap.size wB q2 c2 s.1 from by simpa using hO); have G := Lib.hid (show Bel W0 wB ∧ True from ⟨hG.bel W0 G.out.1 (Nat.le_refl _), trivial⟩); have szgwB := G.out.1.size; clear hO hG)
            refine hK.out _ _ ?_ (fun hHeld => ?_)
            · ((try dsimp only); (first | exact HBX.out _ G.out.1 | exact HBX.out _ (Bel.refl _) | exact HBX.out _ (by have G1 := G.out.1; (repeat (first | assumption | exact Bel.refl _ | apply Bel.drewN | apply Bel.drew | apply Bel.alloc | refine Bel.set ?_ (by first | exact Nat.le_refl _ | exact Nat.le_add_right _ _ | (simp; done) | (simp; omega) | omega) _ | refine Bel.trans ?_ (by assumption))))))
            clear hK K
            try walk_nrm
            refine wpAnyH_take (i := 8) (v := ?_) rfl (by kernel_rfl) (by kernel_rfl) (by kernel_rfl) (fun _ _ _ h => h) (Or.inl ⟨by rfl, ?_⟩) (by assumption) ?_
            rotate_left
            · (intro w hSw; (try dsimp only at hSw); go_simp <;> with_reducible rfl)
            try walk_nrm
            refine wpAnyH_ready (rs := [9]) (by kernel_rfl) (by simp) ?_
            refine AllReadyH.cons rfl (fun K hK => ?_) AllReadyH.nil
            · go_simp
              (refine nameK ?_; intro V9 hV9; obtain ⟨g9, e9, L9, c9, lb9, ub9⟩ := (by first | exact alloc_block hV9 | exact alloc_blockD hV9 : AllocB _ V9 _); (try simp only [World.size_drew] at e9 lb9); rw [e9]; clear hV9 e9; (try have N19 := Lib.hid (fun a (ha : q1 = some a) => (show a.block ≠ g9 from by have := (R1.out.lt ha).2; omega))); (try have N29 := Lib.hid (fun a (ha : q2 = some a) => (show a.block ≠ g9 from by have := (R2.out.lt ha).2; omega))); (try have E0 := Lib.hid (E0.out.bel L9)); (try have E4 := Lib.hid (E4.out.bel L9)); (try have R1 := Lib.hid (R1.out.bel L9)); (try have R2 := Lib.hid (R2.out.bel L9)); (try have HB9 := Lib.hid (HB9.out.bel L9)); have HB9 := Lib.hid (show Blk V9 g9 28 [.slice none 0 0, .slice none 0 0, .slice none 0 0] from c9); clear c9; have G := Lib.hid (show Bel W0 V9 ∧ True from ⟨by first | exact G.out.1.trans L9 | exact L9, trivial⟩); have szgV9 := G.out.1.size; have szlV9 := L9.size; clear L9; skip)
              try go_wp2_with fail
              refine hK.out _ _ ?_ (fun hHeld => ?_)
              · ((try dsimp only); (first | exact HBX.out _ G.out.1 | exact HBX.out _ (Bel.refl _) | exact HBX.out _ (by have G1 := G.out.1; (repeat (first | assumption | exact Bel.refl _ | apply Bel.drewN | apply Bel.drew | apply Bel.alloc | refine Bel.set ?_ (by first | exact Nat.le_refl _ | exact Nat.le_add_right _ _ | (simp; done) | (simp; omega) | omega) _ | refine Bel.trans ?_ (by assumption))))))
              clear hK K
              try walk_nrm
              refine wpAnyH_ready (rs := [10]) (by kernel_rfl) (by simp) ?_
              refine AllReadyH.cons rfl (fun K hK => ?_) AllReadyH.nil
              · go_simp
                (first | (have x0 := HB9.out.cellv (j := 0) (by simp); have x1 := HB9.out.cellv (j := 1) (by simp); have x2 := HB9.out.cellv (j := 2) (by simp); simp only [List.getElem_cons_zero, List.getElem_cons_succ] at x0 x1 x2; have y0 := HB9.out.frozen 0; have y1 := HB9.out.frozen 1; have y2 := HB9.out.frozen 2; go_simp) | skip)
                try go_wp2_with fail
                refine hK.out _ _ ?_ (fun hHeld => ?_)
                · ((try dsimp only); (first | exact HBX.out _ G.out.1 | exact HBX.out _ (Bel.refl _) | exact HBX.out _ (by have G1 := G.out.1; (repeat (first | assumption | exact Bel.refl _ | apply Bel.drewN | apply Bel.drew | apply Bel.alloc | refine Bel.set ?_ (by first | exact Nat.le_refl _ | exact Nat.le_add_right _ _ | (simp; done) | (simp; omega) | omega) _ | refine Bel.trans ?_ (by assumption))))))
                clear hK K
                try walk_nrm
                refine wpAnyH_done (by kernel_rfl) ?_ _
                go_wp2_with fail
                go_meet
                exact ⟨g9, q1, c1, q2, c2, rfl, by omega, ((HB9.out.set 0 (.slice q1 s.1.length c1)).set 1 (.slice q2 s.1.length c2)).set 2 (.slice none 0 0), OwnI.ofOwn (((R1.out.toOwn.setAt intR_good (q := g9) (fun a ha => (N19.out a ha).symm) 0 (.slice q1 s.1.length c1)).setAt intR_good (q := g9) (fun a ha => (N19.out a ha).symm) 1 (.slice q2 s.1.length c2)).setAt intR_good (q := g9) (fun a ha => (N19.out a ha).symm) 2 (.slice none 0 0)), OwnI.ofOwn (((R2.out.toOwn.setAt intR_good (q := g9) (fun a ha => (N29.out a ha).symm) 0 (.slice q1 s.1.length c1)).setAt intR_good (q := g9) (fun a ha => (N29.out a ha).symm) 1 (.slice q2 s.1.length c2)).setAt intR_good (q := g9) (fun a ha => (N29.out a ha).symm) 2 (.slice none 0 0)), N12.out, N19.out, N29.out, by have G1 := G.out.1; (repeat (first | assumption | exact Bel.refl _ | apply Bel.drewN | apply Bel.drew | apply Bel.alloc | refine Bel.set ?_ (by first | exact Nat.le_refl _ | exact Nat.le_add_right _ _ | (simp; done) | (simp; omega) | omega) _ | refine Bel.trans ?_ (by assumption)))⟩
          refine AllReadyH.cons rfl (fun K hK => ?_) AllReadyH.nil
          · go_simp
            (refine nameK ?_; intro V9 hV9; obtain ⟨g9, e9, L9, c9, lb9, ub9⟩ := (by first | exact alloc_block hV9 | exact alloc_blockD hV9 : AllocB _ V9 _); (try simp only [World.size_drew] at e9 lb9); rw [e9]; clear hV9 e9; (try have N19 := Lib.hid (fun a (ha : q1 = some a) => (show a.block ≠ g9 from by have := (R1.out.lt ha).2; omega))); (try have N29 := Lib.hid (fun a (ha : q2 = some a) => (show a.block ≠ g9 from by have := (R2.out.lt ha).2; omega))); (try have E0 := Lib.hid (E0.out.bel L9)); (try have E4 := Lib.hid (E4.out.bel L9)); (try have R1 := Lib.hid (R1.out.bel L9)); (try have R2 := Lib.hid (R2.out.bel L9)); (try have HB9 := Lib.hid (HB9.out.bel L9)); have HB9 := Lib.hid (show Blk V9 g9 28 [.slice none 0 0, .slice none 0 0, .slice none 0 0] from c9); clear c9; have G := Lib.hid (show Bel W0 V9 ∧ True from ⟨by first | exact G.out.1.trans L9 | exact L9, trivial⟩); have szgV9 := G.out.1.size; have szlV9 := L9.size; clear L9; skip)
            try go_wp2_with fail
            refine hK.out _ _ ?_ (fun hHeld => ?_)
            · ((try dsimp only); (first | exact HBX.out _ G.out.1 | exact HBX.out _ (Bel.refl _) | exact HBX.out _ (by have G1 := G.out.1; (repeat (first | assumption | exact Bel.refl _ | apply Bel.drewN | apply Bel.drew | apply Bel.alloc | refine Bel.set ?_ (by first | exact Nat.le_refl _ | exact Nat.le_add_right _ _ | (simp; done) | (simp; omega) | omega) _ | refine Bel.trans ?_ (by assumption))))))
            clear hK K
            try walk_nrm
            refine wpAnyH_ready (rs := [7]) (by kernel_rfl) (by simp) ?_
            refine AllReadyH.cons rfl (fun K hK => ?_) AllReadyH.nil
            · (refine step_appsK (o := ⟨some 13, _, _, _, _, _⟩) (e := 3) (B := W0.heap.size) _ (by rfl) _ _ 22 (by rfl) (.int .i64 0) 8 Try.underlying22 (by kernel_rfl) rfl (by decide) (some ⟨g4, 0, none⟩) 0 0 [] (by rfl) E4.out rfl sp0 s.1.length sk0 s.1 T (by rfl) (HST0.out _ G.out.1) rfl (by simp; omega) (by have := G.out.1.size; omega) ?_; intro q2 c2 wB hO hG hN; clear hN; have szp := hG.size; have N12 := Lib.hid (fun a b (ha : q1 = some a) (hb : q2 = some b) => (fun e => (hG.at (R1.out.lt ha).2 (fun a' ha' => by cases ha'; exact N14.out a ha)).2 b hb e.symm : a.block ≠ b.block)); have R1 := Lib.hid (R1.out.keep (fun a ha => (hG.at (R1.out.lt ha).2 (fun a' ha' => by cases ha'; exact N14.out a ha)).1)); (try have N29 := Lib.hid (fun a (ha : q2 = some a) => (hG.at HB9.out.lt (fun a' ha' => by cases ha'; show g9 ≠ g4; omega)).2 a ha)); (try have HB9 := Lib.hid (HB9.out.of (hG.at HB9.out.lt (fun a' ha' => by cases ha'; show g9 ≠ g4; omega)).1)); have R2 := Lib.hid (show OwnI 3 W0.heap.size wB q2 c2 s.1 from by simpa using hO); have G := Lib.hid (show Bel W0 wB ∧ True from ⟨hG.bel W0 G.out.1 (Nat.le_refl _), trivial⟩); have szgwB := G.out.1.size; clear hO hG)
              refine hK.out _ _ ?_ (fun hHeld => ?_)
              · ((try dsimp only); (first | exact HBX.out _ G.out.1 | exact HBX.out _ (Bel.refl _) | exact HBX.out _ (by have G1 := G.out.1; (repeat (first | assumption | exact Bel.refl _ | apply Bel.drewN | apply Bel.drew | apply Bel.alloc | refine Bel.set ?_ (by first | exact Nat.le_refl _ | exact Nat.le_add_right _ _ | (simp; done) | (simp; omega) | omega) _ | refine Bel.trans ?_ (by assumption))))))
              clear hK K
              try walk_nrm
              refine wpAnyH_take (i := 8) (v := ?_) rfl (by kernel_rfl) (by kernel_rfl) (by kernel_rfl) (fun _ _ _ h => h) (Or.inl ⟨by rfl, ?_⟩) (by assumption) ?_
              rotate_left
              · (intro w hSw; (try dsimp only at hSw); go_simp <;> with_reducible rfl)
              try walk_nrm
              refine wpAnyH_ready (rs := [10]) (by kernel_rfl) (by simp) ?_
              refine AllReadyH.cons rfl (fun K hK => ?_) AllReadyH.nil
              · go_simp
                (first | (have x0 := HB9.out.cellv (j := 0) (by simp); have x1 := HB9.out.cellv (j := 1) (by simp); have x2 := HB9.out.cellv (j := 2) (by simp); simp only [List.getElem_cons_zero, List.getElem_cons_succ] at x0 x1 x2; have y0 := HB9.out.frozen 0; have y1 := HB9.out.frozen 1; have y2 := HB9.out.frozen 2; go_simp) | skip)
                try go_wp2_with fail
                refine hK.out _ _ ?_ (fun hHeld => ?_)
                · ((try dsimp only); (first | exact HBX.out _ G.out.1 | exact HBX.out _ (Bel.refl _) | exact HBX.out _ (by have G1 := G.out.1; (repeat (first | assumption | exact Bel.refl _ | apply Bel.drewN | apply Bel.drew | apply Bel.alloc | refine Bel.set ?_ (by first | exact Nat.le_refl _ | exact Nat.le_add_right _ _ | (simp; done) | (simp; omega) | omega) _ | refine Bel.trans ?_ (by assumption))))))
                clear hK K
                try walk_nrm
                refine wpAnyH_done (by kernel_rfl) ?_ _
                go_wp2_with fail
                go_meet
                exact ⟨g9, q1, c1, q2, c2, rfl, by omega, ((HB9.out.set 0 (.slice q1 s.1.length c1)).set 1 (.slice q2 s.1.length c2)).set 2 (.slice none 0 0), OwnI.ofOwn (((R1.out.toOwn.setAt intR_good (q := g9) (fun a ha => (N19.out a ha).symm) 0 (.slice q1 s.1.length c1)).setAt intR_good (q := g9) (fun a ha => (N19.out a ha).symm) 1 (.slice q2 s.1.length c2)).setAt intR_good (q := g9) (fun a ha => (N19.out a ha).symm) 2 (.slice none 0 0)), OwnI.ofOwn (((R2.out.toOwn.setAt intR_good (q := g9) (fun a ha => (N29.out a ha).symm) 0 (.slice q1 s.1.length c1)).setAt intR_good (q := g9) (fun a ha => (N29.out a ha).symm) 1 (.slice q2 s.1.length c2)).setAt intR_good (q := g9) (fun a ha => (N29.out a ha).symm) 2 (.slice none 0 0)), N12.out, N19.out, N29.out, by have G1 := G.out.1; (repeat (first | assumption | exact Bel.refl _ | apply Bel.drewN | apply Bel.drew | apply Bel.alloc | refine Bel.set ?_ (by first | exact Nat.le_refl _ | exact Nat.le_add_right _ _ | (simp; done) | (simp; omega) | omega) _ | refine Bel.trans ?_ (by assumption)))⟩
        refine AllReadyH.cons rfl (fun K hK => ?_) AllReadyH.nil
        · go_simp
          (refine nameK ?_; intro V9 hV9; obtain ⟨g9, e9, L9, c9, lb9, ub9⟩ := (by first | exact alloc_block hV9 | exact alloc_blockD hV9 : AllocB _ V9 _); (try simp only [World.size_drew] at e9 lb9); rw [e9]; clear hV9 e9; (try have N19 := Lib.hid (fun a (ha : q1 = some a) => (show a.block ≠ g9 from by have := (R1.out.lt ha).2; omega))); (try have N29 := Lib.hid (fun a (ha : q2 = some a) => (show a.block ≠ g9 from by have := (R2.out.lt ha).2; omega))); (try have E0 := Lib.hid (E0.out.bel L9)); (try have E4 := Lib.hid (E4.out.bel L9)); (try have R1 := Lib.hid (R1.out.bel L9)); (try have R2 := Lib.hid (R2.out.bel L9)); (try have HB9 := Lib.hid (HB9.out.bel L9)); have HB9 := Lib.hid (show Blk V9 g9 28 [.slice none 0 0, .slice none 0 0, .slice none 0 0] from c9); clear c9; have G := Lib.hid (show Bel W0 V9 ∧ True from ⟨by first | exact G.out.1.trans L9 | exact L9, trivial⟩); have szgV9 := G.out.1.size; have szlV9 := L9.size; clear L9; skip)
          try go_wp2_with fail
          refine hK.out _ _ ?_ (fun hHeld => ?_)
          · ((try dsimp only); (first | exact HBX.out _ G.out.1 | exact HBX.out _ (Bel.refl _) | exact HBX.out _ (by have G1 := G.out.1; (repeat (first | assumption | exact Bel.refl _ | apply Bel.drewN | apply Bel.drew | apply Bel.alloc | refine Bel.set ?_ (by first | exact Nat.le_refl _ | exact Nat.le_add_right _ _ | (simp; done) | (simp; omega) | omega) _ | refine Bel.trans ?_ (by assumption))))))
          clear hK K
          try walk_nrm
          refine wpAnyH_ready (rs := [3]) (by kernel_rfl) (by simp) ?_
          refine AllReadyH.cons rfl (fun K hK => ?_) AllReadyH.nil
          · (refine step_appsK (o := ⟨some 9, _, _, _, _, _⟩) (e := 3) (B := W0.heap.size) _ (by rfl) _ _ 22 (by rfl) (.int .i64 0) 8 Try.underlying22 (by kernel_rfl) rfl (by decide) (some ⟨g0, 0, none⟩) 0 0 [] (by rfl) E0.out rfl sp0 s.1.length sk0 s.1 T (by rfl) (HST0.out _ G.out.1) rfl (by simp; omega) (by have := G.out.1.size; omega) ?_; intro q1 c1 wA hO hG hN; clear hN; have szp := hG.size; (try have N14 := Lib.hid (fun a (ha : q1 = some a) => (hG.at (E4.out.lt (a := ⟨g4, 0, none⟩) rfl).2 (fun a' ha' => by cases ha'; show g4 ≠ g0; omega)).2 a ha)); (try have E4 := Lib.hid (E4.out.keep (fun a ha => by cases ha; exact (hG.at (E4.out.lt (a := ⟨g4, 0, none⟩) rfl).2 (fun a' ha' => by cases ha'; show g4 ≠ g0; omega)).1))); (try have N19 := Lib.hid (fun a (ha : q1 = some a) => (hG.at HB9.out.lt (fun a' ha' => by cases ha'; show g9 ≠ g0; omega)).2 a ha)); (try have HB9 := Lib.hid (HB9.out.of (hG.at HB9.out.lt (fun a' ha' => by cases ha'; show g9 ≠ g0; omega)).1)); have R1 := Lib.hid (show OwnI 3 W0.heap.size wA q1 c1 s.1 from by simpa using hO); have G := Lib.hid (show Bel W0 wA ∧ True from ⟨hG.bel W0 G.out.1 (Nat.le_refl _), trivial⟩); have szgwA := G.out.1.size; clear hO hG)
            refine hK.out _ _ ?_ (fun hHeld => ?_)
            · ((try dsimp only); (first | exact HBX.out _ G.out.1 | exact HBX.out _ (Bel.refl _) | exact HBX.out _ (by have G1 := G.out.1; (repeat (first | assumption | exact Bel.refl _ | apply Bel.drewN | apply Bel.drew | apply Bel.alloc | refine Bel.set ?_ (by first | exact Nat.le_refl _ | exact Nat.le_add_right _ _ | (simp; done) | (simp; omega) | omega) _ | refine Bel.trans ?_ (by assumption))))))
            clear hK K
            try walk_nrm
            refine wpAnyH_ready (rs := [7]) (by kernel_rfl) (by simp) ?_
            refine AllReadyH.cons rfl (fun K hK => ?_) AllReadyH.nil
            · (refine step_appsK (o := ⟨some 13, _, _, _, _, _⟩) (e := 3) (B := W0.heap.size) _ (by rfl) _ _ 22 (by rfl) (.int .i64 0) 8 Try.underlying22 (by kernel_rfl) rfl (by decide) (some ⟨g4, 0, none⟩) 0 0 [] (by rfl) E4.out rfl sp0 s.1.length sk0 s.1 T (by rfl) (HST0.out _ G.out.1) rfl (by simp; omega) (by have := G.out.1.size; omega) ?_; intro q2 c2 wB hO hG hN; clear hN; have szp := hG.size; have N12 := Lib.hid (fun a b (ha : q1 = some a) (hb : q2 = some b) => (fun e => (hG.at (R1.out.lt ha).2 (fun a' ha' => by cases ha'; exact N14.out a ha)).2 b hb e.symm : a.block ≠ b.block)); have R1 := Lib.hid (R1.out.keep (fun a ha => (hG.at (R1.out.lt ha).2 (fun a' ha' => by cases ha'; exact N14.out a ha)).1)); (try have N29 := Lib.hid (fun a (ha : q2 = some a) => (hG.at HB9.out.lt (fun a' ha' => by cases ha'; show g9 ≠ g4; omega)).2 a ha)); (try have HB9 := Lib.hid (HB9.out.of (hG.at HB9.out.lt (fun a' ha' => by cases ha'; show g9 ≠ g4; omega)).1)); have R2 := Lib.hid (show OwnI 3 W0.heap.size wB q2 c2 s.1 from by simpa using hO); have G := Lib.hid (show Bel W0 wB ∧ True from ⟨hG.bel W0 G.out.1 (Nat.le_refl _), trivial⟩); have szgwB := G.out.1.size; clear hO hG)
              refine hK.out _ _ ?_ (fun hHeld => ?_)
              · ((try dsimp only); (first | exact HBX.out _ G.out.1 | exact HBX.out _ (Bel.refl _) | exact HBX.out _ (by have G1 := G.out.1; (repeat (first | assumption | exact Bel.refl _ | apply Bel.drewN | apply Bel.drew | apply Bel.alloc | refine Bel.set ?_ (by first | exact Nat.le_refl _ | exact Nat.le_add_right _ _ | (simp; done) | (simp; omega) | omega) _ | refine Bel.trans ?_ (by assumption))))))
              clear hK K
              try walk_nrm
              refine wpAnyH_take (i := 8) (v := ?_) rfl (by kernel_rfl) (by kernel_rfl) (by kernel_rfl) (fun _ _ _ h => h) (Or.inl ⟨by rfl, ?_⟩) (by assumption) ?_
              rotate_left
              · (intro w hSw; (try dsimp only at hSw); go_simp <;> with_reducible rfl)
              try walk_nrm
              refine wpAnyH_ready (rs := [10]) (by kernel_rfl) (by simp) ?_
              refine AllReadyH.cons rfl (fun K hK => ?_) AllReadyH.nil
              · go_simp
                (first | (have x0 := HB9.out.cellv (j := 0) (by simp); have x1 := HB9.out.cellv (j := 1) (by simp); have x2 := HB9.out.cellv (j := 2) (by simp); simp only [List.getElem_cons_zero, List.getElem_cons_succ] at x0 x1 x2; have y0 := HB9.out.frozen 0; have y1 := HB9.out.frozen 1; have y2 := HB9.out.frozen 2; go_simp) | skip)
                try go_wp2_with fail
                refine hK.out _ _ ?_ (fun hHeld => ?_)
                · ((try dsimp only); (first | exact HBX.out _ G.out.1 | exact HBX.out _ (Bel.refl _) | exact HBX.out _ (by have G1 := G.out.1; (repeat (first | assumption | exact Bel.refl _ | apply Bel.drewN | apply Bel.drew | apply Bel.alloc | refine Bel.set ?_ (by first | exact Nat.le_refl _ | exact Nat.le_add_right _ _ | (simp; done) | (simp; omega) | omega) _ | refine Bel.trans ?_ (by assumption))))))
                clear hK K
                try walk_nrm
                refine wpAnyH_done (by kernel_rfl) ?_ _
                go_wp2_with fail
                go_meet
                exact ⟨g9, q1, c1, q2, c2, rfl, by omega, ((HB9.out.set 0 (.slice q1 s.1.length c1)).set 1 (.slice q2 s.1.length c2)).set 2 (.slice none 0 0), OwnI.ofOwn (((R1.out.toOwn.setAt intR_good (q := g9) (fun a ha => (N19.out a ha).symm) 0 (.slice q1 s.1.length c1)).setAt intR_good (q := g9) (fun a ha => (N19.out a ha).symm) 1 (.slice q2 s.1.length c2)).setAt intR_good (q := g9) (fun a ha => (N19.out a ha).symm) 2 (.slice none 0 0)), OwnI.ofOwn (((R2.out.toOwn.setAt intR_good (q := g9) (fun a ha => (N29.out a ha).symm) 0 (.slice q1 s.1.length c1)).setAt intR_good (q := g9) (fun a ha => (N29.out a ha).symm) 1 (.slice q2 s.1.length c2)).setAt intR_good (q := g9) (fun a ha => (N29.out a ha).symm) 2 (.slice none 0 0)), N12.out, N19.out, N29.out, by have G1 := G.out.1; (repeat (first | assumption | exact Bel.refl _ | apply Bel.drewN | apply Bel.drew | apply Bel.alloc | refine Bel.set ?_ (by first | exact Nat.le_refl _ | exact Nat.le_add_right _ _ | (simp; done) | (simp; omega) | omega) _ | refine Bel.trans ?_ (by assumption)))⟩
      refine AllReadyH.cons rfl (fun K hK => ?_) AllReadyH.nil
      · go_simp
        (refine nameK ?_; intro V9 hV9; obtain ⟨g9, e9, L9, c9, lb9, ub9⟩ := (by first | exact alloc_block hV9 | exact alloc_blockD hV9 : AllocB _ V9 _); (try simp only [World.size_drew] at e9 lb9); rw [e9]; clear hV9 e9; (try have N19 := Lib.hid (fun a (ha : q1 = some a) => (show a.block ≠ g9 from by have := (R1.out.lt ha).2; omega))); (try have N29 := Lib.hid (fun a (ha : q2 = some a) => (show a.block ≠ g9 from by have := (R2.out.lt ha).2; omega))); (try have E0 := Lib.hid (E0.out.bel L9)); (try have E4 := Lib.hid (E4.out.bel L9)); (try have R1 := Lib.hid (R1.out.bel L9)); (try have R2 := Lib.hid (R2.out.bel L9)); (try have HB9 := Lib.hid (HB9.out.bel L9)); have HB9 := Lib.hid (show Blk V9 g9 28 [.slice none 0 0, .slice none 0 0, .slice none 0 0] from c9); clear c9; have G := Lib.hid (show Bel W0 V9 ∧ True from ⟨by first | exact G.out.1.trans L9 | exact L9, trivial⟩); have szgV9 := G.out.1.size; have szlV9 := L9.size; clear L9; skip)
        try go_wp2_with fail
        refine hK.out _ _ ?_ (fun hHeld => ?_)
        · ((try dsimp only); (first | exact HBX.out _ G.out.1 | exact HBX.out _ (Bel.refl _) | exact HBX.out _ (by have G1 := G.out.1; (repeat (first | assumption | exact Bel.refl _ | apply Bel.drewN | apply Bel.drew | apply Bel.alloc | refine Bel.set ?_ (by first | exact Nat.le_refl _ | exact Nat.le_add_right _ _ | (simp; done) | (simp; omega) | omega) _ | refine Bel.trans ?_ (by assumption))))))
        clear hK K
        try walk_nrm
        refine wpAnyH_ready (rs := [3, 4]) (by kernel_rfl) (by simp) ?_
        refine AllReadyH.cons rfl (fun K hK => ?_) ?_
        · (refine step_appsK (o := ⟨some 9, _, _, _, _, _⟩) (e := 3) (B := W0.heap.size) _ (by rfl) _ _ 22 (by rfl) (.int .i64 0) 8 Try.underlying22 (by kernel_rfl) rfl (by decide) (some ⟨g0, 0, none⟩) 0 0 [] (by rfl) E0.out rfl sp0 s.1.length sk0 s.1 T (by rfl) (HST0.out _ G.out.1) rfl (by simp; omega) (by have := G.out.1.size; omega) ?_; intro q1 c1 wA hO hG hN; clear hN; have szp := hG.size; (try have N14 := Lib.hid (fun a (ha : q1 = some a) => (hG.at (E4.out.lt (a := ⟨g4, 0, none⟩) rfl).2 (fun a' ha' => by cases ha'; show g4 ≠ g0; omega)).2 a ha)); (try have E4 := Lib.hid (E4.out.keep (fun a ha => by cases ha; exact (hG.at (E4.out.lt (a := ⟨g4, 0, none⟩) rfl).2 (fun a' ha' => by cases ha'; show g4 ≠ g0; omega)).1))); (try have N19 := Lib.hid (fun a (ha : q1 = some a) => (hG.at HB9.out.lt (fun a' ha' => by cases ha'; show g9 ≠ g0; omega)).2 a ha)); (try have HB9 := Lib.hid (HB9.out.of (hG.at HB9.out.lt (fun a' ha' => by cases ha'; show g9 ≠ g0; omega)).1)); have R1 := Lib.hid (show OwnI 3 W0.heap.size wA q1 c1 s.1 from by simpa using hO); have G := Lib.hid (show Bel W0 wA ∧ True from ⟨hG.bel W0 G.out.1 (Nat.le_refl _), trivial⟩); have szgwA := G.out.1.size; clear hO hG)
          refine hK.out _ _ ?_ (fun hHeld => ?_)
          · ((try dsimp only); (first | exact HBX.out _ G.out.1 | exact HBX.out _ (Bel.refl _) | exact HBX.out _ (by have G1 := G.out.1; (repeat (first | assumption | exact Bel.refl _ | apply Bel.drewN | apply Bel.drew | apply Bel.alloc | refine Bel.set ?_ (by first | exact Nat.le_refl _ | exact Nat.le_add_right _ _ | (simp; done) | (simp; omega) | omega) _ | refine Bel.trans ?_ (by assumption))))))
          clear hK K
          try walk_nrm
          refine wpAnyH_ready (rs := [4]) (by kernel_rfl) (by simp) ?_
          refine AllReadyH.cons rfl (fun K hK => ?_) AllReadyH.nil
          · go_simp
            (refine nameK ?_; intro V4 hV4; obtain ⟨g4, e4, L4, c4, lb4, ub4⟩ := (by first | exact alloc_block hV4 | exact alloc_blockD hV4 : AllocB _ V4 _); (try simp only [World.size_drew] at e4 lb4); rw [e4]; clear hV4 e4; (try have N14 := Lib.hid (fun a (ha : q1 = some a) => (show a.block ≠ g4 from by have := (R1.out.lt ha).2; omega))); (try have E0 := Lib.hid (E0.out.bel L4)); (try have E4 := Lib.hid (E4.out.bel L4)); (try have R1 := Lib.hid (R1.out.bel L4)); (try have R2 := Lib.hid (R2.out.bel L4)); (try have HB9 := Lib.hid (HB9.out.bel L4)); have szq4 := G.out.1.size; have E4 := Lib.hid (OwnI.empty (e := 3) (B := W0.heap.size) c4 (by (try simp only [World.size_drew] at *); omega)); clear c4; have G := Lib.hid (show Bel W0 V4 ∧ True from ⟨by first | exact G.out.1.trans L4 | exact L4, trivial⟩); have szgV4 := G.out.1.size; have szlV4 := L4.size; clear L4; skip)
            try go_wp2_with fail
            refine hK.out _ _ ?_ (fun hHeld => ?_)
            · ((try dsimp only); (first | exact HBX.out _ G.out.1 | exact HBX.out _ (Bel.refl _) | exact HBX.out _ (by have G1 := G.out.1; (repeat (first | assumption | exact Bel.refl _ | apply Bel.drewN | apply Bel.drew | apply Bel.alloc | refine Bel.set ?_ (by first | exact Nat.le_refl _ | exact Nat.le_add_right _ _ | (simp; done) | (simp; omega) | omega) _ | refine Bel.trans ?_ (by assumption))))))
            clear hK K
            try walk_nrm
            refine wpAnyH_ready (rs := [7]) (by kernel_rfl) (by simp) ?_
            refine AllReadyH.cons rfl (fun K hK => ?_) AllReadyH.nil
            · (refine step_appsK (o := ⟨some 13, _, _, _, _, _⟩) (e := 3) (B := W0.heap.size) _ (by rfl) _ _ 22 (by rfl) (.int .i64 0) 8 Try.underlying22 (by kernel_rfl) rfl (by decide) (some ⟨g4, 0, none⟩) 0 0 [] (by rfl) E4.out rfl sp0 s.1.length sk0 s.1 T (by rfl) (HST0.out _ G.out.1) rfl (by simp; omega) (by have := G.out.1.size; omega) ?_; intro q2 c2 wB hO hG hN; clear hN; have szp := hG.size; have N12 := Lib.hid (fun a b (ha : q1 = some a) (hb : q2 = some b) => (fun e => (hG.at (R1.out.lt ha).2 (fun a' ha' => by cases ha'; exact N14.out a ha)).2 b hb e.symm : a.block ≠ b.block)); have R1 := Lib.hid (R1.out.keep (fun a ha => (hG.at (R1.out.lt ha).2 (fun a' ha' => by cases ha'; exact N14.out a ha)).1)); (try have N29 := Lib.hid (fun a (ha : q2 = some a) => (hG.at HB9.out.lt (fun a' ha' => by cases ha'; show g9 ≠ g4; omega)).2 a ha)); (try have HB9 := Lib.hid (HB9.out.of (hG.at HB9.out.lt (fun a' ha' => by cases ha'; show g9 ≠ g4; omega)).1)); have R2 := Lib.hid (show OwnI 3 W0.heap.size wB q2 c2 s.1 from by simpa using hO); have G := Lib.hid (show Bel W0 wB ∧ True from ⟨hG.bel W0 G.out.1 (Nat.le_refl _), trivial⟩); have szgwB := G.out.1.size; clear hO hG)
              refine hK.out _ _ ?_ (fun hHeld => ?_)
              · ((try dsimp only); (first | exact HBX.out _ G.out.1 | exact HBX.out _ (Bel.refl _) | exact HBX.out _ (by have G1 := G.out.1; (repeat (first | assumption | exact Bel.refl _ | apply Bel.drewN | apply Bel.drew | apply Bel.alloc | refine Bel.set ?_ (by first | exact Nat.le_refl _ | exact Nat.le_add_right _ _ | (simp; done) | (simp; omega) | omega) _ | refine Bel.trans ?_ (by assumption))))))
              clear hK K
              try walk_nrm
              refine wpAnyH_take (i := 8) (v := ?_) rfl (by kernel_rfl) (by kernel_rfl) (by kernel_rfl) (fun _ _ _ h => h) (Or.inl ⟨by rfl, ?_⟩) (by assumption) ?_
              rotate_left
              · (intro w hSw; (try dsimp only at hSw); go_simp <;> with_reducible rfl)
              try walk_nrm
              refine wpAnyH_ready (rs := [10]) (by kernel_rfl) (by simp) ?_
              refine AllReadyH.cons rfl (fun K hK => ?_) AllReadyH.nil
              · go_simp
                (first | (have x0 := HB9.out.cellv (j := 0) (by simp); have x1 := HB9.out.cellv (j := 1) (by simp); have x2 := HB9.out.cellv (j := 2) (by simp); simp only [List.getElem_cons_zero, List.getElem_cons_succ] at x0 x1 x2; have y0 := HB9.out.frozen 0; have y1 := HB9.out.frozen 1; have y2 := HB9.out.frozen 2; go_simp) | skip)
                try go_wp2_with fail
                refine hK.out _ _ ?_ (fun hHeld => ?_)
                · ((try dsimp only); (first | exact HBX.out _ G.out.1 | exact HBX.out _ (Bel.refl _) | exact HBX.out _ (by have G1 := G.out.1; (repeat (first | assumption | exact Bel.refl _ | apply Bel.drewN | apply Bel.drew | apply Bel.alloc | refine Bel.set ?_ (by first | exact Nat.le_refl _ | exact Nat.le_add_right _ _ | (simp; done) | (simp; omega) | omega) _ | refine Bel.trans ?_ (by assumption))))))
                clear hK K
                try walk_nrm
                refine wpAnyH_done (by kernel_rfl) ?_ _
                go_wp2_with fail
                go_meet
                exact ⟨g9, q1, c1, q2, c2, rfl, by omega, ((HB9.out.set 0 (.slice q1 s.1.length c1)).set 1 (.slice q2 s.1.length c2)).set 2 (.slice none 0 0), OwnI.ofOwn (((R1.out.toOwn.setAt intR_good (q := g9) (fun a ha => (N19.out a ha).symm) 0 (.slice q1 s.1.length c1)).setAt intR_good (q := g9) (fun a ha => (N19.out a ha).symm) 1 (.slice q2 s.1.length c2)).setAt intR_good (q := g9) (fun a ha => (N19.out a ha).symm) 2 (.slice none 0 0)), OwnI.ofOwn (((R2.out.toOwn.setAt intR_good (q := g9) (fun a ha => (N29.out a ha).symm) 0 (.slice q1 s.1.length c1)).setAt intR_good (q := g9) (fun a ha => (N29.out a ha).symm) 1 (.slice q2 s.1.length c2)).setAt intR_good (q := g9) (fun a ha => (N29.out a ha).symm) 2 (.slice none 0 0)), N12.out, N19.out, N29.out, by have G1 := G.out.1; (repeat (first | assumption | exact Bel.refl _ | apply Bel.drewN | apply Bel.drew | apply Bel.alloc | refine Bel.set ?_ (by first | exact Nat.le_refl _ | exact Nat.le_add_right _ _ | (simp; done) | (simp; omega) | omega) _ | refine Bel.trans ?_ (by assumption)))⟩
        refine AllReadyH.cons rfl (fun K hK => ?_) AllReadyH.nil
        · go_simp
          (refine nameK ?_; intro V4 hV4; obtain ⟨g4, e4, L4, c4, lb4, ub4⟩ := (by first | exact alloc_block hV4 | exact alloc_blockD hV4 : AllocB _ V4 _); (try simp only [World.size_drew] at e4 lb4); rw [e4]; clear hV4 e4; (try have N14 := Lib.hid (fun a (ha : q1 = some a) => (show a.block ≠ g4 from by have := (R1.out.lt ha).2; omega))); (try have E0 := Lib.hid (E0.out.bel L4)); (try have E4 := Lib.hid (E4.out.bel L4)); (try have R1 := Lib.hid (R1.out.bel L4)); (try have R2 := Lib.hid (R2.out.bel L4)); (try have HB9 := Lib.hid (HB9.out.bel L4)); have szq4 := G.out.1.size; have E4 := Lib.hid (OwnI.empty (e := 3) (B := W0.heap.size) c4 (by (try simp only [World.size_drew] at *); omega)); clear c4; have G := Lib.hid (show Bel W0 V4 ∧ True from ⟨by first | exact G.out.1.trans L4 | exact L4, trivial⟩); have szgV4 := G.out.1.size; have szlV4 := L4.size; clear L4; skip)
          try go_wp2_with fail
          refine hK.out _ _ ?_ (fun hHeld => ?_)
          · ((try dsimp only); (first | exact HBX.out _ G.out.1 | exact HBX.out _ (Bel.refl _) | exact HBX.out _ (by have G1 := G.out.1; (repeat (first | assumption | exact Bel.refl _ | apply Bel.drewN | apply Bel.drew | apply Bel.alloc | refine Bel.set ?_ (by first | exact Nat.le_refl _ | exact Nat.le_add_right _ _ | (simp; done) | (simp; omega) | omega) _ | refine Bel.trans ?_ (by assumption))))))
          clear hK K
          try walk_nrm
          refine wpAnyH_ready (rs := [3]) (by kernel_rfl) (by simp) ?_
          refine AllReadyH.cons rfl (fun K hK => ?_) AllReadyH.nil
          · (refine step_appsK (o := ⟨some 9, _, _, _, _, _⟩) (e := 3) (B := W0.heap.size) _ (by rfl) _ _ 22 (by rfl) (.int .i64 0) 8 Try.underlying22 (by kernel_rfl) rfl (by decide) (some ⟨g0, 0, none⟩) 0 0 [] (by rfl) E0.out rfl sp0 s.1.length sk0 s.1 T (by rfl) (HST0.out _ G.out.1) rfl (by simp; omega) (by have := G.out.1.size; omega) ?_; intro q1 c1 wA hO hG hN; clear hN; have szp := hG.size; (try have N14 := Lib.hid (fun a (ha : q1 = some a) => (hG.at (E4.out.lt (a := ⟨g4, 0, none⟩) rfl).2 (fun a' ha' => by cases ha'; show g4 ≠ g0; omega)).2 a ha)); (try have E4 := Lib.hid (E4.out.keep (fun a ha => by cases ha; exact (hG.at (E4.out.lt (a := ⟨g4, 0, none⟩) rfl).2 (fun a' ha' => by cases ha'; show g4 ≠ g0; omega)).1))); (try have N19 := Lib.hid (fun a (ha : q1 = some a) => (hG.at HB9.out.lt (fun a' ha' => by cases ha'; show g9 ≠ g0; omega)).2 a ha)); (try have HB9 := Lib.hid (HB9.out.of (hG.at HB9.out.lt (fun a' ha' => by cases ha'; show g9 ≠ g0; omega)).1)); have R1 := Lib.hid (show OwnI 3 W0.heap.size wA q1 c1 s.1 from by simpa using hO); have G := Lib.hid (show Bel W0 wA ∧ True from ⟨hG.bel W0 G.out.1 (Nat.le_refl _), trivial⟩); have szgwA := G.out.1.size; clear hO hG)
            refine hK.out _ _ ?_ (fun hHeld => ?_)
            · ((try dsimp only); (first | exact HBX.out _ G.out.1 | exact HBX.out _ (Bel.refl _) | exact HBX.out _ (by have G1 := G.out.1; (repeat (first | assumption | exact Bel.refl _ | apply Bel.drewN | apply Bel.drew | apply Bel.alloc | refine Bel.set ?_ (by first | exact Nat.le_refl _ | exact Nat.le_add_right _ _ | (simp; done) | (simp; omega) | omega) _ | refine Bel.trans ?_ (by assumption))))))
            clear hK K
            try walk_nrm
            refine wpAnyH_ready (rs := [7]) (by kernel_rfl) (by simp) ?_
            refine AllReadyH.cons rfl (fun K hK => ?_) AllReadyH.nil
            · (refine step_appsK (o := ⟨some 13, _, _, _, _, _⟩) (e := 3) (B := W0.heap.size) _ (by rfl) _ _ 22 (by rfl) (.int .i64 0) 8 Try.underlying22 (by kernel_rfl) rfl (by decide) (some ⟨g4, 0, none⟩) 0 0 [] (by rfl) E4.out rfl sp0 s.1.length sk0 s.1 T (by rfl) (HST0.out _ G.out.1) rfl (by simp; omega) (by have := G.out.1.size; omega) ?_; intro q2 c2 wB hO hG hN; clear hN; have szp := hG.size; have N12 := Lib.hid (fun a b (ha : q1 = some a) (hb : q2 = some b) => (fun e => (hG.at (R1.out.lt ha).2 (fun a' ha' => by cases ha'; exact N14.out a ha)).2 b hb e.symm : a.block ≠ b.block)); have R1 := Lib.hid (R1.out.keep (fun a ha => (hG.at (R1.out.lt ha).2 (fun a' ha' => by cases ha'; exact N14.out a ha)).1)); (try have N29 := Lib.hid (fun a (ha : q2 = some a) => (hG.at HB9.out.lt (fun a' ha' => by cases ha'; show g9 ≠ g4; omega)).2 a ha)); (try have HB9 := Lib.hid (HB9.out.of (hG.at HB9.out.lt (fun a' ha' => by cases ha'; show g9 ≠ g4; omega)).1)); have R2 := Lib.hid (show OwnI 3 W0.heap.size wB q2 c2 s.1 from by simpa using hO); have G := Lib.hid (show Bel W0 wB ∧ True from ⟨hG.bel W0 G.out.1 (Nat.le_refl _), trivial⟩); have szgwB := G.out.1.size; clear hO hG)
              refine hK.out _ _ ?_ (fun hHeld => ?_)
              · ((try dsimp only); (first | exact HBX.out _ G.out.1 | exact HBX.out _ (Bel.refl _) | exact HBX.out _ (by have G1 := G.out.1; (repeat (first | assumption | exact Bel.refl _ | apply Bel.drewN | apply Bel.drew | apply Bel.alloc | refine Bel.set ?_ (by first | exact Nat.le_refl _ | exact Nat.le_add_right _ _ | (simp; done) | (simp; omega) | omega) _ | refine Bel.trans ?_ (by assumption))))))
              clear hK K
              try walk_nrm
              refine wpAnyH_take (i := 8) (v := ?_) rfl (by kernel_rfl) (by kernel_rfl) (by kernel_rfl) (fun _ _ _ h => h) (Or.inl ⟨by rfl, ?_⟩) (by assumption) ?_
              rotate_left
              · (intro w hSw; (try dsimp only at hSw); go_simp <;> with_reducible rfl)
              try walk_nrm
              refine wpAnyH_ready (rs := [10]) (by kernel_rfl) (by simp) ?_
              refine AllReadyH.cons rfl (fun K hK => ?_) AllReadyH.nil
              · go_simp
                (first | (have x0 := HB9.out.cellv (j := 0) (by simp); have x1 := HB9.out.cellv (j := 1) (by simp); have x2 := HB9.out.cellv (j := 2) (by simp); simp only [List.getElem_cons_zero, List.getElem_cons_succ] at x0 x1 x2; have y0 := HB9.out.frozen 0; have y1 := HB9.out.frozen 1; have y2 := HB9.out.frozen 2; go_simp) | skip)
                try go_wp2_with fail
                refine hK.out _ _ ?_ (fun hHeld => ?_)
                · ((try dsimp only); (first | exact HBX.out _ G.out.1 | exact HBX.out _ (Bel.refl _) | exact HBX.out _ (by have G1 := G.out.1; (repeat (first | assumption | exact Bel.refl _ | apply Bel.drewN | apply Bel.drew | apply Bel.alloc | refine Bel.set ?_ (by first | exact Nat.le_refl _ | exact Nat.le_add_right _ _ | (simp; done) | (simp; omega) | omega) _ | refine Bel.trans ?_ (by assumption))))))
                clear hK K
                try walk_nrm
                refine wpAnyH_done (by kernel_rfl) ?_ _
                go_wp2_with fail
                go_meet
                exact ⟨g9, q1, c1, q2, c2, rfl, by omega, ((HB9.out.set 0 (.slice q1 s.1.length c1)).set 1 (.slice q2 s.1.length c2)).set 2 (.slice none 0 0), OwnI.ofOwn (((R1.out.toOwn.setAt intR_good (q := g9) (fun a ha => (N19.out a ha).symm) 0 (.slice q1 s.1.length c1)).setAt intR_good (q := g9) (fun a ha => (N19.out a ha).symm) 1 (.slice q2 s.1.length c2)).setAt intR_good (q := g9) (fun a ha => (N19.out a ha).symm) 2 (.slice none 0 0)), OwnI.ofOwn (((R2.out.toOwn.setAt intR_good (q := g9) (fun a ha => (N29.out a ha).symm) 0 (.slice q1 s.1.length c1)).setAt intR_good (q := g9) (fun a ha => (N29.out a ha).symm) 1 (.slice q2 s.1.length c2)).setAt intR_good (q := g9) (fun a ha => (N29.out a ha).symm) 2 (.slice none 0 0)), N12.out, N19.out, N29.out, by have G1 := G.out.1; (repeat (first | assumption | exact Bel.refl _ | apply Bel.drewN | apply Bel.drew | apply Bel.alloc | refine Bel.set ?_ (by first | exact Nat.le_refl _ | exact Nat.le_add_right _ _ | (simp; done) | (simp; omega) | omega) _ | refine Bel.trans ?_ (by assumption)))⟩
    refine AllReadyH.cons rfl (fun K hK => ?_) ?_
    · go_simp
      (refine nameK ?_; intro V4 hV4; obtain ⟨g4, e4, L4, c4, lb4, ub4⟩ := (by first | exact alloc_block hV4 | exact alloc_blockD hV4 : AllocB _ V4 _); (try simp only [World.size_drew] at e4 lb4); rw [e4]; clear hV4 e4; (try have N14 := Lib.hid (fun a (ha : q1 = some a) => (show a.block ≠ g4 from by have := (R1.out.lt ha).2; omega))); (try have E0 := Lib.hid (E0.out.bel L4)); (try have E4 := Lib.hid (E4.out.bel L4)); (try have R1 := Lib.hid (R1.out.bel L4)); (try have R2 := Lib.hid (R2.out.bel L4)); (try have HB9 := Lib.hid (HB9.out.bel L4)); have szq4 := G.out.1.size; have E4 := Lib.hid (OwnI.empty (e := 3) (B := W0.heap.size) c4 (by (try simp only [World.size_drew] at *); omega)); clear c4; have G := Lib.hid (show Bel W0 V4 ∧ True from ⟨by first | exact G.out.1.trans L4 | exact L4, trivial⟩); have szgV4 := G.out.1.size; have szlV4 := L4.size; clear L4; skip)
      try go_wp2_with fail
      refine hK.out _ _ ?_ (fun hHeld => ?_)
      · ((try dsimp only); (first | exact HBX.out _ G.out.1 | exact HBX.out _ (Bel.refl _) | exact HBX.out _ (by have G1 := G.out.1; (repeat (first | assumption | exact Bel.refl _ | apply Bel.drewN | apply Bel.drew | apply Bel.alloc | refine Bel.set ?_ (by first | exact Nat.le_refl _ | exact Nat.le_add_right _ _ | (simp; done) | (simp; omega) | omega) _ | refine Bel.trans ?_ (by assumption))))))
      clear hK K
      try walk_nrm
      refine wpAnyH_ready (rs := [0, 9]) (by kernel_rfl) (by simp) ?_
      refine AllReadyH.cons rfl (fun K hK => ?_) ?_
      · go_simp
        (refine nameK ?_; intro V0 hV0; obtain ⟨g0, e0, L0, c0, lb0, ub0⟩ := (by first | exact alloc_block hV0 | exact alloc_blockD hV0 : AllocB _ V0 _); (try simp only [World.size_drew] at e0 lb0); rw [e0]; clear hV0 e0; (try have E0 := Lib.hid (E0.out.bel L0)); (try have E4 := Lib.hid (E4.out.bel L0)); (try have R1 := Lib.hid (R1.out.bel L0)); (try have R2 := Lib.hid (R2.out.bel L0)); (try have HB9 := Lib.hid (HB9.out.bel L0)); have szq0 := G.out.1.size; have E0 := Lib.hid (OwnI.empty (e := 3) (B := W0.heap.size) c0 (by (try simp only [World.size_drew] at *); omega)); clear c0; have G := Lib.hid (show Bel W0 V0 ∧ True from ⟨by first | exact G.out.1.trans L0 | exact L0, trivial⟩); have szgV0 := G.out.1.size; have szlV0 := L0.size; clear L0; skip)
        try go_wp2_with fail
        refine hK.out _ _ ?_ (fun hHeld => ?_)
        · ((try dsimp only); (first | exact HBX.out _ G.out.1 | exact HBX.out _ (Bel.refl _) | exact HBX.out _ (by have G1 := G.out.1; (repeat (first | assumption | exact Bel.refl _ | apply Bel.drewN | apply Bel.drew | apply Bel.alloc | refine Bel.set ?_ (by first | exact Nat.le_refl _ | exact Nat.le_add_right _ _ | (simp; done) | (simp; omega) | omega) _ | refine Bel.trans ?_ (by assumption))))))
        clear hK K
        try walk_nrm
        refine wpAnyH_ready (rs := [3, 9]) (by kernel_rfl) (by simp) ?_
        refine AllReadyH.cons rfl (fun K hK => ?_) ?_
        · (refine step_appsK (o := ⟨some 9, _, _, _, _, _⟩) (e := 3) (B := W0.heap.size) _ (by rfl) _ _ 22 (by rfl) (.int .i64 0) 8 Try.underlying22 (by kernel_rfl) rfl (by decide) (some ⟨g0, 0, none⟩) 0 0 [] (by rfl) E0.out rfl sp0 s.1.length sk0 s.1 T (by rfl) (HST0.out _ G.out.1) rfl (by simp; omega) (by have := G.out.1.size; omega) ?_; intro q1 c1 wA hO hG hN; clear hN; have szp := hG.size; (try have N14 := Lib.hid (fun a (ha : q1 = some a) => (hG.at (E4.out.lt (a := ⟨g4, 0, none⟩) rfl).2 (fun a' ha' => by cases ha'; show g4 ≠ g0; omega)).2 a ha)); (try have E4 := Lib.hid (E4.out.keep (fun a ha => by cases ha; exact (hG.at (E4.out.lt (a := ⟨g4, 0, none⟩) rfl).2 (fun a' ha' => by cases ha'; show g4 ≠ g0; omega)).1))); (try have N19 := Lib.hid (fun a (ha : q1 = some a) => (hG.at HB9.out.lt (fun a' ha' => by cases ha'; show g9 ≠ g0; omega)).2 a ha)); (try have HB9 := Lib.hid (HB9.out.of (hG.at HB9.out.lt (fun a' ha' => by cases ha'; show g9 ≠ g0; omega)).1)); have R1 := Lib.hid (show OwnI 3 W0.heap.size wA q1 c1 s.1 from by simpa using hO); have G := Lib.hid (show Bel W0 wA ∧ True from ⟨hG.bel W0 G.out.1 (Nat.le_refl _), trivial⟩); have szgwA := G.out.1.size; clear hO hG)
          refine hK.out _ _ ?_ (fun hHeld => ?_)
          · ((try dsimp only); (first | exact HBX.out _ G.out.1 | exact HBX.out _ (Bel.refl _) | exact HBX.out _ (by have G1 := G.out.1; (repeat (first | assumption | exact Bel.refl _ | apply Bel.drewN | apply Bel.drew | apply Bel.alloc | refine Bel.set ?_ (by first | exact Nat.le_refl _ | exact Nat.le_add_right _ _ | (simp; done) | (simp; omega) | omega) _ | refine Bel.trans ?_ (by assumption))))))
          clear hK K
          try walk_nrm
          refine wpAnyH_ready (rs := [7, 9]) (by kernel_rfl) (by simp) ?_
          refine AllReadyH.cons rfl (fun K hK => ?_) ?_
          · (refine step_appsK (o := ⟨some 13, _, _, _, _, _⟩) (e := 3) (B := W0.heap.size) _ (by rfl) _ _ 22 (by rfl) (.int .i64 0) 8 Try.underlying22 (by kernel_rfl) rfl (by decide) (some ⟨g4, 0, none⟩) 0 0 [] (by rfl) E4.out rfl sp0 s.1.length sk0 s.1 T (by rfl) (HST0.out _ G.out.1) rfl (by simp; omega) (by have := G.out.1.size; omega) ?_; intro q2 c2 wB hO hG hN; clear hN; have szp := hG.size; have N12 := Lib.hid (fun a b (ha : q1 = some a) (hb : q2 = some b) => (fun e => (hG.at (R1.out.lt ha).2 (fun a' ha' => by cases ha'; exact N14.out a ha)).2 b hb e.symm : a.block ≠ b.block)); have R1 := Lib.hid (R1.out.keep (fun a ha => (hG.at (R1.out.lt ha).2 (fun a' ha' => by cases ha'; exact N14.out a ha)).1)); (try have N29 := Lib.hid (fun a (ha : q2 = some a) => (hG.at HB9.out.lt (fun a' ha' => by cases ha'; show g9 ≠ g4; omega)).2 a ha)); (try have HB9 := Lib.hid (HB9.out.of (hG.at HB9.out.lt (fun a' ha' => by cases ha'; show g9 ≠ g4; omega)).1)); have R2 := Lib.hid (show OwnI 3 W0.heap.size wB q2 c2 s.1 from by simpa using hO); have G := Lib.hid (show Bel W0 wB ∧ True from ⟨hG.bel W0 G.out.1 (Nat.le_refl _), trivial⟩); have szgwB := G.out.1.size; clear hO hG)
            refine hK.out _ _ ?_ (fun hHeld => ?_)
            · ((try dsimp only); (first | exact HBX.out _ G.out.1 | exact HBX.out _ (Bel.refl _) | exact HBX.out _ (by have G1 := G.out.1; (repeat (first | assumption | exact Bel.refl _ | apply Bel.drewN | apply Bel.drew | apply Bel.alloc | refine Bel.set ?_ (by first | exact Nat.le_refl _ | exact Nat.le_add_right _ _ | (simp; done) | (simp; omega) | omega) _ | refine Bel.trans ?_ (by assumption))))))
            clear hK K
            try walk_nrm
            refine wpAnyH_take (i := 8) (v := ?_) rfl (by kernel_rfl) (by kernel_rfl) (by kernel_rfl) (fun _ _ _ h => h) (Or.inl ⟨by rfl, ?_⟩) (by assumption) ?_
            rotate_left
            · (intro w hSw; (try dsimp only at hSw); go_simp <;> with_reducible rfl)
            try walk_nrm
            refine wpAnyH_ready (rs := [9]) (by kernel_rfl) (by simp) ?_
            refine AllReadyH.cons rfl (fun K hK => ?_) AllReadyH.nil
            · go_simp
              (refine nameK ?_; intro V9 hV9; obtain ⟨g9, e9, L9, c9, lb9, ub9⟩ := (by first | exact alloc_block hV9 | exact alloc_blockD hV9 : AllocB _ V9 _); (try simp only [World.size_drew] at e9 lb9); rw [e9]; clear hV9 e9; (try have N19 := Lib.hid (fun a (ha : q1 = some a) => (show a.block ≠ g9 from by have := (R1.out.lt ha).2; omega))); (try have N29 := Lib.hid (fun a (ha : q2 = some a) => (show a.block ≠ g9 from by have := (R2.out.lt ha).2; omega))); (try have E0 := Lib.hid (E0.out.bel L9)); (try have E4 := Lib.hid (E4.out.bel L9)); (try have R1 := Lib.hid (R1.out.bel L9)); (try have R2 := Lib.hid (R2.out.bel L9)); (try have HB9 := Lib.hid (HB9.out.bel L9)); have HB9 := Lib.hid (show Blk V9 g9 28 [.slice none 0 0, .slice none 0 0, .slice none 0 0] from c9); clear c9; have G := Lib.hid (show Bel W0 V9 ∧ True from ⟨by first | exact G.out.1.trans L9 | exact L9, trivial⟩); have szgV9 := G.out.1.size; have szlV9 := L9.size; clear L9; skip)
              try go_wp2_with fail
              refine hK.out _ _ ?_ (fun hHeld => ?_)
              · ((try dsimp only); (first | exact HBX.out _ G.out.1 | exact HBX.out _ (Bel.refl _) | exact HBX.out _ (by have G1 := G.out.1; (repeat (first | assumption | exact Bel.refl _ | apply Bel.drewN | apply Bel.drew | apply Bel.alloc | refine Bel.set ?_ (by first | exact Nat.le_refl _ | exact Nat.le_add_right _ _ | (simp; done) | (simp; omega) | omega) _ | refine Bel.trans ?_ (by assumption))))))
              clear hK K
              try walk_nrm
              refine wpAnyH_ready (rs := [10]) (by kernel_rfl) (by simp) ?_
              refine AllReadyH.cons rfl (fun K hK => ?_) AllReadyH.nil
              · go_simp
                (first | (have x0 := HB9.out.cellv (j := 0) (by simp); have x1 := HB9.out.cellv (j := 1) (by simp); have x2 := HB9.out.cellv (j := 2) (by simp); simp only [List.getElem_cons_zero, List.getElem_cons_succ] at x0 x1 x2; have y0 := HB9.out.frozen 0; have y1 := HB9.out.frozen 1; have y2 := HB9.out.frozen 2; go_simp) | skip)
                try go_wp2_with fail
                refine hK.out _ _ ?_ (fun hHeld => ?_)
                · ((try dsimp only); (first | exact HBX.out _ G.out.1 | exact HBX.out _ (Bel.refl _) | exact HBX.out _ (by have G1 := G.out.1; (repeat (first | assumption | exact Bel.refl _ | apply Bel.drewN | apply Bel.drew | apply Bel.alloc | refine Bel.set ?_ (by first | exact Nat.le_refl _ | exact Nat.le_add_right _ _ | (simp; done) | (simp; omega) | omega) _ | refine Bel.trans ?_ (by assumption))))))
                clear hK K
                try walk_nrm
                refine wpAnyH_done (by kernel_rfl) ?_ _
                go_wp2_with fail
                go_meet
                exact ⟨g9, q1, c1, q2, c2, rfl, by omega, ((HB9.out.set 0 (.slice q1 s.1.length c1)).set 1 (.slice q2 s.1.length c2)).set 2 (.slice none 0 0), OwnI.ofOwn (((R1.out.toOwn.setAt intR_good (q := g9) (fun a ha => (N19.out a ha).symm) 0 (.slice q1 s.1.length c1)).setAt intR_good (q := g9) (fun a ha => (N19.out a ha).symm) 1 (.slice q2 s.1.length c2)).setAt intR_good (q := g9) (fun a ha => (N19.out a ha).symm) 2 (.slice none 0 0)), OwnI.ofOwn (((R2.out.toOwn.setAt intR_good (q := g9) (fun a ha => (N29.out a ha).symm) 0 (.slice q1 s.1.length c1)).setAt intR_good (q := g9) (fun a ha => (N29.out a ha).symm) 1 (.slice q2 s.1.length c2)).setAt intR_good (q := g9) (fun a ha => (N29.out a ha).symm) 2 (.slice none 0 0)), N12.out, N19.out, N29.out, by have G1 := G.out.1; (repeat (first | assumption | exact Bel.refl _ | apply Bel.drewN | apply Bel.drew | apply Bel.alloc | refine Bel.set ?_ (by first | exact Nat.le_refl _ | exact Nat.le_add_right _ _ | (simp; done) | (simp; omega) | omega) _ | refine Bel.trans ?_ (by assumption)))⟩
          refine AllReadyH.cons rfl (fun K hK => ?_) AllReadyH.nil
          · go_simp
            (refine nameK ?_; intro V9 hV9; obtain ⟨g9, e9, L9, c9, lb9, ub9⟩ := (by first | exact alloc_block hV9 | exact alloc_blockD hV9 : AllocB _ V9 _); (try simp only [World.size_drew] at e9 lb9); rw [e9]; clear hV9 e9; (try have N19 := Lib.hid (fun a (ha : q1 = some a) => (show a.block ≠ g9 from by have := (R1.out.lt ha).2; omega))); (try have N29 := Lib.hid (fun a (ha : q2 = some a) => (show a.block ≠ g9 from by have := (R2.out.lt ha).2; omega))); (try have E0 := Lib.hid (E0.out.bel L9)); (try have E4 := Lib.hid (E4.out.bel L9)); (try have R1 := Lib.hid (R1.out.bel L9)); (try have R2 := Lib.hid (R2.out.bel L9)); (try have HB9 := Lib.hid (HB9.out.bel L9)); have HB9 := Lib.hid (show Blk V9 g9 28 [.slice none 0 0, .slice none 0 0, .slice none 0 0] from c9); clear c9; have G := Lib.hid (show Bel W0 V9 ∧ True from ⟨by first | exact G.out.1.trans L9 | exact L9, trivial⟩); have szgV9 := G.out.1.size; have szlV9 := L9.size; clear L9; skip)
            try go_wp2_with fail
            refine hK.out _ _ ?_ (fun hHeld => ?_)
            · ((try dsimp only); (first | exact HBX.out _ G.out.1 | exact HBX.out _ (Bel.refl _) | exact HBX.out _ (by have G1 := G.out.1; (repeat (first | assumption | exact Bel.refl _ | apply Bel.drewN | apply Bel.drew | apply Bel.alloc | refine Bel.set ?_ (by first | exact Nat.le_refl _ | exact Nat.le_add_right _ _ | (simp; done) | (simp; omega) | omega) _ | refine Bel.trans ?_ (by assumption))))))
            clear hK K
            try walk_nrm
            refine wpAnyH_ready (rs := [7]) (by kernel_rfl) (by simp) ?_
            refine AllReadyH.cons rfl (fun K hK => ?_) AllReadyH.nil
            · (refine step_appsK (o := ⟨some 13, _, _, _, _, _⟩) (e := 3) (B := W0.heap.size) _ (by rfl) _ _ 22 (by rfl) (.int .i64 0) 8 Try.underlying22 (by kernel_rfl) rfl (by decide) (some ⟨g4, 0, none⟩) 0 0 [] (by rfl) E4.out rfl sp0 s.1.length sk0 s.1 T (by rfl) (HST0.out _ G.out.1) rfl (by simp; omega) (by have := G.out.1.size; omega) ?_; intro q2 c2 wB hO hG hN; clear hN; have szp := hG.size; have N12 := Lib.hid (fun a b (ha : q1 = some a) (hb : q2 = some b) => (fun e => (hG.at (R1.out.lt ha).2 (fun a' ha' => by cases ha'; exact N14.out a ha)).2 b hb e.symm : a.block ≠ b.block)); have R1 := Lib.hid (R1.out.keep (fun a ha => (hG.at (R1.out.lt ha).2 (fun a' ha' => by cases ha'; exact N14.out a ha)).1)); (try have N29 := Lib.hid (fun a (ha : q2 = some a) => (hG.at HB9.out.lt (fun a' ha' => by cases ha'; show g9 ≠ g4; omega)).2 a ha)); (try have HB9 := Lib.hid (HB9.out.of (hG.at HB9.out.lt (fun a' ha' => by cases ha'; show g9 ≠ g4; omega)).1)); have R2 := Lib.hid (show OwnI 3 W0.heap.size wB q2 c2 s.1 from by simpa using hO); have G := Lib.hid (show Bel W0 wB ∧ True from ⟨hG.bel W0 G.out.1 (Nat.le_refl _), trivial⟩); have szgwB := G.out.1.size; clear hO hG)
              refine hK.out _ _ ?_ (fun hHeld => ?_)
              · ((try dsimp only); (first | exact HBX.out _ G.out.1 | exact HBX.out _ (Bel.refl _) | exact HBX.out _ (by have G1 := G.out.1; (repeat (first | assumption | exact Bel.refl _ | apply Bel.drewN | apply Bel.drew | apply Bel.alloc | refine Bel.set ?_ (by first | exact Nat.le_refl _ | exact Nat.le_add_right _ _ | (simp; done) | (simp; omega) | omega) _ | refine Bel.trans ?_ (by assumption))))))
              clear hK K
              try walk_nrm
              refine wpAnyH_take (i := 8) (v := ?_) rfl (by kernel_rfl) (by kernel_rfl) (by kernel_rfl) (fun _ _ _ h => h) (Or.inl ⟨by rfl, ?_⟩) (by assumption) ?_
              rotate_left
              · (intro w hSw; (try dsimp only at hSw); go_simp <;> with_reducible rfl)
              try walk_nrm
              refine wpAnyH_ready (rs := [10]) (by kernel_rfl) (by simp) ?_
              refine AllReadyH.cons rfl (fun K hK => ?_) AllReadyH.nil
              · go_simp
                (first | (have x0 := HB9.out.cellv (j := 0) (by simp); have x1 := HB9.out.cellv (j := 1) (by simp); have x2 := HB9.out.cellv (j := 2) (by simp); simp only [List.getElem_cons_zero, List.getElem_cons_succ] at x0 x1 x2; have y0 := HB9.out.frozen 0; have y1 := HB9.out.frozen 1; have y2 := HB9.out.frozen 2; go_simp) | skip)
                try go_wp2_with fail
                refine hK.out _ _ ?_ (fun hHeld => ?_)
                · ((try dsimp only); (first | exact HBX.out _ G.out.1 | exact HBX.out _ (Bel.refl _) | exact HBX.out _ (by have G1 := G.out.1; (repeat (first | assumption | exact Bel.refl _ | apply Bel.drewN | apply Bel.drew | apply Bel.alloc | refine Bel.set ?_ (by first | exact Nat.le_refl _ | exact Nat.le_add_right _ _ | (simp; done) | (simp; omega) | omega) _ | refine Bel.trans ?_ (by assumption))))))
                clear hK K
                try walk_nrm
                refine wpAnyH_done (by kernel_rfl) ?_ _
                go_wp2_with fail
                go_meet
                exact ⟨g9, q1, c1, q2, c2, rfl, by omega, ((HB9.out.set 0 (.slice q1 s.1.length c1)).set 1 (.slice q2 s.1.length c2)).set 2 (.slice none 0 0), OwnI.ofOwn (((R1.out.toOwn.setAt intR_good (q := g9) (fun a ha => (N19.out a ha).symm) 0 (.slice q1 s.1.length c1)).setAt intR_good (q := g9) (fun a ha => (N19.out a ha).symm) 1 (.slice q2 s.1.length c2)).setAt intR_good (q := g9) (fun a ha => (N19.out a ha).symm) 2 (.slice none 0 0)), OwnI.ofOwn (((R2.out.toOwn.setAt intR_good (q := g9) (fun a ha => (N29.out a ha).symm) 0 (.slice q1 s.1.length c1)).setAt intR_good (q := g9) (fun a ha => (N29.out a ha).symm) 1 (.slice q2 s.1.length c2)).setAt intR_good (q := g9) (fun a ha => (N29.out a ha).symm) 2 (.slice none 0 0)), N12.out, N19.out, N29.out, by have G1 := G.out.1; (repeat (first | assumption | exact Bel.refl _ | apply Bel.drewN | apply Bel.drew | apply Bel.alloc | refine Bel.set ?_ (by first | exact Nat.le_refl _ | exact Nat.le_add_right _ _ | (simp; done) | (simp; omega) | omega) _ | refine Bel.trans ?_ (by assumption)))⟩
        refine AllReadyH.cons rfl (fun K hK => ?_) AllReadyH.nil
        · go_simp
          (refine nameK ?_; intro V9 hV9; obtain ⟨g9, e9, L9, c9, lb9, ub9⟩ := (by first | exact alloc_block hV9 | exact alloc_blockD hV9 : AllocB _ V9 _); (try simp only [World.size_drew] at e9 lb9); rw [e9]; clear hV9 e9; (try have N19 := Lib.hid (fun a (ha : q1 = some a) => (show a.block ≠ g9 from by have := (R1.out.lt ha).2; omega))); (try have N29 := Lib.hid (fun a (ha : q2 = some a) => (show a.block ≠ g9 from by have := (R2.out.lt ha).2; omega))); (try have E0 := Lib.hid (E0.out.bel L9)); (try have E4 := Lib.hid (E4.out.bel L9)); (try have R1 := Lib.hid (R1.out.bel L9)); (try have R2 := Lib.hid (R2.out.bel L9)); (try have HB9 := Lib.hid (HB9.out.bel L9)); have HB9 := Lib.hid (show Blk V9 g9 28 [.slice none 0 0, .slice none 0 0, .slice none 0 0] from c9); clear c9; have G := Lib.hid (show Bel W0 V9 ∧ True from ⟨by first | exact G.out.1.trans L9 | exact L9, trivial⟩); have szgV9 := G.out.1.size; have szlV9 := L9.size; clear L9; skip)
          try go_wp2_with fail
          refine hK.out _ _ ?_ (fun hHeld => ?_)
          · ((try dsimp only); (first | exact HBX.out _ G.out.1 | exact HBX.out _ (Bel.refl _) | exact HBX.out _ (by have G1 := G.out.1; (repeat (first | assumption | exact Bel.refl _ | apply Bel.drewN | apply Bel.drew | apply Bel.alloc | refine Bel.set ?_ (by first | exact Nat.le_refl _ | exact Nat.le_add_right _ _ | (simp; done) | (simp; omega) | omega) _ | refine Bel.trans ?_ (by assumption))))))
          clear hK K
          try walk_nrm
          refine wpAnyH_ready (rs := [3]) (by kernel_rfl) (by simp) ?_
          refine AllReadyH.cons rfl (fun K hK => ?_) AllReadyH.nil
          · (refine step_appsK (o := ⟨some 9, _, _, _, _, _⟩) (e := 3) (B := W0.heap.size) _ (by rfl) _ _ 22 (by rfl) (.int .i64 0) 8 Try.underlying22 (by kernel_rfl) rfl (by decide) (some ⟨g0, 0, none⟩) 0 0 [] (by rfl) E0.out rfl sp0 s.1.length sk0 s.1 T (by rfl) (HST0.out _ G.out.1) rfl (by simp; omega) (by have := G.out.1.size; omega) ?_; intro q1 c1 wA hO hG hN; clear hN; have szp := hG.size; (try have N14 := Lib.hid (fun a (ha : q1 = some a) => (hG.at (E4.out.lt (a := ⟨g4, 0, none⟩) rfl).2 (fun a' ha' => by cases ha'; show g4 ≠ g0; omega)).2 a ha)); (try have E4 := Lib.hid (E4.out.keep (fun a ha => by cases ha; exact (hG.at (E4.out.lt (a := ⟨g4, 0, none⟩) rfl).2 (fun a' ha' => by cases ha'; show g4 ≠ g0; omega)).1))); (try have N19 := Lib.hid (fun a (ha : q1 = some a) => (hG.at HB9.out.lt (fun a' ha' => by cases ha'; show g9 ≠ g0; omega)).2 a ha)); (try have HB9 := Lib.hid (HB9.out.of (hG.at HB9.out.lt (fun a' ha' => by cases ha'; show g9 ≠ g0; omega)).1)); have R1 := Lib.hid (show OwnI 3 W0.heap.size wA q1 c1 s.1 from by simpa using hO); have G := Lib.hid (show Bel W0 wA ∧ True from ⟨hG.bel W0 G.out.1 (Nat.le_refl _), trivial⟩); have szgwA := G.out.1.size; clear hO hG)
            refine hK.out _ _ ?_ (fun hHeld => ?_)
            · ((try dsimp only); (first | exact HBX.out _ G.out.1 | exact HBX.out _ (Bel.refl _) | exact HBX.out _ (by have G1 := G.out.1; (repeat (first | assumption | exact Bel.refl _ | apply Bel.drewN | apply Bel.drew | apply Bel.alloc | refine Bel.set ?_ (by first | exact Nat.le_refl _ | exact Nat.le_add_right _ _ | (simp; done) | (simp; omega) | omega) _ | refine Bel.trans ?_ (by assumption))))))
            clear hK K
            try walk_nrm
            refine wpAnyH_ready (rs := [7]) (by kernel_rfl) (by simp) ?_
            refine AllReadyH.cons rfl (fun K hK => ?_) AllReadyH.nil
            · (refine step_appsK (o := ⟨some 13, _, _, _, _, _⟩) (e := 3) (B := W0.heap.size) _ (by rfl) _ _ 22 (by rfl) (.int .i64 0) 8 Try.underlying22 (by kernel_rfl) rfl (by decide) (some ⟨g4, 0, none⟩) 0 0 [] (by rfl) E4.out rfl sp0 s.1.length sk0 s.1 T (by rfl) (HST0.out _ G.out.1) rfl (by simp; omega) (by have := G.out.1.size; omega) ?_; intro q2 c2 wB hO hG hN; clear hN; have szp := hG.size; have N12 := Lib.hid (fun a b (ha : q1 = some a) (hb : q2 = some b) => (fun e => (hG.at (R1.out.lt ha).2 (fun a' ha' => by cases ha'; exact N14.out a ha)).2 b hb e.symm : a.block ≠ b.block)); have R1 := Lib.hid (R1.out.keep (fun a ha => (hG.at (R1.out.lt ha).2 (fun a' ha' => by cases ha'; exact N14.out a ha)).1)); (try have N29 := Lib.hid (fun a (ha : q2 = some a) => (hG.at HB9.out.lt (fun a' ha' => by cases ha'; show g9 ≠ g4; omega)).2 a ha)); (try have HB9 := Lib.hid (HB9.out.of (hG.at HB9.out.lt (fun a' ha' => by cases ha'; show g9 ≠ g4; omega)).1)); have R2 := Lib.hid (show OwnI 3 W0.heap.size wB q2 c2 s.1 from by simpa using hO); have G := Lib.hid (show Bel W0 wB ∧ True from ⟨hG.bel W0 G.out.1 (Nat.le_refl _), trivial⟩); have szgwB := G.out.1.size; clear hO hG)
              refine hK.out _ _ ?_ (fun hHeld => ?_)
              · ((try dsimp only); (first | exact HBX.out _ G.out.1 | exact HBX.out _ (Bel.refl _) | exact HBX.out _ (by have G1 := G.out.1; (repeat (first | assumption | exact Bel.refl _ | apply Bel.drewN | apply Bel.drew | apply Bel.alloc | refine Bel.set ?_ (by first | exact Nat.le_refl _ | exact Nat.le_add_right _ _ | (simp; done) | (simp; omega) | omega) _ | refine Bel.trans ?_ (by assumption))))))
              clear hK K
              try walk_nrm
              refine wpAnyH_take (i := 8) (v := ?_) rfl (by kernel_rfl) (by kernel_rfl) (by kernel_rfl) (fun _ _ _ h => h) (Or.inl ⟨by rfl, ?_⟩) (by assumption) ?_
              rotate_left
              · (intro w hSw; (try dsimp only at hSw); go_simp <;> with_reducible rfl)
              try walk_nrm
              refine wpAnyH_ready (rs := [10]) (by kernel_rfl) (by simp) ?_
              refine AllReadyH.cons rfl (fun K hK => ?_) AllReadyH.nil
              · go_simp
                (first | (have x0 := HB9.out.cellv (j := 0) (by simp); have x1 := HB9.out.cellv (j := 1) (by simp); have x2 := HB9.out.cellv (j := 2) (by simp); simp only [List.getElem_cons_zero, List.getElem_cons_succ] at x0 x1 x2; have y0 := HB9.out.frozen 0; have y1 := HB9.out.frozen 1; have y2 := HB9.out.frozen 2; go_simp) | skip)
                try go_wp2_with fail
                refine hK.out _ _ ?_ (fun hHeld => ?_)
                · ((try dsimp only); (first | exact HBX.out _ G.out.1 | exact HBX.out _ (Bel.refl _) | exact HBX.out _ (by have G1 := G.out.1; (repeat (first | assumption | exact Bel.refl _ | apply Bel.drewN | apply Bel.drew | apply Bel.alloc | refine Bel.set ?_ (by first | exact Nat.le_refl _ | exact Nat.le_add_right _ _ | (simp; done) | (simp; omega) | omega) _ | refine Bel.trans ?_ (by assumption))))))
                clear hK K
                try walk_nrm
                refine wpAnyH_done (by kernel_rfl) ?_ _
                go_wp2_with fail
                go_meet
                exact ⟨g9, q1, c1, q2, c2, rfl, by omega, ((HB9.out.set 0 (.slice q1 s.1.length c1)).set 1 (.slice q2 s.1.length c2)).set 2 (.slice none 0 0), OwnI.ofOwn (((R1.out.toOwn.setAt intR_good (q := g9) (fun a ha => (N19.out a ha).symm) 0 (.slice q1 s.1.length c1)).setAt intR_good (q := g9) (fun a ha => (N19.out a ha).symm) 1 (.slice q2 s.1.length c2)).setAt intR_good (q := g9) (fun a ha => (N19.out a ha).symm) 2 (.slice none 0 0)), OwnI.ofOwn (((R2.out.toOwn.setAt intR_good (q := g9) (fun a ha => (N29.out a ha).symm) 0 (.slice q1 s.1.length c1)).setAt intR_good (q := g9) (fun a ha => (N29.out a ha).symm) 1 (.slice q2 s.1.length c2)).setAt intR_good (q := g9) (fun a ha => (N29.out a ha).symm) 2 (.slice none 0 0)), N12.out, N19.out, N29.out, by have G1 := G.out.1; (repeat (first | assumption | exact Bel.refl _ | apply Bel.drewN | apply Bel.drew | apply Bel.alloc | refine Bel.set ?_ (by first | exact Nat.le_refl _ | exact Nat.le_add_right _ _ | (simp; done) | (simp; omega) | omega) _ | refine Bel.trans ?_ (by assumption)))⟩
      refine AllReadyH.cons rfl (fun K hK => ?_) AllReadyH.nil
      · go_simp
        (refine nameK ?_; intro V9 hV9; obtain ⟨g9, e9, L9, c9, lb9, ub9⟩ := (by first | exact alloc_block hV9 | exact alloc_blockD hV9 : AllocB _ V9 _); (try simp only [World.size_drew] at e9 lb9); rw [e9]; clear hV9 e9; (try have N19 := Lib.hid (fun a (ha : q1 = some a) => (show a.block ≠ g9 from by have := (R1.out.lt ha).2; omega))); (try have N29 := Lib.hid (fun a (ha : q2 = some a) => (show a.block ≠ g9 from by have := (R2.out.lt ha).2; omega))); (try have E0 := Lib.hid (E0.out.bel L9)); (try have E4 := Lib.hid (E4.out.bel L9)); (try have R1 := Lib.hid (R1.out.bel L9)); (try have R2 := Lib.hid (R2.out.bel L9)); (try have HB9 := Lib.hid (HB9.out.bel L9)); have HB9 := Lib.hid (show Blk V9 g9 28 [.slice none 0 0, .slice none 0 0, .slice none 0 0] from c9); clear c9; have G := Lib.hid (show Bel W0 V9 ∧ True from ⟨by first | exact G.out.1.trans L9 | exact L9, trivial⟩); have szgV9 := G.out.1.size; have szlV9 := L9.size; clear L9; skip)
        try go_wp2_with fail
        refine hK.out _ _ ?_ (fun hHeld => ?_)
        · ((try dsimp only); (first | exact HBX.out _ G.out.1 | exact HBX.out _ (Bel.refl _) | exact HBX.out _ (by have G1 := G.out.1; (repeat (first | assumption | exact Bel.refl _ | apply Bel.drewN | apply Bel.drew | apply Bel.alloc | refine Bel.set ?_ (by first | exact Nat.le_refl _ | exact Nat.le_add_right _ _ | (simp; done) | (simp; omega) | omega) _ | refine Bel.trans ?_ (by assumption))))))
        clear hK K
        try walk_nrm
        refine wpAnyH_ready (rs := [0]) (by kernel_rfl) (by simp) ?_
        refine AllReadyH.cons rfl (fun K hK => ?_) AllReadyH.nil
        · go_simp
          (refine nameK ?_; intro V0 hV0; obtain ⟨g0, e0, L0, c0, lb0, ub0⟩ := (by first | exact alloc_block hV0 | exact alloc_blockD hV0 : AllocB _ V0 _); (try simp only [World.size_drew] at e0 lb0); rw [e0]; clear hV0 e0; (try have E0 := Lib.hid (E0.out.bel L0)); (try have E4 := Lib.hid (E4.out.bel L0)); (try have R1 := Lib.hid (R1.out.bel L0)); (try have R2 := Lib.hid (R2.out.bel L0)); (try have HB9 := Lib.hid (HB9.out.bel L0)); have szq0 := G.out.1.size; have E0 := Lib.hid (OwnI.empty (e := 3) (B := W0.heap.size) c0 (by (try simp only [World.size_drew] at *); omega)); clear c0; have G := Lib.hid (show Bel W0 V0 ∧ True from ⟨by first | exact G.out.1.trans L0 | exact L0, trivial⟩); have szgV0 := G.out.1.size; have szlV0 := L0.size; clear L0; skip)
          try go_wp2_with fail
          refine hK.out _ _ ?_ (fun hHeld => ?_)
          · ((try dsimp only); (first | exact HBX.out _ G.out.1 | exact HBX.out _ (Bel.refl _) | exact HBX.out _ (by have G1 := G.out.1; (repeat (first | assumption | exact Bel.refl _ | apply Bel.drewN | apply Bel.drew | apply Bel.alloc | refine Bel.set ?_ (by first | exact Nat.le_refl _ | exact Nat.le_add_right _ _ | (simp; done) | (simp; omega) | omega) _ | refine Bel.trans ?_ (by assumption))))))
          clear hK K
          try walk_nrm
          refine wpAnyH_ready (rs := [3]) (by kernel_rfl) (by simp) ?_
          refine AllReadyH.cons rfl (fun K hK => ?_) AllReadyH.nil
          · (refine step_appsK (o := ⟨some 9, _, _, _, _, _⟩) (e := 3) (B := W0.heap.size) _ (by rfl) _ _ 22 (by rfl) (.int .i64 0) 8 Try.underlying22 (by kernel_rfl) rfl (by decide) (some ⟨g0, 0, none⟩) 0 0 [] (by rfl) E0.out rfl sp0 s.1.length sk0 s.1 T (by rfl) (HST0.out _ G.out.1) rfl (by simp; omega) (by have := G.out.1.size; omega) ?_; intro q1 c1 wA hO hG hN; clear hN; have szp := hG.size; (try have N14 := Lib.hid (fun a (ha : q1 = some a) => (hG.at (E4.out.lt (a := ⟨g4, 0, none⟩) rfl).2 (fun a' ha' => by cases ha'; show g4 ≠ g0; omega)).2 a ha)); (try have E4 := Lib.hid (E4.out.keep (fun a ha => by cases ha; exact (hG.at (E4.out.lt (a := ⟨g4, 0, none⟩) rfl).2 (fun a' ha' => by cases ha'; show g4 ≠ g0; omega)).1))); (try have N19 := Lib.hid (fun a (ha : q1 = some a) => (hG.at HB9.out.lt (fun a' ha' => by cases ha'; show g9 ≠ g0; omega)).2 a ha)); (try have HB9 := Lib.hid (HB9.out.of (hG.at HB9.out.lt (fun a' ha' => by cases ha'; show g9 ≠ g0; omega)).1)); have R1 := Lib.hid (show OwnI 3 W0.heap.size wA q1 c1 s.1 from by simpa using hO); have G := Lib.hid (show Bel W0 wA ∧ True from ⟨hG.bel W0 G.out.1 (Nat.le_refl _), trivial⟩); have szgwA := G.out.1.size; clear hO hG)
            refine hK.out _ _ ?_ (fun hHeld => ?_)
            · ((try dsimp only); (first | exact HBX.out _ G.out.1 | exact HBX.out _ (Bel.refl _) | exact HBX.out _ (by have G1 := G.out.1; (repeat (first | assumption | exact Bel.refl _ | apply Bel.drewN | apply Bel.drew | apply Bel.alloc | refine Bel.set ?_ (by first | exact Nat.le_refl _ | exact Nat.le_add_right _ _ | (simp; done) | (simp; omega) | omega) _ | refine Bel.trans ?_ (by assumption))))))
            clear hK K
            try walk_nrm
            refine wpAnyH_ready (rs := [7]) (by kernel_rfl) (by simp) ?_
            refine AllReadyH.cons rfl (fun K hK => ?_) AllReadyH.nil
            · (refine step_appsK (o := ⟨some 13, _, _, _, _, _⟩) (e := 3) (B := W0.heap.size) _ (by rfl) _ _ 22 (by rfl) (.int .i64 0) 8 Try.underlying22 (by kernel_rfl) rfl (by decide) (some ⟨g4, 0, none⟩) 0 0 [] (by rfl) E4.out rfl sp0 s.1.length sk0 s.1 T (by rfl) (HST0.out _ G.out.1) rfl (by simp; omega) (by have := G.out.1.size; omega) ?_; intro q2 c2 wB hO hG hN; clear hN; have szp := hG.size; have N12 := Lib.hid (fun a b (ha : q1 = some a) (hb : q2 = some b) => (fun e => (hG.at (R1.out.lt ha).2 (fun a' ha' => by cases ha'; exact N14.out a ha)).2 b hb e.symm : a.block ≠ b.block)); have R1 := Lib.hid (R1.out.keep (fun a ha => (hG.at (R1.out.lt ha).2 (fun a' ha' => by cases ha'; exact N14.out a ha)).1)); (try have N29 := Lib.hid (fun a (ha : q2 = some a) => (hG.at HB9.out.lt (fun a' ha' => by cases ha'; show g9 ≠ g4; omega)).2 a ha)); (try have HB9 := Lib.hid (HB9.out.of (hG.at HB9.out.lt (fun a' ha' => by cases ha'; show g9 ≠ g4; omega)).1)); have R2 := Lib.hid (show OwnI 3 W0.heap.size wB q2 c2 s.1 from by simpa using hO); have G := Lib.hid (show Bel W0 wB ∧ True from ⟨hG.bel W0 G.out.1 (Nat.le_refl _), trivial⟩); have szgwB := G.out.1.size; clear hO hG)
              refine hK.out _ _ ?_ (fun hHeld => ?_)
              · ((try dsimp only); (first | exact HBX.out _ G.out.1 | exact HBX.out _ (Bel.refl _) | exact HBX.out _ (by have G1 := G.out.1; (repeat (first | assumption | exact Bel.refl _ | apply Bel.drewN | apply Bel.drew | apply Bel.alloc | refine Bel.set ?_ (by first | exact Nat.le_refl _ | exact Nat.le_add_right _ _ | (simp; done) | (simp; omega) | omega) _ | refine Bel.trans ?_ (by assumption))))))
              clear hK K
              try walk_nrm
              refine wpAnyH_take (i := 8) (v := ?_) rfl (by kernel_rfl) (by kernel_rfl) (by kernel_rfl) (fun _ _ _ h => h) (Or.inl ⟨by rfl, ?_⟩) (by assumption) ?_
              rotate_left
              · (intro w hSw; (try dsimp only at hSw); go_simp <;> with_reducible rfl)
              try walk_nrm
              refine wpAnyH_ready (rs := [10]) (by kernel_rfl) (by simp) ?_
              refine AllReadyH.cons rfl (fun K hK => ?_) AllReadyH.nil
              · go_simp
                (first | (have x0 := HB9.out.cellv (j := 0) (by simp); have x1 := HB9.out.cellv (j := 1) (by simp); have x2 := HB9.out.cellv (j := 2) (by simp); simp only [List.getElem_cons_zero, List.getElem_cons_succ] at x0 x1 x2; have y0 := HB9.out.frozen 0; have y1 := HB9.out.frozen 1; have y2 := HB9.out.frozen 2; go_simp) | skip)
                try go_wp2_with fail
                refine hK.out _ _ ?_ (fun hHeld => ?_)
                · ((try dsimp only); (first | exact HBX.out _ G.out.1 | exact HBX.out _ (Bel.refl _) | exact HBX.out _ (by have G1 := G.out.1; (repeat (first | assumption | exact Bel.refl _ | apply Bel.drewN | apply Bel.drew | apply Bel.alloc | refine Bel.set ?_ (by first | exact Nat.le_refl _ | exact Nat.le_add_right _ _ | (simp; done) | (simp; omega) | omega) _ | refine Bel.trans ?_ (by assumption))))))
                clear hK K
                try walk_nrm
                refine wpAnyH_done (by kernel_rfl) ?_ _
                go_wp2_with fail
                go_meet
                exact ⟨g9, q1, c1, q2, c2, rfl, by omega, ((HB9.out.set 0 (.slice q1 s.1.length c1)).set 1 (.slice q2 s.1.length c2)).set 2 (.slice none 0 0), OwnI.ofOwn (((R1.out.toOwn.setAt intR_good (q := g9) (fun a ha => (N19.out a ha).symm) 0 (.slice q1 s.1.length c1)).setAt intR_good (q := g9) (fun a ha => (N19.out a ha).symm) 1 (.slice q2 s.1.length c2)).setAt intR_good (q := g9) (fun a ha => (N19.out a ha).symm) 2 (.slice none 0 0)), OwnI.ofOwn (((R2.out.toOwn.setAt intR_good (q := g9) (fun a ha => (N29.out a ha).symm) 0 (.slice q1 s.1.length c1)).setAt intR_good (q := g9) (fun a ha => (N29.out a ha).symm) 1 (.slice q2 s.1.length c2)).setAt intR_good (q := g9) (fun a ha => (N29.out a ha).symm) 2 (.slice none 0 0)), N12.out, N19.out, N29.out, by have G1 := G.out.1; (repeat (first | assumption | exact Bel.refl _ | apply Bel.drewN | apply Bel.drew | apply Bel.alloc | refine Bel.set ?_ (by first | exact Nat.le_refl _ | exact Nat.le_add_right _ _ | (simp; done) | (simp; omega) | omega) _ | refine Bel.trans ?_ (by assumption)))⟩
    refine AllReadyH.cons rfl (fun K hK => ?_) AllReadyH.nil
    · go_simp
      (refine nameK ?_; intro V9 hV9; obtain ⟨g9, e9, L9, c9, lb9, ub9⟩ := (by first | exact alloc_block hV9 | exact alloc_blockD hV9 : AllocB _ V9 _); (try simp only [World.size_drew] at e9 lb9); rw [e9]; clear hV9 e9; (try have N19 := Lib.hid (fun a (ha : q1 = some a) => (show a.block ≠ g9 from by have := (R1.out.lt ha).2; omega))); (try have N29 := Lib.hid (fun a (ha : q2 = some a) => (show a.block ≠ g9 from by have := (R2.out.lt ha).2; omega))); (try have E0 := Lib.hid (E0.out.bel L9)); (try have E4 := Lib.hid (E4.out.bel L9)); (try have R1 := Lib.hid (R1.out.bel L9)); (try have R2 := Lib.hid (R2.out.bel L9)); (try have HB9 := Lib.hid (HB9.out.bel L9)); have HB9 := Lib.hid (show Blk V9 g9 28 [.slice none 0 0, .slice none 0 0, .slice none 0 0] from c9); clear c9; have G := Lib.hid (show Bel W0 V9 ∧ True from ⟨by first | exact G.out.1.trans L9 | exact L9, trivial⟩); have szgV9 := G.out.1.size; have szlV9 := L9.size; clear L9; skip)
      try go_wp2_with fail
      refine hK.out _ _ ?_ (fun hHeld => ?_)
      · ((try dsimp only); (first | exact HBX.out _ G.out.1 | exact HBX.out _ (Bel.refl _) | exact HBX.out _ (by have G1 := G.out.1; (repeat (first | assumption | exact Bel.refl _ | apply Bel.drewN | apply Bel.drew | apply Bel.alloc | refine Bel.set ?_ (by first | exact Nat.le_refl _ | exact Nat.le_add_right _ _ | (simp; done) | (simp; omega) | omega) _ | refine Bel.trans ?_ (by assumption))))))
      clear hK K
      try walk_nrm
      refine wpAnyH_ready (rs := [0, 4]) (by kernel_rfl) (by simp) ?_
      refine AllReadyH.cons rfl (fun K hK => ?_) ?_
      · go_simp
        (refine nameK ?_; intro V0 hV0; obtain ⟨g0, e0, L0, c0, lb0, ub0⟩ := (by first | exact alloc_block hV0 | exact alloc_blockD hV0 : AllocB _ V0 _); (try simp only [World.size_drew] at e0 lb0); rw [e0]; clear hV0 e0; (try have E0 := Lib.hid (E0.out.bel L0)); (try have E4 := Lib.hid (E4.out.bel L0)); (try have R1 := Lib.hid (R1.out.bel L0)); (try have R2 := Lib.hid (R2.out.bel L0)); (try have HB9 := Lib.hid (HB9.out.bel L0)); have szq0 := G.out.1.size; have E0 := Lib.hid (OwnI.empty (e := 3) (B := W0.heap.size) c0 (by (try simp only [World.size_drew] at *); omega)); clear c0; have G := Lib.hid (show Bel W0 V0 ∧ True from ⟨by first | exact G.out.1.trans L0 | exact L0, trivial⟩); have szgV0 := G.out.1.size; have szlV0 := L0.size; clear L0; skip)
        try go_wp2_with fail
        refine hK.out _ _ ?_ (fun hHeld => ?_)
        · ((try dsimp only); (first | exact HBX.out _ G.out.1 | exact HBX.out _ (Bel.refl _) | exact HBX.out _ (by have G1 := G.out.1; (repeat (first | assumption | exact Bel.refl _ | apply Bel.drewN | apply Bel.drew | apply Bel.alloc | refine Bel.set ?_ (by first | exact Nat.le_refl _ | exact Nat.le_add_right _ _ | (simp; done) | (simp; omega) | omega) _ | refine Bel.trans ?_ (by assumption))))))
        clear hK K
        try walk_nrm
        refine wpAnyH_ready (rs := [3, 4]) (by kernel_rfl) (by simp) ?_
        refine AllReadyH.cons rfl (fun K hK => ?_) ?_
        · (refine step_appsK (o := ⟨some 9, _, _, _, _, _⟩) (e := 3) (B := W0.heap.size) _ (by rfl) _ _ 22 (by rfl) (.int .i64 0) 8 Try.underlying22 (by kernel_rfl) rfl (by decide) (some ⟨g0, 0, none⟩) 0 0 [] (by rfl) E0.out rfl sp0 s.1.length sk0 s.1 T (by rfl) (HST0.out _ G.out.1) rfl (by simp; omega) (by have := G.out.1.size; omega) ?_; intro q1 c1 wA hO hG hN; clear hN; have szp := hG.size; (try have N14 := Lib.hid (fun a (ha : q1 = some a) => (hG.at (E4.out.lt (a := ⟨g4, 0, none⟩) rfl).2 (fun a' ha' => by cases ha'; show g4 ≠ g0; omega)).2 a ha)); (try have E4 := Lib.hid (E4.out.keep (fun a ha => by cases ha; exact (hG.at (E4.out.lt (a := ⟨g4, 0, none⟩) rfl).2 (fun a' ha' => by cases ha'; show g4 ≠ g0; omega)).1))); (try have N19 := Lib.hid (fun a (ha : q1 = some a) => (hG.at HB9.out.lt (fun a' ha' => by cases ha'; show g9 ≠ g0; omega)).2 a ha)); (try have HB9 := Lib.hid (HB9.out.of (hG.at HB9.out.lt (fun a' ha' => by cases ha'; show g9 ≠ g0; omega)).1)); have R1 := Lib.hid (show OwnI 3 W0.heap.size wA q1 c1 s.1 from by simpa using hO); have G := Lib.hid (show Bel W0 wA ∧ True from ⟨hG.bel W0 G.out.1 (Nat.le_refl _), trivial⟩); have szgwA := G.out.1.size; clear hO hG)
          refine hK.out _ _ ?_ (fun hHeld => ?_)
          · ((try dsimp only); (first | exact HBX.out _ G.out.1 | exact HBX.out _ (Bel.refl _) | exact HBX.out _ (by have G1 := G.out.1; (repeat (first | assumption | exact Bel.refl _ | apply Bel.drewN | apply Bel.drew | apply Bel.alloc | refine Bel.set ?_ (by first | exact Nat.le_refl _ | exact Nat.le_add_right _ _ | (simp; done) | (simp; omega) | omega) _ | refine Bel.trans ?_ (by assumption))))))
          clear hK K
          try walk_nrm
          refine wpAnyH_ready (rs := [4]) (by kernel_rfl) (by simp) ?_
          refine AllReadyH.cons rfl (fun K hK => ?_) AllReadyH.nil
          · go_simp
            (refine nameK ?_; intro V4 hV4; obtain ⟨g4, e4, L4, c4, lb4, ub4⟩ := (by first | exact alloc_block hV4 | exact alloc_blockD hV4 : AllocB _ V4 _); (try simp only [World.size_drew] at e4 lb4); rw [e4]; clear hV4 e4; (try have N14 := Lib.hid (fun a (ha : q1 = some a) => (show a.block ≠ g4 from by have := (R1.out.lt ha).2; omega))); (try have E0 := Lib.hid (E0.out.bel L4)); (try have E4 := Lib.hid (E4.out.bel L4)); (try have R1 := Lib.hid (R1.out.bel L4)); (try have R2 := Lib.hid (R2.out.bel L4)); (try have HB9 := Lib.hid (HB9.out.bel L4)); have szq4 := G.out.1.size; have E4 := Lib.hid (OwnI.empty (e := 3) (B := W0.heap.size) c4 (by (try simp only [World.size_drew] at *); omega)); clear c4; have G := Lib.hid (show Bel W0 V4 ∧ True from ⟨by first | exact G.out.1.trans L4 | exact L4, trivial⟩); have szgV4 := G.out.1.size; have szlV4 := L4.size; clear L4; skip)
            try go_wp2_with fail
            refine hK.out _ _ ?_ (fun hHeld => ?_)
            · ((try dsimp only); (first | exact HBX.out _ G.out.1 | exact HBX.out _ (Bel.refl _) | exact HBX.out _ (by have G1 := G.out.1; (repeat (first | assumption | exact Bel.refl _ | apply Bel.drewN | apply Bel.drew | apply Bel.alloc | refine Bel.set ?_ (by first | exact Nat.le_refl _ | exact Nat.le_add_right _ _ | (simp; done) | (simp; omega) | omega) _ | refine Bel.trans ?_ (by assumption))))))
            clear hK K
            try walk_nrm
            refine wpAnyH_ready (rs := [7]) (by kernel_rfl) (by simp) ?_
            refine AllReadyH.cons rfl (fun K hK => ?_) AllReadyH.nil
            · (refine step_appsK (o := ⟨some 13, _, _, _, _, _⟩) (e := 3) (B := W0.heap.size) _ (by rfl) _ _ 22 (by rfl) (.int .i64 0) 8 Try.underlying22 (by kernel_rfl) rfl (by decide) (some ⟨g4, 0, none⟩) 0 0 [] (by rfl) E4.out rfl sp0 s.1.length sk0 s.1 T (by rfl) (HST0.out _ G.out.1) rfl (by simp; omega) (by have := G.out.1.size; omega) ?_; intro q2 c2 wB hO hG hN; clear hN; have szp := hG.size; have N12 := Lib.hid (fun a b (ha : q1 = some a) (hb : q2 = some b) => (fun e => (hG.at (R1.out.lt ha).2 (fun a' ha' => by cases ha'; exact N14.out a ha)).2 b hb e.symm : a.block ≠ b.block)); have R1 := Lib.hid (R1.out.keep (fun a ha => (hG.at (R1.out.lt ha).2 (fun a' ha' => by cases ha'; exact N14.out a ha)).1)); (try have N29 := Lib.hid (fun a (ha : q2 = some a) => (hG.at HB9.out.lt (fun a' ha' => by cases ha'; show g9 ≠ g4; omega)).2 a ha)); (try have HB9 := Lib.hid (HB9.out.of (hG.at HB9.out.lt (fun a' ha' => by cases ha'; show g9 ≠ g4; omega)).1)); have R2 := Lib.hid (show OwnI 3 W0.heap.size wB q2 c2 s.1 from by simpa using hO); have G := Lib.hid (show Bel W0 wB ∧ True from ⟨hG.bel W0 G.out.1 (Nat.le_refl _), trivial⟩); have szgwB := G.out.1.size; clear hO hG)
              refine hK.out _ _ ?_ (fun hHeld => ?_)
              · ((try dsimp only); (first | exact HBX.out _ G.out.1 | exact HBX.out _ (Bel.refl _) | exact HBX.out _ (by have G1 := G.out.1; (repeat (first | assumption | exact Bel.refl _ | apply Bel.drewN | apply Bel.drew | apply Bel.alloc | refine Bel.set ?_ (by first | exact Nat.le_refl _ | exact Nat.le_add_right _ _ | (simp; done) | (simp; omega) | omega) _ | refine Bel.trans ?_ (by assumption))))))
              clear hK K
              try walk_nrm
              refine wpAnyH_take (i := 8) (v := ?_) rfl (by kernel_rfl) (by kernel_rfl) (by kernel_rfl) (fun _ _ _ h => h) (Or.inl ⟨by rfl, ?_⟩) (by assumption) ?_
              rotate_left
              · (intro w hSw; (try dsimp only at hSw); go_simp <;> with_reducible rfl)
              try walk_nrm
              refine wpAnyH_ready (rs := [10]) (by kernel_rfl) (by simp) ?_
              refine AllReadyH.cons rfl (fun K hK => ?_) AllReadyH.nil
              · go_simp
                (first | (have x0 := HB9.out.cellv (j := 0) (by simp); have x1 := HB9.out.cellv (j := 1) (by simp); have x2 := HB9.out.cellv (j := 2) (by simp); simp only [List.getElem_cons_zero, List.getElem_cons_succ] at x0 x1 x2; have y0 := HB9.out.frozen 0; have y1 := HB9.out.frozen 1; have y2 := HB9.out.frozen 2; go_simp) | skip)
                try go_wp2_with fail
                refine hK.out _ _ ?_ (fun hHeld => ?_)
                · ((try dsimp only); (first | exact HBX.out _ G.out.1 | exact HBX.out _ (Bel.refl _) | exact HBX.out _ (by have G1 := G.out.1; (repeat (first | assumption | exact Bel.refl _ | apply Bel.drewN | apply Bel.drew | apply Bel.alloc | refine Bel.set ?_ (by first | exact Nat.le_refl _ | exact Nat.le_add_right _ _ | (simp; done) | (simp; omega) | omega) _ | refine Bel.trans ?_ (by assumption))))))
                clear hK K
                try walk_nrm
                refine wpAnyH_done (by kernel_rfl) ?_ _
                go_wp2_with fail
                go_meet
                exact ⟨g9, q1, c1, q2, c2, rfl, by omega, ((HB9.out.set 0 (.slice q1 s.1.length c1)).set 1 (.slice q2 s.1.length c2)).set 2 (.slice none 0 0), OwnI.ofOwn (((R1.out.toOwn.setAt intR_good (q := g9) (fun a ha => (N19.out a ha).symm) 0 (.slice q1 s.1.length c1)).setAt intR_good (q := g9) (fun a ha => (N19.out a ha).symm) 1 (.slice q2 s.1.length c2)).setAt intR_good (q := g9) (fun a ha => (N19.out a ha).symm) 2 (.slice none 0 0)), OwnI.ofOwn (((R2.out.toOwn.setAt intR_good (q := g9) (fun a ha => (N29.out a ha).symm) 0 (.slice q1 s.1.length c1)).setAt intR_good (q := g9) (fun a ha => (N29.out a ha).symm) 1 (.slice q2 s.1.length c2)).setAt intR_good (q := g9) (fun a ha => (N29.out a ha).symm) 2 (.slice none 0 0)), N12.out, N19.out, N29.out, by have G1 := G.out.1; (repeat (first | assumption | exact Bel.refl _ | apply Bel.drewN | apply Bel.drew | apply Bel.alloc | refine Bel.set ?_ (by first | exact Nat.le_refl _ | exact Nat.le_add_right _ _ | (simp; done) | (simp; omega) | omega) _ | refine Bel.trans ?_ (by assumption)))⟩
        refine AllReadyH.cons rfl (fun K hK => ?_) AllReadyH.nil
        · go_simp
          (refine nameK ?_; intro V4 hV4; obtain ⟨g4, e4, L4, c4, lb4, ub4⟩ := (by first | exact alloc_block hV4 | exact alloc_blockD hV4 : AllocB _ V4 _); (try simp only [World.size_drew] at e4 lb4); rw [e4]; clear hV4 e4; (try have N14 := Lib.hid (fun a (ha : q1 = some a) => (show a.block ≠ g4 from by have := (R1.out.lt ha).2; omega))); (try have E0 := Lib.hid (E0.out.bel L4)); (try have E4 := Lib.hid (E4.out.bel L4)); (try have R1 := Lib.hid (R1.out.bel L4)); (try have R2 := Lib.hid (R2.out.bel L4)); (try have HB9 := Lib.hid (HB9.out.bel L4)); have szq4 := G.out.1.size; have E4 := Lib.hid (OwnI.empty (e := 3) (B := W0.heap.size) c4 (by (try simp only [World.size_drew] at *); omega)); clear c4; have G := Lib.hid (show Bel W0 V4 ∧ True from ⟨by first | exact G.out.1.trans L4 | exact L4, trivial⟩); have szgV4 := G.out.1.size; have szlV4 := L4.size; clear L4; skip)
          try go_wp2_with fail
          refine hK.out _ _ ?_ (fun hHeld => ?_)
          · ((try dsimp only); (first | exact HBX.out _ G.out.1 | exact HBX.out _ (Bel.refl _) | exact HBX.out _ (by have G1 := G.out.1; (repeat (first | assumption | exact Bel.refl _ | apply Bel.drewN | apply Bel.drew | apply Bel.alloc | refine Bel.set ?_ (by first | exact Nat.le_refl _ | exact Nat.le_add_right _ _ | (simp; done) | (simp; omega) | omega) _ | refine Bel.trans ?_ (by assumption))))))
          clear hK K
          try walk_nrm
          refine wpAnyH_ready (rs := [3]) (by kernel_rfl) (by simp) ?_
          refine AllReadyH.cons rfl (fun K hK => ?_) AllReadyH.nil
          · (refine step_appsK (o := ⟨some 9, _, _, _, _, _⟩) (e := 3) (B := W0.heap.size) _ (by rfl) _ _ 22 (by rfl) (.int .i64 0) 8 Try.underlying22 (by kernel_rfl) rfl (by decide) (some ⟨g0, 0, none⟩) 0 0 [] (by rfl) E0.out rfl sp0 s.1.length sk0 s.1 T (by rfl) (HST0.out _ G.out.1) rfl (by simp; omega) (by have := G.out.1.size; omega) ?_; intro q1 c1 wA hO hG hN; clear hN; have szp := hG.size; (try have N14 := Lib.hid (fun a (ha : q1 = some a) => (hG.at (E4.out.lt (a := ⟨g4, 0, none⟩) rfl).2 (fun a' ha' => by cases ha'; show g4 ≠ g0; omega)).2 a ha)); (try have E4 := Lib.hid (E4.out.keep (fun a ha => by cases ha; exact (hG.at (E4.out.lt (a := ⟨g4, 0, none⟩) rfl).2 (fun a' ha' => by cases ha'; show g4 ≠ g0; omega)).1))); (try have N19 := Lib.hid (fun a (ha : q1 = some a) => (hG.at HB9.out.lt (fun a' ha' => by cases ha'; show g9 ≠ g0; omega)).2 a ha)); (try have HB9 := Lib.hid (HB9.out.of (hG.at HB9.out.lt (fun a' ha' => by cases ha'; show g9 ≠ g0; omega)).1)); have R1 := Lib.hid (show OwnI 3 W0.heap.size wA q1 c1 s.1 from by simpa using hO); have G := Lib.hid (show Bel W0 wA ∧ True from ⟨hG.bel W0 G.out.1 (Nat.le_refl _), trivial⟩); have szgwA := G.out.1.size; clear hO hG)
            refine hK.out _ _ ?_ (fun hHeld => ?_)
            · ((try dsimp only); (first | exact HBX.out _ G.out.1 | exact HBX.out _ (Bel.refl _) | exact HBX.out _ (by have G1 := G.out.1; (repeat (first | assumption | exact Bel.refl _ | apply Bel.drewN | apply Bel.drew | apply Bel.alloc | refine Bel.set ?_ (by first | exact Nat.le_refl _ | exact Nat.le_add_right _ _ | (simp; done) | (simp; omega) | omega) _ | refine Bel.trans ?_ (by assumption))))))
            clear hK K
            try walk_nrm
            refine wpAnyH_ready (rs := [7]) (by kernel_rfl) (by simp) ?_
            refine AllReadyH.cons rfl (fun K hK => ?_) AllReadyH.nil
            · (refine step_appsK (o := ⟨some 13, _, _, _, _, _⟩) (e := 3) (B := W0.heap.size) _ (by rfl) _ _ 22 (by rfl) (.int .i64 0) 8 Try.underlying22 (by kernel_rfl) rfl (by decide) (some ⟨g4, 0, none⟩) 0 0 [] (by rfl) E4.out rfl sp0 s.1.length sk0 s.1 T (by rfl) (HST0.out _ G.out.1) rfl (by simp; omega) (by have := G.out.1.size; omega) ?_; intro q2 c2 wB hO hG hN; clear hN; have szp := hG.size; have N12 := Lib.hid (fun a b (ha : q1 = some a) (hb : q2 = some b) => (fun e => (hG.at (R1.out.lt ha).2 (fun a' ha' => by cases ha'; exact N14.out a ha)).2 b hb e.symm : a.block ≠ b.block)); have R1 := Lib.hid (R1.out.keep (fun a ha => (hG.at (R1.out.lt ha).2 (fun a' ha' => by cases ha'; exact N14.out a ha)).1)); (try have N29 := Lib.hid (fun a (ha : q2 = some a) => (hG.at HB9.out.lt (fun a' ha' => by cases ha'; show g9 ≠ g4; omega)).2 a ha)); (try have HB9 := Lib.hid (HB9.out.of (hG.at HB9.out.lt (fun a' ha' => by cases ha'; show g9 ≠ g4; omega)).1)); have R2 := Lib.hid (show OwnI 3 W0.heap.size wB q2 c2 s.1 from by simpa using hO); have G := Lib.hid (show Bel W0 wB ∧ True from ⟨hG.bel W0 G.out.1 (Nat.le_refl _), trivial⟩); have szgwB := G.out.1.size; clear hO hG)
              refine hK.out _ _ ?_ (fun hHeld => ?_)
              · ((try dsimp only); (first | exact HBX.out _ G.out.1 | exact HBX.out _ (Bel.refl _) | exact HBX.out _ (by have G1 := G.out.1; (repeat (first | assumption | exact Bel.refl _ | apply Bel.drewN | apply Bel.drew | apply Bel.alloc | refine Bel.set ?_ (by first | exact Nat.le_refl _ | exact Nat.le_add_right _ _ | (simp; done) | (simp; omega) | omega) _ | refine Bel.trans ?_ (by assumption))))))
              clear hK K
              try walk_nrm
              refine wpAnyH_take (i := 8) (v := ?_) rfl (by kernel_rfl) (by kernel_rfl) (by kernel_rfl) (fun _ _ _ h => h) (Or.inl ⟨by rfl, ?_⟩) (by assumption) ?_
              rotate_left
              · (intro w hSw; (try dsimp only at hSw); go_simp <;> with_reducible rfl)
              try walk_nrm
              refine wpAnyH_ready (rs := [10]) (by kernel_rfl) (by simp) ?_
              refine AllReadyH.cons rfl (fun K hK => ?_) AllReadyH.nil
              · go_simp
                (first | (have x0 := HB9.out.cellv (j := 0) (by simp); have x1 := HB9.out.cellv (j := 1) (by simp); have x2 := HB9.out.cellv (j := 2) (by simp); simp only [List.getElem_cons_zero, List.getElem_cons_succ] at x0 x1 x2; have y0 := HB9.out.frozen 0; have y1 := HB9.out.frozen 1; have y2 := HB9.out.frozen 2; go_simp) | skip)
                try go_wp2_with fail
                refine hK.out _ _ ?_ (fun hHeld => ?_)
                · ((try dsimp only); (first | exact HBX.out _ G.out.1 | exact HBX.out _ (Bel.refl _) | exact HBX.out _ (by have G1 := G.out.1; (repeat (first | assumption | exact Bel.refl _ | apply Bel.drewN | apply Bel.drew | apply Bel.alloc | refine Bel.set ?_ (by first | exact Nat.le_refl _ | exact Nat.le_add_right _ _ | (simp; done) | (simp; omega) | omega) _ | refine Bel.trans ?_ (by assumption))))))
                clear hK K
                try walk_nrm
                refine wpAnyH_done (by kernel_rfl) ?_ _
                go_wp2_with fail
                go_meet
                exact ⟨g9, q1, c1, q2, c2, rfl, by omega, ((HB9.out.set 0 (.slice q1 s.1.length c1)).set 1 (.slice q2 s.1.length c2)).set 2 (.slice none 0 0), OwnI.ofOwn (((R1.out.toOwn.setAt intR_good (q := g9) (fun a ha => (N19.out a ha).symm) 0 (.slice q1 s.1.length c1)).setAt intR_good (q := g9) (fun a ha => (N19.out a ha).symm) 1 (.slice q2 s.1.length c2)).setAt intR_good (q := g9) (fun a ha => (N19.out a ha).symm) 2 (.slice none 0 0)), OwnI.ofOwn (((R2.out.toOwn.setAt intR_good (q := g9) (fun a ha => (N29.out a ha).symm) 0 (.slice q1 s.1.length c1)).setAt intR_good (q := g9) (fun a ha => (N29.out a ha).symm) 1 (.slice q2 s.1.length c2)).setAt intR_good (q := g9) (fun a ha => (N29.out a ha).symm) 2 (.slice none 0 0)), N12.out, N19.out, N29.out, by have G1 := G.out.1; (repeat (first | assumption | exact Bel.refl _ | apply Bel.drewN | apply Bel.drew | apply Bel.alloc | refine Bel.set ?_ (by first | exact Nat.le_refl _ | exact Nat.le_add_right _ _ | (simp; done) | (simp; omega) | omega) _ | refine Bel.trans ?_ (by assumption)))⟩
      refine AllReadyH.cons rfl (fun K hK => ?_) AllReadyH.nil
      · go_simp
        (refine nameK ?_; intro V4 hV4; obtain ⟨g4, e4, L4, c4, lb4, ub4⟩ := (by first | exact alloc_block hV4 | exact alloc_blockD hV4 : AllocB _ V4 _); (try simp only [World.size_drew] at e4 lb4); rw [e4]; clear hV4 e4; (try have N14 := Lib.hid (fun a (ha : q1 = some a) => (show a.block ≠ g4 from by have := (R1.out.lt ha).2; omega))); (try have E0 := Lib.hid (E0.out.bel L4)); (try have E4 := Lib.hid (E4.out.bel L4)); (try have R1 := Lib.hid (R1.out.bel L4)); (try have R2 := Lib.hid (R2.out.bel L4)); (try have HB9 := Lib.hid (HB9.out.bel L4)); have szq4 := G.out.1.size; have E4 := Lib.hid (OwnI.empty (e := 3) (B := W0.heap.size) c4 (by (try simp only [World.size_drew] at *); omega)); clear c4; have G := Lib.hid (show Bel W0 V4 ∧ True from ⟨by first | exact G.out.1.trans L4 | exact L4, trivial⟩); have szgV4 := G.out.1.size; have szlV4 := L4.size; clear L4; skip)
        try go_wp2_with fail
        refine hK.out _ _ ?_ (fun hHeld => ?_)
        · ((try dsimp only); (first | exact HBX.out _ G.out.1 | exact HBX.out _ (Bel.refl _) | exact HBX.out _ (by have G1 := G.out.1; (repeat (first | assumption | exact Bel.refl _ | apply Bel.drewN | apply Bel.drew | apply Bel.alloc | refine Bel.set ?_ (by first | exact Nat.le_refl _ | exact Nat.le_add_right _ _ | (simp; done) | (simp; omega) | omega) _ | refine Bel.trans ?_ (by assumption))))))
        clear hK K
        try walk_nrm
        refine wpAnyH_ready (rs := [0]) (by kernel_rfl) (by simp) ?_
        refine AllReadyH.cons rfl (fun K hK => ?_) AllReadyH.nil
        · go_simp
          (refine nameK ?_; intro V0 hV0; obtain ⟨g0, e0, L0, c0, lb0, ub0⟩ := (by first | exact alloc_block hV0 | exact alloc_blockD hV0 : AllocB _ V0 _); (try simp only [World.size_drew] at e0 lb0); rw [e0]; clear hV0 e0; (try have E0 := Lib.hid (E0.out.bel L0)); (try have E4 := Lib.hid (E4.out.bel L0)); (try have R1 := Lib.hid (R1.out.bel L0)); (try have R2 := Lib.hid (R2.out.bel L0)); (try have HB9 := Lib.hid (HB9.out.bel L0)); have szq0 := G.out.1.size; have E0 := Lib.hid (OwnI.empty (e := 3) (B := W0.heap.size) c0 (by (try simp only [World.size_drew] at *); omega)); clear c0; have G := Lib.hid (show Bel W0 V0 ∧ True from ⟨by first | exact G.out.1.trans L0 | exact L0, trivial⟩); have szgV0 := G.out.1.size; have szlV0 := L0.size; clear L0; skip)
          try go_wp2_with fail
          refine hK.out _ _ ?_ (fun hHeld => ?_)
          · ((try dsimp only); (first | exact HBX.out _ G.out.1 | exact HBX.out _ (Bel.refl _) | exact HBX.out _ (by have G1 := G.out.1; (repeat (first | assumption | exact Bel.refl _ | apply Bel.drewN | apply Bel.drew | apply Bel.alloc | refine Bel.set ?_ (by first | exact Nat.le_refl _ | exact Nat.le_add_right _ _ | (simp; done) | (simp; omega) | omega) _ | refine Bel.trans ?_ (by assumption))))))
          clear hK K
          try walk_nrm
          refine wpAnyH_ready (rs := [3]) (by kernel_rfl) (by simp) ?_
          refine AllReadyH.cons rfl (fun K hK => ?_) AllReadyH.nil
          · (refine step_appsK (o := ⟨some 9, _, _, _, _, _⟩) (e := 3) (B := W0.heap.size) _ (by rfl) _ _ 22 (by rfl) (.int .i64 0) 8 Try.underlying22 (by kernel_rfl) rfl (by decide) (some ⟨g0, 0, none⟩) 0 0 [] (by rfl) E0.out rfl sp0 s.1.length sk0 s.1 T (by rfl) (HST0.out _ G.out.1) rfl (by simp; omega) (by have := G.out.1.size; omega) ?_; intro q1 c1 wA hO hG hN; clear hN; have szp := hG.size; (try have N14 := Lib.hid (fun a (ha : q1 = some a) => (hG.at (E4.out.lt (a := ⟨g4, 0, none⟩) rfl).2 (fun a' ha' => by cases ha'; show g4 ≠ g0; omega)).2 a ha)); (try have E4 := Lib.hid (E4.out.keep (fun a ha => by cases ha; exact (hG.at (E4.out.lt (a := ⟨g4, 0, none⟩) rfl).2 (fun a' ha' => by cases ha'; show g4 ≠ g0; omega)).1))); (try have N19 := Lib.hid (fun a (ha : q1 = some a) => (hG.at HB9.out.lt (fun a' ha' => by cases ha'; show g9 ≠ g0; omega)).2 a ha)); (try have HB9 := Lib.hid (HB9.out.of (hG.at HB9.out.lt (fun a' ha' => by cases ha'; show g9 ≠ g0; omega)).1)); have R1 := Lib.hid (show OwnI 3 W0.heap.size wA q1 c1 s.1 from by simpa using hO); have G := Lib.hid (show Bel W0 wA ∧ True from ⟨hG.bel W0 G.out.1 (Nat.le_refl _), trivial⟩); have szgwA := G.out.1.size; clear hO hG)
            refine hK.out _ _ ?_ (fun hHeld => ?_)
            · ((try dsimp only); (first | exact HBX.out _ G.out.1 | exact HBX.out _ (Bel.refl _) | exact HBX.out _ (by have G1 := G.out.1; (repeat (first | assumption | exact Bel.refl _ | apply Bel.drewN | apply Bel.drew | apply Bel.alloc | refine Bel.set ?_ (by first | exact Nat.le_refl _ | exact Nat.le_add_right _ _ | (simp; done) | (simp; omega) | omega) _ | refine Bel.trans ?_ (by assumption))))))
            clear hK K
            try walk_nrm
            refine wpAnyH_ready (rs := [7]) (by kernel_rfl) (by simp) ?_
            refine AllReadyH.cons rfl (fun K hK => ?_) AllReadyH.nil
            · (refine step_appsK (o := ⟨some 13, _, _, _, _, _⟩) (e := 3) (B := W0.heap.size) _ (by rfl) _ _ 22 (by rfl) (.int .i64 0) 8 Try.underlying22 (by kernel_rfl) rfl (by decide) (some ⟨g4, 0, none⟩) 0 0 [] (by rfl) E4.out rfl sp0 s.1.length sk0 s.1 T (by rfl) (HST0.out _ G.out.1) rfl (by simp; omega) (by have := G.out.1.size; omega) ?_; intro q2 c2 wB hO hG hN; clear hN; have szp := hG.size; have N12 := Lib.hid (fun a b (ha : q1 = some a) (hb : q2 = some b) => (fun e => (hG.at (R1.out.lt ha).2 (fun a' ha' => by cases ha'; exact N14.out a ha)).2 b hb e.symm : a.block ≠ b.block)); have R1 := Lib.hid (R1.out.keep (fun a ha => (hG.at (R1.out.lt ha).2 (fun a' ha' => by cases ha'; exact N14.out a ha)).1)); (try have N29 := Lib.hid (fun a (ha : q2 = some a) => (hG.at HB9.out.lt (fun a' ha' => by cases ha'; show g9 ≠ g4; omega)).2 a ha)); (try have HB9 := Lib.hid (HB9.out.of (hG.at HB9.out.lt (fun a' ha' => by cases ha'; show g9 ≠ g4; omega)).1)); have R2 := Lib.hid (show OwnI 3 W0.heap.size wB q2 c2 s.1 from by simpa using hO); have G := Lib.hid (show Bel W0 wB ∧ True from ⟨hG.bel W0 G.out.1 (Nat.le_refl _), trivial⟩); have szgwB := G.out.1.size; clear hO hG)
              refine hK.out _ _ ?_ (fun hHeld => ?_)
              · ((try dsimp only); (first | exact HBX.out _ G.out.1 | exact HBX.out _ (Bel.refl _) | exact HBX.out _ (by have G1 := G.out.1; (repeat (first | assumption | exact Bel.refl _ | apply Bel.drewN | apply Bel.drew | apply Bel.alloc | refine Bel.set ?_ (by first | exact Nat.le_refl _ | exact Nat.le_add_right _ _ | (simp; done) | (simp; omega) | omega) _ | refine Bel.trans ?_ (by assumption))))))
              clear hK K
              try walk_nrm
              refine wpAnyH_take (i := 8) (v := ?_) rfl (by kernel_rfl) (by kernel_rfl) (by kernel_rfl) (fun _ _ _ h => h) (Or.inl ⟨by rfl, ?_⟩) (by assumption) ?_
              rotate_left
              · (intro w hSw; (try dsimp only at hSw); go_simp <;> with_reducible rfl)
              try walk_nrm
              refine wpAnyH_ready (rs := [10]) (by kernel_rfl) (by simp) ?_
              refine AllReadyH.cons rfl (fun K hK => ?_) AllReadyH.nil
              · go_simp
                (first | (have x0 := HB9.out.cellv (j := 0) (by simp); have x1 := HB9.out.cellv (j := 1) (by simp); have x2 := HB9.out.cellv (j := 2) (by simp); simp only [List.getElem_cons_zero, List.getElem_cons_succ] at x0 x1 x2; have y0 := HB9.out.frozen 0; have y1 := HB9.out.frozen 1; have y2 := HB9.out.frozen 2; go_simp) | skip)
                try go_wp2_with fail
                refine hK.out _ _ ?_ (fun hHeld => ?_)
                · ((try dsimp only); (first | exact HBX.out _ G.out.1 | exact HBX.out _ (Bel.refl _) | exact HBX.out _ (by have G1 := G.out.1; (repeat (first | assumption | exact Bel.refl _ | apply Bel.drewN | apply Bel.drew | apply Bel.alloc | refine Bel.set ?_ (by first | exact Nat.le_refl _ | exact Nat.le_add_right _ _ | (simp; done) | (simp; omega) | omega) _ | refine Bel.trans ?_ (by assumption))))))
                clear hK K
                try walk_nrm
                refine wpAnyH_done (by kernel_rfl) ?_ _
                go_wp2_with fail
                go_meet
                exact ⟨g9, q1, c1, q2, c2, rfl, by omega, ((HB9.out.set 0 (.slice q1 s.1.length c1)).set 1 (.slice q2 s.1.length c2)).set 2 (.slice none 0 0), OwnI.ofOwn (((R1.out.toOwn.setAt intR_good (q := g9) (fun a ha => (N19.out a ha).symm) 0 (.slice q1 s.1.length c1)).setAt intR_good (q := g9) (fun a ha => (N19.out a ha).symm) 1 (.slice q2 s.1.length c2)).setAt intR_good (q := g9) (fun a ha => (N19.out a ha).symm) 2 (.slice none 0 0)), OwnI.ofOwn (((R2.out.toOwn.setAt intR_good (q := g9) (fun a ha => (N29.out a ha).symm) 0 (.slice q1 s.1.length c1)).setAt intR_good (q := g9) (fun a ha => (N29.out a ha).symm) 1 (.slice q2 s.1.length c2)).setAt intR_good (q := g9) (fun a ha => (N29.out a ha).symm) 2 (.slice none 0 0)), N12.out, N19.out, N29.out, by have G1 := G.out.1; (repeat (first | assumption | exact Bel.refl _ | apply Bel.drewN | apply Bel.drew | apply Bel.alloc | refine Bel.set ?_ (by first | exact Nat.le_refl _ | exact Nat.le_add_right _ _ | (simp; done) | (simp; omega) | omega) _ | refine Bel.trans ?_ (by assumption)))⟩
  case rest =>
    obtain ⟨g, q1, c1, q2, c2, rfl, hg, hbx, hr1, hr2, hap, hn1, hn2, hB0⟩ := hcut
    have HN1 := Lib.hid hn1
    have HN2 := Lib.hid hn2
    have HDz := Lib.hid (Dom3.two (G := fun _ _ => False) (t2 := 22) hr1.toOwn hr2.toOwn hap)
    have HBGz := Lib.hid hbx
    have HBRy := Lib.hid (HBRz.out.bel hB0)
    obtain ⟨sc0, sc1⟩ := HBX.out wc hB0
    clear hn1 hn2 hr1 hr2 hap hbx
    go_wp2_with fail
    go_loopw [18] (fun i wr => ∃ (k : Nat) (VS : List Value) (RS : List (List Int)) (q3 : Option Addr) (c3 : Nat) (GG : Nat → Nat → Prop), k ≤ s.2.length ∧ i = .int .i64 k ∧ RS = (s.2.take k).map (fun m => [m]) ∧ Blk wr g 28 [.slice q1 s.1.length c1, .slice q2 s.1.length c2, .slice q3 VS.length c3] ∧ Blk wr (w.heap.size + 1) 28 [.slice none 0 0, .slice none 0 0, .slice none 0 0] ∧ Dom3 3 22 W0.heap.size wr s.1 s.1 VS RS q1 c1 q2 c2 q3 c3 GG ∧ (∀ a, q3 = some a → a.block ≠ g) ∧ (∀ i b, i < RS.length → GG i b → b ≠ g) ∧ Bel W0 wr) (fun i _ => s.2.length - (intOf i).toNat)
    case atStart => exact ⟨0, [], [], none, 0, fun _ _ => False, Nat.zero_le _, rfl, rfl, HBGz.out, HBRy.out, HDz.out, (fun _ h => by cases h), fun i b h => absurd h (Nat.not_lt_zero _), hB0⟩
    case round =>
      clear sc0 sc1
      obtain ⟨k, VS, RS, q3, c3, GG, hk, rfl, hRS, hbg, hbr, hD, hn3, hgg, hB⟩ := hrel
      have hrl : RS.length = k := by rw [hRS]; simp; omega
      have hvl : VS.length ≤ 1048576 := by rw [hD.len, hrl]; omega
      have HRL := Lib.hid hrl
      have HRS := Lib.hid hRS
      have HD0 := Lib.hid hD
      have HBG := Lib.hid hbg
      have HBR := Lib.hid hbr
      have HN3 := Lib.hid hn3
      have HGG := Lib.hid hgg
      have HG := Lib.hid (show Bel W0 wr ∧ True from ⟨hB, trivial⟩)
      have hzr := hB.size
      have hle3 := hD.o3.le
      unfold maxLen at hle3
      have hgl := hbg.lt
      clear hrl hRS hbg hbr hD hn3 hgg
      by_cases hlt : k < s.2.length
      · have hki : (k : Int) < (s.2.length : Int) := by omega
        obtain ⟨sb1, so1, se1, sa1⟩ := A1.out k hlt
        obtain rfl : sp1 = some ⟨sb1, so1, none⟩ := se1
        have sa1 := (hwW0.trans hB).cell sa1
        have HIM := Lib.hid (HI.out k hlt)
        have HTS := Lib.hid (show (s.2.take (k + 1)).map (fun m => [m]) = (s.2.take k).map (fun m => [m]) ++ [[s.2.getD k 0]] from take_one hlt)
        generalize s.2.getD k 0 = m at *
        have s2 := HBG.out.cellv (j := 2) (by simp)
        simp only [List.getElem_cons_zero, List.getElem_cons_succ] at s2
        clear hB
        go_upto_region 6 with (at_builtin; refine wpList_appG (n := 1) valR_good _ rfl _ _ 26 rfl (.slice none 0 0) 24 Try.underlying26 (by kernel_rfl) rfl (by decide) (by decide) q3 c3 VS (.slice (some ⟨wr.heap.size, 0, none⟩) 1 1) rfl (HD0.out.o3.bel valR_good (by (repeat (first | assumption | exact Bel.refl _ | apply Bel.drewN | apply Bel.drew | apply Bel.alloc | refine Bel.trans ?_ (by assumption))))) _ 1 [.slice (some ⟨wr.heap.size, 0, none⟩) 1 1] rfl rfl (World.news_of_block (alloc_at (by first | rfl | (simp; done) | (simp; omega)))) (by intro u hu; simp at hu; subst hu; rfl) rfl (by omega) (by first | omega | (simp; omega)) ?_; intro qv cv wA hOA hBA hFA; have HDm := Lib.hid (HD0.out.bel (w' := ((wr.alloc (.cells #[.int .i64 m] 3)).alloc (.cells #[.slice (some ⟨wr.heap.size, 0, none⟩) 1 1] 22))) (by (repeat (first | assumption | exact Bel.refl _ | apply Bel.drewN | apply Bel.drew | apply Bel.alloc | refine Bel.trans ?_ (by assumption))))); have hfr := HD0.out.fresh (w' := ((wr.alloc (.cells #[.int .i64 m] 3)).alloc (.cells #[.slice (some ⟨wr.heap.size, 0, none⟩) 1 1] 22))) (g := fun b => b = wr.heap.size) (by omega) (fun b hb => by subst hb; exact ⟨Nat.le_refl _, by simp <;> omega⟩); have hrr := intsR_cell (w := ((wr.alloc (.cells #[.int .i64 m] 3)).alloc (.cells #[.slice (some ⟨wr.heap.size, 0, none⟩) 1 1] 22))) (t := 3) (allocS (alloc_at rfl)) HIM.out; have HD2 := Lib.hid (HDm.out.push3 hfr hrr hOA (Below.size hBA) hFA); have HBG2 := Lib.hid ((HBG.out.bel (by (repeat (first | assumption | exact Bel.refl _ | apply Bel.drewN | apply Bel.drew | apply Bel.alloc | refine Bel.trans ?_ (by assumption))))).farS hFA (fun a ha => HN3.out a ha)); have HN32 := Lib.hid (fun a (ha : qv = some a) => (show a.block ≠ g from fun e => (hFA g (by have := HBG.out.lt; simp; omega) (fun a' ha' e' => HN3.out a' ha' e'.symm)).2 a ha e.symm)); have HBR2 := Lib.hid ((HBR.out.bel (by (repeat (first | assumption | exact Bel.refl _ | apply Bel.drewN | apply Bel.drew | apply Bel.alloc | refine Bel.trans ?_ (by assumption))))).belowS hBA (by omega)); have HG2 := Lib.hid (show Bel W0 wA ∧ True from ⟨Below.trans (show Bel W0 ((wr.alloc (.cells #[.int .i64 m] 3)).alloc (.cells #[.slice (some ⟨wr.heap.size, 0, none⟩) 1 1] 22)) from HG.out.1.trans (by (repeat (first | assumption | exact Bel.refl _ | apply Bel.drewN | apply Bel.drew | apply Bel.alloc | refine Bel.trans ?_ (by assumption))))) hBA, trivial⟩); have sx := HBG2.out.cellv (j := 2) (by simp); have fs := HBG2.out.frozen 2; simp only [List.getElem_cons_zero, List.getElem_cons_succ] at sx; have szA := Below.size hBA; clear hOA hBA hFA hfr hrr)
        clear s2 sa1
        have hm3 := HD2.out.len
        have HGF := Lib.hid (show Bel W0 (wA.setCell ⟨g, 2, none⟩ (.slice qv (VS.length + 1) cv)) ∧ True from ⟨HG2.out.1.set (p := ⟨g, 2, none⟩) hg _, trivial⟩)
        go_wp2_with fail
        exact ⟨⟨k + 1, VS ++ [.slice (some ⟨wr.heap.size, 0, none⟩) 1 1], RS ++ [[m]], qv, cv, _, by omega, by go_num, by rw [HTS.out, ← HRS.out], by rw [List.length_append]; exact HBG2.out.set 2 (.slice qv (VS.length + 1) cv), HBR2.out.setAt (q := g) (by omega) 2 (.slice qv (VS.length + 1) cv), HD2.out.setS (g := g) HN1.out HN2.out HN32.out (fun i b hi hb => row_ne (by omega) HGG.out i b hi hb) 2 (.slice qv (VS.length + 1) cv), HN32.out, fun i b hi hb => row_ne (by omega) HGG.out i b hi hb, HGF.out.1⟩, by simp [intOf]; omega⟩
      · obtain rfl : k = s.2.length := by omega
        clear hB
        have HIV := Lib.hid (show singV s = (s.1, s.1, RS) from by unfold singV; rw [HRS.out, List.take_length])
        have s0 := HBG.out.cellv (j := 0) (by simp)
        have s1 := HBG.out.cellv (j := 1) (by simp)
        have s2 := HBG.out.cellv (j := 2) (by simp)
        simp only [List.getElem_cons_zero, List.getElem_cons_succ] at s0 s1 s2
        have r0 := HBR.out.cellv (j := 0) (by simp)
        have r1 := HBR.out.cellv (j := 1) (by simp)
        have r2 := HBR.out.cellv (j := 2) (by simp)
        simp only [List.getElem_cons_zero, List.getElem_cons_succ] at r0 r1 r2
        have fr0 := HBR.out.frozen 0
        have fr1 := HBR.out.frozen 1
        have fr2 := HBR.out.frozen 2
        have HFD := Lib.hid HD0.out.done
        have HGW := Lib.hid (show Bel w wr ∧ True from ⟨hwW0.trans HG.out.1, trivial⟩)
        go_wp2_with fail
        have HBW := Lib.hid ((((Below.refl (w.heap.size + 1) wr).setCell (p := ⟨(w.heap.size + 1), 0, none⟩) (Nat.le_refl _) (.slice q1 s.1.length c1)).setCell (p := ⟨(w.heap.size + 1), 1, none⟩) (Nat.le_refl _) (.slice q2 s.1.length c2)).setCell (p := ⟨(w.heap.size + 1), 2, none⟩) (Nat.le_refl _) (.slice q3 VS.length c3))
        have HIF := Lib.hid ((((Hi.refl W0.heap.size wr).set (q := (w.heap.size + 1)) (j := 0) (.slice q1 s.1.length c1) (.inl (by omega))).set (q := (w.heap.size + 1)) (j := 1) (.slice q2 s.1.length c2) (.inl (by omega))).set (q := (w.heap.size + 1)) (j := 2) (.slice q3 VS.length c3) (.inl (by omega)))
        have HBF := Lib.hid (((HBR.out.set 0 (.slice q1 s.1.length c1)).set 1 (.slice q2 s.1.length c2)).set 2 (.slice q3 VS.length c3))
        have HGF := Lib.hid (show Bel w (((wr.setCell ⟨(w.heap.size + 1), 0, none⟩ (.slice q1 s.1.length c1)).setCell ⟨(w.heap.size + 1), 1, none⟩ (.slice q2 s.1.length c2)).setCell ⟨(w.heap.size + 1), 2, none⟩ (.slice q3 VS.length c3)) ∧ True from ⟨Below.trans HGW.out.1 (Below.mono HBW.out (by omega)), trivial⟩)
        clear s0 s1 s2 r0 r1 r2 fr0 fr1 fr2
        generalize (((wr.setCell ⟨(w.heap.size + 1), 0, none⟩ (.slice q1 s.1.length c1)).setCell ⟨(w.heap.size + 1), 1, none⟩ (.slice q2 s.1.length c2)).setCell ⟨(w.heap.size + 1), 2, none⟩ (.slice q3 VS.length c3)) = WF at *
        have d0 := HBF.out.cellv (j := 0) (by simp)
        have d1 := HBF.out.cellv (j := 1) (by simp)
        have d2 := HBF.out.cellv (j := 2) (by simp)
        simp only [List.set_cons_zero, List.set_cons_succ, List.getElem_cons_zero, List.getElem_cons_succ] at d0 d1 d2
        have hz := HIF.out.1
        have GD := domM_good.mono (domM_good.stay HFD.out (fun b hb => HIF.out.2 b hb.1 hb.2)) (T := New w WF) (fun b hb => ⟨by have := hb.1; omega, by have := hb.2; omega⟩)
        have BF := HGF.out.1
        clear HBF HBW
        exact bodyPost_ret (v := .agg #[.slice q1 s.1.length c1, .slice q2 s.1.length c2, .slice q3 VS.length c3]) (by simp [results, Try.results5, go_sem, d0, d1, d2]) rfl ⟨[.slice q1 s.1.length c1, .slice q2 s.1.length c2, .slice q3 VS.length c3], rfl, by rw [HIV.out]; exact GD, BF⟩

set_option maxRecDepth 100000 in
set_option maxHeartbeats 8000000 in
theorem iSingletonDomain_any (v : Value) (s : SchT) (T : Nat → Prop) (w : World) (hs : aggR schR T w v s) (hT : ∀ b, T b → b < w.heap.size) (_hn : bulkSchedule s ≤ 1048576) :
    Calls Try.prog 7 #[v] w (FreshA domM w (singV s)) := by
  obtain ⟨zs, rfl, hs⟩ := hs
  obtain ⟨z0, z1, rfl, zq0, zq1⟩ := schR_open hs
  have HQ0 := zq0
  have A1 := Lib.hid (fun i hi => intsR_at' zq1 (i := i) hi)
  have HI := Lib.hid (fun i hi => ints_i64 zq1 (i := i) hi)
  obtain ⟨sp0, sk0, rfl, sl0, sl0', -⟩ := sliceR_open zq0
  obtain ⟨sp1, sk1, rfl, sl1, sl1', -⟩ := sliceR_open zq1
  have HQ0 := Lib.hid HQ0
  have HT := Lib.hid hT
  unfold bulkSchedule bulkIntS at _hn
  have hl0 : s.1.length ≤ 1048576 := by omega
  have hl1 : s.2.length ≤ 1048576 := by omega
  clear hs zq0 zq1 hT _hn sl0 sl0' sl1 sl1'
  show Calls Try.prog 7 #[.agg #[.slice sp0 s.1.length sk0, .slice sp1 s.2.length sk1]] w _
  go_enter Try.func7, Try.ntmps7
  go_upto_region 1 with (fail)
  obtain ⟨W0, hW0⟩ : ∃ W, W = (w.alloc (.cells #[.slice sp0 s.1.length sk0, .slice sp1 s.2.length sk1] 30)).alloc (.cells #[.slice none 0 0, .slice none 0 0, .slice none 0 0] 28) := ⟨_, rfl⟩
  rw [← hW0]
  have hwW0 : Bel w W0 := by rw [hW0]; (repeat (first | assumption | exact Bel.refl _ | apply Bel.drewN | apply Bel.drew | apply Bel.alloc | refine Bel.trans ?_ (by assumption)))
  have HBX := Lib.hid (show ∀ W, Bel W0 W → W.cell? ⟨w.heap.size, 0, none⟩ = some (.slice sp0 s.1.length sk0) ∧ W.cell? ⟨w.heap.size, 1, none⟩ = some (.slice sp1 s.2.length sk1) from fun W hW => ⟨hW.cell (by rw [hW0]; simp [go_sem]), hW.cell (by rw [hW0]; simp [go_sem])⟩)
  have HBRz := Lib.hid (show Blk W0 (w.heap.size + 1) 28 [.slice none 0 0, .slice none 0 0, .slice none 0 0] from by rw [hW0]; exact Blk.new' _ (by simp))
  have hzW0 : (w.heap.size + 1) + 1 ≤ W0.heap.size := by rw [hW0]; simp
  have HW0 := Lib.hid hW0
  clear hW0
  have HST0 := Lib.hid (show ∀ W, Bel W0 W → intsR T W [.slice sp0 s.1.length sk0] s.1 from fun W hW => intsR_good.bel HQ0.out (hwW0.trans hW) HT.out)
  go_cut [3] (fun sl wx => ∃ (g : Nat) (q1 : Option Addr) (c1 : Nat) (q2 : Option Addr) (c2 : Nat), sl = .pointer (some ⟨g, 0, none⟩) ∧ W0.heap.size ≤ g ∧ Blk wx g 28 [.slice q1 s.1.length c1, .slice q2 s.1.length c2, .slice none 0 0] ∧ OwnI 3 W0.heap.size wx q1 c1 s.1 ∧ OwnI 3 W0.heap.size wx q2 c2 s.1 ∧ ApartD q1 q2 ∧ (∀ a, q1 = some a → a.block ≠ g) ∧ (∀ a, q2 = some a → a.block ≠ g) ∧ Bel W0 wx)
  case first =>
    have G := Lib.hid (show Bel W0 W0.drew ∧ True from ⟨(Bel.refl _).drew, trivial⟩)
    refine wp_region_held_drew (S := (fun W => W.cell? ⟨w.heap.size, 0, none⟩ = some (.slice sp0 s.1.length sk0) ∧ W.cell? ⟨w.heap.size, 1, none⟩ = some (.slice sp1 s.2.length sk1))) (by kernel_rfl) ?_ (fun hHeld => ?_)
    · ((try dsimp only); (first | exact HBX.out _ G.out.1 | exact HBX.out _ (Bel.refl _) | exact HBX.out _ (by have G1 := G.out.1; (repeat (first | assumption | exact Bel.refl _ | apply Bel.drewN | apply Bel.drew | apply Bel.alloc | refine Bel.set ?_ (by first | exact Nat.le_refl _ | exact Nat.le_add_right _ _ | (simp; done) | (simp; omega) | omega) _ | refine Bel.trans ?_ (by assumption))))))
    refine wpAnyH_take (i := 0) (v := ?_) rfl (by kernel_rfl) (by kernel_rfl) (by kernel_rfl) (fun _ _ _ h => h) (Or.inl ⟨by rfl, ?_⟩) (by assumption) ?_
    rotate_left
    · (intro w hSw; (try dsimp only at hSw); go_simp <;> with_reducible rfl)
    try walk_nrm
    refine wpAnyH_take (i := 1) (v := ?_) rfl (by kernel_rfl) (by kernel_rfl) (by kernel_rfl) (fun _ _ _ h => h) (Or.inl ⟨by rfl, ?_⟩) (by assumption) ?_
    rotate_left
    · (intro w hSw; (try dsimp only at hSw); go_simp <;> with_reducible rfl)
    try walk_nrm
    refine wpAnyH_take (i := 3) (v := ?_) rfl (by kernel_rfl) (by kernel_rfl) (by kernel_rfl) (fun _ _ _ h => h) (Or.inl ⟨by rfl, ?_⟩) (by assumption) ?_
    rotate_left
    · (intro w hSw; (try dsimp only at hSw); go_simp <;> with_reducible rfl)
    try walk_nrm
    refine wpAnyH_take (i := 4) (v := ?_) rfl (by kernel_rfl) (by kernel_rfl) (by kernel_rfl) (fun _ _ _ h => h) (Or.inl ⟨by rfl, ?_⟩) (by assumption) ?_
    rotate_left
    · (intro w hSw; (try dsimp only at hSw); go_simp <;> with_reducible rfl)
    try walk_nrm
    refine wpAnyH_ready (rs := [2, 7]) (by kernel_rfl) (by simp) ?_
    refine AllReadyH.cons rfl (fun K hK => ?_) ?_
    · go_simp
      (go_at_call 15; (with_reducible refine (cloneIntsK_any sp0 _ sk0 s.1 T _ rfl (HST0.out _ G.out.1) (fun b hb => Nat.lt_of_lt_of_le (HT.out b hb) (hwW0.trans G.out.1).size) (by omega)).mono ?_); rintro e wA ⟨q1, c1, rfl, hO, hb, -, -⟩; (try have N19 := Lib.hid (fun a (ha : q1 = some a) => (show a.block ≠ g9 from by have := (hO.lt ha).1; have := HB9.out.lt; omega))); have szb := hb.size; have szG := G.out.1.size; (try have E0 := Lib.hid (E0.out.bel hb)); (try have E4 := Lib.hid (E4.out.bel hb)); (try have R1 := Lib.hid (R1.out.bel hb)); (try have R2 := Lib.hid (R2.out.bel hb)); (try have HB9 := Lib.hid (HB9.out.bel hb)); have R1 := Lib.hid (OwnI.base (B' := W0.heap.size) hO (by (try simp only [World.size_drew] at *); omega)); have G := Lib.hid (show Bel W0 wA ∧ True from ⟨G.out.1.trans hb, trivial⟩); have szgwA := G.out.1.size; clear hO hb)
      try go_wp2_with fail
      refine hK.out _ _ ?_ (fun hHeld => ?_)
      · ((try dsimp only); (first | exact HBX.out _ G.out.1 | exact HBX.out _ (Bel.refl _) | exact HBX.out _ (by have G1 := G.out.1; (repeat (first | assumption | exact Bel.refl _ | apply Bel.drewN | apply Bel.drew | apply Bel.alloc | refine Bel.set ?_ (by first | exact Nat.le_refl _ | exact Nat.le_add_right _ _ | (simp; done) | (simp; omega) | omega) _ | refine Bel.trans ?_ (by assumption))))))
      clear hK K
      try walk_nrm
      refine wpAnyH_ready (rs := [5, 7]) (by kernel_rfl) (by simp) ?_
      refine AllReadyH.cons rfl (fun K hK => ?_) ?_
      · go_simp
        (go_at_call 15; (with_reducible refine (cloneIntsK_any sp0 _ sk0 s.1 T _ rfl (HST0.out _ G.out.1) (fun b hb => Nat.lt_of_lt_of_le (HT.out b hb) (hwW0.trans G.out.1).size) (by omega)).mono ?_); rintro e wB ⟨q2, c2, rfl, hO, hb, -, -⟩; (try have N29 := Lib.hid (fun a (ha : q2 = some a) => (show a.block ≠ g9 from by have := (hO.lt ha).1; have := HB9.out.lt; omega))); have N12 := Lib.hid (fun a b (ha : q1 = some a) (hb : q2 = some b) => (show a.block ≠ b.block from by have := (R1.out.lt ha).2; have := (hO.lt hb).1; omega)); have szb := hb.size; have szG := G.out.1.size; (try have E0 := Lib.hid (E0.out.bel hb)); (try have E4 := Lib.hid (E4.out.bel hb)); (try have R1 := Lib.hid (R1.out.bel hb)); (try have HB9 := Lib.hid (HB9.out.bel hb)); have R2 := Lib.hid (OwnI.base (B' := W0.heap.size) hO (by (try simp only [World.size_drew] at *); omega)); have G := Lib.hid (show Bel W0 wB ∧ True from ⟨G.out.1.trans hb, trivial⟩); have szgwB := G.out.1.size; clear hO hb)
        try go_wp2_with fail
        refine hK.out _ _ ?_ (fun hHeld => ?_)
        · ((try dsimp only); (first | exact HBX.out _ G.out.1 | exact HBX.out _ (Bel.refl _) | exact HBX.out _ (by have G1 := G.out.1; (repeat (first | assumption | exact Bel.refl _ | apply Bel.drewN | apply Bel.drew | apply Bel.alloc | refine Bel.set ?_ (by first | exact Nat.le_refl _ | exact Nat.le_add_right _ _ | (simp; done) | (simp; omega) | omega) _ | refine Bel.trans ?_ (by assumption))))))
        clear hK K
        try walk_nrm
        refine wpAnyH_take (i := 6) (v := ?_) rfl (by kernel_rfl) (by kernel_rfl) (by kernel_rfl) (fun _ _ _ h => h) (Or.inl ⟨by rfl, ?_⟩) (by assumption) ?_
        rotate_left
        · (intro w hSw; (try dsimp only at hSw); go_simp <;> with_reducible rfl)
        try walk_nrm
        refine wpAnyH_ready (rs := [7]) (by kernel_rfl) (by simp) ?_
        refine AllReadyH.cons rfl (fun K hK => ?_) AllReadyH.nil
        · go_simp
          (refine nameK ?_; intro V9 hV9; obtain ⟨g9, e9, L9, c9, lb9, ub9⟩ := (by first | exact alloc_block hV9 | exact alloc_blockD hV9 : AllocB _ V9 _); (try simp only [World.size_drew] at e9 lb9); rw [e9]; clear hV9 e9; (try have N19 := Lib.hid (fun a (ha : q1 = some a) => (show a.block ≠ g9 from by have := (R1.out.lt ha).2; omega))); (try have N29 := Lib.hid (fun a (ha : q2 = some a) => (show a.block ≠ g9 from by have := (R2.out.lt ha).2; omega))); (try have E0 := Lib.hid (E0.out.bel L9)); (try have E4 := Lib.hid (E4.out.bel L9)); (try have R1 := Lib.hid (R1.out.bel L9)); (try have R2 := Lib.hid (R2.out.bel L9)); (try have HB9 := Lib.hid (HB9.out.bel L9)); have HB9 := Lib.hid (show Blk V9 g9 28 [.slice none 0 0, .slice none 0 0, .slice none 0 0] from c9); clear c9; have G := Lib.hid (show Bel W0 V9 ∧ True from ⟨by first | exact G.out.1.trans L9 | exact L9, trivial⟩); have szgV9 := G.out.1.size; have szlV9 := L9.size; clear L9; skip)
          try go_wp2_with fail
          refine hK.out _ _ ?_ (fun hHeld => ?_)
          · ((try dsimp only); (first | exact HBX.out _ G.out.1 | exact HBX.out _ (Bel.refl _) | exact HBX.out _ (by have G1 := G.out.1; (repeat (first | assumption | exact Bel.refl _ | apply Bel.drewN | apply Bel.drew | apply Bel.alloc | refine Bel.set ?_ (by first | exact Nat.le_refl _ | exact Nat.le_add_right _ _ | (simp; done) | (simp; omega) | omega) _ | refine Bel.trans ?_ (by assumption))))))
          clear hK K
          try walk_nrm
          refine wpAnyH_ready (rs := [8]) (by kernel_rfl) (by simp) ?_
          refine AllReadyH.cons rfl (fun K hK => ?_) AllReadyH.nil
          · go_simp
            (first | (have x0 := HB9.out.cellv (j := 0) (by simp); have x1 := HB9.out.cellv (j := 1) (by simp); have x2 := HB9.out.cellv (j := 2) (by simp); simp only [List.getElem_cons_zero, List.getElem_cons_succ] at x0 x1 x2; have y0 := HB9.out.frozen 0; have y1 := HB9.out.frozen 1; have y2 := HB9.out.frozen 2; go_simp) | skip)
            try go_wp2_with fail
            refine hK.out _ _ ?_ (fun hHeld => ?_)
            · ((try dsimp only); (first | exact HBX.out _ G.out.1 | exact HBX.out _ (Bel.refl _) | exact HBX.out _ (by have G1 := G.out.1; (repeat (first | assumption | exact Bel.refl _ | apply Bel.drewN | apply Bel.drew | apply Bel.alloc | refine Bel.set ?_ (by first | exact Nat.le_refl _ | exact Nat.le_add_right _ _ | (simp; done) | (simp; omega) | omega) _ | refine Bel.trans ?_ (by assumption))))))
            clear hK K
            try walk_nrm
            refine wpAnyH_done (by kernel_rfl) ?_ _
            go_wp2_with fail
            go_meet
            exact ⟨g9, q1, c1, q2, c2, rfl, by omega, ((HB9.out.set 0 (.slice q1 s.1.length c1)).set 1 (.slice q2 s.1.length c2)).set 2 (.slice none 0 0), OwnI.ofOwn (((R1.out.toOwn.setAt intR_good (q := g9) (fun a ha => (N19.out a ha).symm) 0 (.slice q1 s.1.length c1)).setAt intR_good (q := g9) (fun a ha => (N19.out a ha).symm) 1 (.slice q2 s.1.length c2)).setAt intR_good (q := g9) (fun a ha => (N19.out a ha).symm) 2 (.slice none 0 0)), OwnI.ofOwn (((R2.out.toOwn.setAt intR_good (q := g9) (fun a ha => (N29.out a ha).symm) 0 (.slice q1 s.1.length c1)).setAt intR_good (q := g9) (fun a ha => (N29.out a ha).symm) 1 (.slice q2 s.1.length c2)).setAt intR_good (q := g9) (fun a ha => (N29.out a ha).symm) 2 (.slice none 0 0)), N12.out, N19.out, N29.out, by have G1 := G.out.1; (repeat (first | assumption | exact Bel.refl _ | apply Bel.drewN | apply Bel.drew | apply Bel.alloc | refine Bel.set ?_ (by first | exact Nat.le_refl _ | exact Nat.le_add_right _ _ | (simp; done) | (simp; omega) | omega) _ | refine Bel.trans ?_ (by assumption)))⟩
      refine AllReadyH.cons rfl (fun K hK => ?_) AllReadyH.nil
      · go_simp
        (refine nameK ?_; intro V9 hV9; obtain ⟨g9, e9, L9, c9, lb9, ub9⟩ := (by first | exact alloc_block hV9 | exact alloc_blockD hV9 : AllocB _ V9 _); (try simp only [World.size_drew] at e9 lb9); rw [e9]; clear hV9 e9; (try have N19 := Lib.hid (fun a (ha : q1 = some a) => (show a.block ≠ g9 from by have := (R1.out.lt ha).2; omega))); (try have N29 := Lib.hid (fun a (ha : q2 = some a) => (show a.block ≠ g9 from by have := (R2.out.lt ha).2; omega))); (try have E0 := Lib.hid (E0.out.bel L9)); (try have E4 := Lib.hid (E4.out.bel L9)); (try have R1 := Lib.hid (R1.out.bel L9)); (try have R2 := Lib.hid (R2.out.bel L9)); (try have HB9 := Lib.hid (HB9.out.bel L9)); have HB9 := Lib.hid (show Blk V9 g9 28 [.slice none 0 0, .slice none 0 0, .slice none 0 0] from c9); clear c9; have G := Lib.hid (show Bel W0 V9 ∧ True from ⟨by first | exact G.out.1.trans L9 | exact L9, trivial⟩); have szgV9 := G.out.1.size; have szlV9 := L9.size; clear L9; skip)
        try go_wp2_with fail
        refine hK.out _ _ ?_ (fun hHeld => ?_)
        · ((try dsimp only); (first | exact HBX.out _ G.out.1 | exact HBX.out _ (Bel.refl _) | exact HBX.out _ (by have G1 := G.out.1; (repeat (first | assumption | exact Bel.refl _ | apply Bel.drewN | apply Bel.drew | apply Bel.alloc | refine Bel.set ?_ (by first | exact Nat.le_refl _ | exact Nat.le_add_right _ _ | (simp; done) | (simp; omega) | omega) _ | refine Bel.trans ?_ (by assumption))))))
        clear hK K
        try walk_nrm
        refine wpAnyH_ready (rs := [5]) (by kernel_rfl) (by simp) ?_
        refine AllReadyH.cons rfl (fun K hK => ?_) AllReadyH.nil
        · go_simp
          (go_at_call 15; (with_reducible refine (cloneIntsK_any sp0 _ sk0 s.1 T _ rfl (HST0.out _ G.out.1) (fun b hb => Nat.lt_of_lt_of_le (HT.out b hb) (hwW0.trans G.out.1).size) (by omega)).mono ?_); rintro e wB ⟨q2, c2, rfl, hO, hb, -, -⟩; (try have N29 := Lib.hid (fun a (ha : q2 = some a) => (show a.block ≠ g9 from by have := (hO.lt ha).1; have := HB9.out.lt; omega))); have N12 := Lib.hid (fun a b (ha : q1 = some a) (hb : q2 = some b) => (show a.block ≠ b.block from by have := (R1.out.lt ha).2; have := (hO.lt hb).1; omega)); have szb := hb.size; have szG := G.out.1.size; (try have E0 := Lib.hid (E0.out.bel hb)); (try have E4 := Lib.hid (E4.out.bel hb)); (try have R1 := Lib.hid (R1.out.bel hb)); (try have HB9 := Lib.hid (HB9.out.bel hb)); have R2 := Lib.hid (OwnI.base (B' := W0.heap.size) hO (by (try simp only [World.size_drew] at *); omega)); have G := Lib.hid (show Bel W0 wB ∧ True from ⟨G.out.1.trans hb, trivial⟩); have szgwB := G.out.1.size; clear hO hb)
          try go_wp2_with fail
          refine hK.out _ _ ?_ (fun hHeld => ?_)
          · ((try dsimp only); (first | exact HBX.out _ G.out.1 | exact HBX.out _ (Bel.refl _) | exact HBX.out _ (by have G1 := G.out.1; (repeat (first | assumption | exact Bel.refl _ | apply Bel.drewN | apply Bel.drew | apply Bel.alloc | refine Bel.set ?_ (by first | exact Nat.le_refl _ | exact Nat.le_add_right _ _ | (simp; done) | (simp; omega) | omega) _ | refine Bel.trans ?_ (by assumption))))))
          clear hK K
          try walk_nrm
          refine wpAnyH_take (i := 6) (v := ?_) rfl (by kernel_rfl) (by kernel_rfl) (by kernel_rfl) (fun _ _ _ h => h) (Or.inl ⟨by rfl, ?_⟩) (by assumption) ?_
          rotate_left
          · (intro w hSw; (try dsimp only at hSw); go_simp <;> with_reducible rfl)
          try walk_nrm
          refine wpAnyH_ready (rs := [8]) (by kernel_rfl) (by simp) ?_
          refine AllReadyH.cons rfl (fun K hK => ?_) AllReadyH.nil
          · go_simp
            (first | (have x0 := HB9.out.cellv (j := 0) (by simp); have x1 := HB9.out.cellv (j := 1) (by simp); have x2 := HB9.out.cellv (j := 2) (by simp); simp only [List.getElem_cons_zero, List.getElem_cons_succ] at x0 x1 x2; have y0 := HB9.out.frozen 0; have y1 := HB9.out.frozen 1; have y2 := HB9.out.frozen 2; go_simp) | skip)
            try go_wp2_with fail
            refine hK.out _ _ ?_ (fun hHeld => ?_)
            · ((try dsimp only); (first | exact HBX.out _ G.out.1 | exact HBX.out _ (Bel.refl _) | exact HBX.out _ (by have G1 := G.out.1; (repeat (first | assumption | exact Bel.refl _ | apply Bel.drewN | apply Bel.drew | apply Bel.alloc | refine Bel.set ?_ (by first | exact Nat.le_refl _ | exact Nat.le_add_right _ _ | (simp; done) | (simp; omega) | omega) _ | refine Bel.trans ?_ (by assumption))))))
            clear hK K
            try walk_nrm
            refine wpAnyH_done (by kernel_rfl) ?_ _
            go_wp2_with fail
            go_meet
            exact ⟨g9, q1, c1, q2, c2, rfl, by omega, ((HB9.out.set 0 (.slice q1 s.1.length c1)).set 1 (.slice q2 s.1.length c2)).set 2 (.slice none 0 0), OwnI.ofOwn (((R1.out.toOwn.setAt intR_good (q := g9) (fun a ha => (N19.out a ha).symm) 0 (.slice q1 s.1.length c1)).setAt intR_good (q := g9) (fun a ha => (N19.out a ha).symm) 1 (.slice q2 s.1.length c2)).setAt intR_good (q := g9) (fun a ha => (N19.out a ha).symm) 2 (.slice none 0 0)), OwnI.ofOwn (((R2.out.toOwn.setAt intR_good (q := g9) (fun a ha => (N29.out a ha).symm) 0 (.slice q1 s.1.length c1)).setAt intR_good (q := g9) (fun a ha => (N29.out a ha).symm) 1 (.slice q2 s.1.length c2)).setAt intR_good (q := g9) (fun a ha => (N29.out a ha).symm) 2 (.slice none 0 0)), N12.out, N19.out, N29.out, by have G1 := G.out.1; (repeat (first | assumption | exact Bel.refl _ | apply Bel.drewN | apply Bel.drew | apply Bel.alloc | refine Bel.set ?_ (by first | exact Nat.le_refl _ | exact Nat.le_add_right _ _ | (simp; done) | (simp; omega) | omega) _ | refine Bel.trans ?_ (by assumption)))⟩
    refine AllReadyH.cons rfl (fun K hK => ?_) AllReadyH.nil
    · go_simp
      (refine nameK ?_; intro V9 hV9; obtain ⟨g9, e9, L9, c9, lb9, ub9⟩ := (by first | exact alloc_block hV9 | exact alloc_blockD hV9 : AllocB _ V9 _); (try simp only [World.size_drew] at e9 lb9); rw [e9]; clear hV9 e9; (try have N19 := Lib.hid (fun a (ha : q1 = some a) => (show a.block ≠ g9 from by have := (R1.out.lt ha).2; omega))); (try have N29 := Lib.hid (fun a (ha : q2 = some a) => (show a.block ≠ g9 from by have := (R2.out.lt ha).2; omega))); (try have E0 := Lib.hid (E0.out.bel L9)); (try have E4 := Lib.hid (E4.out.bel L9)); (try have R1 := Lib.hid (R1.out.bel L9)); (try have R2 := Lib.hid (R2.out.bel L9)); (try have HB9 := Lib.hid (HB9.out.bel L9)); have HB9 := Lib.hid (show Blk V9 g9 28 [.slice none 0 0, .slice none 0 0, .slice none 0 0] from c9); clear c9; have G := Lib.hid (show Bel W0 V9 ∧ True from ⟨by first | exact G.out.1.trans L9 | exact L9, trivial⟩); have szgV9 := G.out.1.size; have szlV9 := L9.size; clear L9; skip)
      try go_wp2_with fail
      refine hK.out _ _ ?_ (fun hHeld => ?_)
      · ((try dsimp only); (first | exact HBX.out _ G.out.1 | exact HBX.out _ (Bel.refl _) | exact HBX.out _ (by have G1 := G.out.1; (repeat (first | assumption | exact Bel.refl _ | apply Bel.drewN | apply Bel.drew | apply Bel.alloc | refine Bel.set ?_ (by first | exact Nat.le_refl _ | exact Nat.le_add_right _ _ | (simp; done) | (simp; omega) | omega) _ | refine Bel.trans ?_ (by assumption))))))
      clear hK K
      try walk_nrm
      refine wpAnyH_ready (rs := [2]) (by kernel_rfl) (by simp) ?_
      refine AllReadyH.cons rfl (fun K hK => ?_) AllReadyH.nil
      · go_simp
        (go_at_call 15; (with_reducible refine (cloneIntsK_any sp0 _ sk0 s.1 T _ rfl (HST0.out _ G.out.1) (fun b hb => Nat.lt_of_lt_of_le (HT.out b hb) (hwW0.trans G.out.1).size) (by omega)).mono ?_); rintro e wA ⟨q1, c1, rfl, hO, hb, -, -⟩; (try have N19 := Lib.hid (fun a (ha : q1 = some a) => (show a.block ≠ g9 from by have := (hO.lt ha).1; have := HB9.out.lt; omega))); have szb := hb.size; have szG := G.out.1.size; (try have E0 := Lib.hid (E0.out.bel hb)); (try have E4 := Lib.hid (E4.out.bel hb)); (try have R1 := Lib.hid (R1.out.bel hb)); (try have R2 := Lib.hid (R2.out.bel hb)); (try have HB9 := Lib.hid (HB9.out.bel hb)); have R1 := Lib.hid (OwnI.base (B' := W0.heap.size) hO (by (try simp only [World.size_drew] at *); omega)); have G := Lib.hid (show Bel W0 wA ∧ True from ⟨G.out.1.trans hb, trivial⟩); have szgwA := G.out.1.size; clear hO hb)
        try go_wp2_with fail
        refine hK.out _ _ ?_ (fun hHeld => ?_)
        · ((try dsimp only); (first | exact HBX.out _ G.out.1 | exact HBX.out _ (Bel.refl _) | exact HBX.out _ (by have G1 := G.out.1; (repeat (first | assumption | exact Bel.refl _ | apply Bel.drewN | apply Bel.drew | apply Bel.alloc | refine Bel.set ?_ (by first | exact Nat.le_refl _ | exact Nat.le_add_right _ _ | (simp; done) | (simp; omega) | omega) _ | refine Bel.trans ?_ (by assumption))))))
        clear hK K
        try walk_nrm
        refine wpAnyH_ready (rs := [5]) (by kernel_rfl) (by simp) ?_
        refine AllReadyH.cons rfl (fun K hK => ?_) AllReadyH.nil
        · go_simp
          (go_at_call 15; (with_reducible refine (cloneIntsK_any sp0 _ sk0 s.1 T _ rfl (HST0.out _ G.out.1) (fun b hb => Nat.lt_of_lt_of_le (HT.out b hb) (hwW0.trans G.out.1).size) (by omega)).mono ?_); rintro e wB ⟨q2, c2, rfl, hO, hb, -, -⟩; (try have N29 := Lib.hid (fun a (ha : q2 = some a) => (show a.block ≠ g9 from by have := (hO.lt ha).1; have := HB9.out.lt; omega))); have N12 := Lib.hid (fun a b (ha : q1 = some a) (hb : q2 = some b) => (show a.block ≠ b.block from by have := (R1.out.lt ha).2; have := (hO.lt hb).1; omega)); have szb := hb.size; have szG := G.out.1.size; (try have E0 := Lib.hid (E0.out.bel hb)); (try have E4 := Lib.hid (E4.out.bel hb)); (try have R1 := Lib.hid (R1.out.bel hb)); (try have HB9 := Lib.hid (HB9.out.bel hb)); have R2 := Lib.hid (OwnI.base (B' := W0.heap.size) hO (by (try simp only [World.size_drew] at *); omega)); have G := Lib.hid (show Bel W0 wB ∧ True from ⟨G.out.1.trans hb, trivial⟩); have szgwB := G.out.1.size; clear hO hb)
          try go_wp2_with fail
          refine hK.out _ _ ?_ (fun hHeld => ?_)
          · ((try dsimp only); (first | exact HBX.out _ G.out.1 | exact HBX.out _ (Bel.refl _) | exact HBX.out _ (by have G1 := G.out.1; (repeat (first | assumption | exact Bel.refl _ | apply Bel.drewN | apply Bel.drew | apply Bel.alloc | refine Bel.set ?_ (by first | exact Nat.le_refl _ | exact Nat.le_add_right _ _ | (simp; done) | (simp; omega) | omega) _ | refine Bel.trans ?_ (by assumption))))))
          clear hK K
          try walk_nrm
          refine wpAnyH_take (i := 6) (v := ?_) rfl (by kernel_rfl) (by kernel_rfl) (by kernel_rfl) (fun _ _ _ h => h) (Or.inl ⟨by rfl, ?_⟩) (by assumption) ?_
          rotate_left
          · (intro w hSw; (try dsimp only at hSw); go_simp <;> with_reducible rfl)
          try walk_nrm
          refine wpAnyH_ready (rs := [8]) (by kernel_rfl) (by simp) ?_
          refine AllReadyH.cons rfl (fun K hK => ?_) AllReadyH.nil
          · go_simp
            (first | (have x0 := HB9.out.cellv (j := 0) (by simp); have x1 := HB9.out.cellv (j := 1) (by simp); have x2 := HB9.out.cellv (j := 2) (by simp); simp only [List.getElem_cons_zero, List.getElem_cons_succ] at x0 x1 x2; have y0 := HB9.out.frozen 0; have y1 := HB9.out.frozen 1; have y2 := HB9.out.frozen 2; go_simp) | skip)
            try go_wp2_with fail
            refine hK.out _ _ ?_ (fun hHeld => ?_)
            · ((try dsimp only); (first | exact HBX.out _ G.out.1 | exact HBX.out _ (Bel.refl _) | exact HBX.out _ (by have G1 := G.out.1; (repeat (first | assumption | exact Bel.refl _ | apply Bel.drewN | apply Bel.drew | apply Bel.alloc | refine Bel.set ?_ (by first | exact Nat.le_refl _ | exact Nat.le_add_right _ _ | (simp; done) | (simp; omega) | omega) _ | refine Bel.trans ?_ (by assumption))))))
            clear hK K
            try walk_nrm
            refine wpAnyH_done (by kernel_rfl) ?_ _
            go_wp2_with fail
            go_meet
            exact ⟨g9, q1, c1, q2, c2, rfl, by omega, ((HB9.out.set 0 (.slice q1 s.1.length c1)).set 1 (.slice q2 s.1.length c2)).set 2 (.slice none 0 0), OwnI.ofOwn (((R1.out.toOwn.setAt intR_good (q := g9) (fun a ha => (N19.out a ha).symm) 0 (.slice q1 s.1.length c1)).setAt intR_good (q := g9) (fun a ha => (N19.out a ha).symm) 1 (.slice q2 s.1.length c2)).setAt intR_good (q := g9) (fun a ha => (N19.out a ha).symm) 2 (.slice none 0 0)), OwnI.ofOwn (((R2.out.toOwn.setAt intR_good (q := g9) (fun a ha => (N29.out a ha).symm) 0 (.slice q1 s.1.length c1)).setAt intR_good (q := g9) (fun a ha => (N29.out a ha).symm) 1 (.slice q2 s.1.length c2)).setAt intR_good (q := g9) (fun a ha => (N29.out a ha).symm) 2 (.slice none 0 0)), N12.out, N19.out, N29.out, by have G1 := G.out.1; (repeat (first | assumption | exact Bel.refl _ | apply Bel.drewN | apply Bel.drew | apply Bel.alloc | refine Bel.set ?_ (by first | exact Nat.le_refl _ | exact Nat.le_add_right _ _ | (simp; done) | (simp; omega) | omega) _ | refine Bel.trans ?_ (by assumption)))⟩
  case rest =>
    obtain ⟨g, q1, c1, q2, c2, rfl, hg, hbx, hr1, hr2, hap, hn1, hn2, hB0⟩ := hcut
    have HN1 := Lib.hid hn1
    have HN2 := Lib.hid hn2
    have HDz := Lib.hid (Dom3.two (G := fun _ _ => False) (t2 := 22) hr1.toOwn hr2.toOwn hap)
    have HBGz := Lib.hid hbx
    have HBRy := Lib.hid (HBRz.out.bel hB0)
    obtain ⟨sc0, sc1⟩ := HBX.out wc hB0
    clear hn1 hn2 hr1 hr2 hap hbx
    go_wp2_with fail
    go_loopw [16] (fun i wr => ∃ (k : Nat) (VS : List Value) (RS : List (List Int)) (q3 : Option Addr) (c3 : Nat) (GG : Nat → Nat → Prop), k ≤ s.2.length ∧ i = .int .i64 k ∧ RS = (s.2.take k).map (fun m => [m]) ∧ Blk wr g 28 [.slice q1 s.1.length c1, .slice q2 s.1.length c2, .slice q3 VS.length c3] ∧ Blk wr (w.heap.size + 1) 28 [.slice none 0 0, .slice none 0 0, .slice none 0 0] ∧ Dom3 3 22 W0.heap.size wr s.1 s.1 VS RS q1 c1 q2 c2 q3 c3 GG ∧ (∀ a, q3 = some a → a.block ≠ g) ∧ (∀ i b, i < RS.length → GG i b → b ≠ g) ∧ Bel W0 wr) (fun i _ => s.2.length - (intOf i).toNat)
    case atStart => exact ⟨0, [], [], none, 0, fun _ _ => False, Nat.zero_le _, rfl, rfl, HBGz.out, HBRy.out, HDz.out, (fun _ h => by cases h), fun i b h => absurd h (Nat.not_lt_zero _), hB0⟩
    case round =>
      clear sc0 sc1
      obtain ⟨k, VS, RS, q3, c3, GG, hk, rfl, hRS, hbg, hbr, hD, hn3, hgg, hB⟩ := hrel
      have hrl : RS.length = k := by rw [hRS]; simp; omega
      have hvl : VS.length ≤ 1048576 := by rw [hD.len, hrl]; omega
      have HRL := Lib.hid hrl
      have HRS := Lib.hid hRS
      have HD0 := Lib.hid hD
      have HBG := Lib.hid hbg
      have HBR := Lib.hid hbr
      have HN3 := Lib.hid hn3
      have HGG := Lib.hid hgg
      have HG := Lib.hid (show Bel W0 wr ∧ True from ⟨hB, trivial⟩)
      have hzr := hB.size
      have hle3 := hD.o3.le
      unfold maxLen at hle3
      have hgl := hbg.lt
      clear hrl hRS hbg hbr hD hn3 hgg
      by_cases hlt : k < s.2.length
      · have hki : (k : Int) < (s.2.length : Int) := by omega
        obtain ⟨sb1, so1, se1, sa1⟩ := A1.out k hlt
        obtain rfl : sp1 = some ⟨sb1, so1, none⟩ := se1
        have sa1 := (hwW0.trans hB).cell sa1
        have HIM := Lib.hid (HI.out k hlt)
        have HTS := Lib.hid (show (s.2.take (k + 1)).map (fun m => [m]) = (s.2.take k).map (fun m => [m]) ++ [[s.2.getD k 0]] from take_one hlt)
        generalize s.2.getD k 0 = m at *
        have s2 := HBG.out.cellv (j := 2) (by simp)
        simp only [List.getElem_cons_zero, List.getElem_cons_succ] at s2
        clear hB
        go_upto_region 6 with (at_builtin; refine wpList_appG (n := 1) valR_good _ rfl _ _ 26 rfl (.slice none 0 0) 24 Try.underlying26 (by kernel_rfl) rfl (by decide) (by decide) q3 c3 VS (.slice (some ⟨wr.heap.size, 0, none⟩) 1 1) rfl (HD0.out.o3.bel valR_good (by (repeat (first | assumption | exact Bel.refl _ | apply Bel.drewN | apply Bel.drew | apply Bel.alloc | refine Bel.trans ?_ (by assumption))))) _ 1 [.slice (some ⟨wr.heap.size, 0, none⟩) 1 1] rfl rfl (World.news_of_block (alloc_at (by first | rfl | (simp; done) | (simp; omega)))) (by intro u hu; simp at hu; subst hu; rfl) rfl (by omega) (by first | omega | (simp; omega)) ?_; intro qv cv wA hOA hBA hFA; have HDm := Lib.hid (HD0.out.bel (w' := ((wr.alloc (.cells #[.int .i64 m] 3)).alloc (.cells #[.slice (some ⟨wr.heap.size, 0, none⟩) 1 1] 22))) (by (repeat (first | assumption | exact Bel.refl _ | apply Bel.drewN | apply Bel.drew | apply Bel.alloc | refine Bel.trans ?_ (by assumption))))); have hfr := HD0.out.fresh (w' := ((wr.alloc (.cells #[.int .i64 m] 3)).alloc (.cells #[.slice (some ⟨wr.heap.size, 0, none⟩) 1 1] 22))) (g := fun b => b = wr.heap.size) (by omega) (fun b hb => by subst hb; exact ⟨Nat.le_refl _, by simp <;> omega⟩); have hrr := intsR_cell (w := ((wr.alloc (.cells #[.int .i64 m] 3)).alloc (.cells #[.slice (some ⟨wr.heap.size, 0, none⟩) 1 1] 22))) (t := 3) (allocS (alloc_at rfl)) HIM.out; have HD2 := Lib.hid (HDm.out.push3 hfr hrr hOA (Below.size hBA) hFA); have HBG2 := Lib.hid ((HBG.out.bel (by (repeat (first | assumption | exact Bel.refl _ | apply Bel.drewN | apply Bel.drew | apply Bel.alloc | refine Bel.trans ?_ (by assumption))))).farS hFA (fun a ha => HN3.out a ha)); have HN32 := Lib.hid (fun a (ha : qv = some a) => (show a.block ≠ g from fun e => (hFA g (by have := HBG.out.lt; simp; omega) (fun a' ha' e' => HN3.out a' ha' e'.symm)).2 a ha e.symm)); have HBR2 := Lib.hid ((HBR.out.bel (by (repeat (first | assumption | exact Bel.refl _ | apply Bel.drewN | apply Bel.drew | apply Bel.alloc | refine Bel.trans ?_ (by assumption))))).belowS hBA (by omega)); have HG2 := Lib.hid (show Bel W0 wA ∧ True from ⟨Below.trans (show Bel W0 ((wr.alloc (.cells #[.int .i64 m] 3)).alloc (.cells #[.slice (some ⟨wr.heap.size, 0, none⟩) 1 1] 22)) from HG.out.1.trans (by (repeat (first | assumption | exact Bel.refl _ | apply Bel.drewN | apply Bel.drew | apply Bel.alloc | refine Bel.trans ?_ (by assumption))))) hBA, trivial⟩); have sx := HBG2.out.cellv (j := 2) (by simp); have fs := HBG2.out.frozen 2; simp only [List.getElem_cons_zero, List.getElem_cons_succ] at sx; have szA := Below.size hBA; clear hOA hBA hFA hfr hrr)
        clear s2 sa1
        have hm3 := HD2.out.len
        have HGF := Lib.hid (show Bel W0 (wA.setCell ⟨g, 2, none⟩ (.slice qv (VS.length + 1) cv)) ∧ True from ⟨HG2.out.1.set (p := ⟨g, 2, none⟩) hg _, trivial⟩)
        go_wp2_with fail
        exact ⟨⟨k + 1, VS ++ [.slice (some ⟨wr.heap.size, 0, none⟩) 1 1], RS ++ [[m]], qv, cv, _, by omega, by go_num, by rw [HTS.out, ← HRS.out], by rw [List.length_append]; exact HBG2.out.set 2 (.slice qv (VS.length + 1) cv), HBR2.out.setAt (q := g) (by omega) 2 (.slice qv (VS.length + 1) cv), HD2.out.setS (g := g) HN1.out HN2.out HN32.out (fun i b hi hb => row_ne (by omega) HGG.out i b hi hb) 2 (.slice qv (VS.length + 1) cv), HN32.out, fun i b hi hb => row_ne (by omega) HGG.out i b hi hb, HGF.out.1⟩, by simp [intOf]; omega⟩
      · obtain rfl : k = s.2.length := by omega
        clear hB
        have HIV := Lib.hid (show singV s = (s.1, s.1, RS) from by unfold singV; rw [HRS.out, List.take_length])
        have s0 := HBG.out.cellv (j := 0) (by simp)
        have s1 := HBG.out.cellv (j := 1) (by simp)
        have s2 := HBG.out.cellv (j := 2) (by simp)
        simp only [List.getElem_cons_zero, List.getElem_cons_succ] at s0 s1 s2
        have r0 := HBR.out.cellv (j := 0) (by simp)
        have r1 := HBR.out.cellv (j := 1) (by simp)
        have r2 := HBR.out.cellv (j := 2) (by simp)
        simp only [List.getElem_cons_zero, List.getElem_cons_succ] at r0 r1 r2
        have fr0 := HBR.out.frozen 0
        have fr1 := HBR.out.frozen 1
        have fr2 := HBR.out.frozen 2
        have HFD := Lib.hid HD0.out.done
        have HGW := Lib.hid (show Bel w wr ∧ True from ⟨hwW0.trans HG.out.1, trivial⟩)
        go_wp2_with fail
        have HBW := Lib.hid ((((Below.refl (w.heap.size + 1) wr).setCell (p := ⟨(w.heap.size + 1), 0, none⟩) (Nat.le_refl _) (.slice q1 s.1.length c1)).setCell (p := ⟨(w.heap.size + 1), 1, none⟩) (Nat.le_refl _) (.slice q2 s.1.length c2)).setCell (p := ⟨(w.heap.size + 1), 2, none⟩) (Nat.le_refl _) (.slice q3 VS.length c3))
        have HIF := Lib.hid ((((Hi.refl W0.heap.size wr).set (q := (w.heap.size + 1)) (j := 0) (.slice q1 s.1.length c1) (.inl (by omega))).set (q := (w.heap.size + 1)) (j := 1) (.slice q2 s.1.length c2) (.inl (by omega))).set (q := (w.heap.size + 1)) (j := 2) (.slice q3 VS.length c3) (.inl (by omega)))
        have HBF := Lib.hid (((HBR.out.set 0 (.slice q1 s.1.length c1)).set 1 (.slice q2 s.1.length c2)).set 2 (.slice q3 VS.length c3))
        have HGF := Lib.hid (show Bel w (((wr.setCell ⟨(w.heap.size + 1), 0, none⟩ (.slice q1 s.1.length c1)).setCell ⟨(w.heap.size + 1), 1, none⟩ (.slice q2 s.1.length c2)).setCell ⟨(w.heap.size + 1), 2, none⟩ (.slice q3 VS.length c3)) ∧ True from ⟨Below.trans HGW.out.1 (Below.mono HBW.out (by omega)), trivial⟩)
        clear s0 s1 s2 r0 r1 r2 fr0 fr1 fr2
        generalize (((wr.setCell ⟨(w.heap.size + 1), 0, none⟩ (.slice q1 s.1.length c1)).setCell ⟨(w.heap.size + 1), 1, none⟩ (.slice q2 s.1.length c2)).setCell ⟨(w.heap.size + 1), 2, none⟩ (.slice q3 VS.length c3)) = WF at *
        have d0 := HBF.out.cellv (j := 0) (by simp)
        have d1 := HBF.out.cellv (j := 1) (by simp)
        have d2 := HBF.out.cellv (j := 2) (by simp)
        simp only [List.set_cons_zero, List.set_cons_succ, List.getElem_cons_zero, List.getElem_cons_succ] at d0 d1 d2
        have hz := HIF.out.1
        have GD := domM_good.mono (domM_good.stay HFD.out (fun b hb => HIF.out.2 b hb.1 hb.2)) (T := New w WF) (fun b hb => ⟨by have := hb.1; omega, by have := hb.2; omega⟩)
        have BF := HGF.out.1
        clear HBF HBW
        exact bodyPost_ret (v := .agg #[.slice q1 s.1.length c1, .slice q2 s.1.length c2, .slice q3 VS.length c3]) (by simp [results, Try.results7, go_sem, d0, d1, d2]) rfl ⟨[.slice q1 s.1.length c1, .slice q2 s.1.length c2, .slice q3 VS.length c3], rfl, by rw [HIV.out]; exact GD, BF⟩

end Go.Proofs.Ytjeeajgijdcdbaa
