/- Draws of steps, names, set-up times. -/
import Derived.Test.YtiaamddhocdhaaaCurW
import Derived.Test.YtiaamddhocdhaaaDrawP
import Derived.Test.YtiaamddhocdhaaaOwnS
import Derived.Deep.Cut
import Derived.Conc.WalkWords
import Derived.Deep.DrawnRows
import Derived.Deep.DeepCutAuto
namespace Go.Proofs.Ytiaamddhocdhaaa
open Go.ChangeShapes Go.WideShapes Go.ChangeAt Go.RowKit
set_option linter.unusedVariables false

/-- What a draw leaves in new memory. -/
def DrF {α : Type} (R : RepT α) (cb : Nat) (C : List Int) (w : World) (x : α × StT) (e : Ending) (w' : World) : Prop := ∃ v, e = .returned v ∧ R (New w w') w' [v] x.1 ∧ Cur w' cb C x.2 ∧ Dr cb w w'
def DrA {α : Type} (R : RepT α) (cb : Nat) (C : List Int) (w : World) (x : α × StT) (e : Ending) (w' : World) : Prop := ∃ cs : List Value, e = .returned (.agg cs.toArray) ∧ R (New w w') w' cs x.1 ∧ Cur w' cb C x.2 ∧ Dr cb w w'
/-- The slice that '[]T{x}' lays. -/
theorem Own.one {α : Type} {S : Nat → Prop} {n : Nat} {R : RepT α} {e : TypeId} {B : Nat} {w : World} {g : Nat} {ecs : List Value} {x : α} (h : w.heap[g]? = some (.cells ecs.toArray e (0, 0))) (hB : B ≤ g) (hl : ecs.length = n) (hr : R (fun b => S b ∧ b < w.heap.size ∧ b ≠ g) w ecs x) (gd : Good R) : Own S n R e B w (some ⟨g, 0, none⟩) 1 [x] := by
  refine ⟨ecs, ⟨by simp [hl], .inr ⟨g, 1, ecs.toArray, rfl, hB, h, Nat.le_refl _, by unfold maxLen; omega, by simp [hl], by simp; rw [← hl, List.take_length]⟩⟩, fun i hi => ?_⟩
  obtain rfl : i = 0 := by simpa using hi
  refine ⟨ecs, hl, fun m hm => by simp, gd.mono hr fun b hb => ⟨hb.1, hb.2.1, fun a ha => ?_⟩⟩
  cases ha
  exact hb.2.2
set_option maxRecDepth 100000 in
set_option maxHeartbeats 2000000 in
theorem l03Draw_any (cb : Nat) (C : List Int) (s : StT) (w : World) (h : Cur w cb C s) :
    Calls Try.prog 140 #[.pointer (some ⟨cb, 0, none⟩)] w (DrF stepsR cb C w (steps0 C s)) := by
  have HLT := Lib.hid h.lt
  have hc := h
  have b4 := belowV_in C 4 s (by decide)
  have b6 := belowV_in C 6 (belowV C 4 s).2 (by decide)
  have HE := Lib.hid (show steps0 C s = stepsV C ((belowV C 6 (belowV C 4 s).2).1 / 2).toNat [(0, 1 + (belowV C 4 s).1)] (belowV C 6 (belowV C 4 s).2).2 from rfl)
  clear h
  go_enter Try.func140, Try.ntmps140
  go_wp2_with fail
  refine (l01Below_any cb C s 4 _ hc (by omega)).mono ?_
  rintro e w1 ⟨rfl, hc1, hd1⟩
  clear hc
  obtain ⟨W1, hW1⟩ : ∃ W, W = w1.alloc (.cells #[.int .i64 0, .int .i64 (1 + (belowV C 4 s).1)] 179) := ⟨_, rfl⟩
  have HO1 := Lib.hid (show Own (fun _ => False) 2 stepR 179 w.heap.size W1 (some ⟨w1.heap.size, 0, none⟩) 1 [(0, 1 + (belowV C 4 s).1)] from by
    subst hW1
    exact Own.one (ecs := [.int .i64 0, .int .i64 (1 + (belowV C 4 s).1)]) (alloc_at rfl) hd1.size rfl ⟨_, _, rfl, intRep (by unfold I64; omega), intRep (by unfold I64; omega)⟩ stepR_good)
  have hcW := hc1.bel (w' := W1) (by subst hW1; (repeat (first | assumption | exact Bel.refl _ | apply Bel.drewN | apply Bel.drew | apply Bel.alloc | refine Bel.trans ?_ (by assumption))))
  have hdW : Dr cb w W1 := by subst hW1; (repeat (first | assumption | exact Dr.refl _ _ | (with_reducible apply Dr.drewN) | (with_reducible apply Dr.drew) | (with_reducible apply Dr.alloc) | refine Dr.trans ?_ (by assumption)))
  have HW1 := Lib.hid hW1
  clear hW1 hc1 hd1
  go_wp2_with fail
  rw [← HW1.out]
  refine (l01Below_any cb C _ 6 _ hcW (by omega)).mono ?_
  rintro e w2 ⟨rfl, hc2, hd2⟩
  have hd2' := hdW.trans hd2
  have HO2 := Lib.hid (HO1.out.hi stepR_good (show Hi w.heap.size W1 w2 from Hi.ofDr hd2 HLT.out) (fun _ h => h.elim))
  have hq : ((belowV C 6 (belowV C 4 s).2).1).tdiv 2 = (belowV C 6 (belowV C 4 s).2).1 / 2 := Int.tdiv_eq_ediv_of_nonneg b6.1
  obtain ⟨N, hN⟩ : ∃ N : Nat, (belowV C 6 (belowV C 4 s).2).1 / 2 = N := Int.eq_ofNat_of_zero_le (by omega)
  have hN2 : N ≤ 2 := by omega
  have hNN : ((belowV C 6 (belowV C 4 s).2).1 / 2).toNat = N := by omega
  have HE := Lib.hid (show stepsV C N [(0, 1 + (belowV C 4 s).1)] (belowV C 6 (belowV C 4 s).2).2 = steps0 C s from by rw [HE.out, hNN])
  have HS1 := Lib.hid (show StepsI [(0, 1 + (belowV C 4 s).1)] 0 from by
    refine ⟨Nat.le_refl _, rfl, fun i hi => ?_⟩
    obtain rfl : i = 0 := by simpa using hi
    refine ⟨Int.le_refl _, Int.le_refl _, ?_, ?_, .inl rfl⟩ <;> simp <;> omega)
  have HNQ := Lib.hid hN
  clear hNN hN hdW hd2 hcW
  go_wp2_with fail
  first | rw [hq] | skip
  rw [HNQ.out]
  clear hq b4 b6
  go_loopw [3, 4] (fun l n wr => ∃ (k : Nat) (L : List StepT) (st : StT) (q : Option Addr) (c : Nat), n = .int .i64 k ∧ l = .slice q L.length c ∧ Own (fun _ => False) 2 stepR 179 w.heap.size wr q c L ∧ Cur wr cb C st ∧ stepsV C k L st = steps0 C s ∧ L.length + k ≤ 3 ∧ StepsI L (9 * ((L.length : Int) - 1)) ∧ Dr cb w wr) (fun _ n _ => (intOf n).toNat)
  case atStart => exact ⟨N, _, _, _, _, rfl, rfl, HO2.out, hc2, HE.out, by simp; omega, HS1.out, hd2'⟩
  case round =>
    clear hc2 hd2'
    obtain ⟨k, l, st, q, c, rfl, rfl, hO, hc, heq, hlk, hsi, hd⟩ := hrel
    have HEQ := Lib.hid heq
    have HSI := Lib.hid hsi
    have hwsz := hd.size
    have hlt := HLT.out
    clear heq hsi
    cases k with
    | zero =>
      have HRES := Lib.hid (show stepsR (New w wr) wr [.slice q l.length c] (steps0 C s).1 from by
        rw [← HEQ.out]
        exact hO.done stepR_good (fun _ h _ => h.elim) (fun b h1 h2 => ⟨h1, h2⟩))
      have HCC := Lib.hid (show Cur wr cb C (steps0 C s).2 from by rw [← HEQ.out]; exact hc)
      have HD := Lib.hid hd
      clear hO hc hd
      go_wp2_with fail
      go_ret
      exact ⟨_, rfl, HRES.out, HCC.out, HD.out⟩
    | succ k =>
      have hp := HSI.out.pos
      obtain ⟨q0, rfl⟩ : ∃ q0, q = some ⟨q0, 0, none⟩ := by
        rcases hO.cases with ⟨_, _, h1⟩ | ⟨g, cur, h1, _⟩
        · rw [h1] at hp; simp at hp
        · exact ⟨g, h1⟩
      have hle := hO.le
      have hqB : w.heap.size ≤ q0 := (hO.lt rfl).1
      unfold maxLen at hle
      have hR := hO.done (T := fun b => b < wr.heap.size) stepR_good (fun _ h _ => h.elim) (fun b h1 h2 => h2)
      obtain ⟨b, off', ecs, ea, hrow, hel⟩ := sliceR_at (0, 0) hR (i := l.length - 1) (by omega)
      obtain ⟨rfl, rfl⟩ : q0 = b ∧ 0 = off' := by simpa [sliceAt] using ea
      obtain ⟨_, _, rfl, ⟨e1, -⟩, -⟩ := hel
      have ld := (hrow 0 (by simp)).1
      simp only [List.getElem_cons_zero, Nat.zero_add, Nat.add_zero] at ld
      obtain rfl := List.cons.inj e1 |>.1
      have hA := HSI.out.at_ (l.length - 1) (by omega)
      have HNX := Lib.hid (fun (a c : Int) h1 h2 h3 h4 => HSI.out.next (a := a) (c := c) h1 h2 h3 h4)
      have HEQ := Lib.hid (show stepsV C k (l ++ [((l.getD (l.length - 1) (0, 0)).1 + 1 + (belowV C 9 st).1, (belowV C 5 (belowV C 9 st).2).1)]) (belowV C 5 (belowV C 9 st).2).2 = steps0 C s from HEQ.out)
      have h9 := belowV_in C 9 st (by decide)
      have h5 := belowV_in C 5 (belowV C 9 st).2 (by decide)
      have HNX := Lib.hid (HNX.out _ _ h9.1 h9.2 h5.1 h5.2)
      have hA1 : 0 ≤ (l.getD (l.length - 1) (0, 0)).1 ∧ (l.getD (l.length - 1) (0, 0)).1 ≤ 18 := ⟨hA.1, by have := hA.2.1; have h8 : (l.getD (l.length - 1) zStep) = l.getD (l.length - 1) (0, 0) := rfl; rw [h8] at this; omega⟩
      clear hA hR hrow
      generalize (l.getD (l.length - 1) (0, 0)).1 = A at *
      have HSI := Lib.hid (show StepsI (l ++ [(A + 1 + (belowV C 9 st).1, (belowV C 5 (belowV C 9 st).2).1)]) (9 * (((l ++ [(A + 1 + (belowV C 9 st).1, (belowV C 5 (belowV C 9 st).2).1)]).length : Int) - 1)) from by
        have h7 : (9 * ((l.length : Int) - 1) + 9) = 9 * (((l ++ [(A + 1 + (belowV C 9 st).1, (belowV C 5 (belowV C 9 st).2).1)]).length : Int) - 1) := by simp; omega
        rw [← h7]; exact HNX.out)
      have HREP := Lib.hid (fun (T : Nat → Prop) (W : World) => show stepR T W [.int .i64 (A + 1 + (belowV C 9 st).1), .int .i64 (belowV C 5 (belowV C 9 st).2).1] (A + 1 + (belowV C 9 st).1, (belowV C 5 (belowV C 9 st).2).1) from ⟨_, _, rfl, intRep (by unfold I64; omega), intRep (by unfold I64; omega)⟩)
      have w1e : IntKind.i64.wrap ((l.length : Int) - 1) = ((l.length - 1 : Nat) : Int) := by rw [IntWalk.i64_in _ (by omega)]; omega
      have w2e : IntKind.i64.wrap (A + 1) = A + 1 := IntWalk.i64_in _ (by omega)
      have w3e : IntKind.i64.wrap (A + 1 + (belowV C 9 st).1) = A + 1 + (belowV C 9 st).1 := IntWalk.i64_in _ (by omega)
      have hix : ((l.length - 1 : Nat) : Int) < (l.length : Int) := by omega
      clear HNX
      go_wp2_with fail
      refine wp_region_held_drew (S := (fun W => Hid True)) (by kernel_rfl) ?_ (fun hHeld => ?_)
      · ((try dsimp only); exact Lib.hid trivial)
      refine wpAnyH_take (i := 0) (v := ?_) rfl (by kernel_rfl) (by kernel_rfl) (by kernel_rfl) (fun _ _ _ h => h) (Or.inl ⟨by rfl, ?_⟩) (by assumption) ?_
      rotate_left
      · (intro w hSw; (try dsimp only at hSw); go_simp <;> with_reducible rfl)
      try walk_nrm
      refine wpAnyH_take (i := 1) (v := ?_) rfl (by kernel_rfl) (by kernel_rfl) (by kernel_rfl) (fun _ _ _ h => h) (Or.inl ⟨by rfl, ?_⟩) (by assumption) ?_
      rotate_left
      · (intro w hSw; (try dsimp only at hSw); go_simp <;> with_reducible rfl)
      try walk_nrm
      refine wpAnyH_take (i := 2) (v := ?_) rfl (by kernel_rfl) (by kernel_rfl) (by kernel_rfl) (fun _ _ _ h => h) (Or.inl ⟨by rfl, ?_⟩) (by assumption) ?_
      rotate_left
      · (intro w hSw; (try dsimp only at hSw); go_simp <;> with_reducible rfl)
      try walk_nrm
      refine wpAnyH_take (i := 3) (v := ?_) rfl (by kernel_rfl) (by kernel_rfl) (by kernel_rfl) (fun _ _ _ h => h) (Or.inl ⟨by rfl, ?_⟩) (by assumption) ?_
      rotate_left
      · (intro w hSw; (try dsimp only at hSw); go_simp <;> with_reducible rfl)
      try walk_nrm
      refine wpAnyH_take (i := 4) (v := ?_) rfl (by kernel_rfl) (by kernel_rfl) (by kernel_rfl) (fun _ _ _ h => h) (Or.inl ⟨by rfl, ?_⟩) (by assumption) ?_
      rotate_left
      · (intro w hSw; (try dsimp only at hSw); go_simp <;> with_reducible rfl)
      try walk_nrm
      refine wpAnyH_take (i := 5) (v := ?_) rfl (by kernel_rfl) (by kernel_rfl) (by kernel_rfl) (fun _ _ _ h => h) (Or.inl ⟨by rfl, ?_⟩) (by assumption) ?_
      rotate_left
      · (intro w hSw; (try dsimp only at hSw); go_simp <;> with_reducible rfl)
      try walk_nrm
      refine wpAnyH_take (i := 6) (v := ?_) rfl (by kernel_rfl) (by kernel_rfl) (by kernel_rfl) (fun _ _ _ h => h) (Or.inl ⟨by rfl, ?_⟩) (by assumption) ?_
      rotate_left
      · (intro w hSw; (try dsimp only at hSw); go_simp <;> with_reducible rfl)
      try walk_nrm
      refine wpAnyH_take (i := 9) (v := ?_) rfl (by kernel_rfl) (by kernel_rfl) (by kernel_rfl) (fun _ _ _ h => h) (Or.inl ⟨by rfl, ?_⟩) (by assumption) ?_
      rotate_left
      · (intro w hSw; (try dsimp only at hSw); go_simp <;> with_reducible rfl)
      try walk_nrm
      refine wpAnyH_take (i := 12) (v := ?_) rfl (by kernel_rfl) (by kernel_rfl) (by kernel_rfl) (fun _ _ _ h => h) (Or.inl ⟨by rfl, ?_⟩) (by assumption) ?_
      rotate_left
      · (intro w hSw; (try dsimp only at hSw); go_simp <;> with_reducible rfl)
      try walk_nrm
      refine wpAnyH_ready (rs := [7, 10]) (by kernel_rfl) (by simp) ?_
      refine AllReadyH.cons rfl (fun K hK => ?_) ?_
      · go_simp
        refine hK.out _ _ ?_ (fun hHeld => ?_)
        · ((try dsimp only); exact Lib.hid trivial)
        clear hK K
        try walk_nrm
        refine wpAnyH_take (i := 8) (v := ?_) rfl (by kernel_rfl) (by kernel_rfl) (by kernel_rfl) (fun _ _ _ h => h) (Or.inl ⟨by rfl, ?_⟩) (by assumption) ?_
        rotate_left
        · (intro w hSw; (try dsimp only at hSw); go_simp <;> with_reducible rfl)
        try walk_nrm
        refine wpAnyH_ready (rs := [10]) (by kernel_rfl) (by simp) ?_
        refine AllReadyH.cons rfl (fun K hK => ?_) AllReadyH.nil
        · go_simp
          (go_at_call 139; (with_reducible refine (l01Below_any cb C st 9 _ (hc.bel (by (repeat (first | assumption | exact Bel.refl _ | apply Bel.drewN | apply Bel.drew | apply Bel.alloc | refine Bel.trans ?_ (by assumption))))) (by omega)).mono ?_); rintro e w1 ⟨rfl, hc1, hd1⟩; have hd1 := (Dr.ofBel (cb := cb) (a := wr) (by (repeat (first | assumption | exact Bel.refl _ | apply Bel.drewN | apply Bel.drew | apply Bel.alloc | refine Bel.trans ?_ (by assumption))))).trans hd1; have ld := hd1.cell ld (by omega); have hi1 := Hi.ofDr (B := w.heap.size) hd1 HLT.out)
          try go_wp2_with fail
          refine hK.out _ _ ?_ (fun hHeld => ?_)
          · ((try dsimp only); exact Lib.hid trivial)
          clear hK K
          try walk_nrm
          refine wpAnyH_take (i := 11) (v := ?_) rfl (by kernel_rfl) (by kernel_rfl) (by kernel_rfl) (fun _ _ _ h => h) (Or.inl ⟨by rfl, ?_⟩) (by assumption) ?_
          rotate_left
          · (intro w hSw; (try dsimp only at hSw); go_simp <;> with_reducible rfl)
          try walk_nrm
          refine wpAnyH_ready (rs := [13]) (by kernel_rfl) (by simp) ?_
          refine AllReadyH.cons rfl (fun K hK => ?_) AllReadyH.nil
          · go_simp
            (go_at_call 139; (with_reducible refine (l01Below_any cb C (belowV C 9 st).2 5 _ (hc1.bel (by (repeat (first | assumption | exact Bel.refl _ | apply Bel.drewN | apply Bel.drew | apply Bel.alloc | refine Bel.trans ?_ (by assumption))))) (by omega)).mono ?_); rintro e w2 ⟨rfl, hc2, hd2⟩; have hd2 := (Dr.ofBel (cb := cb) (a := w1) (by (repeat (first | assumption | exact Bel.refl _ | apply Bel.drewN | apply Bel.drew | apply Bel.alloc | refine Bel.trans ?_ (by assumption))))).trans hd2; (try have ld := hd2.cell ld (by omega)); have hi2 := Hi.ofDr (B := w.heap.size) hd2 HLT.out; have hsz2 : w.heap.size ≤ w2.heap.size := by have := hd1.size; have := hd2.size; omega)
            try go_wp2_with fail
            refine hK.out _ _ ?_ (fun hHeld => ?_)
            · ((try dsimp only); exact Lib.hid trivial)
            clear hK K
            try walk_nrm
            refine wpAnyH_take (i := 14) (v := ?_) rfl (by kernel_rfl) (by kernel_rfl) (by kernel_rfl) (fun _ _ _ h => h) (Or.inl ⟨by rfl, ?_⟩) (by assumption) ?_
            rotate_left
            · (intro w hSw; (try dsimp only at hSw); go_simp <;> with_reducible rfl)
            try walk_nrm
            refine wpAnyH_ready (rs := [15]) (by kernel_rfl) (by simp) ?_
            refine AllReadyH.cons rfl (fun K hK => ?_) AllReadyH.nil
            · go_simp
              refine hK.out _ _ ?_ (fun hHeld => ?_)
              · ((try dsimp only); exact Lib.hid trivial)
              clear hK K
              try walk_nrm
              refine wpAnyH_ready (rs := [16]) (by kernel_rfl) (by simp) ?_
              refine AllReadyH.cons rfl (fun K hK => ?_) AllReadyH.nil
              · (refine step_appG (o := ⟨some 33, _, _, _, _, _⟩) (n := 2) stepR_good _ (by rfl) _ _ 62 (by rfl) (.agg #[.int .i64 0, .int .i64 0]) 16 Try.underlying62 (by kernel_rfl) rfl (by decide) (by decide) (some ⟨q0, 0, none⟩) c l (A + 1 + (belowV C 9 st).1, (belowV C 5 (belowV C 9 st).2).1) (by rfl) (hO.hi stepR_good (by (repeat (first | assumption | exact Hi.refl _ _ | (with_reducible apply Hi.drew) | (with_reducible apply Hi.alloc) | refine Hi.trans ?_ (by assumption)))) (fun _ h => h.elim)) _ 1 [.int .i64 (A + 1 + (belowV C 9 st).1), .int .i64 (belowV C 5 (belowV C 9 st).2).1] (by rfl) rfl (World.news_of_block (alloc_at (by first | rfl | (simp; done) | (simp; omega)))) (by intro u hu; simp at hu; rcases hu with rfl | rfl <;> rfl) (HREP.out _ _) (by omega) (by first | omega | (simp; omega)) ?_; intro q' cap' wA hOA hBA hFA)
                refine hK.out _ _ ?_ (fun hHeld => ?_)
                · ((try dsimp only); exact Lib.hid trivial)
                clear hK K
                try walk_nrm
                refine wpAnyH_take (i := 17) (v := ?_) rfl (by kernel_rfl) (by kernel_rfl) (by kernel_rfl) (fun _ _ _ h => h) (Or.inl ⟨by rfl, ?_⟩) (by assumption) ?_
                rotate_left
                · (intro w hSw; (try dsimp only at hSw); go_simp <;> with_reducible rfl)
                try walk_nrm
                refine wpAnyH_done (by kernel_rfl) ?_ _
                have HO' := Lib.hid (show Own (fun _ => False) 2 stepR 179 w.heap.size wA q' cap' (l ++ [(A + 1 + (belowV C 9 st).1, (belowV C 5 (belowV C 9 st).2).1)]) from hOA)
                have hCA := (hc2.bel (w' := w2.alloc (.cells #[.int .i64 (A + 1 + (belowV C 9 st).1), .int .i64 (belowV C 5 (belowV C 9 st).2).1] 179)) (by (repeat (first | assumption | exact Bel.refl _ | apply Bel.drewN | apply Bel.drew | apply Bel.alloc | refine Bel.trans ?_ (by assumption))))).below hBA HLT.out
                have HDA := Lib.hid (Dr.below (cb := cb) (a := w) (show Dr cb w (w2.alloc (.cells #[.int .i64 (A + 1 + (belowV C 9 st).1), .int .i64 (belowV C 5 (belowV C 9 st).2).1] 179)) from by (repeat (first | assumption | exact Dr.refl _ _ | (with_reducible apply Dr.drewN) | (with_reducible apply Dr.drew) | (with_reducible apply Dr.alloc) | refine Dr.trans ?_ (by assumption)))) hBA)
                clear hOA hBA hFA
                go_wp2_with fail
                go_roundw
                case rel => exact ⟨k, _, _, q', cap', by go_num, by simp, HO'.out, hCA, HEQ.out, by simp; omega, HSI.out, HDA.out⟩
                case measure => (simp [intOf] <;> omega)
      refine AllReadyH.cons rfl (fun K hK => ?_) AllReadyH.nil
      · go_simp
        (go_at_call 139; (with_reducible refine (l01Below_any cb C st 9 _ (hc.bel (by (repeat (first | assumption | exact Bel.refl _ | apply Bel.drewN | apply Bel.drew | apply Bel.alloc | refine Bel.trans ?_ (by assumption))))) (by omega)).mono ?_); rintro e w1 ⟨rfl, hc1, hd1⟩; have hd1 := (Dr.ofBel (cb := cb) (a := wr) (by (repeat (first | assumption | exact Bel.refl _ | apply Bel.drewN | apply Bel.drew | apply Bel.alloc | refine Bel.trans ?_ (by assumption))))).trans hd1; have ld := hd1.cell ld (by omega); have hi1 := Hi.ofDr (B := w.heap.size) hd1 HLT.out)
        try go_wp2_with fail
        refine hK.out _ _ ?_ (fun hHeld => ?_)
        · ((try dsimp only); exact Lib.hid trivial)
        clear hK K
        try walk_nrm
        refine wpAnyH_ready (rs := [7, 13]) (by kernel_rfl) (by simp) ?_
        refine AllReadyH.cons rfl (fun K hK => ?_) ?_
        · go_simp
          refine hK.out _ _ ?_ (fun hHeld => ?_)
          · ((try dsimp only); exact Lib.hid trivial)
          clear hK K
          try walk_nrm
          refine wpAnyH_take (i := 8) (v := ?_) rfl (by kernel_rfl) (by kernel_rfl) (by kernel_rfl) (fun _ _ _ h => h) (Or.inl ⟨by rfl, ?_⟩) (by assumption) ?_
          rotate_left
          · (intro w hSw; (try dsimp only at hSw); go_simp <;> with_reducible rfl)
          try walk_nrm
          refine wpAnyH_take (i := 11) (v := ?_) rfl (by kernel_rfl) (by kernel_rfl) (by kernel_rfl) (fun _ _ _ h => h) (Or.inl ⟨by rfl, ?_⟩) (by assumption) ?_
          rotate_left
          · (intro w hSw; (try dsimp only at hSw); go_simp <;> with_reducible rfl)
          try walk_nrm
          refine wpAnyH_ready (rs := [13]) (by kernel_rfl) (by simp) ?_
          refine AllReadyH.cons rfl (fun K hK => ?_) AllReadyH.nil
          · go_simp
            (go_at_call 139; (with_reducible refine (l01Below_any cb C (belowV C 9 st).2 5 _ (hc1.bel (by (repeat (first | assumption | exact Bel.refl _ | apply Bel.drewN | apply Bel.drew | apply Bel.alloc | refine Bel.trans ?_ (by assumption))))) (by omega)).mono ?_); rintro e w2 ⟨rfl, hc2, hd2⟩; have hd2 := (Dr.ofBel (cb := cb) (a := w1) (by (repeat (first | assumption | exact Bel.refl _ | apply Bel.drewN | apply Bel.drew | apply Bel.alloc | refine Bel.trans ?_ (by assumption))))).trans hd2; (try have ld := hd2.cell ld (by omega)); have hi2 := Hi.ofDr (B := w.heap.size) hd2 HLT.out; have hsz2 : w.heap.size ≤ w2.heap.size := by have := hd1.size; have := hd2.size; omega)
            try go_wp2_with fail
            refine hK.out _ _ ?_ (fun hHeld => ?_)
            · ((try dsimp only); exact Lib.hid trivial)
            clear hK K
            try walk_nrm
            refine wpAnyH_take (i := 14) (v := ?_) rfl (by kernel_rfl) (by kernel_rfl) (by kernel_rfl) (fun _ _ _ h => h) (Or.inl ⟨by rfl, ?_⟩) (by assumption) ?_
            rotate_left
            · (intro w hSw; (try dsimp only at hSw); go_simp <;> with_reducible rfl)
            try walk_nrm
            refine wpAnyH_ready (rs := [15]) (by kernel_rfl) (by simp) ?_
            refine AllReadyH.cons rfl (fun K hK => ?_) AllReadyH.nil
            · go_simp
              refine hK.out _ _ ?_ (fun hHeld => ?_)
              · ((try dsimp only); exact Lib.hid trivial)
              clear hK K
              try walk_nrm
              refine wpAnyH_ready (rs := [16]) (by kernel_rfl) (by simp) ?_
              refine AllReadyH.cons rfl (fun K hK => ?_) AllReadyH.nil
              · (refine step_appG (o := ⟨some 33, _, _, _, _, _⟩) (n := 2) stepR_good _ (by rfl) _ _ 62 (by rfl) (.agg #[.int .i64 0, .int .i64 0]) 16 Try.underlying62 (by kernel_rfl) rfl (by decide) (by decide) (some ⟨q0, 0, none⟩) c l (A + 1 + (belowV C 9 st).1, (belowV C 5 (belowV C 9 st).2).1) (by rfl) (hO.hi stepR_good (by (repeat (first | assumption | exact Hi.refl _ _ | (with_reducible apply Hi.drew) | (with_reducible apply Hi.alloc) | refine Hi.trans ?_ (by assumption)))) (fun _ h => h.elim)) _ 1 [.int .i64 (A + 1 + (belowV C 9 st).1), .int .i64 (belowV C 5 (belowV C 9 st).2).1] (by rfl) rfl (World.news_of_block (alloc_at (by first | rfl | (simp; done) | (simp; omega)))) (by intro u hu; simp at hu; rcases hu with rfl | rfl <;> rfl) (HREP.out _ _) (by omega) (by first | omega | (simp; omega)) ?_; intro q' cap' wA hOA hBA hFA)
                refine hK.out _ _ ?_ (fun hHeld => ?_)
                · ((try dsimp only); exact Lib.hid trivial)
                clear hK K
                try walk_nrm
                refine wpAnyH_take (i := 17) (v := ?_) rfl (by kernel_rfl) (by kernel_rfl) (by kernel_rfl) (fun _ _ _ h => h) (Or.inl ⟨by rfl, ?_⟩) (by assumption) ?_
                rotate_left
                · (intro w hSw; (try dsimp only at hSw); go_simp <;> with_reducible rfl)
                try walk_nrm
                refine wpAnyH_done (by kernel_rfl) ?_ _
                have HO' := Lib.hid (show Own (fun _ => False) 2 stepR 179 w.heap.size wA q' cap' (l ++ [(A + 1 + (belowV C 9 st).1, (belowV C 5 (belowV C 9 st).2).1)]) from hOA)
                have hCA := (hc2.bel (w' := w2.alloc (.cells #[.int .i64 (A + 1 + (belowV C 9 st).1), .int .i64 (belowV C 5 (belowV C 9 st).2).1] 179)) (by (repeat (first | assumption | exact Bel.refl _ | apply Bel.drewN | apply Bel.drew | apply Bel.alloc | refine Bel.trans ?_ (by assumption))))).below hBA HLT.out
                have HDA := Lib.hid (Dr.below (cb := cb) (a := w) (show Dr cb w (w2.alloc (.cells #[.int .i64 (A + 1 + (belowV C 9 st).1), .int .i64 (belowV C 5 (belowV C 9 st).2).1] 179)) from by (repeat (first | assumption | exact Dr.refl _ _ | (with_reducible apply Dr.drewN) | (with_reducible apply Dr.drew) | (with_reducible apply Dr.alloc) | refine Dr.trans ?_ (by assumption)))) hBA)
                clear hOA hBA hFA
                go_wp2_with fail
                go_roundw
                case rel => exact ⟨k, _, _, q', cap', by go_num, by simp, HO'.out, hCA, HEQ.out, by simp; omega, HSI.out, HDA.out⟩
                case measure => (simp [intOf] <;> omega)
        refine AllReadyH.cons rfl (fun K hK => ?_) AllReadyH.nil
        · go_simp
          (go_at_call 139; (with_reducible refine (l01Below_any cb C (belowV C 9 st).2 5 _ (hc1.bel (by (repeat (first | assumption | exact Bel.refl _ | apply Bel.drewN | apply Bel.drew | apply Bel.alloc | refine Bel.trans ?_ (by assumption))))) (by omega)).mono ?_); rintro e w2 ⟨rfl, hc2, hd2⟩; have hd2 := (Dr.ofBel (cb := cb) (a := w1) (by (repeat (first | assumption | exact Bel.refl _ | apply Bel.drewN | apply Bel.drew | apply Bel.alloc | refine Bel.trans ?_ (by assumption))))).trans hd2; (try have ld := hd2.cell ld (by omega)); have hi2 := Hi.ofDr (B := w.heap.size) hd2 HLT.out; have hsz2 : w.heap.size ≤ w2.heap.size := by have := hd1.size; have := hd2.size; omega)
          try go_wp2_with fail
          refine hK.out _ _ ?_ (fun hHeld => ?_)
          · ((try dsimp only); exact Lib.hid trivial)
          clear hK K
          try walk_nrm
          refine wpAnyH_ready (rs := [7]) (by kernel_rfl) (by simp) ?_
          refine AllReadyH.cons rfl (fun K hK => ?_) AllReadyH.nil
          · go_simp
            refine hK.out _ _ ?_ (fun hHeld => ?_)
            · ((try dsimp only); exact Lib.hid trivial)
            clear hK K
            try walk_nrm
            refine wpAnyH_take (i := 8) (v := ?_) rfl (by kernel_rfl) (by kernel_rfl) (by kernel_rfl) (fun _ _ _ h => h) (Or.inl ⟨by rfl, ?_⟩) (by assumption) ?_
            rotate_left
            · (intro w hSw; (try dsimp only at hSw); go_simp <;> with_reducible rfl)
            try walk_nrm
            refine wpAnyH_take (i := 11) (v := ?_) rfl (by kernel_rfl) (by kernel_rfl) (by kernel_rfl) (fun _ _ _ h => h) (Or.inl ⟨by rfl, ?_⟩) (by assumption) ?_
            rotate_left
            · (intro w hSw; (try dsimp only at hSw); go_simp <;> with_reducible rfl)
            try walk_nrm
            refine wpAnyH_take (i := 14) (v := ?_) rfl (by kernel_rfl) (by kernel_rfl) (by kernel_rfl) (fun _ _ _ h => h) (Or.inl ⟨by rfl, ?_⟩) (by assumption) ?_
            rotate_left
            · (intro w hSw; (try dsimp only at hSw); go_simp <;> with_reducible rfl)
            try walk_nrm
            refine wpAnyH_ready (rs := [15]) (by kernel_rfl) (by simp) ?_
            refine AllReadyH.cons rfl (fun K hK => ?_) AllReadyH.nil
            · go_simp
              refine hK.out _ _ ?_ (fun hHeld => ?_)
              · ((try dsimp only); exact Lib.hid trivial)
              clear hK K
              try walk_nrm
              refine wpAnyH_ready (rs := [16]) (by kernel_rfl) (by simp) ?_
              refine AllReadyH.cons rfl (fun K hK => ?_) AllReadyH.nil
              · (refine step_appG (o := ⟨some 33, _, _, _, _, _⟩) (n := 2) stepR_good _ (by rfl) _ _ 62 (by rfl) (.agg #[.int .i64 0, .int .i64 0]) 16 Try.underlying62 (by kernel_rfl) rfl (by decide) (by decide) (some ⟨q0, 0, none⟩) c l (A + 1 + (belowV C 9 st).1, (belowV C 5 (belowV C 9 st).2).1) (by rfl) (hO.hi stepR_good (by (repeat (first | assumption | exact Hi.refl _ _ | (with_reducible apply Hi.drew) | (with_reducible apply Hi.alloc) | refine Hi.trans ?_ (by assumption)))) (fun _ h => h.elim)) _ 1 [.int .i64 (A + 1 + (belowV C 9 st).1), .int .i64 (belowV C 5 (belowV C 9 st).2).1] (by rfl) rfl (World.news_of_block (alloc_at (by first | rfl | (simp; done) | (simp; omega)))) (by intro u hu; simp at hu; rcases hu with rfl | rfl <;> rfl) (HREP.out _ _) (by omega) (by first | omega | (simp; omega)) ?_; intro q' cap' wA hOA hBA hFA)
                refine hK.out _ _ ?_ (fun hHeld => ?_)
                · ((try dsimp only); exact Lib.hid trivial)
                clear hK K
                try walk_nrm
                refine wpAnyH_take (i := 17) (v := ?_) rfl (by kernel_rfl) (by kernel_rfl) (by kernel_rfl) (fun _ _ _ h => h) (Or.inl ⟨by rfl, ?_⟩) (by assumption) ?_
                rotate_left
                · (intro w hSw; (try dsimp only at hSw); go_simp <;> with_reducible rfl)
                try walk_nrm
                refine wpAnyH_done (by kernel_rfl) ?_ _
                have HO' := Lib.hid (show Own (fun _ => False) 2 stepR 179 w.heap.size wA q' cap' (l ++ [(A + 1 + (belowV C 9 st).1, (belowV C 5 (belowV C 9 st).2).1)]) from hOA)
                have hCA := (hc2.bel (w' := w2.alloc (.cells #[.int .i64 (A + 1 + (belowV C 9 st).1), .int .i64 (belowV C 5 (belowV C 9 st).2).1] 179)) (by (repeat (first | assumption | exact Bel.refl _ | apply Bel.drewN | apply Bel.drew | apply Bel.alloc | refine Bel.trans ?_ (by assumption))))).below hBA HLT.out
                have HDA := Lib.hid (Dr.below (cb := cb) (a := w) (show Dr cb w (w2.alloc (.cells #[.int .i64 (A + 1 + (belowV C 9 st).1), .int .i64 (belowV C 5 (belowV C 9 st).2).1] 179)) from by (repeat (first | assumption | exact Dr.refl _ _ | (with_reducible apply Dr.drewN) | (with_reducible apply Dr.drew) | (with_reducible apply Dr.alloc) | refine Dr.trans ?_ (by assumption)))) hBA)
                clear hOA hBA hFA
                go_wp2_with fail
                go_roundw
                case rel => exact ⟨k, _, _, q', cap', by go_num, by simp, HO'.out, hCA, HEQ.out, by simp; omega, HSI.out, HDA.out⟩
                case measure => (simp [intOf] <;> omega)

end Go.Proofs.Ytiaamddhocdhaaa
