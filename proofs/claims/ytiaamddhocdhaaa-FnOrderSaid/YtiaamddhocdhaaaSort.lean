/- slices.Sort of at most 12 ints, slices.Compact, SetOf. -/
import Derived.Test.YtiaamddhocdhaaaSetF
import Derived.Test.YtiaamddhocdhaaaApps
import Derived.Test.YtiaamddhocdhaaaMut
import Derived.Deep.OwnRows
import Derived.Lib.SliceRun
import Derived.Lib.LazyBuf
import Derived.Deep.RegionHeld3
import Derived.Conc.WalkWords
namespace Go.Proofs.Ytiaamddhocdhaaa
open Go.ChangeShapes Go.WideShapes Go.ChangeAt Go.RowKit
set_option linter.unusedVariables false

/-- A row of cells whose first n are ints. -/
def rowN (n : Nat) (X : Nat → Int) (R : Nat → Value) : Nat → Value := fun a => if a < n then .int .i64 (X a) else R a
theorem rowN_at {n : Nat} {X : Nat → Int} {R : Nat → Value} {a : Nat} (h : a < n) : rowN n X R a = .int .i64 (X a) := if_pos h
theorem mut_drewN {S : Nat → Prop} {a b : World} (h : Mut S a b) (k : Nat) : Mut S a (b.drewN k) := h.trans (Mut.ofBel (Bel.refl _ |>.drewN _))
theorem mut_drew {S : Nat → Prop} {a b : World} (h : Mut S a b) : Mut S a b.drew := h.trans (Mut.ofBel (Bel.refl _ |>.drew))
theorem mut_setCells {S : Nat → Prop} {a : World} {g : Nat} (hg : S g) : ∀ (vs : List Value) (q : Nat) (b : World), Mut S a b → Mut S a (b.setCells g q vs)
  | [], _, _, h => h
  | v :: r, q, b, h => mut_setCells hg r (q + 1) _ (h.set g q v hg)
theorem rowIs_sub {w : World} {b n m c : Nat} {t : TypeId} {F : Nat → Value} {xs : List Int} {T : Nat → Prop} (h : w.rowIs b t n F) (hm : m ≤ n) (hl : xs.length = m) (hx : ∀ a, a < m → F a = .int .i64 (xs.getD a 0)) (hi : ∀ x, x ∈ xs → I64 x) (hT : T b) (hc : m ≤ c ∧ c ≤ maxLen) : intsR T w [.slice (some ⟨b, 0, none⟩) m c] xs := by
  refine ⟨some ⟨b, 0, none⟩, c, by rw [hl], by rw [hl]; exact hc.1, hc.2, fun k hk => ?_⟩
  refine ⟨b, 0, [.int .i64 xs[k]], rfl, hT, rfl, fun j hj => ?_, rfl, hi _ (List.getElem_mem hk)⟩
  obtain rfl : j = 0 := by simpa using hj
  have h1 := h.cell (i := k) (by omega)
  have h2 := h.frozen k
  rw [hx k (by omega)] at h1
  have e : xs.getD k 0 = xs[k] := by simp [List.getD, hk]
  rw [e] at h1
  simpa using ⟨h1, h2⟩
theorem isNaN_any (x : Int) (w : World) : Calls Try.prog 144 #[.int .i64 x] w fun e w' => e = .returned (.bool false) ∧ w = w' := by
  go_enter Try.func144, Try.ntmps144
  go_wp2
  go_ret
  exact ⟨by simp, rfl⟩
theorem less_any (x y : Int) (w : World) : Calls Try.prog 190 #[.int .i64 x, .int .i64 y] w fun e w' => e = .returned (.bool (decide (x < y))) ∧ w = w' := by
  go_enter Try.func190, Try.ntmps190
  go_wp2_with (go_at_call 144; refine (isNaN_any _ _).mono ?_; rintro e w' ⟨rfl, rfl⟩)
  go_ret
  exact ⟨by simp, rfl⟩

set_option maxRecDepth 100000 in
set_option maxHeartbeats 1000000 in
theorem insSort_any (g c n : Nat) (X0 : Nat → Int) (R : Nat → Value) (w : World) (hr : w.rowIs g 3 c (rowN n X0 R)) (hn : n ≤ c) (hc : c ≤ 9223372036854775807) : Calls Try.prog 184 #[.slice (some ⟨g, 0, none⟩) n c, .int .i64 0, .int .i64 n] w fun e w' => e = .returned (.tuple #[]) ∧ ∃ Y, SrtF Y n ∧ (∀ xs, MemF X0 n xs → MemF Y n xs) ∧ w'.rowIs g 3 c (rowN n Y R) ∧ Mut (fun b => b = g) w w' := by
  have HR0 := Lib.hid hr
  clear hr
  go_enter Try.func184, Try.ntmps184
  go_wp2_with fail
  go_loopw [6] (fun i wr => ∃ (i' : Nat) (X : Nat → Int), 1 ≤ i' ∧ i' ≤ n + 1 ∧ i = .int .i64 i' ∧ SrtF X i' ∧ (∀ xs, MemF X0 n xs → MemF X n xs) ∧ wr.rowIs g 3 c (rowN n X R) ∧ Mut (fun b => b = g) w wr) (fun i _ => n + 1 - (intOf i).toNat)
  case atStart => exact ⟨1, X0, Nat.le_refl _, by omega, by first | rfl | go_num, fun p q h1 h2 => by omega, fun _ h => h, HR0.out, Mut.refl _ _⟩
  case round =>
    obtain ⟨i, X, hi1, hin, rfl, hsr, hmem, hrow, hmu⟩ := hrel
    have HSR := Lib.hid hsr
    have HME := Lib.hid hmem
    have HRW := Lib.hid hrow
    have HMU0 := Lib.hid hmu
    clear hsr hmem hrow hmu
    by_cases hlt : i < n
    · have hii : (i : Int) < (n : Int) := by omega
      obtain ⟨Wb, hWb⟩ : ∃ W, W = wr := ⟨wr, rfl⟩
      subst hWb
      go_wp2_with fail
      go_loopw [7] (fun jv wr => ∃ (j : Nat) (X : Nat → Int), j ≤ i ∧ jv = .int .i64 j ∧ SrtE X i j ∧ (∀ xs, MemF X0 n xs → MemF X n xs) ∧ wr.rowIs g 3 c (rowN n X R) ∧ Mut (fun b => b = g) w wr) (fun jv _ => (intOf jv).toNat)
      case atStart => exact ⟨i, X, Nat.le_refl _, rfl, HSR.out.start, HME.out, HRW.out, HMU0.out⟩
      case round =>
        obtain ⟨j, X, hji, rfl, hsr, hmem, hrow, hmu⟩ := hrel
        have HSR := Lib.hid hsr
        have HME := Lib.hid hmem
        have HR := Lib.hid hrow
        have HMU := Lib.hid hmu
        clear hsr hmem hrow hmu HRW HMU0
        by_cases hj0 : j = 0
        · have HSD := Lib.hid (HSR.out.done (.inl hj0))
          subst hj0
          go_wp2_with fail
          go_quiet (fail)
          go_wp2_with fail
          go_roundw
          case rel => exact ⟨i + 1, X, by omega, by omega, by go_num, HSD.out, HME.out, HR.out, mut_drewN HMU.out _⟩
          case measure => simp [intOf]; omega
        · obtain ⟨m, hm⟩ : ∃ m, m + 1 = j := ⟨j - 1, by omega⟩
          have hsub : IntKind.i64.wrap ((j : Int) - 1) = (m : Int) := by
            rw [show (j : Int) - 1 = (m : Int) from by omega]
            exact IntWalk.i64_in _ (by omega)
          have hj0i : (0 : Int) < (j : Int) := by omega
          have hj0n : 0 < j := by omega
          have hjn : (j : Int) < (n : Int) := by omega
          have hmn : (m : Int) < (n : Int) := by omega
          have hmm : j - 1 = m := by omega
          have hne1 : ¬ j = m := by omega
          have hmlt : m < j := by omega
          have hne2 : ¬ m = j := by omega
          have c1 := HR.out.cell (i := j) (by omega)
          have c0 := HR.out.cell (i := m) (by omega)
          have f1 := HR.out.frozen j
          have f0 := HR.out.frozen m
          rw [rowN_at (by omega)] at c1 c0
          have HMM := Lib.hid hmm
          have HM := Lib.hid hm
          clear hmm hm
          have HDN := Lib.hid (fun (h : X m ≤ X j) => HSR.out.done (.inr (by rw [HMM.out]; exact h)))
          have HSTP := Lib.hid (fun (h : X j < X m) => show SrtE (swpF X j) i m from by
            have := HSR.out.step (by omega) hji (by rw [HMM.out]; exact h)
            rw [HMM.out] at this
            exact this)
          have HMEM := Lib.hid (fun xs (h : MemF X0 n xs) => (HME.out xs h).swp (j := j) (by omega) (by omega))
          have HROW := Lib.hid (fun a => show (if a = m then Value.int .i64 (X j) else if a = j then Value.int .i64 (X m) else rowN n X R a) = rowN n (swpF X j) R a from by
            unfold rowN swpF
            rw [HMM.out]
            have := HM.out
            by_cases e1 : a = j
            · rw [if_neg (by omega), if_pos e1, if_pos (by omega), if_pos e1]
            · by_cases e2 : a = m
              · rw [if_pos e2, if_pos (by omega), if_neg e1, if_pos e2]
              · rw [if_neg e2, if_neg e1, if_neg e1, if_neg e2])
          generalize hXJ : X j = XJ at *
          generalize hXM : X m = XM at *
          have HXJ := Lib.hid hXJ
          have HXM := Lib.hid hXM
          clear hXJ hXM hj0
          by_cases hl : XJ < XM
          · have HSTP := Lib.hid (HSTP.out hl)
            have hlb : decide (XJ < XM) = true := decide_eq_true hl
            go_wp2_with fail
            go_quiet ((go_at_call 190; exact quiet_one (less_any _ _ _)))
            go_wp2_with fail
            refine wp_region_held_drew (S := (fun W => Hid True)) (by kernel_rfl) ?_ (fun hHeld => ?_)
            · ((try dsimp only); exact Lib.hid trivial)
            refine wpAnyH_take (i := 0) (v := ?_) rfl (by kernel_rfl) (by kernel_rfl) (by kernel_rfl) (fun _ _ _ h => h) (Or.inl ⟨by rfl, ?_⟩) (by assumption) ?_
            rotate_left
            · (intro w hSw; (try dsimp only at hSw); go_simp <;> with_reducible rfl)
            try walk_nrm
            refine wpAnyH_take (i := 1) (v := ?_) rfl (by kernel_rfl) (by kernel_rfl) (by kernel_rfl) (fun _ _ _ h => h) (Or.inl ⟨by rfl, ?_⟩) (by assumption) ?_
            rotate_left
            · (intro w hSw; (try dsimp only at hSw); go_simp <;> with_reducible rfl)
            try walk_nrm
            refine wpAnyH_take (i := 2) (v := ?_) rfl (by kernel_rfl) (by kernel_rfl) (by kernel_rfl) (fun _ _ _ h => h) (Or.inl ⟨by rfl, ?_⟩) (by assumption) ?_
            rotate_left
            · (intro w hSw; (try dsimp only at hSw); go_simp <;> with_reducible rfl)
            try walk_nrm
            refine wpAnyH_take (i := 3) (v := ?_) rfl (by kernel_rfl) (by kernel_rfl) (by kernel_rfl) (fun _ _ _ h => h) (Or.inl ⟨by rfl, ?_⟩) (by assumption) ?_
            rotate_left
            · (intro w hSw; (try dsimp only at hSw); go_simp <;> with_reducible rfl)
            try walk_nrm
            refine wpAnyH_take (i := 4) (v := ?_) rfl (by kernel_rfl) (by kernel_rfl) (by kernel_rfl) (fun _ _ _ h => h) (Or.inl ⟨by rfl, ?_⟩) (by assumption) ?_
            rotate_left
            · (intro w hSw; (try dsimp only at hSw); go_simp <;> with_reducible rfl)
            try walk_nrm
            refine wpAnyH_take (i := 5) (v := ?_) rfl (by kernel_rfl) (by kernel_rfl) (by kernel_rfl) (fun _ _ _ h => h) (Or.inl ⟨by rfl, ?_⟩) (by assumption) ?_
            rotate_left
            · (intro w hSw; (try dsimp only at hSw); go_simp <;> with_reducible rfl)
            try walk_nrm
            refine wpAnyH_take (i := 6) (v := ?_) rfl (by kernel_rfl) (by kernel_rfl) (by kernel_rfl) (fun _ _ _ h => h) (Or.inl ⟨by rfl, ?_⟩) (by assumption) ?_
            rotate_left
            · (intro w hSw; (try dsimp only at hSw); go_simp <;> with_reducible rfl)
            try walk_nrm
            refine wpAnyH_take (i := 7) (v := ?_) rfl (by kernel_rfl) (by kernel_rfl) (by kernel_rfl) (fun _ _ _ h => h) (Or.inl ⟨by rfl, ?_⟩) (by assumption) ?_
            rotate_left
            · (intro w hSw; (try dsimp only at hSw); go_simp <;> with_reducible rfl)
            try walk_nrm
            refine wpAnyH_take (i := 8) (v := ?_) rfl (by kernel_rfl) (by kernel_rfl) (by kernel_rfl) (fun _ _ _ h => h) (Or.inl ⟨by rfl, ?_⟩) (by assumption) ?_
            rotate_left
            · (intro w hSw; (try dsimp only at hSw); go_simp <;> with_reducible rfl)
            try walk_nrm
            refine wpAnyH_take (i := 10) (v := ?_) rfl (by kernel_rfl) (by kernel_rfl) (by kernel_rfl) (fun _ _ _ h => h) (Or.inl ⟨by rfl, ?_⟩) (by assumption) ?_
            rotate_left
            · (intro w hSw; (try dsimp only at hSw); go_simp <;> with_reducible rfl)
            try walk_nrm
            refine wpAnyH_take (i := 11) (v := ?_) rfl (by kernel_rfl) (by kernel_rfl) (by kernel_rfl) (fun _ _ _ h => h) (Or.inl ⟨by rfl, ?_⟩) (by assumption) ?_
            rotate_left
            · (intro w hSw; (try dsimp only at hSw); go_simp <;> with_reducible rfl)
            try walk_nrm
            refine wpAnyH_take (i := 12) (v := ?_) rfl (by kernel_rfl) (by kernel_rfl) (by kernel_rfl) (fun _ _ _ h => h) (Or.inl ⟨by rfl, ?_⟩) (by assumption) ?_
            rotate_left
            · (intro w hSw; (try dsimp only at hSw); go_simp <;> with_reducible rfl)
            try walk_nrm
            refine wpAnyH_ready (rs := [9, 13]) (by kernel_rfl) (by simp) ?_
            refine AllReadyH.cons rfl (fun K hK => ?_) ?_
            · go_simp
              refine hK.out _ _ ?_ (fun hHeld => ?_)
              · ((try dsimp only); exact Lib.hid trivial)
              clear hK K
              try walk_nrm
              refine wpAnyH_ready (rs := [13]) (by kernel_rfl) (by simp) ?_
              refine AllReadyH.cons rfl (fun K hK => ?_) AllReadyH.nil
              · go_simp
                refine hK.out _ _ ?_ (fun hHeld => ?_)
                · ((try dsimp only); exact Lib.hid trivial)
                clear hK K
                try walk_nrm
                refine wpAnyH_take (i := 14) (v := ?_) rfl (by kernel_rfl) (by kernel_rfl) (by kernel_rfl) (fun _ _ _ h => h) (Or.inl ⟨by rfl, ?_⟩) (by assumption) ?_
                rotate_left
                · (intro w hSw; (try dsimp only at hSw); go_simp <;> with_reducible rfl)
                try walk_nrm
                refine wpAnyH_ready (rs := [15]) (by kernel_rfl) (by simp) ?_
                refine AllReadyH.cons rfl (fun K hK => ?_) AllReadyH.nil
                · go_simp
                  refine hK.out _ _ ?_ (fun hHeld => ?_)
                  · ((try dsimp only); exact Lib.hid trivial)
                  clear hK K
                  try walk_nrm
                  refine wpAnyH_take (i := 16) (v := ?_) rfl (by kernel_rfl) (by kernel_rfl) (by kernel_rfl) (fun _ _ _ h => h) (Or.inl ⟨by rfl, ?_⟩) (by assumption) ?_
                  rotate_left
                  · (intro w hSw; (try dsimp only at hSw); go_simp <;> with_reducible rfl)
                  try walk_nrm
                  refine wpAnyH_ready (rs := [17]) (by kernel_rfl) (by simp) ?_
                  refine AllReadyH.cons rfl (fun K hK => ?_) AllReadyH.nil
                  · go_simp
                    refine hK.out _ _ ?_ (fun hHeld => ?_)
                    · ((try dsimp only); exact Lib.hid trivial)
                    clear hK K
                    try walk_nrm
                    refine wpAnyH_done (by kernel_rfl) ?_ _
                    go_wp2_with fail
                    exact ⟨⟨m, swpF X j, by omega, rfl, HSTP.out, HMEM.out, ((HR.out.set j _).set m _).congr (fun a _ => HROW.out a), ((mut_drewN HMU.out _).set g j _ rfl).set g m _ rfl⟩, by simp [intOf]; omega⟩
            refine AllReadyH.cons rfl (fun K hK => ?_) AllReadyH.nil
            · go_simp
              refine hK.out _ _ ?_ (fun hHeld => ?_)
              · ((try dsimp only); exact Lib.hid trivial)
              clear hK K
              try walk_nrm
              refine wpAnyH_ready (rs := [9]) (by kernel_rfl) (by simp) ?_
              refine AllReadyH.cons rfl (fun K hK => ?_) AllReadyH.nil
              · go_simp
                refine hK.out _ _ ?_ (fun hHeld => ?_)
                · ((try dsimp only); exact Lib.hid trivial)
                clear hK K
                try walk_nrm
                refine wpAnyH_take (i := 14) (v := ?_) rfl (by kernel_rfl) (by kernel_rfl) (by kernel_rfl) (fun _ _ _ h => h) (Or.inl ⟨by rfl, ?_⟩) (by assumption) ?_
                rotate_left
                · (intro w hSw; (try dsimp only at hSw); go_simp <;> with_reducible rfl)
                try walk_nrm
                refine wpAnyH_ready (rs := [15]) (by kernel_rfl) (by simp) ?_
                refine AllReadyH.cons rfl (fun K hK => ?_) AllReadyH.nil
                · go_simp
                  refine hK.out _ _ ?_ (fun hHeld => ?_)
                  · ((try dsimp only); exact Lib.hid trivial)
                  clear hK K
                  try walk_nrm
                  refine wpAnyH_take (i := 16) (v := ?_) rfl (by kernel_rfl) (by kernel_rfl) (by kernel_rfl) (fun _ _ _ h => h) (Or.inl ⟨by rfl, ?_⟩) (by assumption) ?_
                  rotate_left
                  · (intro w hSw; (try dsimp only at hSw); go_simp <;> with_reducible rfl)
                  try walk_nrm
                  refine wpAnyH_ready (rs := [17]) (by kernel_rfl) (by simp) ?_
                  refine AllReadyH.cons rfl (fun K hK => ?_) AllReadyH.nil
                  · go_simp
                    refine hK.out _ _ ?_ (fun hHeld => ?_)
                    · ((try dsimp only); exact Lib.hid trivial)
                    clear hK K
                    try walk_nrm
                    refine wpAnyH_done (by kernel_rfl) ?_ _
                    go_wp2_with fail
                    exact ⟨⟨m, swpF X j, by omega, rfl, HSTP.out, HMEM.out, ((HR.out.set j _).set m _).congr (fun a _ => HROW.out a), ((mut_drewN HMU.out _).set g j _ rfl).set g m _ rfl⟩, by simp [intOf]; omega⟩
          · have HDN := Lib.hid (HDN.out (by omega))
            have hlb : decide (XJ < XM) = false := decide_eq_false hl
            go_wp2_with fail
            go_quiet ((go_at_call 190; exact quiet_one (less_any _ _ _)))
            go_wp2_with fail
            go_roundw
            case rel => exact ⟨i + 1, X, by omega, by omega, by go_num, HDN.out, HME.out, HR.out, mut_drewN HMU.out _⟩
            case measure => simp [intOf]; omega
    · have HSD := Lib.hid (show SrtF X n from fun p q h1 h2 => HSR.out p q h1 (by omega))
      go_wp2_with fail
      go_end0
      exact ⟨rfl, X, HSD.out, HME.out, HRW.out, HMU0.out⟩

set_option maxRecDepth 100000 in
theorem len64_any (n : Nat) (hn : n ≤ 12) (w : World) : Calls Try.prog 194 #[.int .u64 n] w fun e w' => (∃ z : Int, e = .returned (.int .i64 z)) ∧ w = w' := by
  have h : n = 0 ∨ n = 1 ∨ n = 2 ∨ n = 3 ∨ n = 4 ∨ n = 5 ∨ n = 6 ∨ n = 7 ∨ n = 8 ∨ n = 9 ∨ n = 10 ∨ n = 11 ∨ n = 12 := by omega
  rcases h with rfl | rfl | rfl | rfl | rfl | rfl | rfl | rfl | rfl | rfl | rfl | rfl | rfl <;> (go_enter Try.func194, Try.ntmps194; go_wp2; go_ret; exact ⟨⟨_, rfl⟩, rfl⟩)
theorem len_any (n : Nat) (hn : n ≤ 12) (w : World) : Calls Try.prog 161 #[.int .u64 n] w fun e w' => (∃ z : Int, e = .returned (.int .i64 z)) ∧ w = w' := by
  go_enter Try.func161, Try.ntmps161
  go_wp2_with (go_at_call 194; refine (len64_any n hn _).mono ?_; rintro e w' ⟨⟨z, rfl⟩, rfl⟩)
  go_ret
  exact ⟨⟨_, rfl⟩, rfl⟩
set_option maxRecDepth 100000 in
set_option maxHeartbeats 1000000 in
theorem pdq_any (g c n : Nat) (z : Int) (X0 : Nat → Int) (R : Nat → Value) (w : World) (hr : w.rowIs g 3 c (rowN n X0 R)) (hn : n ≤ c) (hc : c ≤ 9223372036854775807) (h12 : n ≤ 12) : Calls Try.prog 160 #[.slice (some ⟨g, 0, none⟩) n c, .int .i64 0, .int .i64 n, .int .i64 z] w fun e w' => e = .returned (.tuple #[]) ∧ ∃ Y, SrtF Y n ∧ (∀ xs, MemF X0 n xs → MemF Y n xs) ∧ w'.rowIs g 3 c (rowN n Y R) ∧ Mut (fun b => b = g) w w' := by
  have HR0 := Lib.hid hr
  clear hr
  have h12i : (n : Int) ≤ 12 := by omega
  go_enter Try.func160, Try.ntmps160
  go_wp2_with fail
  go_loopw [1, 2, 3] (fun a b l wr => a = .int .i64 0 ∧ b = .int .i64 n ∧ l = .int .i64 z ∧ wr = w) (fun _ _ _ _ => 0)
  case atStart => exact ⟨rfl, rfl, rfl, rfl⟩
  case round =>
    obtain ⟨rfl, rfl, rfl, rfl⟩ := hrel
    have hnw : IntKind.i64.wrap ((n : Int) - 0) = (n : Int) := by rw [Int.sub_zero]; exact IntWalk.i64_in _ (by omega)
    go_wp2_with fail
    refine (insSort_any g c n X0 R _ HR0.out hn hc).mono ?_
    rintro e w' ⟨rfl, H⟩
    have HH := Lib.hid H
    clear H
    go_wp2_with fail
    ((try simp only [Exit.inBlock, Exit.then]); refine bodyPost_ret (results_none rfl _ _ _) rfl ?_)
    exact ⟨rfl, HH.out⟩
set_option maxRecDepth 100000 in
set_option maxHeartbeats 1000000 in
theorem sort_any (g c n : Nat) (X0 : Nat → Int) (R : Nat → Value) (w : World) (hr : w.rowIs g 3 c (rowN n X0 R)) (hn : n ≤ c) (hc : c ≤ 9223372036854775807) (h12 : n ≤ 12) : Calls Try.prog 111 #[.slice (some ⟨g, 0, none⟩) n c] w fun e w' => e = .returned (.tuple #[]) ∧ ∃ Y, SrtF Y n ∧ (∀ xs, MemF X0 n xs → MemF Y n xs) ∧ w'.rowIs g 3 c (rowN n Y R) ∧ Mut (fun b => b = g) w w' := by
  have HR0 := Lib.hid hr
  clear hr
  have hcv : IntKind.u64.wrap (n : Int) = (n : Int) := by simp [IntKind.wrap, IntKind.signed, IntKind.bits]; omega
  go_enter Try.func111, Try.ntmps111
  go_wp2_with fail
  refine (len_any n h12 _).mono ?_
  rintro e w' ⟨⟨z, rfl⟩, rfl⟩
  go_wp2_with fail
  refine (pdq_any g c n z X0 R _ HR0.out hn hc h12).mono ?_
  rintro e w' ⟨rfl, H⟩
  have HH := Lib.hid H
  clear H
  go_wp2_with fail
  go_end0
  exact ⟨rfl, HH.out⟩

theorem zeroInt_any (w : World) : (zeroValue 3).run Try.prog w = .ok (.int .i64 0) w := by kernel_rfl
set_option maxRecDepth 100000 in
set_option maxHeartbeats 1000000 in
theorem compact_any (g c n : Nat) (X : Nat → Int) (R : Nat → Value) (w : World) (hr : w.rowIs g 3 c (rowN n X R)) (hn : n ≤ c) (hc : c ≤ 9223372036854775807) : Calls Try.prog 112 #[.slice (some ⟨g, 0, none⟩) n c] w fun e w' => e = .returned (.slice (some ⟨g, 0, none⟩) (cmpF X n).length c) ∧ (∃ F, w'.rowIs g 3 c F ∧ ∀ a, a < (cmpF X n).length → F a = .int .i64 ((cmpF X n).getD a 0)) ∧ Mut (fun b => b = g) w w' := by
  have HR0 := Lib.hid hr
  clear hr
  have HALL := Lib.hid (fun (h : ∀ j, 0 < j → j < n → X j ≠ X (j - 1)) => show (cmpF X n).length = n ∧ ∀ a, a < (cmpF X n).length → rowN n X R a = .int .i64 ((cmpF X n).getD a 0) from by
    rw [cmpF_all n h]
    refine ⟨by simp, fun a ha => ?_⟩
    have ha' : a < n := by simpa using ha
    rw [rowN_at ha']
    simp [ha'])
  by_cases h2 : n < 2
  · have HA := Lib.hid (HALL.out (fun j h1 h2' => by omega))
    have h2i : (n : Int) < 2 := by omega
    go_enter Try.func112, Try.ntmps112
    go_wp2
    go_ret
    exact ⟨by rw [HA.out.1]; rfl, ⟨_, HR0.out, HA.out.2⟩, Mut.refl _ _⟩
  have h2i : ¬ ((n : Int) < 2) := by omega
  go_enter Try.func112, Try.ntmps112
  go_wp2_with fail
  go_loopw [3] (fun kv wr => ∃ k : Nat, 1 ≤ k ∧ k ≤ n ∧ kv = .int .i64 k ∧ (∀ j, 0 < j → j < k → X j ≠ X (j - 1)) ∧ wr.rowIs g 3 c (rowN n X R) ∧ Mut (fun b => b = g) w wr) (fun kv _ => n - (intOf kv).toNat)
  case atStart => exact ⟨1, Nat.le_refl _, by omega, by first | rfl | go_num, fun j h1 h2 => by omega, HR0.out, Mut.refl _ _⟩
  case round =>
    obtain ⟨k, hk1, hkn, rfl, hne, hrow, hmu⟩ := hrel
    have HNE := Lib.hid hne
    have HR := Lib.hid hrow
    have HMU := Lib.hid hmu
    clear hne hrow hmu
    by_cases hlt : k < n
    · obtain ⟨m, hm⟩ : ∃ m, m + 1 = k := ⟨k - 1, by omega⟩
      have hsub : IntKind.i64.wrap ((k : Int) - 1) = (m : Int) := by
        rw [show (k : Int) - 1 = (m : Int) from by omega]
        exact IntWalk.i64_in _ (by omega)
      have hki : (k : Int) < (n : Int) := by omega
      have hmi : (m : Int) < (n : Int) := by omega
      have c1 := HR.out.cell (i := k) (by omega)
      have c0 := HR.out.cell (i := m) (by omega)
      rw [rowN_at (by omega)] at c1 c0
      have HM := Lib.hid (show k - 1 = m from by omega)
      clear hm
      by_cases hxy : X k = X m
      · have hxb : (X k == X m) = true := by simpa using hxy
        have HEQ := Lib.hid (show cmpF X (k + 1) = (List.range k).map X from by rw [cmpF_eq (by omega) (by rw [HM.out]; exact hxy), cmpF_all k HNE.out])
        have HRW2 := Lib.hid (show ∀ W : World, W.rowIs g 3 c (rowN n X R) → W.rowIs g 3 c (fun a => if a < k then .int .i64 ((cmpF X (k + 1)).getD a 0) else rowN n X R a) from fun W h => h.congr fun a _ => by
          by_cases e : a < k
          · rw [if_pos e, rowN_at (by omega), HEQ.out]; simp [e]
          · rw [if_neg e])
        have HKL := Lib.hid (show k = (cmpF X (k + 1)).length from by rw [HEQ.out]; simp)
        generalize X m = XM at *
        generalize hXK : X k = XK at *
        have HXK := Lib.hid hXK
        clear hXK
        go_wp2_with fail
        go_quiet (fail)
        go_wp2_with fail
        clear c1 c0
        go_loopw [3, 5] (fun kv jv wr => ∃ (K j : Nat), 1 ≤ j ∧ k + j ≤ n ∧ K < k + j ∧ kv = .int .i64 K ∧ jv = .int .i64 j ∧ K = (cmpF X (k + j)).length ∧ wr.rowIs g 3 c (fun a => if a < K then .int .i64 ((cmpF X (k + j)).getD a 0) else rowN n X R a) ∧ Mut (fun b => b = g) w wr) (fun _ jv _ => n - (intOf jv).toNat)
        case atStart => exact ⟨k, 1, Nat.le_refl _, by omega, by omega, rfl, by first | rfl | go_num, HKL.out, HRW2.out _ (by first | exact HR.out | exact HR.out.drewN _), mut_drewN HMU.out _⟩
        case round =>
          obtain ⟨K, j, hj1, hjn, hKj, rfl, rfl, hKl, hrow, hmu⟩ := hrel
          have HKL := Lib.hid hKl
          have HR := Lib.hid hrow
          have HMU := Lib.hid hmu
          clear hKl hrow hmu HRW2
          by_cases hlj : k + j < n
          · obtain ⟨q, hq⟩ : ∃ q, q + 1 = j := ⟨j - 1, by omega⟩
            have hsub2 : IntKind.i64.wrap ((j : Int) - 1) = (q : Int) := by
              rw [show (j : Int) - 1 = (q : Int) from by omega]
              exact IntWalk.i64_in _ (by omega)
            have hji : (j : Int) < ((n - k : Nat) : Int) := by omega
            have hqi : (q : Int) < ((n - k : Nat) : Int) := by omega
            have hKi : (K : Int) < (n : Int) := by omega
            have c1 := HR.out.cell (i := k + j) (by omega)
            have c0 := HR.out.cell (i := k + q) (by omega)
            have cK := HR.out.cell (i := K) (by omega)
            have fK := HR.out.frozen K
            rw [if_neg (by omega), rowN_at (by omega)] at c1 c0
            have HSET := Lib.hid (fun (W : World) (u : Value) (h : W.rowIs g 3 c (fun a => if a < K then .int .i64 ((cmpF X (k + j)).getD a 0) else rowN n X R a)) => h.set K u)
            have HQ := Lib.hid (show k + j - 1 = k + q from by omega)
            clear hq
            have HYE := Lib.hid (fun (h : X (k + j) = X (k + q)) => show cmpF X (k + (j + 1)) = cmpF X (k + j) from cmpF_eq (m := k + j) (by omega) (by rw [HQ.out]; exact h))
            have HYN := Lib.hid (fun (h : ¬ X (k + j) = X (k + q)) => show cmpF X (k + (j + 1)) = cmpF X (k + j) ++ [X (k + j)] from cmpF_ne (m := k + j) (by rw [HQ.out]; exact h))
            generalize X (k + q) = XQ at *
            generalize hXJ : X (k + j) = XJ at *
            have HXJ := Lib.hid hXJ
            clear hXJ
            by_cases huv : XJ = XQ
            · have HYY := Lib.hid (HYE.out huv)
              subst huv
              have hub : (XJ != XJ) = false := bne_self_eq_false XJ
              go_wp2_with fail
              go_quiet (fail)
              go_wp2_with fail
              go_roundw
              case rel => exact ⟨K, j + 1, by omega, by omega, by omega, rfl, by go_num, by rw [HYY.out]; exact HKL.out, by rw [HYY.out]; exact HR.out, mut_drewN HMU.out _⟩
              case measure => simp [intOf]; omega
            · have HYY := Lib.hid (HYN.out huv)
              have hub : (XJ != XQ) = true := by simpa using huv
              have HROW := Lib.hid (fun a => show (if a = K then Value.int .i64 XJ else if a < K then .int .i64 ((cmpF X (k + j)).getD a 0) else rowN n X R a) = (if a < K + 1 then .int .i64 ((cmpF X (k + j) ++ [XJ]).getD a 0) else rowN n X R a) from by
                have hl := HKL.out
                by_cases e : a = K
                · rw [if_pos e, if_pos (by omega), e, hl]; simp [List.getD]
                · rw [if_neg e]
                  by_cases e2 : a < K
                  · rw [if_pos e2, if_pos (by omega)]
                    have : a < (cmpF X (k + j)).length := by omega
                    simp [List.getD, List.getElem?_append_left this]
                  · rw [if_neg e2, if_neg (by omega)])
              go_wp2_with fail
              go_quiet (fail)
              go_wp2_with fail
              go_roundw
              case rel => exact ⟨K + 1, j + 1, by omega, by omega, by omega, by go_num, by go_num, by rw [HYY.out, List.length_append, ← HKL.out]; rfl, by rw [HYY.out]; exact (HR.out.set K _).congr (fun a _ => HROW.out a), (mut_drewN HMU.out _).set g K _ rfl⟩
              case measure => simp [intOf]; omega
          · have hend : k + j = n := by omega
            have hcl : ∀ ty, (Builtin.clear_ #[25] ty #[.slice (some ⟨g, K, none⟩) (n - K) (c - K)]).run Try.prog wr = .ok (.tuple #[]) (wr.setCells g K (List.replicate (n - K) (.int .i64 0))) :=
              fun ty => Lib.run_clear_slice wr 25 3 ty (.int .i64 0) Try.underlying25 zeroInt_any rfl rfl g K _ _ (by omega) (fun t ht => by rw [HR.out.cell (i := K + t) (by omega)]; rfl) (fun t ht => HR.out.frozen _)
            have HFIN := Lib.hid (show (∃ F, (wr.setCells g K (List.replicate (n - K) (.int .i64 0))).rowIs g 3 c F ∧ ∀ a, a < (cmpF X n).length → F a = .int .i64 ((cmpF X n).getD a 0)) ∧ Mut (fun b => b = g) w (wr.setCells g K (List.replicate (n - K) (.int .i64 0))) from by
              refine ⟨⟨_, rowIs_setCells _ K wr _ HR.out, fun a ha => ?_⟩, mut_setCells (S := fun b => b = g) rfl _ _ _ HMU.out⟩
              have hl := HKL.out
              rw [hend] at hl
              rw [if_neg (by omega), if_pos (by omega), hend])
            have HKN := Lib.hid (show K = (cmpF X n).length from by rw [← hend]; exact HKL.out)
            have hjk : ¬ ((j : Int) < ((n - k : Nat) : Int)) := by omega
            have hKi : (K : Int) ≤ (n : Int) := by omega
            clear hend
            go_wp2_with (simp only [hcl])
            go_ret
            exact ⟨by rw [← HKN.out]; rfl, HFIN.out⟩
      · have hxb : (X k == X m) = false := by simpa using hxy
        have HXN := Lib.hid (show ∀ j, 0 < j → j < k + 1 → X j ≠ X (j - 1) from fun j h1 h2 => by
          by_cases e : j = k
          · rw [e, HM.out]; exact hxy
          · exact HNE.out j h1 (by omega))
        generalize X m = XM at *
        generalize X k = XK at *
        go_wp2_with fail
        go_quiet (fail)
        go_wp2_with fail
        go_roundw
        case rel => exact ⟨k + 1, by omega, by omega, by go_num, HXN.out, HR.out, mut_drewN HMU.out _⟩
        case measure => simp [intOf]; omega
    · obtain rfl : k = n := by omega
      have HA := Lib.hid (HALL.out HNE.out)
      go_wp2
      go_ret
      exact ⟨by rw [HA.out.1]; rfl, ⟨_, HR.out, HA.out.2⟩, HMU.out⟩

end Go.Proofs.Ytiaamddhocdhaaa
