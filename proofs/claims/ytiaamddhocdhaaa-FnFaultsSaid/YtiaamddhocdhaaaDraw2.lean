/- Draws of names and of set-up times. -/
import Derived.Test.YtiaamddhocdhaaaDraw1
namespace Go.Proofs.Ytiaamddhocdhaaa
open Go.ChangeShapes Go.WideShapes Go.ChangeAt Go.RowKit
set_option linter.unusedVariables false

set_option maxHeartbeats 1000000 in
theorem l04Name_any (v : Value) (i : Nat) (w : World) (hi : i < 6) : Calls Try.prog 179 #[v, .int .i64 i] w fun e w' => e = .returned (.string (nameV i)) ∧ Bel w w' := by
  have h : i = 0 ∨ i = 1 ∨ i = 2 ∨ i = 3 ∨ i = 4 ∨ i = 5 := by omega
  rcases h with rfl | rfl | rfl | rfl | rfl | rfl
  all_goals go_enter Try.func179, Try.ntmps179
  all_goals go_wp2
  all_goals go_ret
  all_goals exact ⟨rfl, by (repeat (first | assumption | exact Bel.refl _ | apply Bel.drewN | apply Bel.drew | apply Bel.alloc | refine Bel.trans ?_ (by assumption)))⟩

set_option maxRecDepth 100000 in
set_option maxHeartbeats 2000000 in
theorem l05Setup_any (cb : Nat) (C : List Int) (s : StT) (w : World) (h : Cur w cb C s) :
    Calls Try.prog 142 #[.pointer (some ⟨cb, 0, none⟩)] w (DrF rowsR cb C w (gridV C 4 [] s)) := by
  have HLT := Lib.hid h.lt
  have hc := h
  have HD0 := Lib.hid (Dr.refl cb w)
  have HO0 := Lib.hid (show Own (fun b => w.heap.size ≤ b) 1 intsR 25 w.heap.size (w.alloc (.cells #[] 25)) (some ⟨w.heap.size, 0, none⟩) 0 [] from Own.empty (alloc_at rfl) (Nat.le_refl _))
  clear h
  go_enter Try.func142, Try.ntmps142
  go_wp2_with fail
  go_loopw [3, 4] (fun out i wr => ∃ (n m : Nat) (LL : List (List Int)) (st : StT) (Q : Option Addr) (Cp : Nat), n + m = 4 ∧ i = .int .i64 n ∧ LL.length = n ∧ out = .slice Q n Cp ∧ Own (fun b => w.heap.size ≤ b) 1 intsR 25 w.heap.size wr Q Cp LL ∧ Cur wr cb C st ∧ gridV C m LL st = gridV C 4 [] s ∧ Dr cb w wr) (fun _ i _ => 4 - (intOf i).toNat)
  case atStart => exact ⟨0, 4, [], s, _, _, rfl, rfl, rfl, rfl, HO0.out, hc.bel (by (repeat (first | assumption | exact Bel.refl _ | apply Bel.drewN | apply Bel.drew | apply Bel.alloc | refine Bel.trans ?_ (by assumption)))), rfl, HD0.out.alloc _⟩
  case round =>
    clear hc
    obtain ⟨n, m, LL, st, Q, Cp, hnm, rfl, hll, rfl, hOO, hc, heq, hd⟩ := hrel
    have HEQ := Lib.hid heq
    have HLL := Lib.hid hll
    have hwsz := hd.size
    have hlt := HLT.out
    clear heq hll
    cases m with
    | zero =>
      obtain rfl : n = 4 := by omega
      have HRES := Lib.hid (show rowsR (New w wr) wr [.slice Q 4 Cp] (gridV C 4 [] s).1 from by
        rw [← HEQ.out]
        have := hOO.done (T := New w wr) intsR_good (fun b h1 h2 => ⟨h1, h2⟩) (fun b h1 h2 => ⟨h1, h2⟩)
        rw [HLL.out] at this
        exact this)
      have HCC := Lib.hid (show Cur wr cb C (gridV C 4 [] s).2 from by rw [← HEQ.out]; exact hc)
      have HD := Lib.hid hd
      clear hOO hc hd
      go_wp2_with fail
      go_ret
      exact ⟨_, rfl, HRES.out, HCC.out, HD.out⟩
    | succ m =>
      have HEQ := Lib.hid (show gridV C m (LL ++ [(rowV C n 4 [] st).1]) (rowV C n 4 [] st).2 = gridV C 4 [] s from by rw [← HEQ.out, gridV, HLL.out])
      have hn4 : (n : Int) < 4 := by omega
      have HR0 := Lib.hid (show Own (fun _ => False) 1 intR 3 wr.heap.size (wr.alloc (.cells #[] 3)) (some ⟨wr.heap.size, 0, none⟩) 0 [] from Own.empty (alloc_at rfl) (Nat.le_refl _))
      obtain ⟨w0, hw0⟩ : ∃ W, W = wr := ⟨wr, rfl⟩
      subst hw0
      have HDD0 := Lib.hid (Dr.refl cb w0)
      have HC0 := Lib.hid hc.lt
      go_wp2_with fail
      go_loopw [5, 6, 7] (fun row k _ wr => ∃ (k' j : Nat) (L : List Int) (st' : StT) (q : Option Addr) (c : Nat), k' + j = 4 ∧ k = .int .i64 k' ∧ L.length = k' ∧ row = .slice q k' c ∧ Own (fun _ => False) 1 intR 3 w0.heap.size wr q c L ∧ Cur wr cb C st' ∧ rowV C n j L st' = rowV C n 4 [] st ∧ Dr cb w0 wr) (fun _ k _ _ => 4 - (intOf k).toNat)
      case atStart => exact ⟨0, 4, [], st, _, _, rfl, rfl, rfl, rfl, HR0.out, hc.bel (by (repeat (first | assumption | exact Bel.refl _ | apply Bel.drewN | apply Bel.drew | apply Bel.alloc | refine Bel.trans ?_ (by assumption)))), rfl, HDD0.out.alloc _⟩
      case round =>
        clear hc
        obtain ⟨k, j, L, st', q, c, hkj, rfl, hl, rfl, hO, hc, heq, hd0⟩ := hrel
        have HEQR := Lib.hid heq
        have HL := Lib.hid hl
        have hwsz0 := hd0.size
        clear heq hl
        cases j with
        | zero =>
          obtain rfl : k = 4 := by omega
          have hle := hO.le
          unfold maxLen at hle
          have HROW := Lib.hid (show intsR (fun b => w.heap.size ≤ b ∧ b < (wr.alloc (.cells #[.slice q 4 c] 25)).heap.size ∧ ∀ a, Q = some a → b ≠ a.block) (wr.alloc (.cells #[.slice q 4 c] 25)) [.slice q L.length c] L from by
            refine intsR_good.bel (w := wr) (S := fun b => (w.heap.size ≤ b ∧ b < (wr.alloc (.cells #[.slice q 4 c] 25)).heap.size ∧ ∀ a, Q = some a → b ≠ a.block) ∧ b < wr.heap.size) ?_ ((Bel.refl wr).alloc _) (fun b hb => hb.2) |> fun h => intsR_good.mono h (fun b hb => hb.1)
            exact hO.done intR_good (fun b h _ => h.elim) (fun b h1 h2 => ⟨⟨by omega, by simp; omega, fun a ha => by have := (hOO.lt ha).2; omega⟩, h2⟩))
          have HEQ2 := Lib.hid (show gridV C m (LL ++ [L]) st' = gridV C 4 [] s from by
            have h1 : (L, st') = rowV C n 4 [] st := HEQR.out
            rw [← HEQ.out, ← h1])
          have hi0 := Hi.ofDr (B := w.heap.size) hd0 hlt
          have hdw := hd.trans hd0
          rw [HL.out] at HROW
          have hLc : LL.length = n := HLL.out
          subst hLc
          have hLL := HL.out
          go_wp2_with ((at_builtin; refine wpList_appG (n := 1) intsR_good _ rfl _ _ 63 rfl (.slice none 0 0) 24 Try.underlying63 (by kernel_rfl) rfl (by decide) (by decide) Q Cp LL (L) rfl (hOO.hi intsR_good (by (repeat (first | assumption | exact Hi.refl _ _ | (with_reducible apply Hi.drew) | (with_reducible apply Hi.alloc) | refine Hi.trans ?_ (by assumption)))) (fun _ h => h)) _ 1 [.slice q 4 c] rfl rfl (World.news_of_block (alloc_at (by first | rfl | (simp; done) | (simp; omega)))) (by intro u hu; simp at hu; subst hu; rfl) HROW.out (by omega) (by first | omega | (simp; omega)) ?_; intro q' cap' wA hOA hBA hFA))
          have HO' := Lib.hid hOA
          have hCA := (hc.bel (w' := wr.alloc (.cells #[.slice q 4 c] 25)) (by (repeat (first | assumption | exact Bel.refl _ | apply Bel.drewN | apply Bel.drew | apply Bel.alloc | refine Bel.trans ?_ (by assumption))))).below hBA HLT.out
          have HDA := Lib.hid (Dr.below (cb := cb) (a := w) (show Dr cb w (wr.alloc (.cells #[.slice q 4 c] 25)) from hdw.alloc _) hBA)
          clear hOA hBA hFA
          go_wp2_with fail
          go_roundw
          case rel => exact ⟨LL.length + 1, m, LL ++ [L], st', q', cap', by omega, by go_num, by simp, rfl, HO'.out, hCA, HEQ2.out, HDA.out⟩
          case measure => (simp [intOf] <;> omega)
        | succ j =>
          have hk4 : (k : Int) < 4 := by omega
          have hLl := HL.out
          by_cases e : n = k
          · subst e
            have HEQR := Lib.hid (show rowV C n j (L ++ [0]) st' = rowV C n 4 [] st from by rw [← HEQR.out, rowV, if_pos HL.out.symm])
            subst hLl
            have hd0h := Hi.ofDr (B := w0.heap.size) hd0 HC0.out
            have HD1 := Lib.hid hd0
            have HC1 := Lib.hid hc
            clear hd0 hc
            go_wp2_with ((at_builtin; refine wpList_appG (n := 1) intR_good _ rfl _ _ 25 rfl (.int .i64 0) 8 Try.underlying25 (by kernel_rfl) rfl (by decide) (by decide) q c L (0) rfl (hO.hi intR_good (by (repeat (first | assumption | exact Hi.refl _ _ | (with_reducible apply Hi.drew) | (with_reducible apply Hi.alloc) | refine Hi.trans ?_ (by assumption)))) (fun _ h => h.elim)) _ 1 [.int .i64 0] rfl rfl (World.news_of_block (alloc_at (by first | rfl | (simp; done) | (simp; omega)))) (by intro u hu; simp at hu; subst hu; rfl) (intRep (by unfold I64; omega)) (by omega) (by first | omega | (simp; omega)) ?_; intro q' cap' wA hOA hBA hFA))
            have HO' := Lib.hid hOA
            have hCA := (HC1.out.bel (w' := wr.alloc (.cells #[.int .i64 0] 3)) (by (repeat (first | assumption | exact Bel.refl _ | apply Bel.drewN | apply Bel.drew | apply Bel.alloc | refine Bel.trans ?_ (by assumption))))).below hBA HC0.out
            have HDA := Lib.hid (Dr.below (cb := cb) (a := w0) (show Dr cb w0 (wr.alloc (.cells #[.int .i64 0] 3)) from HD1.out.alloc _) hBA)
            clear hOA hBA hFA
            go_wp2_with fail
            go_roundw
            case rel => exact ⟨L.length + 1, j, L ++ [0], st', q', cap', by omega, by go_num, by simp, rfl, HO'.out, hCA, HEQR.out, HDA.out⟩
            case measure => (simp [intOf] <;> omega)
          · have HEQR := Lib.hid (show rowV C n j (L ++ [(belowV C 3 st').1]) (belowV C 3 st').2 = rowV C n 4 [] st from by rw [← HEQR.out, rowV, if_neg (by rw [HL.out]; exact e)])
            have hne : ((n : Int) != (k : Int)) = true := by simp; omega
            have h3 := belowV_in C 3 st' (by decide)
            clear e
            subst hLl
            go_wp2_with fail
            refine (l01Below_any cb C st' 3 _ hc (by omega)).mono ?_
            rintro e w2 ⟨rfl, hc2, hd2⟩
            have hi2 := Hi.ofDr (B := w0.heap.size) hd2 HC0.out
            have HD2 := Lib.hid (hd0.trans hd2)
            have HC2 := Lib.hid hc2
            have hw2 := (hd0.trans hd2).size
            have HEQR := Lib.hid HEQR.out
            generalize (belowV C 3 st').1 = V at *
            clear hc2 hd2 hc hd0
            go_wp2_with ((at_builtin; refine wpList_appG (n := 1) intR_good _ rfl _ _ 25 rfl (.int .i64 0) 8 Try.underlying25 (by kernel_rfl) rfl (by decide) (by decide) q c L (V) rfl (hO.hi intR_good (by (repeat (first | assumption | exact Hi.refl _ _ | (with_reducible apply Hi.drew) | (with_reducible apply Hi.alloc) | refine Hi.trans ?_ (by assumption)))) (fun _ h => h.elim)) _ 1 [.int .i64 V] rfl rfl (World.news_of_block (alloc_at (by first | rfl | (simp; done) | (simp; omega)))) (by intro u hu; simp at hu; subst hu; rfl) (intRep (by unfold I64; omega)) (by omega) (by first | omega | (simp; omega)) ?_; intro q' cap' wA hOA hBA hFA))
            have HO' := Lib.hid hOA
            have hCA := (HC2.out.bel (w' := w2.alloc (.cells #[.int .i64 V] 3)) (by (repeat (first | assumption | exact Bel.refl _ | apply Bel.drewN | apply Bel.drew | apply Bel.alloc | refine Bel.trans ?_ (by assumption))))).below hBA HC0.out
            have HDA := Lib.hid (Dr.below (cb := cb) (a := w0) (show Dr cb w0 (w2.alloc (.cells #[.int .i64 V] 3)) from HD2.out.alloc _) hBA)
            clear hOA hBA hFA
            go_wp2_with fail
            go_roundw
            case rel => exact ⟨L.length + 1, j, L ++ [V], _, q', cap', by omega, by go_num, by simp, rfl, HO'.out, hCA, HEQR.out, HDA.out⟩
            case measure => (simp [intOf] <;> omega)

end Go.Proofs.Ytiaamddhocdhaaa
