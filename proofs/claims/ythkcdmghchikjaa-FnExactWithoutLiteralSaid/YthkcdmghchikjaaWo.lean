/- slices.Clone and slices.Delete of literals; WithoutLiteral, both sides. -/
import Derived.Test.YthkcdmghchikjaaWoF
import Derived.Test.YthkcdmghchikjaaOwn
import Derived.Test.YthkcdmghchikjaaRange
import Derived.Test.YthkcdmghchikjaaHolds
import Derived.Lib.SlicesDelete
import Derived.Deep.RegionLaw
import Derived.Deep.RegionWith
namespace Go.Proofs.Ythkcdmghchikjaa
open Go.ChangeShapes Go.WideShapes Go.ChangeAt Go.RowKit
set_option linter.unusedVariables false

theorem rowIs_bel2 {w w' : World} {b n : Nat} {t : TypeId} {f : Nat → Value} (h : w.rowIs b t n f) (hb : Bel w w') : w'.rowIs b t n f := h.of_block (hb.block h.lt)
theorem LitRow.bel {w w' : World} {g N : Nat} {t : TypeId} {xs : List LitT} (h : LitRow w g t N xs) (hb : Bel w w') : LitRow w' g t N xs := by
  obtain ⟨F, h1, h2, h3, h4⟩ := h
  exact ⟨F, rowIs_bel2 h1 hb, h2, h3, h4⟩
theorem LitRow.lt {w : World} {g N : Nat} {t : TypeId} {xs : List LitT} (h : LitRow w g t N xs) : g < w.heap.size := by
  obtain ⟨F, h1, _⟩ := h
  exact h1.lt
/-- What a clone of literals leaves. -/
def CloneL (w : World) (xs : List LitT) (e : Ending) (w' : World) : Prop := Bel w w' ∧ ((xs = [] ∧ ∃ p c, e = .returned (.slice p 0 c) ∧ c ≤ maxLen) ∨ ∃ g c, e = .returned (.slice (some ⟨g, 0, none⟩) xs.length c) ∧ w.heap.size ≤ g ∧ xs.length ≤ c ∧ c ≤ maxLen ∧ LitRow w' g 85 (c * 3) xs)
set_option maxRecDepth 100000 in
set_option maxHeartbeats 400000 in
theorem cloneLits_any (v : Value) (xs : List LitT) (T : Nat → Prop) (w : World) (hx : litsR T w [v] xs) (hT : ∀ b, T b → b < w.heap.size) (hl : xs.length ≤ 1048576) :
    Calls Try.prog 54 #[v] w (CloneL w xs) := by
  have hnil := fun (W : World) (a : Option Addr) (n c : Nat) => Lib.run_eql_slice_nil (P := Try.prog) W 24 85 a n c 0 0 Try.underlying24
  obtain ⟨i0, hi0, hz0, hs0, hb0⟩ := info_parts (show (Try.prog.info? 85).map (fun i => (i.zero, i.size, i.bytes)) = some (some (.agg #[.int .i64 0, .int .i64 0, .int .i64 0]), 3, 24) from by kernel_rfl)
  have HX := Lib.hid hx
  have HT := Lib.hid hT
  have HI := Lib.hid (lits_mem hx)
  obtain ⟨p, k, rfl, l0, l0', hat⟩ := sliceR_open hx
  have HL0 := Lib.hid l0'
  clear hx hT
  cases p with
  | none =>
    have hxs : xs = [] := by
      cases xs with
      | nil => rfl
      | cons y ys =>
        obtain ⟨b, off, ecs, e1, _⟩ := hat 0 (by simp)
        cases e1
    clear hat
    subst hxs
    go_enter Try.func54, Try.ntmps54
    go_wp2
    go_ret
    exact ⟨Bel.refl _, .inl ⟨rfl, none, 0, rfl, Nat.zero_le _⟩⟩
  | some ad =>
    clear hat
    have hO0 : Own (fun _ => False) 3 litR 85 w.heap.size (w.alloc (.cells #[] 85)) (some ⟨w.heap.size, 0, none⟩) 0 [] := Own.empty (alloc_at rfl) (Nat.le_refl _)
    have HO0 := Lib.hid hO0
    clear hO0
    go_enter Try.func54, Try.ntmps54
    go_wp2_with (at_builtin; refine wpList_append_own _ rfl _ _ 24 rfl w.heap.size 85 i0 (.agg #[.int .i64 0, .int .i64 0, .int .i64 0]) 3 24 Try.underlying24 hi0 hz0 hs0 hb0 rfl (by decide) _ 0 [] rfl (World.ownsRow_made w #[] 0 (Nat.le_refl _) (Nat.zero_le _) (by simp)) ad xs.length k (litCells xs) rfl (litCells_length xs) (litCells_read (litsR_good.bel HX.out (by (repeat (first | assumption | exact Bel.refl _ | apply Bel.drewN | apply Bel.drew | apply Bel.alloc | refine Bel.trans ?_ (by assumption)))) HT.out)) (litCells_one xs) (by unfold maxLen; omega) (by omega) (by simp) ?_; intro v' w1 hown hgrow hnil2)
    have HB := Lib.hid (bel_append (W := w) HO0.out (by (repeat (first | assumption | exact Bel.refl _ | apply Bel.drewN | apply Bel.drew | apply Bel.alloc | refine Bel.trans ?_ (by assumption)))) (Nat.le_refl _) hgrow)
    have HRES : Hid (CloneL w xs (.returned v') w1) := Lib.hid (by
      refine ⟨HB.out, ?_⟩
      simp only [Nat.zero_add, List.nil_append] at hown
      rcases hown.2 with ⟨h4, h5⟩ | ⟨g, cap', cur, h4, _⟩
      · exact .inl ⟨List.eq_nil_of_length_eq_zero h5, none, 0, by rw [h4], Nat.zero_le _⟩
      · subst h4
        obtain ⟨q1, q2, q3, q4⟩ := LitRow.ofOwns hown HI.out
        exact .inr ⟨g, cap', rfl, q1, q2, q3, q4⟩)
    clear hown hgrow hnil2 hnil hi0 hz0 hs0 hb0
    go_wp2
    go_ret
    exact HRES.out

theorem zeroLit_any (w : World) : (zeroValue 85).run Try.prog w = .ok (.agg #[.int .i64 0, .int .i64 0, .int .i64 0]) w := by kernel_rfl
set_option maxRecDepth 1000000 in
set_option maxHeartbeats 4000000 in
theorem deleteLits_any (g c i : Nat) (xs : List LitT) (w : World) (hr : LitRow w g 85 (c * 3) xs) (hn : xs.length ≤ c) (hc : c ≤ 9223372036854775807) (hi : i < xs.length) :
    Calls Try.prog 56 #[.slice (some ⟨g, 0, none⟩) xs.length c, .int .i64 (i : Nat), .int .i64 ((i + 1 : Nat) : Int)] w fun e w' => e = .returned (.slice (some ⟨g, 0, none⟩) (xs.length - 1) c) ∧ LitRow w' g 85 (c * 3) (xs.take i ++ xs.drop (i + 1)) ∧ Mut (fun b => b = g) w w' := by
  obtain ⟨i0, hi0, hz0, hs0, hb0⟩ := info_parts (show (Try.prog.info? 85).map (fun i => (i.zero, i.size, i.bytes)) = some (some (.agg #[.int .i64 0, .int .i64 0, .int .i64 0]), 3, 24) from by kernel_rfl)
  obtain ⟨F, hF, hN, hC, hI⟩ := hr
  obtain ⟨n, hxn⟩ : ∃ n, xs.length = n := ⟨_, rfl⟩
  obtain ⟨news, hnews⟩ : ∃ news, news = litCells (xs.drop (i + 1)) := ⟨_, rfl⟩
  have hlen : news.length = (n - (i + 1)) * 3 := by rw [hnews, litCells_length, List.length_drop, hxn]
  have hget : ∀ q m, q < n - (i + 1) → m < 3 → news[q * 3 + m]? = some (F ((i + 1 + q) * 3 + m)) := by
    intro q m hq hm
    rw [hnews, litCells_at _ q (by rw [List.length_drop]; omega) m hm, hC (i + 1 + q) (by omega) m hm, List.getElem_drop]
  have hgetD : ∀ t, t < (n - (i + 1)) * 3 → news[t]? = some (F ((i + 1) * 3 + t)) := by
    intro t ht
    have h := hget (t / 3) (t % 3) (by omega) (by omega)
    rw [show t / 3 * 3 + t % 3 = t from by omega, show (i + 1 + t / 3) * 3 + t % 3 = (i + 1) * 3 + t from by omega] at h
    exact h
  rw [hxn] at hn hi hN ⊢
  obtain ⟨A, hA, hsrc⟩ : ∃ A : Addr, (if c = i + 1 then (some ⟨g, 0, none⟩ : Option Addr) else some ⟨g, (i + 1) * 3, none⟩) = some A ∧ Hid (∀ t u, news[t]? = some u → w.drew.cell? (A.add t) = some u) := by
    by_cases h : c = i + 1
    · refine ⟨⟨g, 0, none⟩, by simp [h], Lib.hid fun t u hu => ?_⟩
      have h0 : news.length = 0 := by rw [hlen]; omega
      rw [List.length_eq_zero_iff.1 h0] at hu
      simp at hu
    · refine ⟨⟨g, (i + 1) * 3, none⟩, by simp [h], Lib.hid fun t u hu => ?_⟩
      have ht : t < (n - (i + 1)) * 3 := by
        have := (List.getElem?_eq_some_iff.1 hu).1
        rwa [hlen] at this
      rw [hgetD t ht] at hu
      have hadd : (⟨g, (i + 1) * 3, none⟩ : Addr).add t = ⟨g, (i + 1) * 3 + t, none⟩ := by unfold Addr.add; split <;> simp_all
      rw [hadd]
      exact (hF.drew.cell (i := (i + 1) * 3 + t) (by omega)).trans hu
  have s1 := Lib.hid hlen
  have s2 : Hid (∀ u ∈ news, u.oneCell' = true) := Lib.hid (by rw [hnews]; exact litCells_one _)
  have s3 : Hid (∀ t, t < news.length → (w.drew.cell? ⟨g, 0 + i * 3 + t, none⟩).isSome = true ∧ w.drew.frozen? ⟨g, 0 + i * 3 + t, none⟩ = false) := Lib.hid (by
    intro t ht
    rw [hlen] at ht
    exact ⟨by rw [hF.drew.cell (i := 0 + i * 3 + t) (by omega)]; rfl, hF.drew.frozen _⟩)
  obtain ⟨W1, hW1⟩ : ∃ W1, W1 = w.drew.setCells g (0 + i * 3) news := ⟨_, rfl⟩
  have hR1 := rowIs_setCells news (0 + i * 3) w.drew F hF.drew
  rw [← hW1] at hR1
  have hM1 : Mut (fun b => b = g) w W1 := by rw [hW1]; exact mut_setCells (S := fun b => b = g) (g := g) rfl _ _ _ (mut_drew (Mut.refl _ _))
  have hcl : ∀ ty, (Builtin.clear_ #[24] ty #[.slice (some ⟨g, (i + (n - (i + 1))) * 3, none⟩) (n - (i + (n - (i + 1)))) (c - (i + (n - (i + 1))))]).run Try.prog W1 = .ok (.tuple #[]) (W1.setCells g ((i + (n - (i + 1))) * 3) (List.replicate ((n - (i + (n - (i + 1)))) * 3) (.int .i64 0))) := fun ty =>
    run_clear_zeros W1 24 85 ty (.agg #[.int .i64 0, .int .i64 0, .int .i64 0]) (.int .i64 0) 3 (by decide) Try.underlying24 zeroLit_any rfl rfl g _ _ _ (by omega) (fun t ht => by rw [hR1.cell (i := (i + (n - (i + 1))) * 3 + t) (by omega)]; rfl) (fun t ht => hR1.frozen _)
  have hR2 := rowIs_setCells (List.replicate ((n - (i + (n - (i + 1)))) * 3) (Value.int .i64 0)) ((i + (n - (i + 1))) * 3) W1 _ hR1
  have hM2 : Mut (fun b => b = g) w (W1.setCells g ((i + (n - (i + 1))) * 3) (List.replicate ((n - (i + (n - (i + 1)))) * 3) (.int .i64 0))) := mut_setCells (S := fun b => b = g) (g := g) rfl _ _ _ hM1
  have HRES : Hid (LitRow (W1.setCells g ((i + (n - (i + 1))) * 3) (List.replicate ((n - (i + (n - (i + 1)))) * 3) (.int .i64 0))) g 85 (c * 3) (xs.take i ++ xs.drop (i + 1)) ∧ Mut (fun b => b = g) w (W1.setCells g ((i + (n - (i + 1))) * 3) (List.replicate ((n - (i + (n - (i + 1)))) * 3) (.int .i64 0)))) := Lib.hid (by
    have hL : (xs.take i ++ xs.drop (i + 1)).length = n - 1 := by rw [List.length_append, List.length_take, List.length_drop, hxn]; omega
    refine ⟨⟨_, hR2, by rw [hL]; omega, fun j hj m hm => ?_, fun x hx => hI x ?_⟩, hM2⟩
    · rw [hL] at hj
      simp only [List.length_replicate]
      rw [if_neg (by omega)]
      by_cases hji : j < i
      · rw [if_neg (by omega), hC j (by omega) m hm, List.getElem_append_left (by rw [List.length_take, hxn]; omega), List.getElem_take]
      · rw [if_pos (by rw [hlen]; omega)]
        have h := hget (j - i) m (by omega) hm
        rw [show j * 3 + m - (0 + i * 3) = (j - i) * 3 + m from by omega, h, Option.getD_some, hC (i + 1 + (j - i)) (by omega) m hm]
        rw [List.getElem_append_right (by rw [List.length_take, hxn]; omega), List.getElem_drop]
        congr 2
        rw [List.length_take, hxn]
        omega
    · rcases List.mem_append.1 hx with h | h
      · exact List.mem_of_mem_take h
      · exact List.mem_of_mem_drop h)
  have hW : Hid (W1 = w.drew.setCells g (0 + i * 3) news) := Lib.hid hW1
  have hic : i ≤ c := by omega
  have hjc : i + 1 ≤ c := by omega
  have hj0 : (0 : Int) ≤ (i : Int) + 1 := by omega
  have hj1 : (i : Int) + 1 ≤ (n : Int) := by omega
  clear hW1 hR1 hM1 hR2 hM2 hF hC hI hN hget hgetD hnews hlen hxn
  go_enter Try.func56, Try.ntmps56
  go_wp2_with fail
  go_region_law (refine step_append_room rfl (.tmp 22) (.tmp 25) 24 rfl 85 i0 3 Try.underlying24 hi0 hs0 g 0 i c (by simp [Act.eval, Act.put]) A (n - (i + 1)) (c - (i + 1)) news (by simp [Act.eval, Act.put]) s1.out hsrc.out s2.out (by omega) s3.out ?_; rw [← hW.out])
  go_wp2
  go_ret
  exact ⟨by rw [show n - 1 = i + (n - (i + 1)) from by omega]; rfl, HRES.out.1, HRES.out.2⟩

set_option maxRecDepth 100000 in
set_option maxHeartbeats 1000000 in
theorem sWithoutLiteral_any (v : Value) (xs : List LitT) (S : Nat → Prop) (at_ : Int) (w : World) (hx : litsR S w [v] xs) (hS : ∀ b, S b → b < w.heap.size) (hn : bulkLiteralS xs ≤ 1048576) :
    Calls Try.prog 10 #[v, .int .i64 at_] w (FreshV litsR w (woR xs at_)) := by
  unfold bulkLiteralS at hn
  have HX := Lib.hid hx
  have HI := Lib.hid (lits_mem hx)
  have HV := Lib.hid (show woR xs at_ = woTo xs at_ xs.length from if_pos hn)
  obtain ⟨p0, c0, rfl, l0, l0', -⟩ := sliceR_open hx
  unfold maxLen at l0'
  clear hx hS
  have hO0 : Own (fun _ => False) 3 litR 85 w.heap.size (w.alloc (.cells #[] 85)) (some ⟨w.heap.size, 0, none⟩) 0 [] := Own.empty (alloc_at rfl) (Nat.le_refl _)
  go_enter Try.func10, Try.ntmps10
  go_wp2_with fail
  go_loopw [5, 11] (fun o i wr => ∃ (k : Nat) (ys : List LitT) (q1 : Option Addr) (c1 : Nat), k ≤ xs.length ∧ i = .int .i64 k ∧ o = .slice q1 ys.length c1 ∧ ys = woTo xs at_ k ∧ Own (fun _ => False) 3 litR 85 w.heap.size wr q1 c1 ys ∧ Bel w wr) (fun _ i _ => xs.length - (intOf i).toNat)
  case atStart => exact ⟨0, [], _, _, Nat.zero_le _, rfl, rfl, rfl, hO0, by (repeat (first | assumption | exact Bel.refl _ | apply Bel.drewN | apply Bel.drew | apply Bel.alloc | refine Bel.trans ?_ (by assumption)))⟩
  case round =>
    clear hO0
    obtain ⟨k, ys, q1, c1, hk, rfl, rfl, hys, hO, hB⟩ := hrel
    have HYS := Lib.hid hys
    have hyl : ys.length ≤ k := by rw [hys]; exact woTo_le _ _ _
    have hwsz := hB.size
    clear hys
    by_cases hlt : k < xs.length
    · obtain ⟨b, off, ecs, ea, hrow, hel⟩ := sliceR_at (0, 0, 0) HX.out hlt
      obtain rfl : p0 = some ⟨b, off, none⟩ := ea
      have hmem : xs.getD k (0, 0, 0) ∈ xs := by rw [List.getD_eq_getElem?_getD, List.getElem?_eq_getElem hlt, Option.getD_some]; exact List.getElem_mem hlt
      have HXI := Lib.hid (HI.out _ hmem)
      have HSN := Lib.hid (show woTo xs at_ (k + 1) = if (k : Int) = at_ then woTo xs at_ k else woTo xs at_ k ++ [xs.getD k (0, 0, 0)] from rfl)
      clear hmem
      generalize xs.getD k (0, 0, 0) = X at *
      obtain ⟨rfl, -⟩ := litR_open hel
      have ed0 := hB.cell (hrow 0 (by simp)).1
      have ed1 := hB.cell (hrow 1 (by simp)).1
      have ed2 := hB.cell (hrow 2 (by simp)).1
      simp only [List.getElem_cons_zero, List.getElem_cons_succ, Nat.add_zero] at ed0 ed1 ed2
      clear hrow hel
      have hki : (k : Int) < (xs.length : Int) := by omega
      cases he : ((k : Int) != at_)
      · have HSK := Lib.hid (show ys = woTo xs at_ (k + 1) from by rw [HSN.out, HYS.out, if_pos (by simpa using he)])
        go_wp2_with fail
        go_roundw
        case rel => exact ⟨k + 1, ys, q1, c1, by omega, by go_num, rfl, HSK.out, hO.bel litR_good (by (repeat (first | assumption | exact Bel.refl _ | apply Bel.drewN | apply Bel.drew | apply Bel.alloc | refine Bel.trans ?_ (by assumption)))), by (repeat (first | assumption | exact Bel.refl _ | apply Bel.drewN | apply Bel.drew | apply Bel.alloc | refine Bel.trans ?_ (by assumption)))⟩
        case measure => simp [intOf]; omega
      · have HSK := Lib.hid (show ys ++ [X] = woTo xs at_ (k + 1) from by rw [HSN.out, HYS.out, if_neg (by simpa using he)])
        go_wp2_with ((at_builtin; refine wpList_app (n := 3) litR_good _ rfl _ _ 24 rfl (.agg #[.int .i64 0, .int .i64 0, .int .i64 0]) 24 Try.underlying24 (by kernel_rfl) rfl (by decide) (by decide) q1 c1 ys (X) rfl (hO.bel litR_good (by (repeat (first | assumption | exact Bel.refl _ | apply Bel.drewN | apply Bel.drew | apply Bel.alloc | refine Bel.trans ?_ (by assumption))))) _ 1 [.int .i64 X.1, .int .i64 X.2.1, .int .i64 X.2.2] rfl rfl (World.news_of_block (alloc_at (by simp))) (by intro u hu; simp at hu; rcases hu with rfl | rfl | rfl <;> rfl) ⟨_, [_, _], rfl, ⟨rfl, HXI.out.1⟩, _, [_], rfl, ⟨rfl, HXI.out.2.1⟩, rfl, HXI.out.2.2⟩ (by omega) (by first | omega | (simp; omega)) ?_; intro q' cap' w' hO' hBW hsz'))
        have HB := Lib.hid (hBW w (by (repeat (first | assumption | exact Bel.refl _ | apply Bel.drewN | apply Bel.drew | apply Bel.alloc | refine Bel.trans ?_ (by assumption)))) (Nat.le_refl _))
        clear hBW hsz'
        go_roundw
        case rel => exact ⟨k + 1, ys ++ [X], q', cap', by omega, by go_num, by simp, HSK.out, hO', HB.out⟩
        case measure => simp [intOf]; omega
    · obtain rfl : k = xs.length := by omega
      have HRES := Lib.hid (show litsR (New w wr) wr [.slice q1 ys.length c1] (woR xs at_) from by
        rw [HV.out, ← HYS.out]
        exact hO.done litR_good (fun _ hf => hf.elim) (fun b h1 h2 => ⟨h1, h2⟩))
      clear hO
      go_wp2
      go_ret
      exact ⟨_, rfl, HRES.out, hB⟩

set_option maxRecDepth 100000 in
set_option maxHeartbeats 1000000 in
theorem iWithoutLiteral_any (v : Value) (xs : List LitT) (S : Nat → Prop) (at_ : Int) (w : World) (hx : litsR S w [v] xs) (hS : ∀ b, S b → b < w.heap.size) (hn : bulkLiteralS xs ≤ 1048576) :
    Calls Try.prog 12 #[v, .int .i64 at_] w (FreshV litsR w (woR xs at_)) := by
  unfold bulkLiteralS at hn
  have HX := Lib.hid hx
  have HS := Lib.hid hS
  have HV := Lib.hid (show woR xs at_ = woV xs at_ from if_pos hn)
  obtain ⟨p0, c0, rfl, l0, l0', -⟩ := sliceR_open hx
  unfold maxLen at l0'
  clear hx hS
  go_enter Try.func12, Try.ntmps12
  go_wp2_with fail
  refine (cloneLits_any _ xs S _ HX.out HS.out hn).mono ?_
  rintro e w1 ⟨g1, ⟨hxs, p, c, rfl, hcm⟩ | ⟨g, c, rfl, hg, hlc, hcm, hrow⟩⟩
  · subst hxs
    have hin : inB at_ 0 (-1) = false := by unfold inB; by_cases h : 0 ≤ at_ <;> simp [h]; omega
    have hsub : IntKind.i64.wrap (((0 : Nat) : Int) - 1) = -1 := by decide
    have HRES := Lib.hid (show litsR (New w w1) w1 [.slice p 0 c] (woR [] at_) from by
      rw [HV.out]; exact ⟨p, c, rfl, Nat.zero_le _, hcm, fun i hi => absurd hi (Nat.not_lt_zero _)⟩)
    go_wp2_with (go_at_call 55; refine (within_any _ _ _ _).mono ?_; rintro e w' ⟨rfl, rfl⟩; rw [hin])
    go_ret
    exact ⟨_, rfl, HRES.out, g1⟩
  · have HROW := Lib.hid hrow
    have HCM := Lib.hid hcm
    unfold maxLen at hcm
    clear hrow
    have hsub : IntKind.i64.wrap (((xs.length : Nat) : Int) - 1) = (xs.length : Int) - 1 := IntWalk.i64_in _ (by omega)
    cases hin : inB at_ 0 ((xs.length : Int) - 1)
    · have HRES := Lib.hid (show litsR (New w w1) w1 [.slice (some ⟨g, 0, none⟩) xs.length c] (woR xs at_) from by
        rw [HV.out, woV_out (by intro h; unfold inB at hin; rw [decide_eq_true h.1, decide_eq_true h.2] at hin; cases hin)]
        exact HROW.out.lits ⟨hg, HROW.out.lt⟩ ⟨hlc, HCM.out⟩)
      go_wp2_with (go_at_call 55; refine (within_any _ _ _ _).mono ?_; rintro e w' ⟨rfl, rfl⟩; rw [hin])
      go_ret
      exact ⟨_, rfl, HRES.out, g1⟩
    · obtain ⟨j, rfl, hj⟩ := inB_idx hin
      have HW := Lib.hid (show woR xs (j : Int) = xs.take j ++ xs.drop (j + 1) from HV.out.trans (woV_in hj))
      have hadd : IntKind.i64.wrap ((j : Int) + 1) = ((j + 1 : Nat) : Int) := IntWalk.i64_in _ (by omega)
      go_wp2_with (go_at_call 55; refine (within_any _ _ _ _).mono ?_; rintro e w' ⟨rfl, rfl⟩; rw [hin])
      refine (deleteLits_any g c j xs w1 HROW.out hlc hcm hj).mono ?_
      rintro e w2 ⟨rfl, hrow2, hmu⟩
      have HB2 := Lib.hid (Mut.bel g1 hmu (fun k hk => by rw [hk]; exact hg))
      have HRES := Lib.hid (show litsR (New w w2) w2 [.slice (some ⟨g, 0, none⟩) (xs.length - 1) c] (woR xs (j : Int)) from by
        rw [HW.out]
        have hL : (xs.take j ++ xs.drop (j + 1)).length = xs.length - 1 := by rw [List.length_append, List.length_take, List.length_drop]; omega
        have := hrow2.lits (T := New w w2) ⟨hg, hrow2.lt⟩ (c := c) ⟨by rw [hL]; omega, HCM.out⟩
        rwa [hL] at this)
      clear hrow2 hmu
      go_wp2
      go_ret
      exact ⟨_, rfl, HRES.out, HB2.out⟩

end Go.Proofs.Ythkcdmghchikjaa
