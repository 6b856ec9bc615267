/- Contracts of IntRange, ModeIndexes. -/
import Derived.Test.YtiaamddhocdhaaaOwn
import Derived.Test.YtiaamddhocdhaaaProjF
import Derived.Test.YtiaamddhocdhaaaIn
namespace Go.Proofs.Ytiaamddhocdhaaa
open Go.ChangeShapes Go.WideShapes Go.ChangeAt Go.RowKit
set_option linter.unusedVariables false

def rangeL (n : Nat) : List Int := (List.range n).map fun (i : Nat) => (i : Int)
theorem rangeL_length (n : Nat) : (rangeL n).length = n := by simp [rangeL]
theorem rangeL_succ (n : Nat) : rangeL (n + 1) = rangeL n ++ [(n : Int)] := by simp [rangeL, List.range_succ]
theorem rangeL_at {n i : Nat} (h : i < n) : (rangeL n).getD i 0 = i := by simp [rangeL, List.getD, h]
theorem rangeL_has {n : Nat} {k : Int} : k ∈ rangeL n ↔ 0 ≤ k ∧ k < n := by
  simp only [rangeL, List.mem_map, List.mem_range]
  constructor
  · rintro ⟨a, h, rfl⟩; omega
  · rintro ⟨h0, h1⟩; exact ⟨k.toNat, by omega, by omega⟩
theorem inB_yes {n : Nat} {m : Int} (h : (n : Int) ≤ m) : inB (n : Int) 0 m = true := by simp only [inB, Bool.and_eq_true, decide_eq_true_eq]; omega

set_option maxHeartbeats 400000 in
theorem iIntRange_any (n : Nat) (w : World) (hn : n ≤ 200) :
    Calls Try.prog 45 #[.int .i64 n] w (FreshV intsR w (rangeL n)) := by
  have hin := inB_yes (n := n) (m := 200) (by omega)
  go_enter Try.func45, Try.ntmps45
  go_wp2_with (go_at_call 82; refine (within_any _ _ _ _).mono ?_; rintro e w' ⟨rfl, rfl⟩)
  clear hin
  go_loopw [3, 10] (fun o i wr => ∃ (k : Nat) (xs : List Int) (q : Option Addr) (cap : Nat), k ≤ n ∧ i = .int .i64 k ∧ o = .slice q xs.length cap ∧ xs = rangeL k ∧ Own (fun _ => False) 1 intR 3 w.heap.size wr q cap xs ∧ Bel w wr) (fun _ i _ => n - (intOf i).toNat)
  case atStart => exact ⟨0, [], _, _, Nat.zero_le _, rfl, rfl, rfl, Own.empty (alloc_at (by simp)) (Nat.le_refl _), by (repeat (first | exact Bel.refl _ | apply Bel.drewN | apply Bel.drew | apply Bel.alloc | refine Bel.trans ?_ (by assumption)))⟩
  case round =>
    obtain ⟨k, xs, q, cap, hk, rfl, rfl, hxs, hO, hB⟩ := hrel
    have HX := Lib.hid hxs; clear hxs
    have hxl : xs.length = k := by rw [HX.out]; exact rangeL_length k
    have hsz := hB.size
    have HXL := Lib.hid hxl
    have hxl' : xs.length ≤ 200 := by omega
    clear hxl
    by_cases hlt : k < n
    · go_wp2_with (at_builtin; refine wpList_app (n := 1) intR_good _ rfl _ _ 25 rfl (.int .i64 0) 8 Try.underlying25 (by kernel_rfl) rfl (by decide) (by decide) q cap xs ((k : Int)) rfl (hO.bel intR_good (by (repeat (first | exact Bel.refl _ | apply Bel.drewN | apply Bel.drew | apply Bel.alloc | refine Bel.trans ?_ (by assumption))))) wr.heap.size 1 [.int .i64 (k : Int)] rfl rfl (World.news_of_block (alloc_at (by simp))) (by intro u hu; simp at hu; subst hu; rfl) (intRep (by unfold I64; omega)) (by omega) (by first | omega | (simp; omega)) ?_; intro q' cap' w' hO' hBW hsz')
      have HB := hBW w (by (repeat (first | exact Bel.refl _ | apply Bel.drewN | apply Bel.drew | apply Bel.alloc | refine Bel.trans ?_ (by assumption)))) (Nat.le_refl _)
      clear hBW hsz'
      go_wp2
      go_roundw
      case rel => exact ⟨k + 1, xs ++ [(k : Int)], q', cap', by omega, by go_num, by simp, by rw [HX.out, rangeL_succ], hO', HB⟩
      case measure => simp [intOf]; omega
    · have hkn : k = n := by omega
      have HD := Lib.hid (show intsR (New w wr) wr [.slice q xs.length cap] (rangeL n) from by rw [← hkn, ← HX.out]; exact hO.done intR_good (fun b h _ => h.elim) (fun b h1 h2 => ⟨h1, h2⟩))
      go_wp2
      go_ret
      exact ⟨_, rfl, HD.out, hB⟩

set_option maxHeartbeats 400000 in
theorem sIntRange_any (n : Nat) (w : World) (hn : n ≤ 200) :
    Calls Try.prog 195 #[.int .i64 n] w (FreshV intsR w (rangeL n)) := by
  have hin := inB_yes (n := n) (m := 200) (by omega)
  go_enter Try.func195, Try.ntmps195
  go_wp2_with (go_at_call 126; refine (l01In_any _ _ _ _).mono ?_; rintro e w' ⟨rfl, rfl⟩)
  clear hin
  go_loopw [3, 4] (fun o i wr => ∃ (k : Nat) (xs : List Int) (q : Option Addr) (cap : Nat), k ≤ n ∧ i = .int .i64 k ∧ o = .slice q xs.length cap ∧ xs = rangeL k ∧ Own (fun _ => False) 1 intR 3 w.heap.size wr q cap xs ∧ Bel w wr) (fun _ i _ => n - (intOf i).toNat)
  case atStart => exact ⟨0, [], _, _, Nat.zero_le _, rfl, rfl, rfl, Own.empty (alloc_at (by simp)) (Nat.le_refl _), by (repeat (first | exact Bel.refl _ | apply Bel.drewN | apply Bel.drew | apply Bel.alloc | refine Bel.trans ?_ (by assumption)))⟩
  case round =>
    obtain ⟨k, xs, q, cap, hk, rfl, rfl, hxs, hO, hB⟩ := hrel
    have HX := Lib.hid hxs; clear hxs
    have hxl : xs.length = k := by rw [HX.out]; exact rangeL_length k
    have hsz := hB.size
    have HXL := Lib.hid hxl
    have hxl' : xs.length ≤ 200 := by omega
    clear hxl
    by_cases hlt : k < n
    · go_wp2_with (at_builtin; refine wpList_app (n := 1) intR_good _ rfl _ _ 25 rfl (.int .i64 0) 8 Try.underlying25 (by kernel_rfl) rfl (by decide) (by decide) q cap xs ((k : Int)) rfl (hO.bel intR_good (by (repeat (first | exact Bel.refl _ | apply Bel.drewN | apply Bel.drew | apply Bel.alloc | refine Bel.trans ?_ (by assumption))))) wr.heap.size 1 [.int .i64 (k : Int)] rfl rfl (World.news_of_block (alloc_at (by simp))) (by intro u hu; simp at hu; subst hu; rfl) (intRep (by unfold I64; omega)) (by omega) (by first | omega | (simp; omega)) ?_; intro q' cap' w' hO' hBW hsz')
      have HB := hBW w (by (repeat (first | exact Bel.refl _ | apply Bel.drewN | apply Bel.drew | apply Bel.alloc | refine Bel.trans ?_ (by assumption)))) (Nat.le_refl _)
      clear hBW hsz'
      go_wp2
      go_roundw
      case rel => exact ⟨k + 1, xs ++ [(k : Int)], q', cap', by omega, by go_num, by simp, by rw [HX.out, rangeL_succ], hO', HB⟩
      case measure => simp [intOf]; omega
    · have hkn : k = n := by omega
      have HD := Lib.hid (show intsR (New w wr) wr [.slice q xs.length cap] (rangeL n) from by rw [← hkn, ← HX.out]; exact hO.done intR_good (fun b h _ => h.elim) (fun b h1 h2 => ⟨h1, h2⟩))
      go_wp2
      go_ret
      exact ⟨_, rfl, HD.out, hB⟩

theorem iModeIndexes_any (v : Value) (x : ActT) (S : Nat → Prop) (w : World) (hx : aggR actR S w v x) (hn : x.2.2.length ≤ 200) :
    Calls Try.prog 37 #[v] w (FreshV intsR w (rangeL x.2.2.length)) := by
  obtain ⟨cs, rfl, hx⟩ := hx
  obtain ⟨c2, rfl, q0, q1, q2⟩ := actR_open hx
  obtain ⟨p2, k2, rfl, l2, l2', -⟩ := sliceR_open q2
  unfold maxLen at l2'
  clear hx q0 q1 q2
  show Calls Try.prog 37 #[.agg #[.string x.1, .int .i64 x.2.1, .slice p2 x.2.2.length k2]] w _
  go_enter Try.func37, Try.ntmps37
  go_wp2_with fail
  refine (iIntRange_any _ _ hn).mono ?_
  rintro e w1 ⟨r, rfl, hr, g1⟩
  have HR := Lib.hid (intsR_good.mono hr (T := New w w1) fun b hb => ⟨by have := hb.1; simp at this; omega, hb.2⟩)
  clear hr
  go_wp2
  go_ret
  exact ⟨_, rfl, HR.out, by (repeat (first | exact Bel.refl _ | apply Bel.drewN | apply Bel.drew | apply Bel.alloc | refine Bel.trans ?_ (by assumption)))⟩

theorem sModeIndexes_any (v : Value) (x : ActT) (S : Nat → Prop) (w : World) (hx : aggR actR S w v x) (hn : x.2.2.length ≤ 200) :
    Calls Try.prog 162 #[v] w (FreshV intsR w (rangeL x.2.2.length)) := by
  obtain ⟨cs, rfl, hx⟩ := hx
  obtain ⟨c2, rfl, q0, q1, q2⟩ := actR_open hx
  obtain ⟨p2, k2, rfl, l2, l2', -⟩ := sliceR_open q2
  unfold maxLen at l2'
  clear hx q0 q1 q2
  show Calls Try.prog 162 #[.agg #[.string x.1, .int .i64 x.2.1, .slice p2 x.2.2.length k2]] w _
  go_enter Try.func162, Try.ntmps162
  go_wp2_with fail
  refine (sIntRange_any _ _ hn).mono ?_
  rintro e w1 ⟨r, rfl, hr, g1⟩
  have HR := Lib.hid (intsR_good.mono hr (T := New w w1) fun b hb => ⟨by have := hb.1; simp at this; omega, hb.2⟩)
  clear hr
  go_wp2
  go_ret
  exact ⟨_, rfl, HR.out, by (repeat (first | exact Bel.refl _ | apply Bel.drewN | apply Bel.drew | apply Bel.alloc | refine Bel.trans ?_ (by assumption)))⟩

end Go.Proofs.Ytiaamddhocdhaaa
