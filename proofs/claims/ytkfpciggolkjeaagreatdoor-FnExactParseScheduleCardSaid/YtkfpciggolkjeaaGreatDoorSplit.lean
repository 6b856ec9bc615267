/- SplitAny, both sides. -/
import Derived.Test.YtkfpciggolkjeaaGreatDoorGrow
import Derived.Test.YtkfpciggolkjeaaGreatDoorParseF
import Derived.Test.YtkfpciggolkjeaaGreatDoorSteps
import Derived.Lib.IndexAny
import Derived.Deep.RegionHeld3
import Derived.StillTailTactics
namespace Go.Proofs.YtkfpciggolkjeaaGreatDoor
open Go.ChangeShapes Go.WideShapes Go.ChangeAt Go.RowKit
set_option linter.unusedVariables false

/-- Whether the k-th byte parts. -/
def sepAt (s by_ : ByteArray) (k : Nat) : Bool := decide (0 ≤ Lib.indexByte by_.data.toList (s.data.toList.getD k 0))
/-- The parts before the k-th byte, and where the next begins. -/
def splitSt (s by_ : ByteArray) : Nat → List ByteArray × Nat
  | 0 => ([], 0)
  | k + 1 => if sepAt s by_ k = true then ((splitSt s by_ k).1 ++ [s.extract (splitSt s by_ k).2 k], k + 1) else splitSt s by_ k
def splitV (s by_ : ByteArray) : List ByteArray := (splitSt s by_ s.size).1 ++ [s.extract (splitSt s by_ s.size).2 s.size]
theorem splitSt_le (s by_ : ByteArray) : ∀ k, (splitSt s by_ k).2 ≤ k ∧ (splitSt s by_ k).1.length ≤ k := by
  intro k
  induction k with
  | zero => exact ⟨Nat.le_refl _, Nat.le_refl _⟩
  | succ k ih =>
    unfold splitSt
    split
    · exact ⟨Nat.le_refl _, by rw [List.length_append]; exact Nat.succ_le_succ ih.2⟩
    · omega
theorem split_yes {s by_ : ByteArray} {k : Nat} (h : sepAt s by_ k = true) : splitSt s by_ (k + 1) = ((splitSt s by_ k).1 ++ [s.extract (splitSt s by_ k).2 k], k + 1) := by rw [splitSt, if_pos h]
theorem split_no {s by_ : ByteArray} {k : Nat} (h : sepAt s by_ k = false) : (splitSt s by_ (k + 1)).1 = (splitSt s by_ k).1 ∧ (splitSt s by_ (k + 1)).2 = (splitSt s by_ k).2 := by rw [splitSt, if_neg (by rw [h]; decide)]; exact ⟨rfl, rfl⟩
theorem extract_size (s : ByteArray) (a b : Nat) : (s.extract a b).size ≤ s.size := by
  rw [ByteArray.size_extract]; omega
theorem getD_at (s : ByteArray) {k : Nat} (h : k < s.size) : s.data.toList.getD k 0 = s[k] := by rw [List.getD_eq_getElem?_getD, list_at s h]; rfl
set_option maxRecDepth 100000 in
set_option maxHeartbeats 1000000 in
theorem iSplitAny_any (s by_ : ByteArray) (w : World) (hs : s.size ≤ 1048576) :
    Calls Tryz.prog 53 #[.string s, .string by_] w (FreshV strsR w (splitV s by_)) := by
  go_enter Tryz.func53, Tryz.ntmps53
  go_wp2_with fail
  go_loopw [5, 6, 11] (fun o fr i wr => ∃ (k : Nat) (q : Option Addr) (cap : Nat), k ≤ s.size ∧ i = .int .i64 k ∧ fr = .int .i64 (splitSt s by_ k).2 ∧ o = .slice q (splitSt s by_ k).1.length cap ∧ Own (fun _ => False) 1 strR 9 w.heap.size wr q cap (splitSt s by_ k).1 ∧ Bel w wr) (fun _ _ i _ => s.size - (intOf i).toNat)
  case atStart => exact ⟨0, _, _, Nat.zero_le _, rfl, rfl, rfl, Own.empty (alloc_at (by simp)) (by simp), by (repeat (first | assumption | exact Bel.refl _ | apply Bel.drewN | apply Bel.drew | apply Bel.alloc | refine Bel.trans ?_ (by assumption)))⟩
  case round =>
    obtain ⟨k, q, cap, hk, rfl, rfl, rfl, hO, hB⟩ := hrel
    have hsz := hB.size
    obtain ⟨hf, hyl⟩ := splitSt_le s by_ k
    have HY := Lib.hid (fun (h : sepAt s by_ k = true) => split_yes h)
    have HN := Lib.hid (fun (h : sepAt s by_ k = false) => split_no h)
    by_cases hlt : k < s.size
    · have HIB := Lib.hid (show ∀ W, Calls Tryz.prog 90 #[.string by_, .int .u8 (s[k].toNat : Int)] W fun e w' => e = .returned (.int .i64 (Lib.indexByte by_.data.toList s[k])) ∧ W = w' from fun W => (Tryz.strings_IndexByte by_ (s[k].toNat : Int) W).mono fun e w' hh => ⟨by rw [hh.1]; simp, hh.2.symm⟩)
      have hsep : sepAt s by_ k = decide (0 ≤ Lib.indexByte by_.data.toList s[k]) := by unfold sepAt; rw [getD_at s hlt]
      have HXZ := Lib.hid (show (s.extract (splitSt s by_ k).2 k).size ≤ maxLen from Nat.le_trans (extract_size _ _ _) (by unfold maxLen; omega))
      have hki : (k : Int) < (s.size : Int) := by omega
      have hfi : ((splitSt s by_ k).2 : Int) ≤ (k : Int) := by omega
      generalize (splitSt s by_ k).1 = ys at *
      generalize (splitSt s by_ k).2 = f at *
      generalize Lib.indexByte by_.data.toList s[k] = ix at *
      by_cases hix : 0 ≤ ix
      · have HS := Lib.hid (HY.out (by rw [hsep]; exact decide_eq_true hix))
        clear hsep
        go_wp2_with (first | (go_at_call 90; (refine (HIB.out _).mono ?_); rintro e wi ⟨rfl, rfl⟩) | (at_builtin; refine wpList_app (n := 1) strR_goodJ _ rfl _ _ 64 rfl (.string ⟨#[]⟩) 16 Tryz.underlying64 (by kernel_rfl) rfl (by decide) (by decide) q cap ys ((s.extract f k)) rfl (hO.bel strR_goodJ (by (repeat (first | assumption | exact Bel.refl _ | apply Bel.drewN | apply Bel.drew | apply Bel.alloc | refine Bel.trans ?_ (by assumption))))) _ 1 [.string (s.extract f k)] rfl rfl (World.news_of_block (alloc_at (by simp))) (by intro u hu; simp at hu; subst hu; rfl) ⟨rfl, HXZ.out⟩ (by omega) (by first | omega | (simp; omega)) ?_; intro q' cap' w' hO' hBW hsz'))
        exact ⟨⟨k + 1, q', cap', by omega, by go_num, by rw [HS.out]; go_num, by rw [HS.out]; simp, by rw [HS.out]; exact hO', hBW w (by (repeat (first | assumption | exact Bel.refl _ | apply Bel.drewN | apply Bel.drew | apply Bel.alloc | refine Bel.trans ?_ (by assumption)))) (Nat.le_refl _)⟩, by simp [intOf]; omega⟩
      · have HS := Lib.hid (HN.out (by rw [hsep]; exact decide_eq_false hix))
        clear hsep
        go_wp2_with (first | (go_at_call 90; (refine (HIB.out _).mono ?_); rintro e wi ⟨rfl, rfl⟩) | (at_builtin; refine wpList_app (n := 1) strR_goodJ _ rfl _ _ 64 rfl (.string ⟨#[]⟩) 16 Tryz.underlying64 (by kernel_rfl) rfl (by decide) (by decide) q cap ys ((s.extract f k)) rfl (hO.bel strR_goodJ (by (repeat (first | assumption | exact Bel.refl _ | apply Bel.drewN | apply Bel.drew | apply Bel.alloc | refine Bel.trans ?_ (by assumption))))) _ 1 [.string (s.extract f k)] rfl rfl (World.news_of_block (alloc_at (by simp))) (by intro u hu; simp at hu; subst hu; rfl) ⟨rfl, HXZ.out⟩ (by omega) (by first | omega | (simp; omega)) ?_; intro q' cap' w' hO' hBW hsz'))
        exact ⟨⟨k + 1, q, cap, by omega, by go_num, by rw [HS.out.2], by rw [HS.out.1], by rw [HS.out.1]; exact hO, by (repeat (first | assumption | exact Bel.refl _ | apply Bel.drewN | apply Bel.drew | apply Bel.alloc | refine Bel.trans ?_ (by assumption)))⟩, by simp [intOf]; omega⟩
    · obtain rfl : k = s.size := by omega
      have HV := Lib.hid (show splitV s by_ = (splitSt s by_ s.size).1 ++ [s.extract (splitSt s by_ s.size).2 s.size] from rfl)
      have HXZ := Lib.hid (show (s.extract (splitSt s by_ s.size).2 s.size).size ≤ maxLen from Nat.le_trans (extract_size _ _ _) (by unfold maxLen; omega))
      clear HY HN hlt
      generalize (splitSt s by_ s.size).1 = ys at *
      generalize (splitSt s by_ s.size).2 = f at *
      have hfi : (f : Int) ≤ (s.size : Int) := by omega
      go_wp2_with (at_builtin; refine wpList_app (n := 1) strR_goodJ _ rfl _ _ 64 rfl (.string ⟨#[]⟩) 16 Tryz.underlying64 (by kernel_rfl) rfl (by decide) (by decide) q cap ys ((s.extract f s.size)) rfl (hO.bel strR_goodJ (by (repeat (first | assumption | exact Bel.refl _ | apply Bel.drewN | apply Bel.drew | apply Bel.alloc | refine Bel.trans ?_ (by assumption))))) _ 1 [.string (s.extract f s.size)] rfl rfl (World.news_of_block (alloc_at (by simp))) (by intro u hu; simp at hu; subst hu; rfl) ⟨rfl, HXZ.out⟩ (by omega) (by first | omega | (simp; omega)) ?_; intro q' cap' w' hO' hBW hsz')
      have HB' := hBW w (by (repeat (first | assumption | exact Bel.refl _ | apply Bel.drewN | apply Bel.drew | apply Bel.alloc | refine Bel.trans ?_ (by assumption)))) (Nat.le_refl _)
      have HD := Lib.hid (hO'.done (T := New w w') strR_goodJ (fun b h _ => h.elim) (fun b h1 h2 => ⟨h1, h2⟩))
      go_wp2_with fail
      go_ret
      exact ⟨_, rfl, by rw [HV.out]; have hd := HD.out; rw [show (ys ++ [s.extract f s.size]).length = ys.length + 1 from by simp] at hd; exact hd, HB'⟩

theorem sep_yes {s by_ : ByteArray} {k m : Nat} (hk : k < s.size) (hm : m < by_.size) (h : s[k].toNat = by_[m].toNat) : sepAt s by_ k = true := by
  unfold sepAt
  rw [← Lib.contains_iff_indexByte, List.contains_iff_mem, getD_at s hk, UInt8.toNat_inj.1 h]
  exact List.mem_of_getElem? (list_at by_ hm)
theorem sep_no {s by_ : ByteArray} {k : Nat} (hk : k < s.size) (h : ∀ m (hm : m < by_.size), s[k].toNat ≠ by_[m].toNat) : sepAt s by_ k = false := by
  unfold sepAt
  rw [← Lib.contains_iff_indexByte, ← Bool.not_eq_true, List.contains_iff_mem, getD_at s hk]
  intro hc
  obtain ⟨m, hm⟩ := List.getElem?_of_mem hc
  have hl : by_.data.toList.length = by_.size := by rw [Array.length_toList]; rfl
  have hlt : m < by_.size := by have := (List.getElem?_eq_some_iff.1 hm).1; omega
  rw [list_at by_ hlt] at hm
  exact h m hlt (by rw [Option.some.inj hm])
/-- A slice of strings that the call made, owned. -/
def SplitO (w : World) (xs : List ByteArray) (e : Ending) (w' : World) : Prop := ∃ (q : Option Addr) (cap : Nat), e = .returned (.slice q xs.length cap) ∧ Own (fun _ => False) 1 strR 9 w.heap.size w' q cap xs ∧ Bel w w'
set_option maxRecDepth 100000 in
set_option maxHeartbeats 2000000 in
theorem sSplitAny_own (s by_ : ByteArray) (w : World) (hs : s.size ≤ 1048576) (hbs : by_.size ≤ 100) :
    Calls Tryz.prog 45 #[.string s, .string by_] w (SplitO w (splitV s by_)) := by
  go_enter Tryz.func45, Tryz.ntmps45
  go_wp2_with fail
  go_loopw [5, 6, 7] (fun o fr i wr => ∃ (k : Nat) (q : Option Addr) (cap : Nat), k ≤ s.size ∧ i = .int .i64 k ∧ fr = .int .i64 (splitSt s by_ k).2 ∧ o = .slice q (splitSt s by_ k).1.length cap ∧ Own (fun _ => False) 1 strR 9 w.heap.size wr q cap (splitSt s by_ k).1 ∧ Bel w wr) (fun _ _ i _ => s.size - (intOf i).toNat)
  case atStart => exact ⟨0, _, _, Nat.zero_le _, rfl, rfl, rfl, Own.empty (alloc_at (by simp)) (by simp), by (repeat (first | assumption | exact Bel.refl _ | apply Bel.drewN | apply Bel.drew | apply Bel.alloc | refine Bel.trans ?_ (by assumption)))⟩
  case round =>
    obtain ⟨k, q, cap, hk, rfl, rfl, rfl, hO, hB⟩ := hrel
    have hsz := hB.size
    obtain ⟨hf, hyl⟩ := splitSt_le s by_ k
    have HY := Lib.hid (fun (h : sepAt s by_ k = true) => split_yes h)
    have HN := Lib.hid (fun (h : sepAt s by_ k = false) => split_no h)
    by_cases hlt : k < s.size
    · have HYE := Lib.hid (fun m (hm : m < by_.size) (h : s[k].toNat = by_[m].toNat) => HY.out (sep_yes hlt hm h))
      have HNE := Lib.hid (fun (h : ∀ m (hm : m < by_.size), s[k].toNat ≠ by_[m].toNat) => HN.out (sep_no hlt h))
      clear HY HN
      have HXZ := Lib.hid (show (s.extract (splitSt s by_ k).2 k).size ≤ maxLen from Nat.le_trans (extract_size _ _ _) (by unfold maxLen; omega))
      have hki : (k : Int) < (s.size : Int) := by omega
      have hfi : ((splitSt s by_ k).2 : Int) ≤ (k : Int) := by omega
      generalize (splitSt s by_ k).1 = ys at *
      generalize (splitSt s by_ k).2 = f at *
      go_wp2_with fail
      go_loopw [5, 6, 8] (fun o fr j wq => ∃ m : Nat, m ≤ by_.size ∧ o = .slice q ys.length cap ∧ fr = .int .i64 f ∧ j = .int .i64 m ∧ (∀ n (hn : n < by_.size), n < m → s[k].toNat ≠ by_[n].toNat) ∧ Bel wr wq) (fun _ _ j _ => by_.size - (intOf j).toNat)
      case atStart => exact ⟨0, Nat.zero_le _, rfl, rfl, rfl, fun n _ h => by omega, by (repeat (first | assumption | exact Bel.refl _ | apply Bel.drewN | apply Bel.drew | apply Bel.alloc | refine Bel.trans ?_ (by assumption)))⟩
      case round =>
        obtain ⟨m, hm, rfl, rfl, rfl, hall, hBq⟩ := hrel
        have HA := Lib.hid hall
        clear hall
        have hszq := hBq.size
        have hO := hO.bel strR_goodJ hBq
        by_cases hml : m < by_.size
        · have hmi : (m : Int) < (by_.size : Int) := by omega
          by_cases he : s[k].toNat = by_[m].toNat
          · have HS := Lib.hid (HYE.out m hml he)
            have hbq : ((s[k].toNat : Int) == (by_[m].toNat : Int)) = true := by simp [he]
            have hbi : (s[k].toNat : Int) = (by_[m].toNat : Int) := by omega
            clear he
            go_wp2_with fail
            go_quiet (fail)
            go_wp2_with (at_builtin; refine wpList_app (n := 1) strR_goodJ _ rfl _ _ 64 rfl (.string ⟨#[]⟩) 16 Tryz.underlying64 (by kernel_rfl) rfl (by decide) (by decide) q cap ys ((s.extract f k)) rfl (hO.bel strR_goodJ (by (repeat (first | assumption | exact Bel.refl _ | apply Bel.drewN | apply Bel.drew | apply Bel.alloc | refine Bel.trans ?_ (by assumption))))) _ 1 [.string (s.extract f k)] rfl rfl (World.news_of_block (alloc_at (by simp))) (by intro u hu; simp at hu; subst hu; rfl) ⟨rfl, HXZ.out⟩ (by omega) (by first | omega | (simp; omega)) ?_; intro q' cap' w' hO' hBW hsz')
            exact ⟨⟨k + 1, q', cap', by omega, by go_num, by rw [HS.out]; go_num, by rw [HS.out]; simp, by rw [HS.out]; exact hO', hBW w (by (repeat (first | assumption | exact Bel.refl _ | apply Bel.drewN | apply Bel.drew | apply Bel.alloc | refine Bel.trans ?_ (by assumption)))) (Nat.le_refl _)⟩, by simp [intOf]; omega⟩
          · have HE := Lib.hid he
            have hbi : ¬ (s[k].toNat : Int) = (by_[m].toNat : Int) := by omega
            have hbq : ((s[k].toNat : Int) == (by_[m].toNat : Int)) = false := by simpa using hbi
            clear he
            go_wp2_with fail
            go_quiet (fail)
            go_wp2_with fail
            exact ⟨⟨m + 1, by omega, rfl, rfl, by go_num, fun n hn h => (by
              by_cases e : n < m
              · exact HA.out n hn e
              · obtain rfl : n = m := by omega
                exact HE.out), by (repeat (first | assumption | exact Bel.refl _ | apply Bel.drewN | apply Bel.drew | apply Bel.alloc | refine Bel.trans ?_ (by assumption)))⟩, by simp [intOf]; omega⟩
        · have HS := Lib.hid (HNE.out fun n hn => HA.out n hn (by omega))
          go_wp2_with fail
          exact ⟨⟨k + 1, q, cap, by omega, by go_num, by rw [HS.out.2], by rw [HS.out.1], by rw [HS.out.1]; exact hO, by (repeat (first | assumption | exact Bel.refl _ | apply Bel.drewN | apply Bel.drew | apply Bel.alloc | refine Bel.trans ?_ (by assumption)))⟩, by simp [intOf]; omega⟩
    · obtain rfl : k = s.size := by omega
      have HV := Lib.hid (show splitV s by_ = (splitSt s by_ s.size).1 ++ [s.extract (splitSt s by_ s.size).2 s.size] from rfl)
      have HXZ := Lib.hid (show (s.extract (splitSt s by_ s.size).2 s.size).size ≤ maxLen from Nat.le_trans (extract_size _ _ _) (by unfold maxLen; omega))
      clear HY HN hlt
      generalize (splitSt s by_ s.size).1 = ys at *
      generalize (splitSt s by_ s.size).2 = f at *
      have hfi : (f : Int) ≤ (s.size : Int) := by omega
      go_wp2_with (at_builtin; refine wpList_app (n := 1) strR_goodJ _ rfl _ _ 64 rfl (.string ⟨#[]⟩) 16 Tryz.underlying64 (by kernel_rfl) rfl (by decide) (by decide) q cap ys ((s.extract f s.size)) rfl (hO.bel strR_goodJ (by (repeat (first | assumption | exact Bel.refl _ | apply Bel.drewN | apply Bel.drew | apply Bel.alloc | refine Bel.trans ?_ (by assumption))))) _ 1 [.string (s.extract f s.size)] rfl rfl (World.news_of_block (alloc_at (by simp))) (by intro u hu; simp at hu; subst hu; rfl) ⟨rfl, HXZ.out⟩ (by omega) (by first | omega | (simp; omega)) ?_; intro q' cap' w' hO' hBW hsz')
      have HB' := hBW w (by (repeat (first | assumption | exact Bel.refl _ | apply Bel.drewN | apply Bel.drew | apply Bel.alloc | refine Bel.trans ?_ (by assumption)))) (Nat.le_refl _)
      have HD := Lib.hid hO'
      clear hO'
      go_wp2_with fail
      go_ret
      exact ⟨q', cap', by rw [HV.out, List.length_append]; rfl, by rw [HV.out]; exact HD.out, HB'⟩

theorem sSplitAny_any (s by_ : ByteArray) (w : World) (hs : s.size ≤ 1048576) (hbs : by_.size ≤ 100) :
    Calls Tryz.prog 45 #[.string s, .string by_] w (FreshV strsR w (splitV s by_)) :=
  (sSplitAny_own s by_ w hs hbs).mono fun e w' ⟨q, cap, he, ho, hb⟩ => ⟨_, he, ho.done (T := New w w') strR_goodJ (fun b h _ => h.elim) (fun b h1 h2 => ⟨h1, h2⟩), hb⟩

end Go.Proofs.YtkfpciggolkjeaaGreatDoor
