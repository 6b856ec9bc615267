/- ParseInt on both sides. -/
import Derived.Test.YtkfpciggolkjeaaGreatDoorParseF
import Derived.Lib.AtoiErrMem
import Derived.Test.YtkfpciggolkjeaaGreatDoorEq
import Derived.Deep.RegionHeld3
import Derived.StillTailTactics
namespace Go.Proofs.YtkfpciggolkjeaaGreatDoor
open Go.ChangeShapes Go.WideShapes Go.ChangeAt Go.RowKit
set_option linter.unusedVariables false

/-- The two variables that Atoi's errors name hold errors. -/
def ErrAt (w : World) (g : Nat) : Prop := ∃ ev, w.cell? ⟨g, 0, none⟩ = some ev ∧ (ev = .nilIface ∨ ∃ te pe, ev = .iface te pe)
def ErrVars (w : World) : Prop := ErrAt w 1 ∧ ErrAt w 2
theorem errVars_bel {w w' : World} (h : ErrVars w) (hb : Bel w w') : ErrVars w' := by
  obtain ⟨⟨e1, c1, h1⟩, ⟨e2, c2, h2⟩⟩ := h
  exact ⟨⟨e1, hb.cell c1, h1⟩, ⟨e2, hb.cell c2, h2⟩⟩
set_option maxRecDepth 100000 in
set_option maxHeartbeats 1000000 in
theorem iParseInt_any (s : ByteArray) (w : World) (hs : s.size ≤ 1048576) (htab : Lib.TabIs Tryz.prog w "internal/strconv.uint64pow10" .u64 Lib.pow10Tab) (herr : ErrVars w) :
    Calls Tryz.prog 50 #[.string s] w fun e w' => e = .returned (.tuple #[.int .i64 (parseV s).1, .bool (parseV s).2]) ∧ Bel w w' := by
  have HTB := Lib.hid htab
  clear htab
  obtain ⟨⟨e1, c1, h1⟩, ⟨e2, c2, h2⟩⟩ := herr
  rcases hA : Lib.atoiAll s.data.toList with v | _ | _
  · have hbd := Lib.atoiAll_bounds hA
    have hne : s ≠ ⟨#[]⟩ := by rintro rfl; cases hA
    have hAt : ∀ W, Bel w W → Calls Tryz.prog 86 #[.string s] W fun e w' => e = .returned (.tuple #[.int .i64 v, .nilIface]) ∧ Bel W w' := fun W hW => (Tryz.strconv_Atoi_ok s (by omega) v hA W).mono fun e w' ⟨h1, h2⟩ => ⟨h1, by
      rcases h2 with rfl | ⟨t, rfl⟩
      · exact Bel.refl _
      · exact Lib.bytesWorld_below _ _ _⟩
    have HAT := Lib.hid hAt
    have hNum : ∀ n, Num s n → n = v := fun n hn => by
      have := hn.atoi
      rw [hA] at this
      injection this with this
      exact this.symm
    have HNUM := Lib.hid hNum
    clear hAt hNum h1 h2 c1 c2 hA hbd
    have hE0 : ¬ s.toList = [] := fun h => hne (toList_inj (h.trans (by rw [ByteArray.toList_eq])))
    have hE1 : s.toList.isEmpty = false := by cases hl : s.toList with | nil => exact absurd hl hE0 | cons _ _ => rfl
    by_cases he : fmtV v = s
    · have HF := Lib.hid (parseV_of (num_of he hne))
      have hE2 : ((fmtV v).toList == s.toList) = true := by rw [he]; simp
      clear he
      go_enter Tryz.func50, Tryz.ntmps50
      go_wp2_with fail
      refine (HAT.out _ (Bel.refl _)).mono ?_
      rintro e wA ⟨rfl, gA⟩
      go_wp2_with (go_at_call 39; (refine (iFormatInt_any v _ (tabIs_bel HTB.out (by assumption))).mono ?_); rintro e wF ⟨rfl, gF⟩)
      exact bodyPost_ret (v := (.tuple #[.int .i64 v, .bool true])) (by simp [results, Tryz.results50, go_sem]) rfl ⟨by rw [HF.out], gA.trans gF⟩
    · have HF := Lib.hid (parseV_no (s := s) fun n hn => he (by rw [← HNUM.out n hn]; exact hn.fmt))
      have hE2 : ((fmtV v).toList == s.toList) = false := by rw [beq_eq_false_iff_ne]; intro h; exact he (toList_inj h)
      clear he
      go_enter Tryz.func50, Tryz.ntmps50
      go_wp2_with fail
      refine (HAT.out _ (Bel.refl _)).mono ?_
      rintro e wA ⟨rfl, gA⟩
      go_wp2_with (go_at_call 39; (refine (iFormatInt_any v _ (tabIs_bel HTB.out (by assumption))).mono ?_); rintro e wF ⟨rfl, gF⟩)
      exact bodyPost_ret (v := (.tuple #[.int .i64 0, .bool false])) (by simp [results, Tryz.results50, go_sem]) rfl ⟨by rw [HF.out], gA.trans gF⟩
  · have HF := Lib.hid (parseV_no (s := s) fun n hn => by
      have := hn.atoi
      rw [hA] at this
      cases this)
    go_enter Tryz.func50, Tryz.ntmps50
    go_wp2_with fail
    refine (Any.strconv_Atoi_syntax Tryz.laysC172 s (by omega) hA _ w c1 h1).mono ?_
    rintro e wA ⟨N, rfl, -, -, gA⟩
    go_wp2_with fail
    exact bodyPost_ret (v := (.tuple #[.int .i64 0, .bool false])) (by simp [results, Tryz.results50, go_sem]) rfl ⟨by rw [HF.out], gA⟩
  · have HF := Lib.hid (parseV_no (s := s) fun n hn => by
      have := hn.atoi
      rw [hA] at this
      cases this)
    go_enter Tryz.func50, Tryz.ntmps50
    go_wp2_with fail
    refine (Tryz.strconv_Atoi_range s (by omega) hA _ w c2 h2).mono ?_
    rintro e wA ⟨N, rfl, -, -, gA⟩
    go_wp2_with fail
    exact bodyPost_ret (v := (.tuple #[.int .i64 0, .bool false])) (by simp [results, Tryz.results50, go_sem]) rfl ⟨by rw [HF.out], gA⟩
set_option maxRecDepth 100000 in
set_option maxHeartbeats 2000000 in
theorem sParseInt_any (s : ByteArray) (w : World) (hs : s.size ≤ 1048576) :
    Calls Tryz.prog 46 #[.string s] w fun e w' => e = .returned (.tuple #[.int .i64 (parseV s).1, .bool (parseV s).2]) ∧ Bel w w' := by
  rcases Nat.eq_zero_or_pos s.size with hz | hz
  · obtain rfl : s = ⟨#[]⟩ := bytes_ext (List.eq_nil_of_length_eq_zero (by rw [Array.length_toList]; exact hz))
    clear hz hs
    go_enter Tryz.func46, Tryz.ntmps46
    go_wp2_with fail
    go_loop [4, 6] (fun n i => i = .int .i64 0 ∧ n = .int .i64 0) (fun _ i => 0)
    case atStart => exact ⟨rfl, rfl⟩
    case round =>
      obtain ⟨rfl, rfl⟩ := hrel
      have HF := Lib.hid (parseV_no (s := ⟨#[]⟩) fun n hn => hn.ne rfl)
      have hE0 : (⟨#[]⟩ : ByteArray).toList = [] := by rw [ByteArray.toList_eq]
      go_wp2_with fail
      exact bodyPost_ret (v := .tuple #[.int .i64 0, .bool false]) (by simp [results, Tryz.results46, go_sem]) rfl ⟨by rw [HF.out], Bel.refl _⟩
  · have hne : s ≠ ⟨#[]⟩ := by rintro rfl; cases hz
    have hgat := ngN_at s hz
    have hzi : (0 : Int) < (s.size : Int) := by omega
    by_cases h45 : s[0].toNat = 45
    · have HG := Lib.hid (show ngN s = 1 from by rw [hgat, if_pos h45])
      have h45i : (s[0].toNat : Int) = 45 := by omega
      clear hgat
      go_enter Tryz.func46, Tryz.ntmps46
      go_wp2_with fail
      go_loop [4, 6] (fun n i => ∃ (k N : Nat), k ≤ s.size ∧ i = .int .i64 k ∧ n = .int .i64 N ∧ Inv s k N ∧ (s.size ≤ 8 ∨ k ≤ ngN s)) (fun _ i => s.size - (intOf i).toNat)
      case atStart => exact ⟨0, 0, Nat.zero_le _, rfl, rfl, inv_zero s, .inr (Nat.zero_le _)⟩
      case round =>
        obtain ⟨k, N, hk, rfl, rfl, hI, hm⟩ := hrel
        have hN : N < 100000000 := by
          have h1 : k ≤ 8 := by have := ngN_le s; omega
          exact Nat.lt_of_lt_of_le hI.2 (Nat.pow_le_pow_right (n := 10) (by omega) h1)
        by_cases hlt : k < s.size
        · have hlti : (k : Int) < (s.size : Int) := by omega
          by_cases hk0 : k = 0
          · have hkz : (((k : Nat) : Int) == 0) = true := by simp [hk0]
            have hNN := Lib.hid (show N = 0 from by have := hI.2; rw [hk0] at this; simpa using this)
            have HK := Lib.hid hk0
            clear hk0 hI
            go_wp2_with fail
            go_round
            case rel => exact ⟨1, 0, by omega, by rw [HK.out]; go_num, by rw [hNN.out], inv_neg HG.out, .inr (by rw [HG.out]; exact Nat.le_refl _)⟩
            case measure => simp [intOf]; omega
          have hkz : (((k : Nat) : Int) == 0) = false := by simp; omega
          have hkg : ngN s ≤ k := by have := HG.out; omega
          by_cases d1 : (48 : Int) ≤ (s[k].toNat : Int)
          · by_cases d2 : (s[k].toNat : Int) ≤ 57
            · by_cases d3 : s.size ≤ 8
              · have d1' : ¬ (s[k].toNat : Int) - 48 < 0 := by omega
                have d2' : ¬ (9 : Int) < (s[k].toNat : Int) - 48 := by omega
                have d3' : ¬ (8 : Int) < (s.size : Int) := by omega
                have HI2 := Lib.hid (inv_step hI hkg hlt (by omega) (by omega))
                have w0 : wrap64 (s[k].toNat : Int) = (s[k].toNat : Int) := by unfold wrap64; omega
                have w1 : wrap64 ((s[k].toNat : Int) - 48) = (s[k].toNat : Int) - 48 := by unfold wrap64; omega
                have w2 : IntKind.i64.wrap ((N : Int) * 10) = (N : Int) * 10 := IntWalk.i64_in _ (by omega)
                have w3 : IntKind.i64.wrap ((N : Int) * 10 + ((s[k].toNat : Int) - 48)) = (N : Int) * 10 + ((s[k].toNat : Int) - 48) := IntWalk.i64_in _ (by omega)
                clear hI hm
                go_wp2_with fail
                go_round
                case rel => exact ⟨k + 1, _, by omega, by go_num, by congr 1; omega, HI2.out, .inl d3⟩
                case measure => simp [intOf]; omega
              · have d1' : ¬ (s[k].toNat : Int) - 48 < 0 := by omega
                have d2' : ¬ (9 : Int) < (s[k].toNat : Int) - 48 := by omega
                have d3' : (8 : Int) < (s.size : Int) := by omega
                have w0 : wrap64 (s[k].toNat : Int) = (s[k].toNat : Int) := by unfold wrap64; omega
                have w1 : wrap64 ((s[k].toNat : Int) - 48) = (s[k].toNat : Int) - 48 := by unfold wrap64; omega
                have HF := Lib.hid (parseV_no (s := s) fun n hn => by have := hn.size; omega)
                go_wp2_with fail
                exact bodyPost_ret (v := .tuple #[.int .i64 0, .bool false]) (by simp [results, Tryz.results46, go_sem]) rfl ⟨by rw [HF.out], Bel.refl _⟩
            · have d1' : ¬ (s[k].toNat : Int) - 48 < 0 := by omega
              have d2' : (9 : Int) < (s[k].toNat : Int) - 48 := by omega
              have w0 : wrap64 (s[k].toNat : Int) = (s[k].toNat : Int) := by have := s[k].toNat_lt; unfold wrap64; omega
              have w1 : wrap64 ((s[k].toNat : Int) - 48) = (s[k].toNat : Int) - 48 := by have := s[k].toNat_lt; unfold wrap64; omega
              have HF := Lib.hid (parseV_no (s := s) fun n hn => by have := num_dig hn hkg hlt; omega)
              go_wp2_with fail
              exact bodyPost_ret (v := .tuple #[.int .i64 0, .bool false]) (by simp [results, Tryz.results46, go_sem]) rfl ⟨by rw [HF.out], Bel.refl _⟩
          · have d1' : (s[k].toNat : Int) - 48 < 0 := by omega
            have w0 : wrap64 (s[k].toNat : Int) = (s[k].toNat : Int) := by unfold wrap64; omega
            have w1 : wrap64 ((s[k].toNat : Int) - 48) = (s[k].toNat : Int) - 48 := by unfold wrap64; omega
            have HF := Lib.hid (parseV_no (s := s) fun n hn => by have := num_dig hn hkg hlt; omega)
            go_wp2_with fail
            exact bodyPost_ret (v := .tuple #[.int .i64 0, .bool false]) (by simp [results, Tryz.results46, go_sem]) rfl ⟨by rw [HF.out], Bel.refl _⟩
        · obtain rfl : k = s.size := by omega
          have HIN := Lib.hid (fun n (hn : Num s n) => inv_end hI hn)
          have hw9 : IntKind.i64.wrap (-(N : Int)) = -(N : Int) := IntWalk.i64_in _ (by omega)
          have HV := Lib.hid hI
          clear hI hm
          have hE0 : ¬ s.toList = [] := fun h => hne (toList_inj (h.trans (by rw [ByteArray.toList_eq])))
          have hE1 : s.toList.isEmpty = false := by cases hl : s.toList with | nil => exact absurd hl hE0 | cons _ _ => rfl
          by_cases he : fmtV (-(N : Int)) = s
          · have HF := Lib.hid (parseV_of (num_of he hne))
            have hE2 : ((fmtV (-(N : Int))).toList == s.toList) = true := by rw [he]; simp
            clear he
            go_wp2_with (go_at_call 31; (refine (sFormatInt_any (-(N : Int)) _).mono ?_); rintro e wF ⟨rfl, gF⟩)
            exact bodyPost_ret (v := .tuple #[.int .i64 (-(N : Int)), .bool true]) (by simp [results, Tryz.results46, go_sem]) rfl ⟨by rw [HF.out], gF⟩
          · have HF := Lib.hid (parseV_no (s := s) fun n hn => he (by rw [show (-(N : Int)) = n from (by have := HIN.out n hn; rw [if_pos HG.out] at this; exact this.symm)]; exact hn.fmt))
            have hE2 : ((fmtV (-(N : Int))).toList == s.toList) = false := by rw [beq_eq_false_iff_ne]; intro h; exact he (toList_inj h)
            clear he
            go_wp2_with (go_at_call 31; (refine (sFormatInt_any (-(N : Int)) _).mono ?_); rintro e wF ⟨rfl, gF⟩)
            exact bodyPost_ret (v := .tuple #[.int .i64 0, .bool false]) (by simp [results, Tryz.results46, go_sem]) rfl ⟨by rw [HF.out], gF⟩
    · have HG := Lib.hid (show ¬ ngN s = 1 from by rw [hgat, if_neg h45]; decide)
      have h45i : ¬ (s[0].toNat : Int) = 45 := by omega
      have h45b : ((s[0].toNat : Int) == 45) = false := by simpa using h45i
      clear hgat
      go_enter Tryz.func46, Tryz.ntmps46
      go_wp2_with fail
      go_loop [4, 6] (fun n i => ∃ (k N : Nat), k ≤ s.size ∧ i = .int .i64 k ∧ n = .int .i64 N ∧ Inv s k N ∧ (s.size ≤ 8 ∨ k ≤ ngN s)) (fun _ i => s.size - (intOf i).toNat)
      case atStart => exact ⟨0, 0, Nat.zero_le _, rfl, rfl, inv_zero s, .inr (Nat.zero_le _)⟩
      case round =>
        obtain ⟨k, N, hk, rfl, rfl, hI, hm⟩ := hrel
        have hN : N < 100000000 := by
          have h1 : k ≤ 8 := by have := ngN_le s; omega
          exact Nat.lt_of_lt_of_le hI.2 (Nat.pow_le_pow_right (n := 10) (by omega) h1)
        by_cases hlt : k < s.size
        · have hlti : (k : Int) < (s.size : Int) := by omega
          have hkg : ngN s ≤ k := by have := ngN_le s; have := HG.out; omega
          cases hkz : (((k : Nat) : Int) == 0)
          · by_cases d1 : (48 : Int) ≤ (s[k].toNat : Int)
            · by_cases d2 : (s[k].toNat : Int) ≤ 57
              · by_cases d3 : s.size ≤ 8
                · have d1' : ¬ (s[k].toNat : Int) - 48 < 0 := by omega
                  have d2' : ¬ (9 : Int) < (s[k].toNat : Int) - 48 := by omega
                  have d3' : ¬ (8 : Int) < (s.size : Int) := by omega
                  have HI2 := Lib.hid (inv_step hI hkg hlt (by omega) (by omega))
                  have w0 : wrap64 (s[k].toNat : Int) = (s[k].toNat : Int) := by unfold wrap64; omega
                  have w1 : wrap64 ((s[k].toNat : Int) - 48) = (s[k].toNat : Int) - 48 := by unfold wrap64; omega
                  have w2 : IntKind.i64.wrap ((N : Int) * 10) = (N : Int) * 10 := IntWalk.i64_in _ (by omega)
                  have w3 : IntKind.i64.wrap ((N : Int) * 10 + ((s[k].toNat : Int) - 48)) = (N : Int) * 10 + ((s[k].toNat : Int) - 48) := IntWalk.i64_in _ (by omega)
                  clear hI hm
                  go_wp2_with fail
                  go_round
                  case rel => exact ⟨k + 1, _, by omega, by go_num, by congr 1; omega, HI2.out, .inl d3⟩
                  case measure => simp [intOf]; omega
                · have d1' : ¬ (s[k].toNat : Int) - 48 < 0 := by omega
                  have d2' : ¬ (9 : Int) < (s[k].toNat : Int) - 48 := by omega
                  have d3' : (8 : Int) < (s.size : Int) := by omega
                  have w0 : wrap64 (s[k].toNat : Int) = (s[k].toNat : Int) := by unfold wrap64; omega
                  have w1 : wrap64 ((s[k].toNat : Int) - 48) = (s[k].toNat : Int) - 48 := by unfold wrap64; omega
                  have HF := Lib.hid (parseV_no (s := s) fun n hn => by have := hn.size; omega)
                  go_wp2_with fail
                  exact bodyPost_ret (v := .tuple #[.int .i64 0, .bool false]) (by simp [results, Tryz.results46, go_sem]) rfl ⟨by rw [HF.out], Bel.refl _⟩
              · have d1' : ¬ (s[k].toNat : Int) - 48 < 0 := by omega
                have d2' : (9 : Int) < (s[k].toNat : Int) - 48 := by omega
                have w0 : wrap64 (s[k].toNat : Int) = (s[k].toNat : Int) := by have := s[k].toNat_lt; unfold wrap64; omega
                have w1 : wrap64 ((s[k].toNat : Int) - 48) = (s[k].toNat : Int) - 48 := by have := s[k].toNat_lt; unfold wrap64; omega
                have HF := Lib.hid (parseV_no (s := s) fun n hn => by have := num_dig hn hkg hlt; omega)
                go_wp2_with fail
                exact bodyPost_ret (v := .tuple #[.int .i64 0, .bool false]) (by simp [results, Tryz.results46, go_sem]) rfl ⟨by rw [HF.out], Bel.refl _⟩
            · have d1' : (s[k].toNat : Int) - 48 < 0 := by omega
              have w0 : wrap64 (s[k].toNat : Int) = (s[k].toNat : Int) := by unfold wrap64; omega
              have w1 : wrap64 ((s[k].toNat : Int) - 48) = (s[k].toNat : Int) - 48 := by unfold wrap64; omega
              have HF := Lib.hid (parseV_no (s := s) fun n hn => by have := num_dig hn hkg hlt; omega)
              go_wp2_with fail
              exact bodyPost_ret (v := .tuple #[.int .i64 0, .bool false]) (by simp [results, Tryz.results46, go_sem]) rfl ⟨by rw [HF.out], Bel.refl _⟩
          · by_cases d1 : (48 : Int) ≤ (s[k].toNat : Int)
            · by_cases d2 : (s[k].toNat : Int) ≤ 57
              · by_cases d3 : s.size ≤ 8
                · have d1' : ¬ (s[k].toNat : Int) - 48 < 0 := by omega
                  have d2' : ¬ (9 : Int) < (s[k].toNat : Int) - 48 := by omega
                  have d3' : ¬ (8 : Int) < (s.size : Int) := by omega
                  have HI2 := Lib.hid (inv_step hI hkg hlt (by omega) (by omega))
                  have w0 : wrap64 (s[k].toNat : Int) = (s[k].toNat : Int) := by unfold wrap64; omega
                  have w1 : wrap64 ((s[k].toNat : Int) - 48) = (s[k].toNat : Int) - 48 := by unfold wrap64; omega
                  have w2 : IntKind.i64.wrap ((N : Int) * 10) = (N : Int) * 10 := IntWalk.i64_in _ (by omega)
                  have w3 : IntKind.i64.wrap ((N : Int) * 10 + ((s[k].toNat : Int) - 48)) = (N : Int) * 10 + ((s[k].toNat : Int) - 48) := IntWalk.i64_in _ (by omega)
                  clear hI hm
                  go_wp2_with fail
                  go_round
                  case rel => exact ⟨k + 1, _, by omega, by go_num, by congr 1; omega, HI2.out, .inl d3⟩
                  case measure => simp [intOf]; omega
                · have d1' : ¬ (s[k].toNat : Int) - 48 < 0 := by omega
                  have d2' : ¬ (9 : Int) < (s[k].toNat : Int) - 48 := by omega
                  have d3' : (8 : Int) < (s.size : Int) := by omega
                  have w0 : wrap64 (s[k].toNat : Int) = (s[k].toNat : Int) := by unfold wrap64; omega
                  have w1 : wrap64 ((s[k].toNat : Int) - 48) = (s[k].toNat : Int) - 48 := by unfold wrap64; omega
                  have HF := Lib.hid (parseV_no (s := s) fun n hn => by have := hn.size; omega)
                  go_wp2_with fail
                  exact bodyPost_ret (v := .tuple #[.int .i64 0, .bool false]) (by simp [results, Tryz.results46, go_sem]) rfl ⟨by rw [HF.out], Bel.refl _⟩
              · have d1' : ¬ (s[k].toNat : Int) - 48 < 0 := by omega
                have d2' : (9 : Int) < (s[k].toNat : Int) - 48 := by omega
                have w0 : wrap64 (s[k].toNat : Int) = (s[k].toNat : Int) := by have := s[k].toNat_lt; unfold wrap64; omega
                have w1 : wrap64 ((s[k].toNat : Int) - 48) = (s[k].toNat : Int) - 48 := by have := s[k].toNat_lt; unfold wrap64; omega
                have HF := Lib.hid (parseV_no (s := s) fun n hn => by have := num_dig hn hkg hlt; omega)
                go_wp2_with fail
                exact bodyPost_ret (v := .tuple #[.int .i64 0, .bool false]) (by simp [results, Tryz.results46, go_sem]) rfl ⟨by rw [HF.out], Bel.refl _⟩
            · have d1' : (s[k].toNat : Int) - 48 < 0 := by omega
              have w0 : wrap64 (s[k].toNat : Int) = (s[k].toNat : Int) := by unfold wrap64; omega
              have w1 : wrap64 ((s[k].toNat : Int) - 48) = (s[k].toNat : Int) - 48 := by unfold wrap64; omega
              have HF := Lib.hid (parseV_no (s := s) fun n hn => by have := num_dig hn hkg hlt; omega)
              go_wp2_with fail
              exact bodyPost_ret (v := .tuple #[.int .i64 0, .bool false]) (by simp [results, Tryz.results46, go_sem]) rfl ⟨by rw [HF.out], Bel.refl _⟩
        · obtain rfl : k = s.size := by omega
          have HIN := Lib.hid (fun n (hn : Num s n) => inv_end hI hn)
          have hw9 : IntKind.i64.wrap (-(N : Int)) = -(N : Int) := IntWalk.i64_in _ (by omega)
          have HV := Lib.hid hI
          clear hI hm
          have hE0 : ¬ s.toList = [] := fun h => hne (toList_inj (h.trans (by rw [ByteArray.toList_eq])))
          have hE1 : s.toList.isEmpty = false := by cases hl : s.toList with | nil => exact absurd hl hE0 | cons _ _ => rfl
          by_cases he : fmtV (N : Int) = s
          · have HF := Lib.hid (parseV_of (num_of he hne))
            have hE2 : ((fmtV (N : Int)).toList == s.toList) = true := by rw [he]; simp
            clear he
            go_wp2_with (go_at_call 31; (refine (sFormatInt_any (N : Int) _).mono ?_); rintro e wF ⟨rfl, gF⟩)
            exact bodyPost_ret (v := .tuple #[.int .i64 (N : Int), .bool true]) (by simp [results, Tryz.results46, go_sem]) rfl ⟨by rw [HF.out], gF⟩
          · have HF := Lib.hid (parseV_no (s := s) fun n hn => he (by rw [show (N : Int) = n from (by have := HIN.out n hn; rw [if_neg HG.out] at this; exact this.symm)]; exact hn.fmt))
            have hE2 : ((fmtV (N : Int)).toList == s.toList) = false := by rw [beq_eq_false_iff_ne]; intro h; exact he (toList_inj h)
            clear he
            go_wp2_with (go_at_call 31; (refine (sFormatInt_any (N : Int) _).mono ?_); rintro e wF ⟨rfl, gF⟩)
            exact bodyPost_ret (v := .tuple #[.int .i64 0, .bool false]) (by simp [results, Tryz.results46, go_sem]) rfl ⟨by rw [HF.out], gF⟩
end Go.Proofs.YtkfpciggolkjeaaGreatDoor
