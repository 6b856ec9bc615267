/- FormatInt on both sides. -/
import Derived.Test.YtkfpciggolkjeaaGreatDoorIn
import Derived.Test.YtkfpciggolkjeaaGreatDoorShelf
import Derived.Lib.ItoaNum
import Derived.Lib.ItoaMem
import Derived.Lib.ItoaLen
import Derived.Laws.IdiomStrings
namespace Go.Proofs.YtkfpciggolkjeaaGreatDoor
open Go.ChangeShapes Go.WideShapes Go.ChangeAt Go.RowKit
set_option linter.unusedVariables false

/-- A number's text. -/
def decV (n : Int) : ByteArray := ⟨(Lib.itoa n).toArray⟩
def fmtV (n : Int) : ByteArray := if inB n (-100000) 100000 = true then decV n else ⟨#[]⟩
theorem tabIs_bel {P : Program} {w w' : World} {name : String} {k : IntKind} {zs : List Int} (h : Lib.TabIs P w name k zs) (hb : Bel w w') : Lib.TabIs P w' name k zs := by
  unfold Lib.TabIs World.var? at *
  cases hg : P.globalNamed name with
  | none => simp [hg] at h
  | some g =>
    simp only [hg, Option.bind_some] at h ⊢
    have hlt : g < w.heap.size := by
      rcases Nat.lt_or_ge g w.heap.size with h' | h'
      · exact h'
      · rw [Array.getElem?_eq_none h'] at h; simp at h
    rw [hb.block hlt]
    exact h
theorem bel_grow (w : World) (os : Array Obj) : Bel w (Go.Sort.grow w os) := ⟨rfl, rfl, rfl, by simp, fun k hk => Go.Sort.heap_grow_old w os hk⟩
theorem inB_of {n lo hi : Int} (h1 : lo ≤ n) (h2 : n ≤ hi) : inB n lo hi = true := by simp only [inB, Bool.and_eq_true, decide_eq_true_eq]; omega
theorem inB_no {n lo hi : Int} (h : inB n lo hi = false) : ¬ (lo ≤ n ∧ n ≤ hi) := fun ⟨h1, h2⟩ => by rw [inB_of h1 h2] at h; cases h
theorem inB_bd {n lo hi : Int} (h : inB n lo hi = true) : lo ≤ n ∧ n ≤ hi := by simp only [inB, Bool.and_eq_true, decide_eq_true_eq] at h; omega
theorem iFormatInt_any (n : Int) (w : World) (htab : Lib.TabIs Tryz.prog w "internal/strconv.uint64pow10" .u64 Lib.pow10Tab) :
    Calls Tryz.prog 39 #[.int .i64 n] w fun e w' => e = .returned (.string (fmtV n)) ∧ Bel w w' := by
  have HT := Lib.hid htab
  clear htab
  go_enter Tryz.func39, Tryz.ntmps39
  go_wp2_with fail
  refine (within_any _ _ _ _).mono ?_
  rintro e w' ⟨rfl, rfl⟩
  cases hb : inB n (-100000) 100000
  · have HF := Lib.hid (show fmtV n = ⟨#[]⟩ from by unfold fmtV; rw [hb]; rfl)
    go_wp2_with fail
    go_ret
    exact ⟨ret_str HF.out.symm, Bel.refl _⟩
  · have HF := Lib.hid (show fmtV n = ⟨(Lib.itoa n).toArray⟩ from by unfold fmtV; rw [hb]; rfl)
    have hbd := inB_bd hb
    go_wp2_with fail
    refine (Tryz.strconv_Itoa n (by omega) (by omega) _ HT.out).mono ?_
    rintro e w1 ⟨rfl, k, os, rfl⟩
    go_wp2_with fail
    go_ret
    exact ⟨ret_str HF.out.symm, ((Bel.refl w).drewN k).trans (bel_grow _ _)⟩
theorem decDigits_step {u : Nat} (h : ¬ u < 10) : Lib.decDigits u = Lib.decDigits (u / 10) ++ [UInt8.ofNat (48 + u % 10)] := by
  rw [Lib.decDigits, dif_neg h]
theorem bytes_cons (b : UInt8) (t : ByteArray) : ((⟨#[b]⟩ : ByteArray) ++ t).data.toList = b :: t.data.toList := by
  rw [ByteArray.data_append]; simp
theorem bytes_ext {a b : ByteArray} (h : a.data.toList = b.data.toList) : a = b := by
  cases a; cases b; exact congrArg ByteArray.mk (Array.toList_inj.1 h)
theorem byte_ofNat (x : Nat) (h : x < 256) : ((UInt8.ofNat x).toNat : Int) = x := by
  rw [UInt8.toNat_ofNat_of_lt' (by simpa using h)]
set_option maxRecDepth 100000 in
set_option maxHeartbeats 1000000 in
theorem sFormatInt_pos (u : Nat) (w : World) (hu : u ≤ 100000) :
    Calls Tryz.prog 31 #[.int .i64 u] w fun e w' => e = .returned (.string (decV u)) ∧ Bel w w' := by
  have hb : inB (u : Int) (-100000) 100000 = true := inB_of (by omega) (by omega)
  have hcv : ∀ (W : World) (x : Nat), x < 256 → Sem.run Tryz.prog (convert 101 9 (.slice (some ⟨W.heap.size, 0, none⟩) 1 1)) (W.alloc (.cells #[.int .u8 x] 5)) = .ok (.string ⟨#[UInt8.ofNat x]⟩) (W.alloc (.cells #[.int .u8 x] 5)) := fun W x hx =>
    run_convert_bytes_back _ 101 9 5 ⟨W.heap.size, 0, none⟩ 1 [UInt8.ofNat x] Tryz.underlying101 Tryz.underlying5 Tryz.underlying9 (fun j hj => by
      obtain rfl : j = 0 := by simpa using hj
      rw [List.getElem_cons_zero, byte_ofNat x hx]
      simp [go_sem])
  have HCV := Lib.hid hcv
  go_enter Tryz.func31, Tryz.ntmps31
  go_wp2_with fail
  refine (l01In_any _ _ _ _).mono ?_
  rintro e w' ⟨rfl, rfl⟩
  rw [hb]
  have hneg : ¬ (u : Int) < 0 := by omega
  go_wp2_with fail
  go_loopw [0, 3] (fun n s wr => ∃ (m : Nat) (t : ByteArray), n = .int .i64 m ∧ s = .string t ∧ m ≤ u ∧ Lib.decDigits u = Lib.decDigits m ++ t.data.toList ∧ t.size + Lib.nDigits m = Lib.nDigits u ∧ Bel w wr) (fun n _ _ => (intOf n).toNat)
  case atStart => exact ⟨u, ⟨#[]⟩, rfl, rfl, Nat.le_refl _, by simp, Nat.zero_add _, Bel.refl _⟩
  case round =>
    obtain ⟨m, t, rfl, rfl, hm, hd, hs, hB⟩ := hrel
    have HDG := Lib.hid hd
    have HSZ := Lib.hid hs
    clear hd hs
    have ht : t.size ≤ 20 := by
      have h1 := HSZ.out
      have h2 := Lib.nDigits_le20 u (by omega)
      omega
    clear hcv
    by_cases h9 : 9 < m
    · have h9i : (9 : Int) < (m : Int) := by omega
      have hrem : (m : Int).tmod 10 = ((m % 10 : Nat) : Int) := by rw [Int.tmod_eq_emod_of_nonneg (by omega)]; rfl
      have hquo : (m : Int).tdiv 10 = ((m / 10 : Nat) : Int) := by rw [Int.tdiv_eq_ediv_of_nonneg (by omega)]; rfl
      have hc2 := HCV.out wr (48 + m % 10) (by omega)
      rw [show (((48 + m % 10 : Nat)) : Int) = 48 + (m : Int) % 10 from by omega] at hc2
      obtain ⟨b8, hb8⟩ : ∃ b, UInt8.ofNat (48 + m % 10) = b := ⟨_, rfl⟩
      rw [hb8] at hc2
      have HB8 := Lib.hid hb8
      clear hb8
      have hsz : (⟨#[b8]⟩ : ByteArray).size = 1 := rfl
      go_wp2_with fail
      go_roundw
      case rel => exact ⟨m / 10, _, by go_num, rfl, by omega, by rw [HDG.out, decDigits_step (show ¬ m < 10 by omega), HB8.out, bytes_cons, List.append_assoc]; rfl, by rw [ByteArray.size_append, ← HSZ.out, Lib.nDigits_big (show ¬ m < 10 by omega), hsz]; omega, hB.trans ((Bel.refl wr).alloc _)⟩
      case measure => (simp [intOf] <;> omega)
    · have h9i : ¬ (9 : Int) < (m : Int) := by omega
      have hc2 := HCV.out wr (48 + m) (by omega)
      rw [show (((48 + m : Nat)) : Int) = 48 + (m : Int) from by omega] at hc2
      obtain ⟨b8, hb8⟩ : ∃ b, UInt8.ofNat (48 + m) = b := ⟨_, rfl⟩
      rw [hb8] at hc2
      have hsz : (⟨#[b8]⟩ : ByteArray).size = 1 := rfl
      have HRV := Lib.hid (show decV (u : Int) = ⟨#[b8]⟩ ++ t from by
        unfold decV
        rw [Lib.itoa_nonneg, HDG.out, Lib.decDigits_one (show m < 10 by omega), hb8]
        exact bytes_ext (by rw [bytes_cons]; simp))
      clear hb8
      go_wp2_with fail
      go_ret
      exact ⟨ret_str HRV.out.symm, hB.trans ((Bel.refl wr).alloc _)⟩
theorem decV_size (n : Int) (h : -9223372036854775808 ≤ n ∧ n ≤ 9223372036854775807) : (decV n).size ≤ 21 := by
  have := Lib.itoa_length_le n h.1 h.2
  show (Lib.itoa n).toArray.size ≤ 21
  simpa using this
theorem fmtV_size (n : Int) : (fmtV n).size ≤ 21 := by
  unfold fmtV
  split
  · next h => have := inB_bd h; exact decV_size n (by omega)
  · exact Nat.zero_le _
theorem fmtV_neg {u : Nat} (h1 : 1 ≤ u) (h2 : u ≤ 100000) : fmtV (-(u : Int)) = ⟨#[45]⟩ ++ decV (u : Int) := by
  unfold fmtV decV
  rw [if_pos (inB_of (by omega) (by omega)), Lib.itoa_neg u h1, Lib.itoa_nonneg]
  exact bytes_ext (by rw [bytes_cons])
set_option maxRecDepth 100000 in
set_option maxHeartbeats 1000000 in
theorem sFormatInt_any (n : Int) (w : World) :
    Calls Tryz.prog 31 #[.int .i64 n] w fun e w' => e = .returned (.string (fmtV n)) ∧ Bel w w' := by
  cases hb : inB n (-100000) 100000
  · have HF := Lib.hid (show fmtV n = ⟨#[]⟩ from by unfold fmtV; rw [hb]; rfl)
    go_enter Tryz.func31, Tryz.ntmps31
    go_wp2_with fail
    refine (l01In_any _ _ _ _).mono ?_
    rintro e w' ⟨rfl, rfl⟩
    rw [hb]
    go_wp2_with fail
    go_ret
    exact ⟨ret_str HF.out.symm, Bel.refl _⟩
  · have hbd := inB_bd hb
    rcases (show n < 0 ∨ 0 ≤ n by omega) with hn | hn
    · obtain ⟨u, rfl⟩ : ∃ u : Nat, n = -(u : Int) := ⟨n.natAbs, by omega⟩
      have hu1 : 1 ≤ u := by omega
      have hu2 : u ≤ 100000 := by omega
      have HF := Lib.hid (fmtV_neg hu1 hu2)
      have hsz := decV_size (u : Int) (by omega)
      have hz : (⟨#[45]⟩ : ByteArray).size = 1 := rfl
      have hwn : IntKind.i64.wrap (u : Int) = (u : Int) := IntWalk.i64_in _ (by omega)
      have hnn : -(u : Int) < 0 := by omega
      go_enter Tryz.func31, Tryz.ntmps31
      go_wp2_with fail
      refine (l01In_any _ _ _ _).mono ?_
      rintro e w' ⟨rfl, rfl⟩
      rw [hb]
      go_wp2_with fail
      refine (sFormatInt_pos u _ hu2).mono ?_
      rintro e w1 ⟨rfl, g1⟩
      go_wp2_with fail
      go_ret
      exact ⟨ret_str HF.out.symm, g1⟩
    · obtain ⟨u, rfl⟩ : ∃ u : Nat, n = (u : Int) := ⟨n.toNat, by omega⟩
      refine (sFormatInt_pos u w (by omega)).mono ?_
      rintro e w1 ⟨rfl, g1⟩
      exact ⟨ret_str (by unfold fmtV; rw [hb]; rfl), g1⟩
end Go.Proofs.YtkfpciggolkjeaaGreatDoor
