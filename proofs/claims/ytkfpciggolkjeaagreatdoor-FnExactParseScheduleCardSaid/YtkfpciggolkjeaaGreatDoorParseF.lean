/- ParseInt, plain: the number whose text a string is. -/
import Derived.Test.YtkfpciggolkjeaaGreatDoorDec
import Derived.Lib.AtoiTie
namespace Go.Proofs.YtkfpciggolkjeaaGreatDoor
open Go.ChangeShapes Go.WideShapes Go.ChangeAt Go.RowKit
set_option linter.unusedVariables false

theorem digitVal_of {d : Nat} (h : d < 10) : Lib.digitVal (UInt8.ofNat (48 + d)) = some d := by
  have e : (UInt8.ofNat (48 + d)).toNat = 48 + d := by
    have := byte_ofNat (48 + d) (by omega)
    omega
  unfold Lib.digitVal
  rw [e, if_pos (by omega)]
  congr 1
  omega
theorem decFrom_snoc (b : UInt8) : ∀ (l : List UInt8) (acc : Nat), Lib.decFrom acc (l ++ [b]) = (Lib.decFrom acc l).bind fun n => (Lib.digitVal b).map fun d => n * 10 + d
  | [], acc => by
    simp only [List.nil_append, Lib.decFrom, Option.bind_some]
    cases Lib.digitVal b <;> rfl
  | a :: t, acc => by
    simp only [List.cons_append, Lib.decFrom]
    cases Lib.digitVal a with
    | none => rfl
    | some d => exact decFrom_snoc b t _
theorem decFrom_digits : ∀ (f u : Nat), u ≤ f → Lib.decFrom 0 (Lib.decDigits u) = some u := by
  intro f
  induction f with
  | zero =>
    intro u hu
    obtain rfl : u = 0 := by omega
    rw [Lib.decDigits_one (by omega)]
    simp only [Lib.decFrom]
    rw [digitVal_of (by omega)]
  | succ f ih =>
    intro u hu
    by_cases h : u < 10
    · rw [Lib.decDigits_one h]
      simp only [Lib.decFrom]
      rw [digitVal_of h]
      simp
    · rw [decDigits_step h, decFrom_snoc, ih (u / 10) (by omega), digitVal_of (by omega)]
      simp only [Option.bind_some, Option.map_some, Option.some.injEq]
      omega
theorem digits_ne (u : Nat) : Lib.decDigits u ≠ [] := by
  by_cases h : u < 10
  · rw [Lib.decDigits_one h]; simp
  · rw [decDigits_step h]; simp
/-- Each byte of a numeral is a digit. -/
theorem digits_digit (u : Nat) : ∀ (k : Nat) (b : UInt8), (Lib.decDigits u)[k]? = some b → ∃ d, Lib.digitVal b = some d := Lib.digit_of_decFrom _ 0 u (decFrom_digits u u (Nat.le_refl _))
theorem digits_len : ∀ (j u : Nat), u < 10 ^ (j + 1) → (Lib.decDigits u).length ≤ j + 1 := by
  intro j
  induction j with
  | zero => intro u hu; rw [Lib.decDigits_one (by simpa using hu)]; simp
  | succ j ih =>
    intro u hu
    by_cases h : u < 10
    · rw [Lib.decDigits_one h]; simp
    · rw [decDigits_step h, List.length_append]
      have := ih (u / 10) (by rw [Nat.pow_succ] at hu; omega)
      simp only [List.length_cons, List.length_nil]
      omega
theorem digits_head {u : Nat} {b : UInt8} {r : List UInt8} (h : Lib.decDigits u = b :: r) : b ≠ 45 ∧ b ≠ 43 := by
  obtain ⟨d, hd⟩ := digits_digit u 0 b (by rw [h]; rfl)
  unfold Lib.digitVal at hd
  split at hd
  · next h1 => constructor <;> (rintro rfl; revert h1; decide)
  · cases hd
theorem atoi_itoa (n : Int) : Lib.atoi (Lib.itoa n) = some n := by
  rcases Int.lt_or_le n 0 with h | h
  · obtain ⟨u, rfl⟩ : ∃ u : Nat, n = -(u : Int) := ⟨n.natAbs, by omega⟩
    rw [Lib.itoa_neg u (by omega)]
    simp [Lib.atoi, Lib.decNat, digits_ne, decFrom_digits u u (Nat.le_refl _)]
  · obtain ⟨u, rfl⟩ := Int.eq_ofNat_of_zero_le h
    rw [Lib.itoa_nonneg]
    cases hd : Lib.decDigits u with
    | nil => exact absurd hd (digits_ne u)
    | cons b r =>
      obtain ⟨h1, h2⟩ := digits_head hd
      simp only [Lib.atoi, beq_iff_eq, if_neg h1, if_neg h2, ← hd]
      simp [Lib.decNat, digits_ne, decFrom_digits u u (Nat.le_refl _)]
theorem decV_list (n : Int) : (decV n).data.toList = Lib.itoa n := by simp [decV]
theorem decV_inj {m n : Int} (h : decV m = decV n) : m = n := by
  have h1 := atoi_itoa m
  rw [← decV_list, h, decV_list, atoi_itoa] at h1
  exact (Option.some.inj h1).symm
/-- A number of the range, and its text. -/
def Num (s : ByteArray) (n : Int) : Prop := -100000 ≤ n ∧ n ≤ 100000 ∧ s = decV n
theorem Num.fmt {s : ByteArray} {n : Int} (h : Num s n) : fmtV n = s := by
  unfold fmtV
  rw [if_pos (inB_of h.1 h.2.1), h.2.2]
theorem Num.ne {s : ByteArray} {n : Int} (h : Num s n) : s ≠ ⟨#[]⟩ := by
  intro e
  have h1 := decV_list n
  rw [← h.2.2, e] at h1
  have h2 := atoi_itoa n
  rw [← h1] at h2
  cases h2
theorem num_of {s : ByteArray} {n : Int} (h : fmtV n = s) (hs : s ≠ ⟨#[]⟩) : Num s n := by
  unfold fmtV at h
  split at h
  · next hb => exact ⟨(inB_bd hb).1, (inB_bd hb).2, h.symm⟩
  · exact absurd h.symm hs
theorem Num.eq {s : ByteArray} {m n : Int} (h : Num s m) (h' : Num s n) : m = n := decV_inj (h.2.2.symm.trans h'.2.2)
theorem Num.size {s : ByteArray} {n : Int} (h : Num s n) : s.size ≤ 7 := by
  have h1 : (Lib.itoa n).length ≤ 7 := by
    rcases Int.lt_or_le n 0 with h0 | h0
    · obtain ⟨u, rfl⟩ : ∃ u : Nat, n = -(u : Int) := ⟨n.natAbs, by omega⟩
      rw [Lib.itoa_neg u (by omega)]
      have := digits_len 5 u (by have := h.1; omega)
      simp only [List.length_cons]
      omega
    · obtain ⟨u, rfl⟩ := Int.eq_ofNat_of_zero_le h0
      rw [Lib.itoa_nonneg]
      have := digits_len 5 u (by have := h.2.1; omega)
      omega
  rw [← decV_list, ← h.2.2] at h1
  simpa using h1
theorem Num.atoi {s : ByteArray} {n : Int} (h : Num s n) : Lib.atoiAll s.data.toList = .ok n := by
  have h1 := h.size
  rw [Lib.atoiAll_short _ (by rw [Array.length_toList]; exact Nat.le_trans h1 (by omega)), h.2.2, decV_list, atoi_itoa]
  rfl
open Classical in
/-- What ParseInt answers. -/
noncomputable def parseV (s : ByteArray) : Int × Bool := if h : ∃ n, Num s n then (h.choose, true) else (0, false)
theorem parseV_of {s : ByteArray} {n : Int} (h : Num s n) : parseV s = (n, true) := by
  unfold parseV
  have hx : ∃ n, Num s n := ⟨n, h⟩
  rw [dif_pos hx]
  exact congrArg (·, true) (hx.choose_spec.eq h)
theorem parseV_no {s : ByteArray} (h : ∀ n, ¬ Num s n) : parseV s = (0, false) := by
  unfold parseV
  rw [dif_neg (fun ⟨n, hn⟩ => h n hn)]
theorem list_at (s : ByteArray) {k : Nat} (h : k < s.size) : s.data.toList[k]? = some s[k] := by
  obtain ⟨⟨l⟩⟩ := s
  have h' : k < l.length := h
  show l[k]? = some l[k]
  simp [h']
/-- 1 if the text begins with a minus. -/
def ngN (s : ByteArray) : Nat := if s.data.toList.head? = some 45 then 1 else 0
theorem ngN_le (s : ByteArray) : ngN s ≤ 1 := by unfold ngN; split <;> omega
theorem ngN_at (s : ByteArray) (h : 0 < s.size) : ngN s = if s[0].toNat = 45 then 1 else 0 := by
  have h1 := list_at s h
  unfold ngN
  rw [List.head?_eq_getElem?, h1]
  by_cases e : s[0].toNat = 45
  · rw [if_pos e, if_pos (by rw [show s[0] = 45 from UInt8.toNat_inj.1 (by simpa using e)])]
  · rw [if_neg e, if_neg (by intro h2; apply e; rw [Option.some.inj h2]; rfl)]
theorem num_drop {s : ByteArray} {n : Int} (h : Num s n) : Lib.decFrom 0 (s.data.toList.drop (ngN s)) = some n.natAbs ∧ (n = if ngN s = 1 then -(n.natAbs : Int) else (n.natAbs : Int)) := by
  have hl : s.data.toList = Lib.itoa n := by rw [← decV_list, ← h.2.2]
  unfold ngN
  rw [hl]
  rcases Int.lt_or_le n 0 with h0 | h0
  · obtain ⟨u, rfl⟩ : ∃ u : Nat, n = -(u : Int) := ⟨n.natAbs, by omega⟩
    rw [Lib.itoa_neg u (by omega), if_pos (show (45 :: Lib.decDigits u).head? = some 45 from rfl)]
    refine ⟨?_, by simp⟩
    rw [List.drop_one, List.tail_cons, decFrom_digits u u (Nat.le_refl _)]
    simp
  · obtain ⟨u, rfl⟩ := Int.eq_ofNat_of_zero_le h0
    rw [Lib.itoa_nonneg]
    have h2 : ¬ (Lib.decDigits u).head? = some 45 := by
      cases hd : Lib.decDigits u with
      | nil => simp
      | cons b r => intro e; exact (digits_head hd).1 (Option.some.inj e)
    rw [if_neg h2]
    refine ⟨?_, by simp⟩
    rw [List.drop_zero, decFrom_digits u u (Nat.le_refl _)]
    simp
theorem num_dig {s : ByteArray} {n : Int} (h : Num s n) {k : Nat} (hk : ngN s ≤ k) (hlt : k < s.size) : 48 ≤ s[k].toNat ∧ s[k].toNat ≤ 57 := by
  obtain ⟨d, hd⟩ := Lib.digit_of_decFrom _ 0 _ (num_drop h).1 (k - ngN s) s[k] (by rw [List.getElem?_drop, show ngN s + (k - ngN s) = k by omega, list_at s hlt])
  unfold Lib.digitVal at hd
  split at hd
  · assumption
  · cases hd
/-- The digits before k spell N. -/
def Inv (s : ByteArray) (k N : Nat) : Prop := Lib.decFrom 0 ((s.data.toList.take k).drop (ngN s)) = some N ∧ N < 10 ^ k
theorem inv_zero (s : ByteArray) : Inv s 0 0 := ⟨by rw [List.take_zero, List.drop_nil]; rfl, by decide⟩
theorem inv_neg {s : ByteArray} (h : ngN s = 1) : Inv s 1 0 := ⟨by rw [h, List.drop_eq_nil_of_le (by rw [List.length_take]; omega)]; rfl, by decide⟩
theorem inv_step {s : ByteArray} {k N : Nat} (h : Inv s k N) (hk : ngN s ≤ k) (hlt : k < s.size) (h1 : 48 ≤ s[k].toNat) (h2 : s[k].toNat ≤ 57) : Inv s (k + 1) (N * 10 + (s[k].toNat - 48)) := by
  have hl : s.data.toList.length = s.size := by rw [Array.length_toList]; rfl
  refine ⟨?_, by have := h.2; rw [Nat.pow_succ]; omega⟩
  have e : (s.data.toList.take (k + 1)).drop (ngN s) = (s.data.toList.take k).drop (ngN s) ++ [s[k]] := by
    rw [List.take_add_one, list_at s hlt, List.drop_append_of_le_length (by rw [List.length_take]; omega)]
    rfl
  rw [e, decFrom_snoc, h.1]
  simp only [Option.bind_some, Lib.digitVal, if_pos (show 48 ≤ s[k].toNat ∧ s[k].toNat ≤ 57 from ⟨h1, h2⟩), Option.map_some]
theorem inv_end {s : ByteArray} {N : Nat} (h : Inv s s.size N) {n : Int} (hn : Num s n) : n = if ngN s = 1 then -(N : Int) else (N : Int) := by
  have hl : s.data.toList.length = s.size := by rw [Array.length_toList]; rfl
  have h1 := h.1
  rw [List.take_of_length_le (by omega)] at h1
  have h2 := num_drop hn
  rw [h1] at h2
  rw [Option.some.inj h2.1]
  exact h2.2
end Go.Proofs.YtkfpciggolkjeaaGreatDoor
