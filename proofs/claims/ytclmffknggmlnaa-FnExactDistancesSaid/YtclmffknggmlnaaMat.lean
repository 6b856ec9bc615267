/- Marks in rows apart: laid, and held. -/
import Derived.Test.YtclmffknggmlnaaMatF
import Derived.Test.YtclmffknggmlnaaMark
import Derived.Test.YtclmffknggmlnaaEq
namespace Go.Proofs.Ytclmffknggmlnaa
open Go.ChangeShapes Go.WideShapes Go.ChangeAt Go.RowKit
set_option linter.unusedVariables false

theorem ret_int' {a b : Int} (h : a = b) : Ending.returned (.int .i64 a) = Ending.returned (.int .i64 b) := by rw [h]
set_option maxHeartbeats 1000000 in
theorem markIntSS_mat (v : Value) (xs : List (List Int)) (S : Nat → Prop) (k : Int) (w : World) (hx : matR S w [v] xs) (hS : ∀ b, S b → b < w.heap.size) (h0 : 0 ≤ k) (h1 : k + (sumL (xs.map List.length) : Nat) ≤ 1099511627776) :
    Calls Try.prog 42 #[v, .int .i64 k] w fun e w' => e = .returned (.int .i64 (k + (sumL (xs.map List.length) : Nat))) ∧ matR S w' [v] (mkIntSS k (xs.map List.length)) ∧ Mut S w w' := by
  obtain ⟨p, cap, hv, l1, l2, hcase⟩ := hx
  have L1 := Lib.hid l1
  have L2 := Lib.hid l2
  unfold maxLen at l2
  obtain rfl : v = .slice p xs.length cap := by simpa using hv
  clear hv
  obtain ⟨L, hL⟩ : ∃ L, xs.map List.length = L := ⟨_, rfl⟩
  have hLl : L.length = xs.length := by rw [← hL]; simp
  have HLA := Lib.hid (show ∀ i, i < xs.length → (xs.getD i []).length = L.getD i 0 from fun i hi => by
    rw [getD_get xs [] hi, getD_get L 0 (by omega)]
    simp [← hL])
  rw [hL] at h1 ⊢
  have HLL := Lib.hid hLl
  clear hL hLl
  rcases hcase with hz | ⟨o, V, G, rfl, hSo, hM⟩
  · have hz' : xs = [] := List.length_eq_zero_iff.1 hz
    subst hz'
    have hLn : L = [] := List.length_eq_zero_iff.1 HLL.out
    subst hLn
    have HRES := Lib.hid (show matR S w [.slice p 0 cap] (mkIntSS k []) from ⟨p, cap, rfl, Nat.zero_le _, L2.out, .inl rfl⟩)
    go_enter Try.func42, Try.ntmps42
    go_wp2_with fail
    go_loopw [1, 5] (fun kk i wr => i = .int .i64 0 ∧ kk = .int .i64 k ∧ wr = w) (fun _ _ _ => 0)
    case atStart => exact ⟨rfl, rfl, rfl⟩
    case round =>
      obtain ⟨rfl, rfl, rfl⟩ := hrel
      go_wp2
      go_ret
      exact ⟨ret_int' (by simp [sumL]), HRES.out, Mut.refl _ _⟩
  · have HM0 := Lib.hid hM
    have HSO := Lib.hid hSo
    have HS := Lib.hid hS
    clear hM hS hSo
    generalize hlen : xs.length = len at *
    clear hlen
    go_enter Try.func42, Try.ntmps42
    go_wp2_with fail
    go_loopw [1, 5] (fun kk i wr => ∃ j : Nat, j ≤ len ∧ i = .int .i64 j ∧ kk = .int .i64 (k + (sumL (L.take j) : Nat)) ∧ MatF S wr o len V G (fun a => if a < j then mkIntS (k + (sumL (L.take a) : Nat)) (L.getD a 0) else xs.getD a []) ∧ Mut S w wr) (fun _ i _ => len - (intOf i).toNat)
    case atStart => exact ⟨0, Nat.zero_le _, rfl, by simp [sumL], HM0.out.congr fun i _ => by rw [if_neg (Nat.not_lt_zero _)], Mut.refl _ _⟩
    case round =>
      obtain ⟨i, hi, rfl, rfl, hM, hMu⟩ := hrel
      have HM := Lib.hid hM
      have HMU := Lib.hid hMu
      have hszz := hMu.size
      by_cases hlt : i < len
      · have hii : (i : Int) < (len : Int) := by omega
        obtain ⟨s1, s2⟩ := hM.slot i hlt
        have hrow := hM.row i hlt
        simp only [Nat.lt_irrefl, if_false] at hrow
        have HROW := Lib.hid hrow
        have htk := sumTake L i (by rw [HLL.out]; exact hlt)
        have htl := sumTake_le L i
        have htl2 := sumTake_le L (i + 1)
        have hla := HLA.out i hlt
        rw [getD_get L 0 (by rw [HLL.out]; exact hlt)] at hla
        have hs0 : (0 : Int) ≤ k + (sumL (L.take i) : Nat) := by omega
        have hs1 : k + ((sumL (L.take i) : Nat) : Int) ≤ 1099511627776 := by omega
        have hrl : (xs.getD i []).length ≤ 1099511627776 := by omega
        have HTK := Lib.hid htk
        have HLG := Lib.hid hla
        clear hM hMu hrow htk hla
        go_wp2_with fail
        refine (markIntS_any _ _ (G i) _ _ HROW.out hs0 hs1 hrl).mono ?_
        rintro e wq ⟨rfl, hmk, hmu⟩
        have HNX := Lib.hid (show MatF S wq o len V G (fun a => if a < i + 1 then mkIntS (k + (sumL (L.take a) : Nat)) (L.getD a 0) else xs.getD a []) from (HM.out.step (fun b hb => Nat.lt_of_lt_of_le (HS.out b hb) hszz) (Nat.lt_of_lt_of_le (HS.out o HSO.out) hszz) hlt hmu hmk).congr fun a ha => by
          by_cases e1 : a = i
          · subst e1
            rw [if_pos rfl, if_pos (by omega), HLA.out a hlt]
          · rw [if_neg e1]
            by_cases e2 : a < i
            · rw [if_pos e2, if_pos (by omega)]
            · rw [if_neg e2, if_neg (by omega)])
        have HMX := Lib.hid (HMU.out.trans (hmu.mono fun b hb => (HM0.out.sub i hlt b hb).1))
        have hkn : k + (sumL (L.take i) : Nat) + ((1 * (xs.getD i []).length : Nat) : Int) = k + (sumL (L.take (i + 1)) : Nat) := by rw [HTK.out, ← HLG.out]; simp; omega
        rw [hkn]
        clear hmk hmu hkn
        go_wp2_with fail
        go_roundw
        case rel => exact ⟨i + 1, by omega, by go_num, rfl, HNX.out, HMX.out⟩
        case measure => simp [intOf]; omega
      · obtain rfl : i = len := by omega
        have HRES := Lib.hid (show matR S wr [.slice (some ⟨o, 0, none⟩) i cap] (mkIntSS k L) from ⟨_, cap, by rw [mkIntSS_length, HLL.out], by rw [mkIntSS_length, HLL.out]; exact L1.out, L2.out, .inr ⟨o, V, G, rfl, HSO.out, by
          rw [mkIntSS_length, HLL.out]
          exact hM.congr fun a ha => by rw [if_pos ha, mkIntSS_at k L (by rw [HLL.out]; exact ha)]⟩⟩)
        have HTA := Lib.hid (show L.take i = L from List.take_of_length_le (by rw [HLL.out]; exact Nat.le_refl _))
        clear hM hMu
        go_wp2
        go_ret
        exact ⟨by rw [HTA.out]; rfl, HRES.out, HMU.out⟩

set_option maxHeartbeats 1000000 in
theorem heldIntSS_mat (v : Value) (L : List Nat) (S : Nat → Prop) (k : Int) (w : World) (hx : matR S w [v] (mkIntSS k L)) (h0 : 0 ≤ k) (h1 : k + (sumL L : Nat) ≤ 1099511627776) :
    Calls Try.prog 43 #[v, .int .i64 k] w fun e w' => e = .returned (.int .i64 (k + (sumL L : Nat))) ∧ w = w' := by
  obtain ⟨p, cap, hv, l1, l2, hcase⟩ := hx
  rw [mkIntSS_length] at hv l1 hcase
  unfold maxLen at l2
  obtain rfl : v = .slice p L.length cap := by simpa using hv
  clear hv
  have HC := Lib.hid hcase
  clear hcase
  go_enter Try.func43, Try.ntmps43
  go_wp2_with fail
  go_loop [1, 5] (fun kk i => ∃ (j : Nat), j ≤ L.length ∧ i = .int .i64 j ∧ kk = .int .i64 (k + (sumL (L.take j) : Nat))) (fun _ i => L.length - (intOf i).toNat)
  case atStart => exact ⟨0, Nat.zero_le _, rfl, by simp [sumL]⟩
  case round =>
    obtain ⟨i, hi, rfl, rfl⟩ := hrel
    by_cases hlt : i < L.length
    · obtain ⟨o, V, G, rfl, hSo, hM⟩ : ∃ o V G, p = some ⟨o, 0, none⟩ ∧ S o ∧ MatF S w o L.length V G (fun i => (mkIntSS k L).getD i []) := by
        rcases HC.out with h | h
        · omega
        · exact h
      have hii : (i : Int) < (L.length : Int) := by omega
      obtain ⟨s1, -⟩ := hM.slot i hlt
      have hrow := hM.row i hlt
      simp only [mkIntSS_at k L hlt] at hrow
      have HROW := Lib.hid hrow
      have htk := sumTake L i hlt
      have htl := sumTake_le L i
      have htl2 := sumTake_le L (i + 1)
      have hla := getD_get L 0 hlt
      have hs0 : (0 : Int) ≤ k + (sumL (L.take i) : Nat) := by omega
      have hs1 : k + ((sumL (L.take i) : Nat) : Int) ≤ 1099511627776 := by omega
      have hrl : L.getD i 0 ≤ 1099511627776 := by omega
      have hkn : k + (sumL (L.take i) : Nat) + ((1 * L.getD i 0 : Nat) : Int) = k + (sumL (L.take (i + 1)) : Nat) := by rw [htk, hla]; simp; omega
      have hnn : ¬ k + ((sumL (L.take (i + 1)) : Nat) : Int) < 0 := by omega
      have hnn2 : (0 : Int) ≤ k + ((sumL (L.take (i + 1)) : Nat) : Int) := by omega
      have HKN := Lib.hid hkn
      clear hM hrow htk hla hkn
      go_wp2_with fail
      refine (heldIntS_any _ (L.getD i 0) (G i) _ _ HROW.out hs0 hs1 hrl).mono ?_
      rintro e wq ⟨rfl, rfl⟩
      rw [HKN.out]
      go_wp2_with fail
      go_round
      case rel => exact ⟨i + 1, by omega, by go_num, rfl⟩
      case measure => simp [intOf]; omega
    · obtain rfl : i = L.length := by omega
      go_wp2
      go_ret
      exact ⟨rfl, rfl⟩

theorem eqIntSS_mat (v v' : Value) (xs ys : List (List Int)) (S S' : Nat → Prop) (w : World) (hx : matR S w [v] xs) (hy : matR S' w [v'] ys) (hS : ∀ b, S b → b < w.heap.size) (hS' : ∀ b, S' b → b < w.heap.size) :
    Calls Try.prog 41 #[v, v'] w fun e w' => e = .returned (.bool (decide (xs = ys))) ∧ Bel w w' := eqIntSS_rep v v' xs ys S S' w (matR_rows hx) (matR_rows hy) hS hS'

end Go.Proofs.Ytclmffknggmlnaa
