/- Rows of ints, each in blocks of its own; marks in them. -/
import Derived.Test.YtjeeajgijdcdbaaKin
import Derived.Test.YtjeeajgijdcdbaaMut
import Derived.Test.YtjeeajgijdcdbaaMark
import Derived.Test.YtjeeajgijdcdbaaEq
namespace Go.Proofs.Ytjeeajgijdcdbaa
open Go.ChangeShapes Go.WideShapes Go.ChangeAt Go.RowKit
set_option linter.unusedVariables false

/-- N rows behind the slots of block o; row i lies in blocks of G i, apart from the others and from o. -/
structure MatF (T : Nat → Prop) (w : World) (o N : Nat) (V : Nat → Value) (G : Nat → Nat → Prop) (X : Nat → List Int) : Prop where
  slot : ∀ i, i < N → w.cell? ⟨o, i, none⟩ = some (V i) ∧ w.frozen? ⟨o, i, none⟩ = false
  sub : ∀ i, i < N → ∀ b, G i b → T b ∧ b ≠ o
  row : ∀ i, i < N → intsR (G i) w [V i] (X i)
  apart : ∀ i j, i < N → j < N → i ≠ j → ∀ b, G i b → ¬ G j b
theorem matCell_keep {w w' : World} {b k : Nat} {v : Value} (h : w.cell? ⟨b, k, none⟩ = some v ∧ w.frozen? ⟨b, k, none⟩ = false) (hb : w'.heap[b]? = w.heap[b]?) : w'.cell? ⟨b, k, none⟩ = some v ∧ w'.frozen? ⟨b, k, none⟩ = false := by
  rw [World.cell?_of_block (w := w) (a := ⟨b, k, none⟩) hb, World.frozen?_of_block (w := w) (a := ⟨b, k, none⟩) hb]
  exact h
section
variable {T : Nat → Prop} {o N : Nat} {V : Nat → Value} {G : Nat → Nat → Prop} {X : Nat → List Int}
theorem MatF.congr {w : World} (h : MatF T w o N V G X) {X' : Nat → List Int} (e : ∀ i, i < N → X i = X' i) : MatF T w o N V G X' := ⟨h.slot, h.sub, fun i hi => by rw [← e i hi]; exact h.row i hi, h.apart⟩
theorem MatF.stay {w w' : World} (h : MatF T w o N V G X) (ho : w'.heap[o]? = w.heap[o]?) (hb : ∀ b, T b → w'.heap[b]? = w.heap[b]?) : MatF T w' o N V G X :=
  ⟨fun i hi => matCell_keep (h.slot i hi) ho, h.sub, fun i hi => intsR_good.stay (h.row i hi) fun b hb' => hb b (h.sub i hi b hb').1, h.apart⟩
theorem MatF.mono {w : World} (h : MatF T w o N V G X) {T' : Nat → Prop} (ht : ∀ b, T b → T' b) : MatF T' w o N V G X := ⟨h.slot, fun i hi b hb => ⟨ht b (h.sub i hi b hb).1, (h.sub i hi b hb).2⟩, h.row, h.apart⟩
/-- One row is written over. -/
theorem MatF.step {w w' : World} (h : MatF T w o N V G X) (hT : ∀ b, T b → b < w.heap.size) (ho : o < w.heap.size) {i : Nat} (hi : i < N) {y : List Int} (hm : Mut (G i) w w') (hy : intsR (G i) w' [V i] y) : MatF T w' o N V G (fun j => if j = i then y else X j) where
  slot := fun j hj => matCell_keep (h.slot j hj) (hm.block o ho fun hg => (h.sub i hi o hg).2 rfl)
  sub := h.sub
  row := fun j hj => by
    by_cases e : j = i
    · subst e; rw [if_pos rfl]; exact hy
    · rw [if_neg e]
      exact intsR_good.stay (h.row j hj) fun b hb => hm.block b (hT b (h.sub j hj b hb).1) fun hg => h.apart j i hj hi e b hb hg
  apart := h.apart
end
/-- A slice of rows, apart. -/
def matR : RepT (List (List Int)) := fun T w cs xs => ∃ p c, cs = [.slice p xs.length c] ∧ xs.length ≤ c ∧ c ≤ maxLen ∧ (xs.length = 0 ∨ ∃ o V G, p = some ⟨o, 0, none⟩ ∧ T o ∧ MatF T w o xs.length V G (fun i => xs.getD i []))
theorem matR_good : Good matR := by
  constructor
  · rintro S w w' cs xs ⟨p, c, h1, h2, h3, h4⟩ hb
    refine ⟨p, c, h1, h2, h3, ?_⟩
    rcases h4 with h4 | ⟨o, V, G, e1, e2, e3⟩
    · exact .inl h4
    · exact .inr ⟨o, V, G, e1, e2, e3.stay (hb o e2) hb⟩
  · rintro S T w cs xs ⟨p, c, h1, h2, h3, h4⟩ hb
    refine ⟨p, c, h1, h2, h3, ?_⟩
    rcases h4 with h4 | ⟨o, V, G, e1, e2, e3⟩
    · exact .inl h4
    · exact .inr ⟨o, V, G, e1, hb o e2, e3.mono hb⟩
theorem getD_get {α : Type} (xs : List α) (d : α) {i : Nat} (h : i < xs.length) : xs.getD i d = xs[i] := by rw [List.getD_eq_getElem?_getD, List.getElem?_eq_getElem h, Option.getD_some]
theorem matR_rows {T : Nat → Prop} {w : World} {cs : List Value} {xs : List (List Int)} (h : matR T w cs xs) : rowsR T w cs xs := by
  obtain ⟨p, c, h1, h2, h3, h4⟩ := h
  refine ⟨p, c, h1, h2, h3, fun i hi => ?_⟩
  rcases h4 with h4 | ⟨o, V, G, e1, e2, e3⟩
  · omega
  · refine ⟨o, 0, [V i], e1, e2, rfl, fun k hk => ?_, ?_⟩
    · obtain rfl : k = 0 := by simpa using hk
      simpa using e3.slot i hi
    · have := e3.row i hi
      rw [getD_get xs [] hi] at this
      exact intsR_good.mono this fun b hb => (e3.sub i hi b hb).1
theorem matR_nil (T : Nat → Prop) (w : World) : matR T w [.slice none 0 0] [] := ⟨none, 0, rfl, Nat.le_refl _, Nat.zero_le _, .inl rfl⟩
/-- What marks leave. -/
def mkIntSS (k : Int) (L : List Nat) : List (List Int) := (List.range L.length).map fun i => mkIntS (k + (sumL (L.take i) : Nat)) (L.getD i 0)
theorem mkIntSS_length (k : Int) (L : List Nat) : (mkIntSS k L).length = L.length := by simp [mkIntSS]
theorem mkIntSS_at (k : Int) (L : List Nat) {i : Nat} (h : i < L.length) : (mkIntSS k L).getD i [] = mkIntS (k + (sumL (L.take i) : Nat)) (L.getD i 0) := by simp [mkIntSS, h]
theorem sumL_at (L : List Nat) {i : Nat} (h : i < L.length) : L.getD i 0 = L[i] := getD_get L 0 h
theorem ret_int' {a b : Int} (h : a = b) : Ending.returned (.int .i64 a) = Ending.returned (.int .i64 b) := by rw [h]
set_option maxHeartbeats 1000000 in
theorem markIntSS_mat (v : Value) (xs : List (List Int)) (S : Nat → Prop) (k : Int) (w : World) (hx : matR S w [v] xs) (hS : ∀ b, S b → b < w.heap.size) (h0 : 0 ≤ k) (h1 : k + (sumL (xs.map List.length) : Nat) ≤ 1099511627776) :
    Calls Try.prog 19 #[v, .int .i64 k] w fun e w' => e = .returned (.int .i64 (k + (sumL (xs.map List.length) : Nat))) ∧ matR S w' [v] (mkIntSS k (xs.map List.length)) ∧ Mut S w w' := by
  obtain ⟨p, cap, hv, l1, l2, hcase⟩ := hx
  have L1 := Lib.hid l1
  have L2 := Lib.hid l2
  unfold maxLen at l2
  obtain rfl : v = .slice p xs.length cap := by simpa using hv
  clear hv
  obtain ⟨L, hL⟩ : ∃ L, xs.map List.length = L := ⟨_, rfl⟩
  have hLl : L.length = xs.length := by rw [← hL]; simp
  have HLA := Lib.hid (show ∀ i, i < xs.length → (xs.getD i []).length = L.getD i 0 from fun i hi => by
    rw [getD_get xs [] hi, getD_get L 0 (by omega)]
    simp [← hL])
  rw [hL] at h1 ⊢
  have HLL := Lib.hid hLl
  clear hL hLl
  rcases hcase with hz | ⟨o, V, G, rfl, hSo, hM⟩
  · have hz' : xs = [] := List.length_eq_zero_iff.1 hz
    subst hz'
    have hLn : L = [] := List.length_eq_zero_iff.1 HLL.out
    subst hLn
    have HRES := Lib.hid (show matR S w [.slice p 0 cap] (mkIntSS k []) from ⟨p, cap, rfl, Nat.zero_le _, L2.out, .inl rfl⟩)
    go_enter Try.func19, Try.ntmps19
    go_wp2_with fail
    go_loopw [1, 5] (fun kk i wr => i = .int .i64 0 ∧ kk = .int .i64 k ∧ wr = w) (fun _ _ _ => 0)
    case atStart => exact ⟨rfl, rfl, rfl⟩
    case round =>
      obtain ⟨rfl, rfl, rfl⟩ := hrel
      go_wp2
      go_ret
      exact ⟨ret_int' (by simp [sumL]), HRES.out, Mut.refl _ _⟩
  · have HM0 := Lib.hid hM
    have HSO := Lib.hid hSo
    have HS := Lib.hid hS
    clear hM hS hSo
    generalize hlen : xs.length = len at *
    clear hlen
    go_enter Try.func19, Try.ntmps19
    go_wp2_with fail
    go_loopw [1, 5] (fun kk i wr => ∃ j : Nat, j ≤ len ∧ i = .int .i64 j ∧ kk = .int .i64 (k + (sumL (L.take j) : Nat)) ∧ MatF S wr o len V G (fun a => if a < j then mkIntS (k + (sumL (L.take a) : Nat)) (L.getD a 0) else xs.getD a []) ∧ Mut S w wr) (fun _ i _ => len - (intOf i).toNat)
    case atStart => exact ⟨0, Nat.zero_le _, rfl, by simp [sumL], HM0.out.congr fun i _ => by rw [if_neg (Nat.not_lt_zero _)], Mut.refl _ _⟩
    case round =>
      obtain ⟨i, hi, rfl, rfl, hM, hMu⟩ := hrel
      have HM := Lib.hid hM
      have HMU := Lib.hid hMu
      have hszz := hMu.size
      by_cases hlt : i < len
      · have hii : (i : Int) < (len : Int) := by omega
        obtain ⟨s1, s2⟩ := hM.slot i hlt
        have hrow := hM.row i hlt
        simp only [Nat.lt_irrefl, if_false] at hrow
        have HROW := Lib.hid hrow
        have htk := sumTake L i (by rw [HLL.out]; exact hlt)
        have htl := sumTake_le L i
        have htl2 := sumTake_le L (i + 1)
        have hla := HLA.out i hlt
        rw [getD_get L 0 (by rw [HLL.out]; exact hlt)] at hla
        have hs0 : (0 : Int) ≤ k + (sumL (L.take i) : Nat) := by omega
        have hs1 : k + ((sumL (L.take i) : Nat) : Int) ≤ 1099511627776 := by omega
        have hrl : (xs.getD i []).length ≤ 1099511627776 := by omega
        have HTK := Lib.hid htk
        have HLG := Lib.hid hla
        clear hM hMu hrow htk hla
        go_wp2_with fail
        refine (markIntS_any _ _ (G i) _ _ HROW.out hs0 hs1 hrl).mono ?_
        rintro e wq ⟨rfl, hmk, hmu⟩
        have HNX := Lib.hid (show MatF S wq o len V G (fun a => if a < i + 1 then mkIntS (k + (sumL (L.take a) : Nat)) (L.getD a 0) else xs.getD a []) from (HM.out.step (fun b hb => Nat.lt_of_lt_of_le (HS.out b hb) hszz) (Nat.lt_of_lt_of_le (HS.out o HSO.out) hszz) hlt hmu hmk).congr fun a ha => by
          by_cases e1 : a = i
          · subst e1
            rw [if_pos rfl, if_pos (by omega), HLA.out a hlt]
          · rw [if_neg e1]
            by_cases e2 : a < i
            · rw [if_pos e2, if_pos (by omega)]
            · rw [if_neg e2, if_neg (by omega)])
        have HMX := Lib.hid (HMU.out.trans (hmu.mono fun b hb => (HM0.out.sub i hlt b hb).1))
        have hkn : k + (sumL (L.take i) : Nat) + ((1 * (xs.getD i []).length : Nat) : Int) = k + (sumL (L.take (i + 1)) : Nat) := by rw [HTK.out, ← HLG.out]; simp; omega
        rw [hkn]
        clear hmk hmu hkn
        go_wp2_with fail
        go_roundw
        case rel => exact ⟨i + 1, by omega, by go_num, rfl, HNX.out, HMX.out⟩
        case measure => simp [intOf]; omega
      · obtain rfl : i = len := by omega
        have HRES := Lib.hid (show matR S wr [.slice (some ⟨o, 0, none⟩) i cap] (mkIntSS k L) from ⟨_, cap, by rw [mkIntSS_length, HLL.out], by rw [mkIntSS_length, HLL.out]; exact L1.out, L2.out, .inr ⟨o, V, G, rfl, HSO.out, by
          rw [mkIntSS_length, HLL.out]
          exact hM.congr fun a ha => by rw [if_pos ha, mkIntSS_at k L (by rw [HLL.out]; exact ha)]⟩⟩)
        have HTA := Lib.hid (show L.take i = L from List.take_of_length_le (by rw [HLL.out]; exact Nat.le_refl _))
        clear hM hMu
        go_wp2
        go_ret
        exact ⟨by rw [HTA.out]; rfl, HRES.out, HMU.out⟩

set_option maxHeartbeats 1000000 in
theorem heldIntSS_mat (v : Value) (L : List Nat) (S : Nat → Prop) (k : Int) (w : World) (hx : matR S w [v] (mkIntSS k L)) (h0 : 0 ≤ k) (h1 : k + (sumL L : Nat) ≤ 1099511627776) :
    Calls Try.prog 21 #[v, .int .i64 k] w fun e w' => e = .returned (.int .i64 (k + (sumL L : Nat))) ∧ w = w' := by
  obtain ⟨p, cap, hv, l1, l2, hcase⟩ := hx
  rw [mkIntSS_length] at hv l1 hcase
  unfold maxLen at l2
  obtain rfl : v = .slice p L.length cap := by simpa using hv
  clear hv
  have HC := Lib.hid hcase
  clear hcase
  go_enter Try.func21, Try.ntmps21
  go_wp2_with fail
  go_loop [1, 5] (fun kk i => ∃ (j : Nat), j ≤ L.length ∧ i = .int .i64 j ∧ kk = .int .i64 (k + (sumL (L.take j) : Nat))) (fun _ i => L.length - (intOf i).toNat)
  case atStart => exact ⟨0, Nat.zero_le _, rfl, by simp [sumL]⟩
  case round =>
    obtain ⟨i, hi, rfl, rfl⟩ := hrel
    by_cases hlt : i < L.length
    · obtain ⟨o, V, G, rfl, hSo, hM⟩ : ∃ o V G, p = some ⟨o, 0, none⟩ ∧ S o ∧ MatF S w o L.length V G (fun i => (mkIntSS k L).getD i []) := by
        rcases HC.out with h | h
        · omega
        · exact h
      have hii : (i : Int) < (L.length : Int) := by omega
      obtain ⟨s1, -⟩ := hM.slot i hlt
      have hrow := hM.row i hlt
      simp only [mkIntSS_at k L hlt] at hrow
      have HROW := Lib.hid hrow
      have htk := sumTake L i hlt
      have htl := sumTake_le L i
      have htl2 := sumTake_le L (i + 1)
      have hla := getD_get L 0 hlt
      have hs0 : (0 : Int) ≤ k + (sumL (L.take i) : Nat) := by omega
      have hs1 : k + ((sumL (L.take i) : Nat) : Int) ≤ 1099511627776 := by omega
      have hrl : L.getD i 0 ≤ 1099511627776 := by omega
      have hkn : k + (sumL (L.take i) : Nat) + ((1 * L.getD i 0 : Nat) : Int) = k + (sumL (L.take (i + 1)) : Nat) := by rw [htk, hla]; simp; omega
      have hnn : ¬ k + ((sumL (L.take (i + 1)) : Nat) : Int) < 0 := by omega
      have hnn2 : (0 : Int) ≤ k + ((sumL (L.take (i + 1)) : Nat) : Int) := by omega
      have HKN := Lib.hid hkn
      clear hM hrow htk hla hkn
      go_wp2_with fail
      refine (heldIntS_any _ (L.getD i 0) (G i) _ _ HROW.out hs0 hs1 hrl).mono ?_
      rintro e wq ⟨rfl, rfl⟩
      rw [HKN.out]
      go_wp2_with fail
      go_round
      case rel => exact ⟨i + 1, by omega, by go_num, rfl⟩
      case measure => simp [intOf]; omega
    · obtain rfl : i = L.length := by omega
      go_wp2
      go_ret
      exact ⟨rfl, rfl⟩

theorem eqIntSS_mat (v v' : Value) (xs ys : List (List Int)) (S S' : Nat → Prop) (w : World) (hx : matR S w [v] xs) (hy : matR S' w [v'] ys) (hS : ∀ b, S b → b < w.heap.size) (hS' : ∀ b, S' b → b < w.heap.size) :
    Calls Try.prog 17 #[v, v'] w fun e w' => e = .returned (.bool (decide (xs = ys))) ∧ Bel w w' := eqIntSS_rep v v' xs ys S S' w (matR_rows hx) (matR_rows hy) hS hS'

theorem matR_open {T : Nat → Prop} {w : World} {v : Value} {xs : List (List Int)} (h : matR T w [v] xs) : ∃ p c, v = .slice p xs.length c ∧ xs.length ≤ c := by
  obtain ⟨p, c, h1, h2, _, _⟩ := h
  exact ⟨p, c, by simpa using h1, h2⟩
theorem sumL_same (n c : Nat) : sumL ((List.range n).map fun _ => c) = n * c := by
  rw [sumL_const]; simp [Nat.mul_comm]
end Go.Proofs.Ytjeeajgijdcdbaa
