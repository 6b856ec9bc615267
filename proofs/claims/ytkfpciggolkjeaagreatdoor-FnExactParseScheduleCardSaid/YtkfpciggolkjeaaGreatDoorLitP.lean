/- ParseLiteral, plain: a literal's text can be read in one way. -/
import Derived.Test.YtkfpciggolkjeaaGreatDoorSplitF
import Derived.Test.YtkfpciggolkjeaaGreatDoorFmtLit
import Derived.Test.YtkfpciggolkjeaaGreatDoorActIdx
namespace Go.Proofs.YtkfpciggolkjeaaGreatDoor
open Go.ChangeShapes Go.WideShapes Go.ChangeAt Go.RowKit
set_option linter.unusedVariables false

/-- A byte of a name. -/
def nmP (b : UInt8) : Bool := (decide (97 ≤ b.toNat) && decide (b.toNat ≤ 122)) || (decide (48 ≤ b.toNat) && decide (b.toNat ≤ 57))
def sgP (b : UInt8) : Bool := sepP ⟨#[60, 62, 61, 33]⟩ b
theorem sg_nm {b : UInt8} (h : sgP b = true) : nmP b = false := by
  simp only [sgP, sepP, List.contains_iff_mem] at h
  simp only [List.mem_cons, List.not_mem_nil, or_false] at h
  rcases h with rfl | rfl | rfl | rfl <;> decide
theorem name_bytes {s : ByteArray} (h : isNameB s = true) : ∀ b ∈ s.data.toList, nmP b = true := by
  intro b hb
  obtain ⟨k, hk⟩ := List.getElem?_of_mem hb
  have hl : s.data.toList.length = s.size := by rw [Array.length_toList]; rfl
  have hlt : k < s.size := by have := (List.getElem?_eq_some_iff.1 hk).1; omega
  unfold isNameB at h
  rw [Bool.and_eq_true] at h
  have h1 := List.all_eq_true.1 h.1 k (List.mem_range.2 hlt)
  rw [list_at s hlt] at hk
  obtain rfl := Option.some.inj hk
  have h2 : byteAt s k = s[k].toNat := byteAt_eq s k hlt
  simp only [nameAt, h2, smallB, digitB, Bool.or_eq_true, Bool.and_eq_true, decide_eq_true_eq] at h1
  simp only [nmP, Bool.or_eq_true, Bool.and_eq_true, decide_eq_true_eq]
  omega
theorem sign_bytes {n : Int} (h : 1 ≤ n ∧ n ≤ 4) : (∀ b ∈ (signF n).data.toList, sgP b = true) ∧ (signF n).data.toList ≠ [] ∧ (signF n).size ≤ 2 := by
  have e : n = 1 ∨ n = 2 ∨ n = 3 ∨ n = 4 := by omega
  rcases e with rfl | rfl | rfl | rfl <;> decide
theorem sign_inj {m n : Int} (hm : 1 ≤ m ∧ m ≤ 4) (hn : 1 ≤ n ∧ n ≤ 4) (h : signF m = signF n) : m = n := by
  have e : m = 1 ∨ m = 2 ∨ m = 3 ∨ m = 4 := by omega
  have e' : n = 1 ∨ n = 2 ∨ n = 3 ∨ n = 4 := by omega
  have h' : (signF m).data.toList = (signF n).data.toList := by rw [h]
  clear h
  rcases e with rfl | rfl | rfl | rfl <;> rcases e' with rfl | rfl | rfl | rfl <;> first | rfl | (revert h'; decide)
theorem itoa_bytes (n : Int) : ∀ b ∈ Lib.itoa n, sgP b = false ∧ b ≠ 32 ∧ b ≠ 64 ∧ b ≠ 47 := by
  have dg : ∀ u : Nat, ∀ b ∈ Lib.decDigits u, sgP b = false ∧ b ≠ 32 ∧ b ≠ 64 ∧ b ≠ 47 := by
    intro u b hb
    obtain ⟨k, hk⟩ := List.getElem?_of_mem hb
    obtain ⟨d, hd⟩ := digits_digit u k b hk
    unfold Lib.digitVal at hd
    split at hd
    · next h1 =>
      refine ⟨?_, ?_, ?_, ?_⟩
      · cases hs : sgP b
        · rfl
        · simp only [sgP, sepP, List.contains_iff_mem, List.mem_cons, List.not_mem_nil, or_false] at hs
          rcases hs with rfl | rfl | rfl | rfl <;> (revert h1; decide)
      all_goals (rintro rfl; revert h1; decide)
    · cases hd
  rcases Int.lt_or_le n 0 with h0 | h0
  · obtain ⟨u, rfl⟩ : ∃ u : Nat, n = -(u : Int) := ⟨n.natAbs, by omega⟩
    rw [Lib.itoa_neg u (by omega)]
    intro b hb
    rcases List.mem_cons.1 hb with rfl | hb
    · decide
    · exact dg u b hb
  · obtain ⟨u, rfl⟩ := Int.eq_ofNat_of_zero_le h0
    rw [Lib.itoa_nonneg]
    exact dg u
theorem takeWhile_app {P : UInt8 → Bool} : ∀ (w r : List UInt8), (∀ b ∈ w, P b = true) → (∀ b, r.head? = some b → P b = false) → (w ++ r).takeWhile P = w ∧ (w ++ r).dropWhile P = r
  | [], r, _, h => by
    cases r with
    | nil => exact ⟨rfl, rfl⟩
    | cons b r => simp [h b rfl]
  | a :: w, r, h, h' => by
    have ih := takeWhile_app w r (fun b hb => h b (by simp [hb])) h'
    simp [h a (by simp), ih.1, ih.2]
/-- The parts of a valid literal's text. -/
structure LitText (p : ProjT) (l : LitT) (s : ByteArray) (N : ByteArray) : Prop where
  act : actIndex p.2.1 N = l.2.1
  sgn : 1 ≤ l.1 ∧ l.1 ≤ 4
  num : Num (decV l.2.2) l.2.2
  nm : ∀ b ∈ N.data.toList, nmP b = true
  txt : s.data.toList = N.data.toList ++ ((signF l.1).data.toList ++ Lib.itoa l.2.2)
theorem litAt_bd {l : LitT} {m : Nat} (h : litAt l m = true) (hm : m ≤ 3) : (1 ≤ l.1 ∧ l.1 ≤ 4) ∧ -100000 ≤ l.2.2 ∧ l.2.2 ≤ 100000 := by
  unfold litAt at h
  by_cases e1 : l.1 = 1
  · rw [if_pos e1] at h
    simp only [inBv, Bool.and_eq_true, decide_eq_true_eq] at h
    omega
  rw [if_neg e1] at h
  by_cases e2 : l.1 = 2
  · rw [if_pos e2] at h
    simp only [inBv, Bool.and_eq_true, decide_eq_true_eq] at h
    omega
  rw [if_neg e2] at h
  by_cases e3 : l.1 = 3
  · rw [if_pos e3] at h
    simp only [inBv, Bool.and_eq_true, decide_eq_true_eq] at h
    omega
  rw [if_neg e3] at h
  by_cases e4 : l.1 = 4
  · rw [if_pos e4] at h
    simp only [inBv, Bool.and_eq_true, decide_eq_true_eq] at h
    omega
  rw [if_neg e4] at h
  cases h
theorem lit_parts {p : ProjT} {l : LitT} {s : ByteArray} (h : litOkB p l = true) (hf : fmtLitV p l = s) : ∃ N, LitText p l s N := by
  obtain ⟨hp, k, hk, hlt⟩ := litOk_parts h
  have h1 := h
  unfold litOkB at h1
  simp only [Bool.and_eq_true] at h1
  rw [hk, Int.toNat_natCast] at h1
  have hb := litAt_bd h1.2.2 (projOk_modes hp hlt).2
  have h2 := projOk_act hp hlt
  unfold actAtOk actOkB at h2
  simp only [Bool.and_eq_true, decide_eq_true_eq] at h2
  refine ⟨(p.2.1.getD k zAct).1, by rw [h2.2, hk], hb.1, ⟨hb.2.1, hb.2.2, rfl⟩, name_bytes h2.1.2.1, ?_⟩
  rw [← hf]
  unfold fmtLitV fmtV
  rw [if_pos h, hk, Int.toNat_natCast, if_pos (inB_of hb.2.1 hb.2.2), ByteArray.data_append, ByteArray.data_append, Array.toList_append, Array.toList_append, decV_list, List.append_assoc]
theorem LitText.cut1 {p : ProjT} {l : LitT} {s N : ByteArray} (h : LitText p l s N) : s.data.toList.takeWhile nmP = N.data.toList ∧ s.data.toList.dropWhile nmP = (signF l.1).data.toList ++ Lib.itoa l.2.2 := by
  rw [h.txt]
  refine takeWhile_app _ _ h.nm ?_
  obtain ⟨h1, h2, -⟩ := sign_bytes h.sgn
  intro b hb
  cases hg : (signF l.1).data.toList with
  | nil => exact absurd hg h2
  | cons c r =>
    rw [hg] at hb
    rw [← Option.some.inj hb]
    exact sg_nm (h1 c (by rw [hg]; simp))
theorem LitText.cut2 {p : ProjT} {l : LitT} {s N : ByteArray} (h : LitText p l s N) : ((signF l.1).data.toList ++ Lib.itoa l.2.2).takeWhile sgP = (signF l.1).data.toList ∧ ((signF l.1).data.toList ++ Lib.itoa l.2.2).dropWhile sgP = Lib.itoa l.2.2 := by
  refine takeWhile_app _ _ (sign_bytes h.sgn).1 ?_
  intro b hb
  cases hg : Lib.itoa l.2.2 with
  | nil => rw [hg] at hb; cases hb
  | cons c r =>
    rw [hg] at hb
    rw [← Option.some.inj hb]
    exact (itoa_bytes l.2.2 c (by rw [hg]; simp)).1
theorem LitText.eq {p : ProjT} {l l' : LitT} {s N N' : ByteArray} (h : LitText p l s N) (h' : LitText p l' s N') : l = l' := by
  have e1 : N = N' := bytes_ext (h.cut1.1.symm.trans h'.cut1.1)
  have e2 := h.cut1.2.symm.trans h'.cut1.2
  have e3 : signF l.1 = signF l'.1 := bytes_ext (by rw [← h.cut2.1, e2, h'.cut2.1])
  have e4 : Lib.itoa l.2.2 = Lib.itoa l'.2.2 := by rw [← h.cut2.2, e2, h'.cut2.2]
  have e5 : l.2.2 = l'.2.2 := decV_inj (bytes_ext (by rw [decV_list, decV_list, e4]))
  have e6 : l.2.1 = l'.2.1 := by rw [← h.act, ← h'.act, e1]
  obtain ⟨a, b, c⟩ := l
  obtain ⟨a', b', c'⟩ := l'
  have e7 := sign_inj h.sgn h'.sgn e3
  simp only at e5 e6 e7
  rw [e5, e6, e7]
/-- A valid literal of this text. -/
def LitOf (p : ProjT) (s : ByteArray) (l : LitT) : Prop := litOkB p l = true ∧ fmtLitV p l = s
open Classical in
noncomputable def parseLitV (p : ProjT) (s : ByteArray) : LitT × Bool := if h : ∃ l, LitOf p s l then (h.choose, true) else ((0, 0, 0), false)
theorem parseLit_of {p : ProjT} {s : ByteArray} {l : LitT} (h : LitOf p s l) : parseLitV p s = (l, true) := by
  unfold parseLitV
  have hx : ∃ l, LitOf p s l := ⟨l, h⟩
  rw [dif_pos hx]
  obtain ⟨N, h1⟩ := lit_parts hx.choose_spec.1 hx.choose_spec.2
  obtain ⟨N', h2⟩ := lit_parts h.1 h.2
  exact congrArg (·, true) (h1.eq h2)
theorem parseLit_no {p : ProjT} {s : ByteArray} (h : ∀ l, ¬ LitOf p s l) : parseLitV p s = ((0, 0, 0), false) := by
  unfold parseLitV
  rw [dif_neg (fun ⟨l, hl⟩ => h l hl)]
theorem litOf_fmt {p : ProjT} {s : ByteArray} {l : LitT} (h : fmtLitV p l = s) (hs : s ≠ ⟨#[]⟩) : LitOf p s l := by
  refine ⟨?_, h⟩
  unfold fmtLitV at h
  split at h
  · assumption
  · exact absurd h.symm hs
/-- What the reference reads: the first part and the last. -/
theorem LitText.split {p : ProjT} {l : LitT} {s N : ByteArray} (h : LitText p l s N) : (splitV s ⟨#[60, 62, 61, 33]⟩).getD 0 ⟨#[]⟩ = N ∧ (splitV s ⟨#[60, 62, 61, 33]⟩).getD ((splitV s ⟨#[60, 62, 61, 33]⟩).length - 1) ⟨#[]⟩ = decV l.2.2 := by
  have e1 := splitV_list s ⟨#[60, 62, 61, 33]⟩
  have hN : ∀ b ∈ N.data.toList, sepP ⟨#[60, 62, 61, 33]⟩ b = false := by
    intro b hb
    cases hc : sepP ⟨#[60, 62, 61, 33]⟩ b
    · rfl
    · have := sg_nm (b := b) hc
      rw [h.nm b hb] at this
      cases this
  have hM : ∀ b ∈ Lib.itoa l.2.2, sepP ⟨#[60, 62, 61, 33]⟩ b = false := fun b hb => (itoa_bytes l.2.2 b hb).1
  have hsg : ∀ b ∈ (signF l.1).data.toList, sepP ⟨#[60, 62, 61, 33]⟩ b = true := (sign_bytes h.sgn).1
  have hne := (sign_bytes h.sgn).2.1
  have key : ∃ mid : List (List UInt8), splitL (sepP ⟨#[60, 62, 61, 33]⟩) s.data.toList [] = N.data.toList :: mid ++ [Lib.itoa l.2.2] := by
    rw [h.txt]
    rcases hg : (signF l.1).data.toList with _ | ⟨c, _ | ⟨d, _ | ⟨e, r⟩⟩⟩
    · exact absurd hg hne
    · refine ⟨[], ?_⟩
      rw [List.cons_append, List.nil_append, splitL_cons hN (hsg c (by rw [hg]; simp)), splitL_one hM]
      rfl
    · refine ⟨[[]], ?_⟩
      rw [List.cons_append, splitL_cons hN (hsg c (by rw [hg]; simp))]
      have e2 : splitL (sepP ⟨#[60, 62, 61, 33]⟩) ([d] ++ Lib.itoa l.2.2) [] = [] :: splitL (sepP ⟨#[60, 62, 61, 33]⟩) (Lib.itoa l.2.2) [] := by
        rw [List.cons_append, List.nil_append, splitL, if_pos (hsg d (by rw [hg]; simp))]
      rw [e2, splitL_one hM]
      rfl
    · exfalso
      have := (sign_bytes h.sgn).2.2
      have hl : (signF l.1).data.toList.length = (signF l.1).size := by rw [Array.length_toList]; rfl
      rw [hg] at hl
      simp only [List.length_cons] at hl
      omega
  obtain ⟨mid, hk⟩ := key
  rw [hk] at e1
  generalize splitV s ⟨#[60, 62, 61, 33]⟩ = ws at e1
  obtain ⟨w, r, rfl⟩ : ∃ w r, ws = w :: r := by
    cases ws with
    | nil => cases e1
    | cons w r => exact ⟨w, r, rfl⟩
  rw [List.map_cons, List.cons_append] at e1
  obtain ⟨e2, e3⟩ := List.cons.inj e1
  refine ⟨by simpa using bytes_ext e2, ?_⟩
  have e4 := congrArg List.getLast? e3
  rw [List.getLast?_concat, List.getLast?_map] at e4
  obtain ⟨z, hz, hz2⟩ := Option.map_eq_some_iff.1 e4
  have e5 : z = decV l.2.2 := bytes_ext (by rw [hz2, decV_list])
  rw [List.getLast?_eq_getElem?] at hz
  have hr : r ≠ [] := by rintro rfl; cases hz
  have hr2 : 1 ≤ r.length := by cases r with | nil => exact absurd rfl hr | cons _ _ => simp
  rw [List.length_cons, show r.length + 1 - 1 = (r.length - 1) + 1 by omega, List.getD_cons_succ, List.getD_eq_getElem?_getD, hz, e5]
  rfl
end Go.Proofs.YtkfpciggolkjeaaGreatDoor
