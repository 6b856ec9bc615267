/- ParseLiteral, plain: what the program reads. -/
import Derived.Test.YtkfpciggolkjeaaGreatDoorLitP
namespace Go.Proofs.YtkfpciggolkjeaaGreatDoor
open Go.ChangeShapes Go.WideShapes Go.ChangeAt Go.RowKit
set_option linter.unusedVariables false

theorem list_len (s : ByteArray) : s.data.toList.length = s.size := by rw [Array.length_toList]; rfl
/-- Where the name's bytes end. -/
def NameEnd (s : ByteArray) (k : Nat) : Prop := k ≤ s.size ∧ (∀ m (hm : m < s.size), m < k → nmP s[m] = true) ∧ ∀ hk : k < s.size, nmP s[k] = false
theorem LitText.imp {p : ProjT} {l : LitT} {s N : ByteArray} (h : LitText p l s N) {k : Nat} (hk : NameEnd s k) :
    s.extract 0 k = N ∧ k + (signF l.1).size ≤ s.size ∧ s.extract k (k + (signF l.1).size) = signF l.1 ∧ s.extract (k + (signF l.1).size) s.size = decV l.2.2 := by
  obtain ⟨hk1, hk2, hk3⟩ := hk
  obtain ⟨hg1, hg2, -⟩ := sign_bytes h.sgn
  have hL := congrArg List.length h.txt
  simp only [List.length_append, list_len] at hL
  have hgl : 1 ≤ (signF l.1).size := by
    rw [← list_len]
    cases hg : (signF l.1).data.toList with
    | nil => exact absurd hg hg2
    | cons _ _ => simp
  have hkN : k = N.size := by
    rcases Nat.lt_trichotomy k N.size with hlt | heq | hgt
    · exfalso
      have hks : k < s.size := by omega
      have h1 := hk3 hks
      have h2 := list_at s hks
      rw [h.txt, List.getElem?_append_left (by rw [list_len]; exact hlt)] at h2
      rw [h.nm _ (List.mem_of_getElem? h2)] at h1
      cases h1
    · exact heq
    · exfalso
      have hns : N.size < s.size := by omega
      have h1 := hk2 N.size hns hgt
      have h2 := list_at s hns
      rw [h.txt, List.getElem?_append_right (by rw [list_len]; exact Nat.le_refl _), list_len, Nat.sub_self, List.getElem?_append_left (by rw [list_len]; omega)] at h2
      rw [sg_nm (hg1 _ (List.mem_of_getElem? h2))] at h1
      cases h1
  subst hkN
  refine ⟨bytes_ext ?_, by omega, bytes_ext ?_, bytes_ext ?_⟩
  · rw [extract_list, h.txt, List.drop_zero, ← list_len N, List.take_left']
    rfl
  · rw [extract_list, h.txt, ← List.append_assoc, ← list_len N, ← list_len (signF l.1), ← List.length_append, List.take_left' rfl, List.drop_left' rfl]
  · rw [extract_list, List.take_of_length_le (by rw [list_len]; exact Nat.le_refl _), h.txt, ← List.append_assoc, ← list_len N, ← list_len (signF l.1), ← List.length_append, List.drop_left' rfl, decV_list]
/-- What the program reads, if the text is a literal's. -/
theorem litOf_imp {p : ProjT} {s : ByteArray} {l : LitT} {k : Nat} (h : LitOf p s l) (hk : NameEnd s k) :
    (k + (signF l.1).size ≤ s.size ∧ s.extract k (k + (signF l.1).size) = signF l.1) ∧ (parseV (s.extract (k + (signF l.1).size) s.size)).2 = true ∧
      l = (l.1, actIndex p.2.1 (s.extract 0 k), (parseV (s.extract (k + (signF l.1).size) s.size)).1) := by
  obtain ⟨N, ht⟩ := lit_parts h.1 h.2
  obtain ⟨e1, e2, e3, e4⟩ := ht.imp hk
  refine ⟨⟨e2, e3⟩, ?_, ?_⟩
  · rw [e4, parseV_of ht.num]
  · rw [e1, e4, parseV_of ht.num, ht.act]
theorem sign_pos {n : Int} (h : 1 ≤ n ∧ n ≤ 4) : 1 ≤ (signF n).size ∧ (signF n).size ≤ 2 := by
  refine ⟨?_, (sign_bytes h).2.2⟩
  have h2 := (sign_bytes h).2.1
  rw [← list_len]
  cases hg : (signF n).data.toList with
  | nil => exact absurd hg h2
  | cons _ _ => simp
end Go.Proofs.YtkfpciggolkjeaaGreatDoor
