/- SplitAny, plain: the parts of joined words. -/
import Derived.Test.YtkfpciggolkjeaaGreatDoorSplit
namespace Go.Proofs.YtkfpciggolkjeaaGreatDoor
open Go.ChangeShapes Go.WideShapes Go.ChangeAt Go.RowKit
set_option linter.unusedVariables false

def splitL (P : UInt8 → Bool) : List UInt8 → List UInt8 → List (List UInt8)
  | [], cur => [cur]
  | b :: r, cur => if P b = true then cur :: splitL P r [] else splitL P r (cur ++ [b])
theorem extract_list (s : ByteArray) (a b : Nat) : (s.extract a b).data.toList = (s.data.toList.take b).drop a := by
  rw [ByteArray.data_extract, Array.toList_extract, List.extract_eq_take_drop, List.drop_take]
def sepP (by_ : ByteArray) (b : UInt8) : Bool := by_.data.toList.contains b
theorem sepAt_P {s by_ : ByteArray} {k : Nat} (hk : k < s.size) : sepAt s by_ k = sepP by_ s[k] := by
  unfold sepAt sepP
  rw [Lib.contains_iff_indexByte, getD_at s hk]
theorem split_inv (s by_ : ByteArray) : ∀ k, k ≤ s.size → (splitSt s by_ k).1.map (·.data.toList) ++ splitL (sepP by_) (s.data.toList.drop k) ((s.data.toList.take k).drop (splitSt s by_ k).2) = splitL (sepP by_) s.data.toList [] := by
  have hl : s.data.toList.length = s.size := by rw [Array.length_toList]; rfl
  intro k
  induction k with
  | zero => intro _; simp [splitSt]
  | succ k ih =>
    intro hk
    rw [← ih (by omega)]
    have hlt : k < s.size := by omega
    have e1 : s.data.toList.drop k = s[k] :: s.data.toList.drop (k + 1) := by
      rw [List.drop_eq_getElem_cons (by omega)]
      rfl
    rw [e1]
    have hf := (splitSt_le s by_ k).1
    cases hp : sepAt s by_ k
    · have h2 := split_no hp
      rw [h2.1, h2.2]
      rw [sepAt_P hlt] at hp
      rw [splitL, if_neg (by rw [hp]; decide)]
      congr 2
      rw [List.take_add_one, list_at s hlt, List.drop_append_of_le_length (by rw [List.length_take]; omega)]
      rfl
    · rw [split_yes hp]
      rw [sepAt_P hlt] at hp
      rw [splitL, if_pos hp]
      simp only [List.map_append, List.map_cons, List.map_nil, List.append_assoc, List.cons_append, List.nil_append]
      have e3 : (s.data.toList.take (k + 1)).drop (k + 1) = [] := List.drop_eq_nil_of_le (by rw [List.length_take]; omega)
      rw [extract_list, e3]
theorem splitV_list (s by_ : ByteArray) : (splitV s by_).map (·.data.toList) = splitL (sepP by_) s.data.toList [] := by
  have hl : s.data.toList.length = s.size := by rw [Array.length_toList]; rfl
  have h := split_inv s by_ s.size (Nat.le_refl _)
  rw [List.drop_eq_nil_of_le (by omega)] at h
  rw [← h]
  unfold splitV
  simp only [List.map_append, List.map_cons, List.map_nil, splitL]
  rw [extract_list]
theorem splitL_word {P : UInt8 → Bool} : ∀ (w r cur : List UInt8), (∀ b ∈ w, P b = false) → splitL P (w ++ r) cur = splitL P r (cur ++ w)
  | [], r, cur, _ => by simp
  | b :: w, r, cur, h => by
    rw [List.cons_append, splitL, if_neg (by rw [h b (by simp)]; decide), splitL_word w r _ fun x hx => h x (by simp [hx])]
    simp
theorem splitL_one {P : UInt8 → Bool} {w : List UInt8} (h : ∀ b ∈ w, P b = false) : splitL P w [] = [w] := by
  have := splitL_word w [] [] h
  rw [List.append_nil] at this
  rw [this]
  simp [splitL]
theorem splitL_cons {P : UInt8 → Bool} {w r : List UInt8} {c : UInt8} (h : ∀ b ∈ w, P b = false) (hc : P c = true) : splitL P (w ++ c :: r) [] = w :: splitL P r [] := by
  rw [splitL_word w _ [] h, splitL, if_pos hc]
  simp
theorem map_list_inj : ∀ {xs ys : List ByteArray}, xs.map (·.data.toList) = ys.map (·.data.toList) → xs = ys
  | [], [], _ => rfl
  | [], _ :: _, h => by cases h
  | _ :: _, [], h => by cases h
  | x :: xs, y :: ys, h => by
    rw [List.map_cons, List.map_cons] at h
    obtain ⟨h1, h2⟩ := List.cons.inj h
    rw [bytes_ext h1, map_list_inj h2]
/-- The words of a text that is joined by a byte. -/
theorem splitL_join {P : UInt8 → Bool} {c : UInt8} (hc : P c = true) : ∀ (ws : List (List UInt8)), ws ≠ [] → (∀ w ∈ ws, ∀ b ∈ w, P b = false) → splitL P (Lib.join ws [c]) [] = ws
  | [], h, _ => absurd rfl h
  | [w], _, h => by rw [Lib.join_one]; exact splitL_one (h w (by simp))
  | w :: v :: r, _, h => by
    have e : Lib.join (w :: v :: r) [c] = w ++ c :: Lib.join (v :: r) [c] := by
      simp [Lib.join]
    rw [e, splitL_cons (h w (by simp)) hc, splitL_join hc (v :: r) (by simp) fun x hx => h x (by simp [hx])]
theorem splitV_join {ws : List ByteArray} {c : UInt8} (h : ws ≠ []) (hw : ∀ w ∈ ws, ∀ b ∈ w.data.toList, b ≠ c) : splitV (joinB ws ⟨#[c]⟩) ⟨#[c]⟩ = ws := by
  refine map_list_inj ?_
  rw [splitV_list, joinB_list]
  refine splitL_join (c := c) (by simp [sepP]) _ (by simpa using h) ?_
  intro w hw' b hb
  obtain ⟨x, hx, rfl⟩ := List.mem_map.1 hw'
  have := hw x hx b hb
  simpa [sepP] using this
theorem splitV_ne (s by_ : ByteArray) : splitV s by_ ≠ [] := by unfold splitV; simp
end Go.Proofs.YtkfpciggolkjeaaGreatDoor
