/- Join on both sides. -/
import Derived.Test.YtkfpciggolkjeaaGreatDoorDec
import Derived.Test.YtkfpciggolkjeaaGreatDoorOpen
import Derived.Test.YtkfpciggolkjeaaGreatDoorProjF
import Derived.Lib.Join
import Derived.Lib.JoinLaws
import Derived.Test.YtkfpciggolkjeaaGreatDoorShelf
namespace Go.Proofs.YtkfpciggolkjeaaGreatDoor
open Go.ChangeShapes Go.WideShapes Go.ChangeAt Go.RowKit
set_option linter.unusedVariables false

def strsR : RepT (List ByteArray) := sliceR 1 strR
theorem strR_goodJ : Good strR := ⟨fun h _ => h, fun h _ => h⟩
theorem strsR_good : Good strsR := sliceR_good strR_goodJ
def joinB (xs : List ByteArray) (sep : ByteArray) : ByteArray := ⟨(Lib.join (xs.map (·.data.toList)) sep.data.toList).toArray⟩
theorem joinB_list (xs : List ByteArray) (sep : ByteArray) : (joinB xs sep).data.toList = Lib.join (xs.map (·.data.toList)) sep.data.toList := by simp [joinB]
theorem joinB_zero (xs : List ByteArray) (sep : ByteArray) : joinB (xs.take 0) sep = ⟨#[]⟩ := rfl
theorem joinB_one (x sep : ByteArray) : joinB [x] sep = x := bytes_ext (by rw [joinB_list]; simp [Lib.join_one])
theorem joinB_succ {xs : List ByteArray} (sep : ByteArray) {k : Nat} (h : k < xs.length) : joinB (xs.take (k + 1)) sep = if k = 0 then xs.getD k ⟨#[]⟩ else joinB (xs.take k) sep ++ sep ++ xs.getD k ⟨#[]⟩ := by
  have hg : xs.getD k ⟨#[]⟩ = xs[k] := by rw [List.getD_eq_getElem?_getD, List.getElem?_eq_getElem h]; rfl
  rw [hg]
  cases xs with
  | nil => cases h
  | cons x r =>
    cases k with
    | zero =>
      rw [if_pos rfl]
      exact joinB_one x sep
    | succ k =>
      rw [if_neg (by omega)]
      simp only [List.take_succ_cons, List.getElem_cons_succ]
      have hk : k < r.length := by simpa using h
      refine bytes_ext ?_
      rw [ByteArray.data_append, ByteArray.data_append, Array.toList_append, Array.toList_append, joinB_list, joinB_list]
      simp only [List.map_cons, Lib.join_cons, List.map_take]
      rw [Lib.joinTail_take_succ sep.data.toList _ k (r[k].data.toList) (by simp [hk])]
      simp [List.append_assoc]
theorem joinB_size {xs : List ByteArray} {sep : ByteArray} (hx : ∀ x ∈ xs, x.size ≤ 1000) (hs : sep.size ≤ 100) : ∀ k, k ≤ xs.length → (joinB (xs.take k) sep).size ≤ 1100 * k := by
  intro k
  induction k with
  | zero => intro _; exact Nat.zero_le _
  | succ k ih =>
    intro hk
    have h1 := ih (by omega)
    have h2 : (xs.getD k ⟨#[]⟩).size ≤ 1000 := by
      rw [List.getD_eq_getElem?_getD, List.getElem?_eq_getElem (by omega)]
      exact hx _ (List.getElem_mem _)
    rw [joinB_succ sep (by omega)]
    split
    · omega
    · rw [ByteArray.size_append, ByteArray.size_append]; omega
set_option maxRecDepth 100000 in
set_option maxHeartbeats 1000000 in
theorem sJoin_any (v : Value) (xs : List ByteArray) (sep : ByteArray) (S : Nat → Prop) (w : World) (hx : strsR S w [v] xs) (hb : ∀ x ∈ xs, x.size ≤ 1000) (hs : sep.size ≤ 100) (hl : xs.length ≤ 1000) :
    Calls Tryz.prog 32 #[v, .string sep] w fun e w' => e = .returned (.string (joinB xs sep)) ∧ w = w' := by
  have HX := Lib.hid (fun i hi => sliceR_at ⟨#[]⟩ hx (i := i) hi)
  obtain ⟨p, cap, rfl, l1, l2, -⟩ := sliceR_open hx
  unfold maxLen at l2
  have HSZ := Lib.hid (joinB_size hb hs)
  have HB := Lib.hid hb
  clear hx hb
  go_enter Tryz.func32, Tryz.ntmps32
  go_wp2_with fail
  go_loop [5, 10] (fun s i => ∃ k : Nat, k ≤ xs.length ∧ i = .int .i64 k ∧ s = .string (joinB (xs.take k) sep)) (fun _ i => xs.length - (intOf i).toNat)
  case atStart => exact ⟨0, Nat.zero_le _, rfl, rfl⟩
  case round =>
    obtain ⟨k, hk, rfl, rfl⟩ := hrel
    by_cases hlt : k < xs.length
    · obtain ⟨b, off, ecs, hsa, hrow, hel⟩ := HX.out k hlt
      obtain rfl : p = some ⟨b, off, none⟩ := hsa
      have e1 : ecs = [.string (xs.getD k ⟨#[]⟩)] := hel.1
      subst e1
      have d0 := (hrow 0 (by simp)).1
      simp only [List.getElem_cons_zero, Nat.add_zero, Nat.mul_one] at d0
      have hz1 := HSZ.out k hk
      have hz2 : (xs.getD k ⟨#[]⟩).size ≤ 1000 := by
        rw [List.getD_eq_getElem?_getD, List.getElem?_eq_getElem hlt]
        exact HB.out _ (List.getElem_mem _)
      have HSU := Lib.hid (joinB_succ sep hlt)
      have hki : (k : Int) < (xs.length : Int) := by omega
      generalize xs.getD k ⟨#[]⟩ = X at *
      obtain ⟨J, hJ⟩ : ∃ J, joinB (xs.take k) sep = J := ⟨_, rfl⟩
      rw [hJ] at hz1 HSU
      rw [hJ]
      have HJ0 := Lib.hid hJ
      clear hJ
      clear hrow hel
      by_cases h0 : k = 0
      · have hk0 : ¬ (0 : Int) < (k : Int) := by omega
        have HSU := Lib.hid (show joinB (xs.take (k + 1)) sep = J ++ X from by
          rw [HSU.out, if_pos h0]
          have : J = ⟨#[]⟩ := by rw [← HJ0.out, h0]; rfl
          rw [this]
          exact bytes_ext (by rw [ByteArray.data_append]; simp))
        clear h0
        go_wp2_with fail
        go_round
        case rel => exact ⟨k + 1, by omega, by go_num, by rw [HSU.out]⟩
        case measure => simp [intOf]; omega
      · have hk0 : (0 : Int) < (k : Int) := by omega
        have HSU := Lib.hid (show joinB (xs.take (k + 1)) sep = J ++ sep ++ X from by rw [HSU.out, if_neg h0])
        have hz3 : (J ++ sep).size + X.size ≤ 9223372036854775807 := by rw [ByteArray.size_append]; omega
        go_wp2_with fail
        go_round
        case rel => exact ⟨k + 1, by omega, by go_num, by rw [HSU.out]⟩
        case measure => simp [intOf]; omega
    · obtain rfl : k = xs.length := by omega
      have HJ := Lib.hid (show joinB (xs.take xs.length) sep = joinB xs sep from by rw [List.take_length])
      go_wp2
      go_ret
      first | exact ⟨rfl, rfl⟩ | exact ⟨ret_str HJ.out, rfl⟩
theorem iJoin_any (v : Value) (xs : List ByteArray) (sep : ByteArray) (S : Nat → Prop) (w : World) (hx : strsR S w [v] xs) (hS : ∀ b, S b → b < w.heap.size) (hb : ∀ x ∈ xs, x.size ≤ 1000) (hs : sep.size ≤ 100) (hl : xs.length ≤ 1000) :
    Calls Tryz.prog 40 #[v, .string sep] w fun e w' => e = .returned (.string (joinB xs sep)) ∧ Bel w w' := by
  have HX := fun i hi => sliceR_at ⟨#[]⟩ hx (i := i) hi
  have hsz := joinB_size hb hs xs.length (Nat.le_refl _)
  rw [List.take_length] at hsz
  obtain ⟨p, cap, rfl, l1, l2, hrow⟩ := sliceR_open hx
  rcases Nat.eq_zero_or_pos xs.length with h0 | h0
  · obtain rfl : xs = [] := List.eq_nil_of_length_eq_zero h0
    refine (Tryz.strings_Join_none p cap sep w).mono ?_
    rintro e w' ⟨rfl, rfl⟩
    exact ⟨rfl, Bel.refl _⟩
  · obtain ⟨b, off, ecs, h1, h2, h3, -⟩ := hrow 0 h0
    obtain rfl : p = some ⟨b, off, none⟩ := h1
    refine (Tryz.strings_Join b off cap xs sep w ?_ (hS b h2) (by omega) l1 ?_).mono ?_
    · intro j x hj
      obtain ⟨hj', rfl⟩ := List.getElem?_eq_some_iff.1 hj
      obtain ⟨b', off', ecs', e1, e2, e3⟩ := HX j hj'
      obtain ⟨rfl, rfl⟩ : b = b' ∧ off = off' := by simpa [sliceAt] using e1
      have e4 : xs.getD j ⟨#[]⟩ = xs[j] := by simp [List.getD, hj']
      rw [e4] at e3
      obtain ⟨rfl, -⟩ := e3
      have := (e2 0 (by simp)).1
      simpa using this
    · have : (Lib.join (xs.map (·.data.toList)) sep.data.toList).length = (joinB xs sep).size := by
        rw [← joinB_list, Array.length_toList]; rfl
      omega
    · rintro e w' ⟨rfl, h⟩
      exact ⟨rfl, h⟩
end Go.Proofs.YtkfpciggolkjeaaGreatDoor
