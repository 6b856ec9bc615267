/- Increasing lists of ints: the reference's way to them and the program's. No program. -/
import Derived.Test.YtiaamddhocdhaaaHas
namespace Go.Proofs.Ytiaamddhocdhaaa
open Go.RowKit
set_option linter.unusedVariables false

def Inc (l : List Int) : Prop := l.Pairwise (· < ·)
theorem inc_ext : ∀ {a b : List Int}, Inc a → Inc b → (∀ x, x ∈ a ↔ x ∈ b) → a = b := by
  intro a
  induction a with
  | nil =>
    intro b _ _ h
    cases b with
    | nil => rfl
    | cons y b => exact absurd ((h y).2 List.mem_cons_self) (by simp)
  | cons x a ih =>
    intro b ha hb h
    cases b with
    | nil => exact absurd ((h x).1 List.mem_cons_self) (by simp)
    | cons y b =>
      have ha' := List.pairwise_cons.1 ha
      have hb' := List.pairwise_cons.1 hb
      have hxy : x = y := by
        have h1 := (h x).1 List.mem_cons_self
        have h2 := (h y).2 List.mem_cons_self
        rcases List.mem_cons.1 h1 with e | h1
        · exact e
        rcases List.mem_cons.1 h2 with e | h2
        · exact e.symm
        have := ha'.1 y h2
        have := hb'.1 x h1
        omega
      subst hxy
      rw [ih ha'.2 hb'.2 fun z => ?_]
      have hz := h z
      simp only [List.mem_cons] at hz
      constructor
      · intro hm
        rcases hz.1 (.inr hm) with e | e
        · subst e; exact absurd (ha'.1 _ hm) (by omega)
        · exact e
      · intro hm
        rcases hz.2 (.inr hm) with e | e
        · subst e; exact absurd (hb'.1 _ hm) (by omega)
        · exact e
/-- How many at the front are less than n. -/
def cntL (n : Int) : List Int → Nat
  | [] => 0
  | x :: l => if x < n then cntL n l + 1 else 0
theorem cntL_le (n : Int) (l : List Int) : cntL n l ≤ l.length := by
  induction l with
  | nil => simp [cntL]
  | cons x l ih => simp only [cntL]; split <;> simp <;> omega
theorem cntL_lt (n : Int) (l : List Int) : ∀ j, j < cntL n l → l.getD j 0 < n := by
  induction l with
  | nil => intro j hj; simp [cntL] at hj
  | cons x l ih =>
    intro j hj
    simp only [cntL] at hj
    split at hj
    · cases j with
      | zero => simpa
      | succ j => simpa using ih j (by omega)
    · omega
theorem cntL_at (n : Int) (l : List Int) (h : cntL n l < l.length) : ¬ l.getD (cntL n l) 0 < n := by
  induction l with
  | nil => simp [cntL] at h
  | cons x l ih =>
    simp only [cntL] at h ⊢
    split
    · next hx =>
      rw [if_pos hx] at h
      simpa using ih (by simpa using h)
    · next hx => simpa using hx
/-- n put in its place. -/
def putL (l : List Int) (n : Int) : List Int := if hasB n l = true then l else l.take (cntL n l) ++ n :: l.drop (cntL n l)
theorem hasB_iff (n : Int) (l : List Int) : hasB n l = true ↔ n ∈ l := by unfold hasB; simp
theorem hasB_iff' (n : Int) (l : List Int) : hasB n l = false ↔ ¬ n ∈ l := by unfold hasB; simp
theorem putL_mem (l : List Int) (n x : Int) : x ∈ putL l n ↔ x ∈ l ∨ x = n := by
  unfold putL
  split
  · next h => rw [hasB_iff] at h; exact ⟨.inl, fun h' => h'.elim id fun e => by rw [e]; exact h⟩
  · rw [List.mem_append, List.mem_cons, ← or_assoc, or_comm (a := x ∈ List.take _ _), or_assoc, ← List.mem_append, List.take_append_drop, or_comm]
theorem cntL_drop {l : List Int} {n : Int} (h : Inc l) (hn : ¬ n ∈ l) : (∀ x, x ∈ l.take (cntL n l) → x < n) ∧ (∀ x, x ∈ l.drop (cntL n l) → n < x) := by
  unfold Inc at h
  induction l with
  | nil => simp
  | cons y l ih =>
    have h' := List.pairwise_cons.1 h
    have hn' : ¬ n = y ∧ ¬ n ∈ l := by simpa using hn
    simp only [cntL]
    split
    · next hy =>
      obtain ⟨i1, i2⟩ := ih h'.2 hn'.2
      refine ⟨fun x hx => ?_, fun x hx => ?_⟩
      · rw [List.take_succ_cons, List.mem_cons] at hx
        rcases hx with e | e
        · rw [e]; exact hy
        · exact i1 x e
      · rw [List.drop_succ_cons] at hx
        exact i2 x hx
    · next hy =>
      refine ⟨fun x hx => by simp at hx, fun x hx => ?_⟩
      rw [List.drop_zero, List.mem_cons] at hx
      rcases hx with e | e
      · rw [e]; omega
      · have := h'.1 x e; omega
theorem putL_inc {l : List Int} (h : Inc l) (n : Int) : Inc (putL l n) := by
  unfold putL
  split
  · exact h
  · next hn =>
    have hn' : ¬ n ∈ l := fun hm => hn ((hasB_iff n l).2 hm)
    obtain ⟨h1, h2⟩ := cntL_drop h hn'
    have h3 : Inc (l.take (cntL n l) ++ l.drop (cntL n l)) := by rw [List.take_append_drop]; exact h
    unfold Inc at h3 ⊢
    rw [List.pairwise_append] at h3 ⊢
    refine ⟨h3.1, List.pairwise_cons.2 ⟨h2, h3.2.1⟩, fun a ha b hb => ?_⟩
    rcases List.mem_cons.1 hb with e | e
    · rw [e]; exact h1 a ha
    · exact h3.2.2 a ha b e
theorem putL_length (l : List Int) (n : Int) : (putL l n).length ≤ l.length + 1 := by
  unfold putL
  have := cntL_le n l
  split
  · omega
  · simp [List.length_take, List.length_drop]; omega
/-- The set of a list. -/
def setL (l : List Int) : List Int := l.foldl putL []
theorem fold_mem (l : List Int) : ∀ (a : List Int) (x : Int), x ∈ l.foldl putL a ↔ x ∈ a ∨ x ∈ l := by
  induction l with
  | nil => intro a x; simp
  | cons y l ih => intro a x; rw [List.foldl_cons, ih, putL_mem, List.mem_cons, or_assoc]
theorem fold_inc (l : List Int) : ∀ (a : List Int), Inc a → Inc (l.foldl putL a) := by
  induction l with
  | nil => intro a h; exact h
  | cons y l ih => intro a h; exact ih _ (putL_inc h y)
theorem fold_length (l : List Int) : ∀ (a : List Int), (l.foldl putL a).length ≤ a.length + l.length := by
  induction l with
  | nil => intro a; simp
  | cons y l ih => intro a; have := ih (putL a y); have := putL_length a y; simp only [List.foldl_cons, List.length_cons]; omega
theorem setL_mem (l : List Int) (x : Int) : x ∈ setL l ↔ x ∈ l := by unfold setL; rw [fold_mem]; simp
theorem setL_inc (l : List Int) : Inc (setL l) := fold_inc l [] List.Pairwise.nil
theorem setL_length (l : List Int) : (setL l).length ≤ l.length := by have := fold_length l []; simpa [setL] using this
theorem setL_same {l : List Int} (h : Inc l) : setL l = l := inc_ext (setL_inc l) h (setL_mem l)
theorem setL_congr {a b : List Int} (h : ∀ x, x ∈ a ↔ x ∈ b) : setL a = setL b := inc_ext (setL_inc a) (setL_inc b) fun x => by rw [setL_mem, setL_mem, h]
theorem setL_snoc (l : List Int) (n : Int) : setL (l ++ [n]) = putL (setL l) n := by simp [setL]
theorem setL_getD {l : List Int} (h : ∀ x, x ∈ l → I64 x) {i : Nat} (hi : i < (setL l).length) : I64 ((setL l).getD i 0) := by
  refine h _ ((setL_mem l _).1 ?_)
  rw [List.getD_eq_getElem?_getD, List.getElem?_eq_getElem hi]
  exact List.getElem_mem hi
/-- Two neighbours change places. -/
def swpF (X : Nat → Int) (j : Nat) : Nat → Int := fun a => if a = j then X (j - 1) else if a = j - 1 then X j else X a
/-- The first i do not decrease. -/
def SrtF (X : Nat → Int) (i : Nat) : Prop := ∀ p q, p < q → q < i → X p ≤ X q
/-- The first i + 1 do not decrease, but for what comes before place j. -/
def SrtE (X : Nat → Int) (i j : Nat) : Prop := ∀ p q, p < q → q ≤ i → q ≠ j → X p ≤ X q
theorem SrtF.start {X : Nat → Int} {i : Nat} (h : SrtF X i) : SrtE X i i := fun p q h1 h2 h3 => h p q h1 (by omega)
theorem SrtE.step {X : Nat → Int} {i j : Nat} (h : SrtE X i j) (hj : 0 < j) (hji : j ≤ i) (hx : X j < X (j - 1)) : SrtE (swpF X j) i (j - 1) := by
  intro p q h1 h2 h3
  unfold swpF
  by_cases e1 : q = j
  · subst e1
    rw [if_pos rfl, if_neg (by omega)]
    by_cases e2 : p = q - 1
    · rw [if_pos e2]; omega
    · rw [if_neg e2]; exact h p (q - 1) (by omega) (by omega) (by omega)
  · rw [if_neg e1, if_neg h3]
    by_cases e2 : p = j
    · rw [if_pos e2]; exact h (j - 1) q (by omega) h2 e1
    · rw [if_neg e2]
      by_cases e3 : p = j - 1
      · rw [if_pos e3]; exact h j q (by omega) h2 e1
      · rw [if_neg e3]; exact h p q h1 h2 e1
theorem SrtE.done {X : Nat → Int} {i j : Nat} (h : SrtE X i j) (hx : j = 0 ∨ X (j - 1) ≤ X j) : SrtF X (i + 1) := by
  intro p q h1 h2
  by_cases e : q = j
  · subst e
    rcases hx with hx | hx
    · omega
    · by_cases e2 : p = q - 1
      · rw [e2]; exact hx
      · exact Int.le_trans (h p (q - 1) (by omega) (by omega) (by omega)) hx
  · exact h p q h1 (by omega) e
/-- The first n are the elements of xs. -/
def MemF (X : Nat → Int) (n : Nat) (xs : List Int) : Prop := ∀ x, (∃ a, a < n ∧ X a = x) ↔ x ∈ xs
theorem MemF.swp {X : Nat → Int} {n j : Nat} {xs : List Int} (h : MemF X n xs) (hj : 0 < j) (hn : j < n) : MemF (swpF X j) n xs := by
  intro x
  rw [← h x]
  unfold swpF
  constructor
  · rintro ⟨a, ha, e⟩
    by_cases e1 : a = j
    · rw [if_pos e1] at e; exact ⟨j - 1, by omega, e⟩
    · rw [if_neg e1] at e
      by_cases e2 : a = j - 1
      · rw [if_pos e2] at e; exact ⟨j, hn, e⟩
      · rw [if_neg e2] at e; exact ⟨a, ha, e⟩
  · rintro ⟨a, ha, e⟩
    by_cases e1 : a = j
    · exact ⟨j - 1, by omega, by rw [if_neg (by omega), if_pos rfl, ← e1]; exact e⟩
    · by_cases e2 : a = j - 1
      · exact ⟨j, hn, by rw [if_pos rfl, ← e2]; exact e⟩
      · exact ⟨a, ha, by rw [if_neg e1, if_neg e2]; exact e⟩
theorem memF_list (xs : List Int) : MemF (fun a => xs.getD a 0) xs.length xs := by
  intro x
  constructor
  · rintro ⟨a, ha, e⟩
    rw [← e]
    simp only [List.getD_eq_getElem?_getD, List.getElem?_eq_getElem ha, Option.getD_some]
    exact List.getElem_mem ha
  · intro h
    obtain ⟨a, ha, e⟩ := List.getElem_of_mem h
    exact ⟨a, ha, by simp [ha, e]⟩
/-- Of neighbours that are alike only the first stays. -/
def cmpF (X : Nat → Int) : Nat → List Int
  | 0 => []
  | m + 1 => if m ≠ 0 ∧ X m = X (m - 1) then cmpF X m else cmpF X m ++ [X m]
theorem cmpF_le (X : Nat → Int) : ∀ m, (cmpF X m).length ≤ m := by
  intro m
  induction m with
  | zero => simp [cmpF]
  | succ m ih =>
    simp only [cmpF]
    split
    · omega
    · simp; omega
theorem cmpF_mem {X : Nat → Int} : ∀ m x, x ∈ cmpF X m ↔ ∃ a, a < m ∧ X a = x := by
  intro m
  induction m with
  | zero => intro x; simp [cmpF]
  | succ m ih =>
    intro x
    simp only [cmpF]
    split
    · next h =>
      rw [ih]
      constructor
      · rintro ⟨a, ha, e⟩; exact ⟨a, by omega, e⟩
      · rintro ⟨a, ha, e⟩
        by_cases e1 : a = m
        · exact ⟨m - 1, by omega, by rw [← h.2, ← e1]; exact e⟩
        · exact ⟨a, by omega, e⟩
    · rw [List.mem_append, ih, List.mem_singleton]
      constructor
      · rintro (⟨a, ha, e⟩ | e)
        · exact ⟨a, by omega, e⟩
        · exact ⟨m, by omega, e.symm⟩
      · rintro ⟨a, ha, e⟩
        by_cases e1 : a = m
        · right; rw [← e, e1]
        · left; exact ⟨a, by omega, e⟩
theorem cmpF_inc {X : Nat → Int} : ∀ m, SrtF X m → Inc (cmpF X m) := by
  intro m
  induction m with
  | zero => intro _; simp [cmpF, Inc]
  | succ m ih =>
    intro h
    have ih' := ih fun p q h1 h2 => h p q h1 (by omega)
    simp only [cmpF]
    split
    · exact ih'
    · next hne =>
      unfold Inc
      rw [List.pairwise_append]
      refine ⟨ih', by simp, fun a ha b hb => ?_⟩
      obtain rfl : b = X m := by simpa using hb
      obtain ⟨k, hk, rfl⟩ := (cmpF_mem m a).1 ha
      have h1 : X k ≤ X (m - 1) := by
        by_cases e : k = m - 1
        · rw [e]; exact Int.le_refl _
        · exact h k (m - 1) (by omega) (by omega)
      have h2 := h (m - 1) m (by omega) (by omega)
      have h3 : X m ≠ X (m - 1) := fun e => hne ⟨by omega, e⟩
      omega
theorem cmpF_set {X : Nat → Int} {n : Nat} {xs : List Int} (h : SrtF X n) (hm : MemF X n xs) : cmpF X n = setL xs :=
  inc_ext (cmpF_inc n h) (setL_inc xs) fun x => by rw [cmpF_mem, setL_mem, hm x]
/-- No neighbours alike so far: all stay. -/
theorem cmpF_all {X : Nat → Int} : ∀ m, (∀ j, 0 < j → j < m → X j ≠ X (j - 1)) → cmpF X m = (List.range m).map X := by
  intro m
  induction m with
  | zero => intro _; simp [cmpF]
  | succ m ih =>
    intro h
    simp only [cmpF]
    rw [if_neg (fun hh => h m (by omega) (by omega) hh.2), ih fun j h1 h2 => h j h1 (by omega), List.range_succ, List.map_append]
    rfl
theorem cmpF_eq {X : Nat → Int} {m : Nat} (h0 : 0 < m) (h : X m = X (m - 1)) : cmpF X (m + 1) = cmpF X m := if_pos ⟨by omega, h⟩
theorem cmpF_ne {X : Nat → Int} {m : Nat} (h : X m ≠ X (m - 1)) : cmpF X (m + 1) = cmpF X m ++ [X m] := if_neg fun hh => h hh.2
end Go.Proofs.Ytiaamddhocdhaaa
