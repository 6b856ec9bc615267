/- laws.FnRing: for every input the law returns true, and each argument reads afterwards as it read before. No condition. -/
import Derived.Test.YtiaamddhocdhaaaBFnRing1
import Derived.Test.YtiaamddhocdhaaaHas
import Derived.Test.YtiaamddhocdhaaaMode
import Derived.Test.YtiaamddhocdhaaaApps
import Derived.Test.YtiaamddhocdhaaaMut
import Derived.Deep.OwnRows
import Derived.Lib.SliceRun
import Derived.Lib.LazyBuf
import Derived.Deep.RegionHeld3
import Derived.Conc.WalkWords
import Derived.Test.YtiaamddhocdhaaaGap
import Derived.Test.YtiaamddhocdhaaaRange
import Derived.Test.YtiaamddhocdhaaaOwn
import Derived.Test.YtiaamddhocdhaaaEq
import Derived.Test.YtiaamddhocdhaaaLit
import Derived.Laws.StructEq
import Derived.Test.YtiaamddhocdhaaaReps
import Derived.Test.YtiaamddhocdhaaaSchForm
import Derived.Test.YtiaamddhocdhaaaRows
import Derived.Test.YtiaamddhocdhaaaCur
import Derived.Test.YtiaamddhocdhaaaPos
import Derived.Test.YtiaamddhocdhaaaKeep
import Derived.Test.YtiaamddhocdhaaaRingF
import Derived.Test.YtiaamddhocdhaaaHolds
import Derived.ProofKit
import Derived.OpenShut
import Derived.ChangeOld

/- SetF -/
section
namespace Go.Proofs.Ytiaamddhocdhaaa
open Go.RowKit
set_option linter.unusedVariables false

def Inc (l : List Int) : Prop := l.Pairwise (· < ·)
theorem inc_ext : ∀ {a b : List Int}, Inc a → Inc b → (∀ x, x ∈ a ↔ x ∈ b) → a = b := by
  intro a
  induction a with
  | nil =>
    intro b _ _ h
    cases b with
    | nil => rfl
    | cons y b => exact absurd ((h y).2 List.mem_cons_self) (by simp)
  | cons x a ih =>
    intro b ha hb h
    cases b with
    | nil => exact absurd ((h x).1 List.mem_cons_self) (by simp)
    | cons y b =>
      have ha' := List.pairwise_cons.1 ha
      have hb' := List.pairwise_cons.1 hb
      have hxy : x = y := by
        have h1 := (h x).1 List.mem_cons_self
        have h2 := (h y).2 List.mem_cons_self
        rcases List.mem_cons.1 h1 with e | h1
        · exact e
        rcases List.mem_cons.1 h2 with e | h2
        · exact e.symm
        have := ha'.1 y h2
        have := hb'.1 x h1
        omega
      subst hxy
      rw [ih ha'.2 hb'.2 fun z => ?_]
      have hz := h z
      simp only [List.mem_cons] at hz
      constructor
      · intro hm
        rcases hz.1 (.inr hm) with e | e
        · subst e; exact absurd (ha'.1 _ hm) (by omega)
        · exact e
      · intro hm
        rcases hz.2 (.inr hm) with e | e
        · subst e; exact absurd (hb'.1 _ hm) (by omega)
        · exact e
/-- How many at the front are less than n. -/
def cntL (n : Int) : List Int → Nat
  | [] => 0
  | x :: l => if x < n then cntL n l + 1 else 0
theorem cntL_le (n : Int) (l : List Int) : cntL n l ≤ l.length := by
  induction l with
  | nil => simp [cntL]
  | cons x l ih => simp only [cntL]; split <;> simp <;> omega
theorem cntL_lt (n : Int) (l : List Int) : ∀ j, j < cntL n l → l.getD j 0 < n := by
  induction l with
  | nil => intro j hj; simp [cntL] at hj
  | cons x l ih =>
    intro j hj
    simp only [cntL] at hj
    split at hj
    · cases j with
      | zero => simpa
      | succ j => simpa using ih j (by omega)
    · omega
theorem cntL_at (n : Int) (l : List Int) (h : cntL n l < l.length) : ¬ l.getD (cntL n l) 0 < n := by
  induction l with
  | nil => simp [cntL] at h
  | cons x l ih =>
    simp only [cntL] at h ⊢
    split
    · next hx =>
      rw [if_pos hx] at h
      simpa using ih (by simpa using h)
    · next hx => simpa using hx
/-- n put in its place. -/
def putL (l : List Int) (n : Int) : List Int := if hasB n l = true then l else l.take (cntL n l) ++ n :: l.drop (cntL n l)
theorem hasB_iff (n : Int) (l : List Int) : hasB n l = true ↔ n ∈ l := by unfold hasB; simp
theorem hasB_iff' (n : Int) (l : List Int) : hasB n l = false ↔ ¬ n ∈ l := by unfold hasB; simp
theorem putL_mem (l : List Int) (n x : Int) : x ∈ putL l n ↔ x ∈ l ∨ x = n := by
  unfold putL
  split
  · next h => rw [hasB_iff] at h; exact ⟨.inl, fun h' => h'.elim id fun e => by rw [e]; exact h⟩
  · rw [List.mem_append, List.mem_cons, ← or_assoc, or_comm (a := x ∈ List.take _ _), or_assoc, ← List.mem_append, List.take_append_drop, or_comm]
theorem cntL_drop {l : List Int} {n : Int} (h : Inc l) (hn : ¬ n ∈ l) : (∀ x, x ∈ l.take (cntL n l) → x < n) ∧ (∀ x, x ∈ l.drop (cntL n l) → n < x) := by
  unfold Inc at h
  induction l with
  | nil => simp
  | cons y l ih =>
    have h' := List.pairwise_cons.1 h
    have hn' : ¬ n = y ∧ ¬ n ∈ l := by simpa using hn
    simp only [cntL]
    split
    · next hy =>
      obtain ⟨i1, i2⟩ := ih h'.2 hn'.2
      refine ⟨fun x hx => ?_, fun x hx => ?_⟩
      · rw [List.take_succ_cons, List.mem_cons] at hx
        rcases hx with e | e
        · rw [e]; exact hy
        · exact i1 x e
      · rw [List.drop_succ_cons] at hx
        exact i2 x hx
    · next hy =>
      refine ⟨fun x hx => by simp at hx, fun x hx => ?_⟩
      rw [List.drop_zero, List.mem_cons] at hx
      rcases hx with e | e
      · rw [e]; omega
      · have := h'.1 x e; omega
theorem putL_inc {l : List Int} (h : Inc l) (n : Int) : Inc (putL l n) := by
  unfold putL
  split
  · exact h
  · next hn =>
    have hn' : ¬ n ∈ l := fun hm => hn ((hasB_iff n l).2 hm)
    obtain ⟨h1, h2⟩ := cntL_drop h hn'
    have h3 : Inc (l.take (cntL n l) ++ l.drop (cntL n l)) := by rw [List.take_append_drop]; exact h
    unfold Inc at h3 ⊢
    rw [List.pairwise_append] at h3 ⊢
    refine ⟨h3.1, List.pairwise_cons.2 ⟨h2, h3.2.1⟩, fun a ha b hb => ?_⟩
    rcases List.mem_cons.1 hb with e | e
    · rw [e]; exact h1 a ha
    · exact h3.2.2 a ha b e
theorem putL_length (l : List Int) (n : Int) : (putL l n).length ≤ l.length + 1 := by
  unfold putL
  have := cntL_le n l
  split
  · omega
  · simp [List.length_take, List.length_drop]; omega
/-- The set of a list. -/
def setL (l : List Int) : List Int := l.foldl putL []
theorem fold_mem (l : List Int) : ∀ (a : List Int) (x : Int), x ∈ l.foldl putL a ↔ x ∈ a ∨ x ∈ l := by
  induction l with
  | nil => intro a x; simp
  | cons y l ih => intro a x; rw [List.foldl_cons, ih, putL_mem, List.mem_cons, or_assoc]
theorem fold_inc (l : List Int) : ∀ (a : List Int), Inc a → Inc (l.foldl putL a) := by
  induction l with
  | nil => intro a h; exact h
  | cons y l ih => intro a h; exact ih _ (putL_inc h y)
theorem fold_length (l : List Int) : ∀ (a : List Int), (l.foldl putL a).length ≤ a.length + l.length := by
  induction l with
  | nil => intro a; simp
  | cons y l ih => intro a; have := ih (putL a y); have := putL_length a y; simp only [List.foldl_cons, List.length_cons]; omega
theorem setL_mem (l : List Int) (x : Int) : x ∈ setL l ↔ x ∈ l := by unfold setL; rw [fold_mem]; simp
theorem setL_inc (l : List Int) : Inc (setL l) := fold_inc l [] List.Pairwise.nil
theorem setL_length (l : List Int) : (setL l).length ≤ l.length := by have := fold_length l []; simpa [setL] using this
theorem setL_same {l : List Int} (h : Inc l) : setL l = l := inc_ext (setL_inc l) h (setL_mem l)
theorem setL_congr {a b : List Int} (h : ∀ x, x ∈ a ↔ x ∈ b) : setL a = setL b := inc_ext (setL_inc a) (setL_inc b) fun x => by rw [setL_mem, setL_mem, h]
theorem setL_snoc (l : List Int) (n : Int) : setL (l ++ [n]) = putL (setL l) n := by simp [setL]
theorem setL_getD {l : List Int} (h : ∀ x, x ∈ l → I64 x) {i : Nat} (hi : i < (setL l).length) : I64 ((setL l).getD i 0) := by
  refine h _ ((setL_mem l _).1 ?_)
  rw [List.getD_eq_getElem?_getD, List.getElem?_eq_getElem hi]
  exact List.getElem_mem hi
/-- Two neighbours change places. -/
def swpF (X : Nat → Int) (j : Nat) : Nat → Int := fun a => if a = j then X (j - 1) else if a = j - 1 then X j else X a
/-- The first i do not decrease. -/
def SrtF (X : Nat → Int) (i : Nat) : Prop := ∀ p q, p < q → q < i → X p ≤ X q
/-- The first i + 1 do not decrease, but for what comes before place j. -/
def SrtE (X : Nat → Int) (i j : Nat) : Prop := ∀ p q, p < q → q ≤ i → q ≠ j → X p ≤ X q
theorem SrtF.start {X : Nat → Int} {i : Nat} (h : SrtF X i) : SrtE X i i := fun p q h1 h2 h3 => h p q h1 (by omega)
theorem SrtE.step {X : Nat → Int} {i j : Nat} (h : SrtE X i j) (hj : 0 < j) (hji : j ≤ i) (hx : X j < X (j - 1)) : SrtE (swpF X j) i (j - 1) := by
  intro p q h1 h2 h3
  unfold swpF
  by_cases e1 : q = j
  · subst e1
    rw [if_pos rfl, if_neg (by omega)]
    by_cases e2 : p = q - 1
    · rw [if_pos e2]; omega
    · rw [if_neg e2]; exact h p (q - 1) (by omega) (by omega) (by omega)
  · rw [if_neg e1, if_neg h3]
    by_cases e2 : p = j
    · rw [if_pos e2]; exact h (j - 1) q (by omega) h2 e1
    · rw [if_neg e2]
      by_cases e3 : p = j - 1
      · rw [if_pos e3]; exact h j q (by omega) h2 e1
      · rw [if_neg e3]; exact h p q h1 h2 e1
theorem SrtE.done {X : Nat → Int} {i j : Nat} (h : SrtE X i j) (hx : j = 0 ∨ X (j - 1) ≤ X j) : SrtF X (i + 1) := by
  intro p q h1 h2
  by_cases e : q = j
  · subst e
    rcases hx with hx | hx
    · omega
    · by_cases e2 : p = q - 1
      · rw [e2]; exact hx
      · exact Int.le_trans (h p (q - 1) (by omega) (by omega) (by omega)) hx
  · exact h p q h1 (by omega) e
/-- The first n are the elements of xs. -/
def MemF (X : Nat → Int) (n : Nat) (xs : List Int) : Prop := ∀ x, (∃ a, a < n ∧ X a = x) ↔ x ∈ xs
theorem MemF.swp {X : Nat → Int} {n j : Nat} {xs : List Int} (h : MemF X n xs) (hj : 0 < j) (hn : j < n) : MemF (swpF X j) n xs := by
  intro x
  rw [← h x]
  unfold swpF
  constructor
  · rintro ⟨a, ha, e⟩
    by_cases e1 : a = j
    · rw [if_pos e1] at e; exact ⟨j - 1, by omega, e⟩
    · rw [if_neg e1] at e
      by_cases e2 : a = j - 1
      · rw [if_pos e2] at e; exact ⟨j, hn, e⟩
      · rw [if_neg e2] at e; exact ⟨a, ha, e⟩
  · rintro ⟨a, ha, e⟩
    by_cases e1 : a = j
    · exact ⟨j - 1, by omega, by rw [if_neg (by omega), if_pos rfl, ← e1]; exact e⟩
    · by_cases e2 : a = j - 1
      · exact ⟨j, hn, by rw [if_pos rfl, ← e2]; exact e⟩
      · exact ⟨a, ha, by rw [if_neg e1, if_neg e2]; exact e⟩
theorem memF_list (xs : List Int) : MemF (fun a => xs.getD a 0) xs.length xs := by
  intro x
  constructor
  · rintro ⟨a, ha, e⟩
    rw [← e]
    simp only [List.getD_eq_getElem?_getD, List.getElem?_eq_getElem ha, Option.getD_some]
    exact List.getElem_mem ha
  · intro h
    obtain ⟨a, ha, e⟩ := List.getElem_of_mem h
    exact ⟨a, ha, by simp [ha, e]⟩
/-- Of neighbours that are alike only the first stays. -/
def cmpF (X : Nat → Int) : Nat → List Int
  | 0 => []
  | m + 1 => if m ≠ 0 ∧ X m = X (m - 1) then cmpF X m else cmpF X m ++ [X m]
theorem cmpF_le (X : Nat → Int) : ∀ m, (cmpF X m).length ≤ m := by
  intro m
  induction m with
  | zero => simp [cmpF]
  | succ m ih =>
    simp only [cmpF]
    split
    · omega
    · simp; omega
theorem cmpF_mem {X : Nat → Int} : ∀ m x, x ∈ cmpF X m ↔ ∃ a, a < m ∧ X a = x := by
  intro m
  induction m with
  | zero => intro x; simp [cmpF]
  | succ m ih =>
    intro x
    simp only [cmpF]
    split
    · next h =>
      rw [ih]
      constructor
      · rintro ⟨a, ha, e⟩; exact ⟨a, by omega, e⟩
      · rintro ⟨a, ha, e⟩
        by_cases e1 : a = m
        · exact ⟨m - 1, by omega, by rw [← h.2, ← e1]; exact e⟩
        · exact ⟨a, by omega, e⟩
    · rw [List.mem_append, ih, List.mem_singleton]
      constructor
      · rintro (⟨a, ha, e⟩ | e)
        · exact ⟨a, by omega, e⟩
        · exact ⟨m, by omega, e.symm⟩
      · rintro ⟨a, ha, e⟩
        by_cases e1 : a = m
        · right; rw [← e, e1]
        · left; exact ⟨a, by omega, e⟩
theorem cmpF_inc {X : Nat → Int} : ∀ m, SrtF X m → Inc (cmpF X m) := by
  intro m
  induction m with
  | zero => intro _; simp [cmpF, Inc]
  | succ m ih =>
    intro h
    have ih' := ih fun p q h1 h2 => h p q h1 (by omega)
    simp only [cmpF]
    split
    · exact ih'
    · next hne =>
      unfold Inc
      rw [List.pairwise_append]
      refine ⟨ih', by simp, fun a ha b hb => ?_⟩
      obtain rfl : b = X m := by simpa using hb
      obtain ⟨k, hk, rfl⟩ := (cmpF_mem m a).1 ha
      have h1 : X k ≤ X (m - 1) := by
        by_cases e : k = m - 1
        · rw [e]; exact Int.le_refl _
        · exact h k (m - 1) (by omega) (by omega)
      have h2 := h (m - 1) m (by omega) (by omega)
      have h3 : X m ≠ X (m - 1) := fun e => hne ⟨by omega, e⟩
      omega
theorem cmpF_set {X : Nat → Int} {n : Nat} {xs : List Int} (h : SrtF X n) (hm : MemF X n xs) : cmpF X n = setL xs :=
  inc_ext (cmpF_inc n h) (setL_inc xs) fun x => by rw [cmpF_mem, setL_mem, hm x]
/-- No neighbours alike so far: all stay. -/
theorem cmpF_all {X : Nat → Int} : ∀ m, (∀ j, 0 < j → j < m → X j ≠ X (j - 1)) → cmpF X m = (List.range m).map X := by
  intro m
  induction m with
  | zero => intro _; simp [cmpF]
  | succ m ih =>
    intro h
    simp only [cmpF]
    rw [if_neg (fun hh => h m (by omega) (by omega) hh.2), ih fun j h1 h2 => h j h1 (by omega), List.range_succ, List.map_append]
    rfl
theorem cmpF_eq {X : Nat → Int} {m : Nat} (h0 : 0 < m) (h : X m = X (m - 1)) : cmpF X (m + 1) = cmpF X m := if_pos ⟨by omega, h⟩
theorem cmpF_ne {X : Nat → Int} {m : Nat} (h : X m ≠ X (m - 1)) : cmpF X (m + 1) = cmpF X m ++ [X m] := if_neg fun hh => h hh.2
end Go.Proofs.Ytiaamddhocdhaaa
end

/- SideF -/
section
namespace Go.Proofs.Ytiaamddhocdhaaa
open Go.RowKit
set_option linter.unusedVariables false

/-- Does link k touch a on this side; and what stands on its other side. -/
def sideB (a : Int) (back : Bool) (k : LinkT) : Bool := if back = true then decide (k.2.1 = a) else decide (k.1 = a)
def sideE (back : Bool) (k : LinkT) : Int := if back = true then k.1 else k.2.1
def sideTo (ls : List LinkT) (a : Int) (back : Bool) : Nat → List Int
  | 0 => []
  | j + 1 => if sideB a back (ls.getD j zLink) = true then sideTo ls a back j ++ [sideE back (ls.getD j zLink)] else sideTo ls a back j
theorem sideTo_yes {ls : List LinkT} {a : Int} {back : Bool} {j : Nat} (h : sideB a back (ls.getD j zLink) = true) : sideTo ls a back (j + 1) = sideTo ls a back j ++ [sideE back (ls.getD j zLink)] := if_pos h
theorem sideTo_no {ls : List LinkT} {a : Int} {back : Bool} {j : Nat} (h : sideB a back (ls.getD j zLink) = false) : sideTo ls a back (j + 1) = sideTo ls a back j := if_neg (by rw [h]; decide)
theorem sideTo_le (ls : List LinkT) (a : Int) (back : Bool) : ∀ j, (sideTo ls a back j).length ≤ j := by
  intro j
  induction j with
  | zero => simp [sideTo]
  | succ j ih =>
    simp only [sideTo]
    split
    · simp; omega
    · omega
theorem sideTo_mem (ls : List LinkT) (a : Int) (back : Bool) : ∀ j, j ≤ ls.length → ∀ x, x ∈ sideTo ls a back j → ∃ i, i < ls.length ∧ x = sideE back (ls.getD i zLink) := by
  intro j
  induction j with
  | zero => intro _ x h; simp [sideTo] at h
  | succ j ih =>
    intro hj x h
    simp only [sideTo] at h
    split at h
    · rcases List.mem_append.1 h with h | h
      · exact ih (by omega) x h
      · exact ⟨j, by omega, by simpa using h⟩
    · exact ih (by omega) x h
/-- The set of a's neighbours on one side. -/
def sideV (p : ProjT) (a : Int) (back : Bool) : List Int := setL (sideTo p.2.2.1 a back p.2.2.1.length)
theorem sideV_le (p : ProjT) (a : Int) (back : Bool) : (sideV p a back).length ≤ p.2.2.1.length := Nat.le_trans (setL_length _) (sideTo_le _ _ _ _)
def nbrV (p : ProjT) (a : Int) (back : Bool) : List Int := if projOk p = true ∧ inB a 0 ((p.2.1.length : Int) - 1) = true then sideV p a back else []
theorem nbrV_len (p : ProjT) (a : Int) (back : Bool) : (nbrV p a back).length ≤ 1048576 := by
  unfold nbrV
  split
  · next h =>
    have := sideV_le p a back
    have := (projOk_bd h.1).2.2.2.2.1
    omega
  · simp
def sucV (p : ProjT) (a : Int) : List Int := nbrV p a false
def preV (p : ProjT) (a : Int) : List Int := nbrV p a true
theorem sucV_len (p : ProjT) (a : Int) : (sucV p a).length ≤ 1048576 := nbrV_len p a false
theorem preV_len (p : ProjT) (a : Int) : (preV p a).length ≤ 1048576 := nbrV_len p a true
/-- Activities without predecessors. -/
def rootB (p : ProjT) (a : Nat) : Bool := decide ((sideV p (a : Int) true).length = 0)
def rootTo (p : ProjT) (k : Nat) : List Int := ((List.range k).filter (rootB p)).map fun (a : Nat) => (a : Int)
theorem rootTo_yes {p : ProjT} {k : Nat} (h : rootB p k = true) : rootTo p (k + 1) = rootTo p k ++ [(k : Int)] := by simp [rootTo, List.range_succ, List.filter_append, h]
theorem rootTo_no {p : ProjT} {k : Nat} (h : rootB p k = false) : rootTo p (k + 1) = rootTo p k := by simp [rootTo, List.range_succ, List.filter_append, h]
theorem rootTo_le (p : ProjT) (k : Nat) : (rootTo p k).length ≤ k := by
  unfold rootTo
  rw [List.length_map]
  exact Nat.le_trans (List.length_filter_le _ _) (by simp)
def rootV (p : ProjT) : List Int := if projOk p = true then rootTo p p.2.1.length else []
theorem rootV_len (p : ProjT) : (rootV p).length ≤ 1048576 := by
  unfold rootV
  split
  · next h =>
    have := rootTo_le p p.2.1.length
    have := (projOk_bd h).2.1
    omega
  · simp
end Go.Proofs.Ytiaamddhocdhaaa
end

/- Sort -/
section
namespace Go.Proofs.Ytiaamddhocdhaaa
open Go.ChangeShapes Go.WideShapes Go.ChangeAt Go.RowKit
set_option linter.unusedVariables false

/-- A row of cells whose first n are ints. -/
def rowN (n : Nat) (X : Nat → Int) (R : Nat → Value) : Nat → Value := fun a => if a < n then .int .i64 (X a) else R a
theorem rowN_at {n : Nat} {X : Nat → Int} {R : Nat → Value} {a : Nat} (h : a < n) : rowN n X R a = .int .i64 (X a) := if_pos h
theorem mut_drewN {S : Nat → Prop} {a b : World} (h : Mut S a b) (k : Nat) : Mut S a (b.drewN k) := h.trans (Mut.ofBel (Bel.refl _ |>.drewN _))
theorem mut_drew {S : Nat → Prop} {a b : World} (h : Mut S a b) : Mut S a b.drew := h.trans (Mut.ofBel (Bel.refl _ |>.drew))
theorem mut_setCells {S : Nat → Prop} {a : World} {g : Nat} (hg : S g) : ∀ (vs : List Value) (q : Nat) (b : World), Mut S a b → Mut S a (b.setCells g q vs)
  | [], _, _, h => h
  | v :: r, q, b, h => mut_setCells hg r (q + 1) _ (h.set g q v hg)
theorem rowIs_sub {w : World} {b n m c : Nat} {t : TypeId} {F : Nat → Value} {xs : List Int} {T : Nat → Prop} (h : w.rowIs b t n F) (hm : m ≤ n) (hl : xs.length = m) (hx : ∀ a, a < m → F a = .int .i64 (xs.getD a 0)) (hi : ∀ x, x ∈ xs → I64 x) (hT : T b) (hc : m ≤ c ∧ c ≤ maxLen) : intsR T w [.slice (some ⟨b, 0, none⟩) m c] xs := by
  refine ⟨some ⟨b, 0, none⟩, c, by rw [hl], by rw [hl]; exact hc.1, hc.2, fun k hk => ?_⟩
  refine ⟨b, 0, [.int .i64 xs[k]], rfl, hT, rfl, fun j hj => ?_, rfl, hi _ (List.getElem_mem hk)⟩
  obtain rfl : j = 0 := by simpa using hj
  have h1 := h.cell (i := k) (by omega)
  have h2 := h.frozen k
  rw [hx k (by omega)] at h1
  have e : xs.getD k 0 = xs[k] := by simp [List.getD, hk]
  rw [e] at h1
  simpa using ⟨h1, h2⟩
theorem isNaN_any (x : Int) (w : World) : Calls Try.prog 144 #[.int .i64 x] w fun e w' => e = .returned (.bool false) ∧ w = w' := by
  go_enter Try.func144, Try.ntmps144
  go_wp2
  go_ret
  exact ⟨by simp, rfl⟩
theorem less_any (x y : Int) (w : World) : Calls Try.prog 190 #[.int .i64 x, .int .i64 y] w fun e w' => e = .returned (.bool (decide (x < y))) ∧ w = w' := by
  go_enter Try.func190, Try.ntmps190
  go_wp2_with (go_at_call 144; refine (isNaN_any _ _).mono ?_; rintro e w' ⟨rfl, rfl⟩)
  go_ret
  exact ⟨by simp, rfl⟩

set_option maxRecDepth 100000 in
set_option maxHeartbeats 1000000 in
theorem insSort_any (g c n : Nat) (X0 : Nat → Int) (R : Nat → Value) (w : World) (hr : w.rowIs g 3 c (rowN n X0 R)) (hn : n ≤ c) (hc : c ≤ 9223372036854775807) : Calls Try.prog 184 #[.slice (some ⟨g, 0, none⟩) n c, .int .i64 0, .int .i64 n] w fun e w' => e = .returned (.tuple #[]) ∧ ∃ Y, SrtF Y n ∧ (∀ xs, MemF X0 n xs → MemF Y n xs) ∧ w'.rowIs g 3 c (rowN n Y R) ∧ Mut (fun b => b = g) w w' := by
  have HR0 := Lib.hid hr
  clear hr
  go_enter Try.func184, Try.ntmps184
  go_wp2_with fail
  go_loopw [6] (fun i wr => ∃ (i' : Nat) (X : Nat → Int), 1 ≤ i' ∧ i' ≤ n + 1 ∧ i = .int .i64 i' ∧ SrtF X i' ∧ (∀ xs, MemF X0 n xs → MemF X n xs) ∧ wr.rowIs g 3 c (rowN n X R) ∧ Mut (fun b => b = g) w wr) (fun i _ => n + 1 - (intOf i).toNat)
  case atStart => exact ⟨1, X0, Nat.le_refl _, by omega, by first | rfl | go_num, fun p q h1 h2 => by omega, fun _ h => h, HR0.out, Mut.refl _ _⟩
  case round =>
    obtain ⟨i, X, hi1, hin, rfl, hsr, hmem, hrow, hmu⟩ := hrel
    have HSR := Lib.hid hsr
    have HME := Lib.hid hmem
    have HRW := Lib.hid hrow
    have HMU0 := Lib.hid hmu
    clear hsr hmem hrow hmu
    by_cases hlt : i < n
    · have hii : (i : Int) < (n : Int) := by omega
      obtain ⟨Wb, hWb⟩ : ∃ W, W = wr := ⟨wr, rfl⟩
      subst hWb
      go_wp2_with fail
      go_loopw [7] (fun jv wr => ∃ (j : Nat) (X : Nat → Int), j ≤ i ∧ jv = .int .i64 j ∧ SrtE X i j ∧ (∀ xs, MemF X0 n xs → MemF X n xs) ∧ wr.rowIs g 3 c (rowN n X R) ∧ Mut (fun b => b = g) w wr) (fun jv _ => (intOf jv).toNat)
      case atStart => exact ⟨i, X, Nat.le_refl _, rfl, HSR.out.start, HME.out, HRW.out, HMU0.out⟩
      case round =>
        obtain ⟨j, X, hji, rfl, hsr, hmem, hrow, hmu⟩ := hrel
        have HSR := Lib.hid hsr
        have HME := Lib.hid hmem
        have HR := Lib.hid hrow
        have HMU := Lib.hid hmu
        clear hsr hmem hrow hmu HRW HMU0
        by_cases hj0 : j = 0
        · have HSD := Lib.hid (HSR.out.done (.inl hj0))
          subst hj0
          go_wp2_with fail
          go_quiet (fail)
          go_wp2_with fail
          go_roundw
          case rel => exact ⟨i + 1, X, by omega, by omega, by go_num, HSD.out, HME.out, HR.out, mut_drewN HMU.out _⟩
          case measure => simp [intOf]; omega
        · obtain ⟨m, hm⟩ : ∃ m, m + 1 = j := ⟨j - 1, by omega⟩
          have hsub : IntKind.i64.wrap ((j : Int) - 1) = (m : Int) := by
            rw [show (j : Int) - 1 = (m : Int) from by omega]
            exact IntWalk.i64_in _ (by omega)
          have hj0i : (0 : Int) < (j : Int) := by omega
          have hj0n : 0 < j := by omega
          have hjn : (j : Int) < (n : Int) := by omega
          have hmn : (m : Int) < (n : Int) := by omega
          have hmm : j - 1 = m := by omega
          have hne1 : ¬ j = m := by omega
          have hmlt : m < j := by omega
          have hne2 : ¬ m = j := by omega
          have c1 := HR.out.cell (i := j) (by omega)
          have c0 := HR.out.cell (i := m) (by omega)
          have f1 := HR.out.frozen j
          have f0 := HR.out.frozen m
          rw [rowN_at (by omega)] at c1 c0
          have HMM := Lib.hid hmm
          have HM := Lib.hid hm
          clear hmm hm
          have HDN := Lib.hid (fun (h : X m ≤ X j) => HSR.out.done (.inr (by rw [HMM.out]; exact h)))
          have HSTP := Lib.hid (fun (h : X j < X m) => show SrtE (swpF X j) i m from by
            have := HSR.out.step (by omega) hji (by rw [HMM.out]; exact h)
            rw [HMM.out] at this
            exact this)
          have HMEM := Lib.hid (fun xs (h : MemF X0 n xs) => (HME.out xs h).swp (j := j) (by omega) (by omega))
          have HROW := Lib.hid (fun a => show (if a = m then Value.int .i64 (X j) else if a = j then Value.int .i64 (X m) else rowN n X R a) = rowN n (swpF X j) R a from by
            unfold rowN swpF
            rw [HMM.out]
            have := HM.out
            by_cases e1 : a = j
            · rw [if_neg (by omega), if_pos e1, if_pos (by omega), if_pos e1]
            · by_cases e2 : a = m
              · rw [if_pos e2, if_pos (by omega), if_neg e1, if_pos e2]
              · rw [if_neg e2, if_neg e1, if_neg e1, if_neg e2])
          generalize hXJ : X j = XJ at *
          generalize hXM : X m = XM at *
          have HXJ := Lib.hid hXJ
          have HXM := Lib.hid hXM
          clear hXJ hXM hj0
          by_cases hl : XJ < XM
          · have HSTP := Lib.hid (HSTP.out hl)
            have hlb : decide (XJ < XM) = true := decide_eq_true hl
            go_wp2_with fail
            go_quiet ((go_at_call 190; exact quiet_one (less_any _ _ _)))
            go_wp2_with fail
            refine wp_region_held_drew (S := (fun W => Hid True)) (by kernel_rfl) ?_ (fun hHeld => ?_)
            · ((try dsimp only); exact Lib.hid trivial)
            refine wpAnyH_take (i := 0) (v := ?_) rfl (by kernel_rfl) (by kernel_rfl) (by kernel_rfl) (fun _ _ _ h => h) (Or.inl ⟨by rfl, ?_⟩) (by assumption) ?_
            rotate_left
            · (intro w hSw; (try dsimp only at hSw); go_simp <;> with_reducible rfl)
            try walk_nrm
            refine wpAnyH_take (i := 1) (v := ?_) rfl (by kernel_rfl) (by kernel_rfl) (by kernel_rfl) (fun _ _ _ h => h) (Or.inl ⟨by rfl, ?_⟩) (by assumption) ?_
            rotate_left
            · (intro w hSw; (try dsimp only at hSw); go_simp <;> with_reducible rfl)
            try walk_nrm
            refine wpAnyH_take (i := 2) (v := ?_) rfl (by kernel_rfl) (by kernel_rfl) (by kernel_rfl) (fun _ _ _ h => h) (Or.inl ⟨by rfl, ?_⟩) (by assumption) ?_
            rotate_left
            · (intro w hSw; (try dsimp only at hSw); go_simp <;> with_reducible rfl)
            try walk_nrm
            refine wpAnyH_take (i := 3) (v := ?_) rfl (by kernel_rfl) (by kernel_rfl) (by kernel_rfl) (fun _ _ _ h => h) (Or.inl ⟨by rfl, ?_⟩) (by assumption) ?_
            rotate_left
            · (intro w hSw; (try dsimp only at hSw); go_simp <;> with_reducible rfl)
            try walk_nrm
            refine wpAnyH_take (i := 4) (v := ?_) rfl (by kernel_rfl) (by kernel_rfl) (by kernel_rfl) (fun _ _ _ h => h) (Or.inl ⟨by rfl, ?_⟩) (by assumption) ?_
            rotate_left
            · (intro w hSw; (try dsimp only at hSw); go_simp <;> with_reducible rfl)
            try walk_nrm
            refine wpAnyH_take (i := 5) (v := ?_) rfl (by kernel_rfl) (by kernel_rfl) (by kernel_rfl) (fun _ _ _ h => h) (Or.inl ⟨by rfl, ?_⟩) (by assumption) ?_
            rotate_left
            · (intro w hSw; (try dsimp only at hSw); go_simp <;> with_reducible rfl)
            try walk_nrm
            refine wpAnyH_take (i := 6) (v := ?_) rfl (by kernel_rfl) (by kernel_rfl) (by kernel_rfl) (fun _ _ _ h => h) (Or.inl ⟨by rfl, ?_⟩) (by assumption) ?_
            rotate_left
            · (intro w hSw; (try dsimp only at hSw); go_simp <;> with_reducible rfl)
            try walk_nrm
            refine wpAnyH_take (i := 7) (v := ?_) rfl (by kernel_rfl) (by kernel_rfl) (by kernel_rfl) (fun _ _ _ h => h) (Or.inl ⟨by rfl, ?_⟩) (by assumption) ?_
            rotate_left
            · (intro w hSw; (try dsimp only at hSw); go_simp <;> with_reducible rfl)
            try walk_nrm
            refine wpAnyH_take (i := 8) (v := ?_) rfl (by kernel_rfl) (by kernel_rfl) (by kernel_rfl) (fun _ _ _ h => h) (Or.inl ⟨by rfl, ?_⟩) (by assumption) ?_
            rotate_left
            · (intro w hSw; (try dsimp only at hSw); go_simp <;> with_reducible rfl)
            try walk_nrm
            refine wpAnyH_take (i := 10) (v := ?_) rfl (by kernel_rfl) (by kernel_rfl) (by kernel_rfl) (fun _ _ _ h => h) (Or.inl ⟨by rfl, ?_⟩) (by assumption) ?_
            rotate_left
            · (intro w hSw; (try dsimp only at hSw); go_simp <;> with_reducible rfl)
            try walk_nrm
            refine wpAnyH_take (i := 11) (v := ?_) rfl (by kernel_rfl) (by kernel_rfl) (by kernel_rfl) (fun _ _ _ h => h) (Or.inl ⟨by rfl, ?_⟩) (by assumption) ?_
            rotate_left
            · (intro w hSw; (try dsimp only at hSw); go_simp <;> with_reducible rfl)
            try walk_nrm
            refine wpAnyH_take (i := 12) (v := ?_) rfl (by kernel_rfl) (by kernel_rfl) (by kernel_rfl) (fun _ _ _ h => h) (Or.inl ⟨by rfl, ?_⟩) (by assumption) ?_
            rotate_left
            · (intro w hSw; (try dsimp only at hSw); go_simp <;> with_reducible rfl)
            try walk_nrm
            refine wpAnyH_ready (rs := [9, 13]) (by kernel_rfl) (by simp) ?_
            refine AllReadyH.cons rfl (fun K hK => ?_) ?_
            · go_simp
              refine hK.out _ _ ?_ (fun hHeld => ?_)
              · ((try dsimp only); exact Lib.hid trivial)
              clear hK K
              try walk_nrm
              refine wpAnyH_ready (rs := [13]) (by kernel_rfl) (by simp) ?_
              refine AllReadyH.cons rfl (fun K hK => ?_) AllReadyH.nil
              · go_simp
                refine hK.out _ _ ?_ (fun hHeld => ?_)
                · ((try dsimp only); exact Lib.hid trivial)
                clear hK K
                try walk_nrm
                refine wpAnyH_take (i := 14) (v := ?_) rfl (by kernel_rfl) (by kernel_rfl) (by kernel_rfl) (fun _ _ _ h => h) (Or.inl ⟨by rfl, ?_⟩) (by assumption) ?_
                rotate_left
                · (intro w hSw; (try dsimp only at hSw); go_simp <;> with_reducible rfl)
                try walk_nrm
                refine wpAnyH_ready (rs := [15]) (by kernel_rfl) (by simp) ?_
                refine AllReadyH.cons rfl (fun K hK => ?_) AllReadyH.nil
                · go_simp
                  refine hK.out _ _ ?_ (fun hHeld => ?_)
                  · ((try dsimp only); exact Lib.hid trivial)
                  clear hK K
                  try walk_nrm
                  refine wpAnyH_take (i := 16) (v := ?_) rfl (by kernel_rfl) (by kernel_rfl) (by kernel_rfl) (fun _ _ _ h => h) (Or.inl ⟨by rfl, ?_⟩) (by assumption) ?_
                  rotate_left
                  · (intro w hSw; (try dsimp only at hSw); go_simp <;> with_reducible rfl)
                  try walk_nrm
                  refine wpAnyH_ready (rs := [17]) (by kernel_rfl) (by simp) ?_
                  refine AllReadyH.cons rfl (fun K hK => ?_) AllReadyH.nil
                  · go_simp
                    refine hK.out _ _ ?_ (fun hHeld => ?_)
                    · ((try dsimp only); exact Lib.hid trivial)
                    clear hK K
                    try walk_nrm
                    refine wpAnyH_done (by kernel_rfl) ?_ _
                    go_wp2_with fail
                    exact ⟨⟨m, swpF X j, by omega, rfl, HSTP.out, HMEM.out, ((HR.out.set j _).set m _).congr (fun a _ => HROW.out a), ((mut_drewN HMU.out _).set g j _ rfl).set g m _ rfl⟩, by simp [intOf]; omega⟩
            refine AllReadyH.cons rfl (fun K hK => ?_) AllReadyH.nil
            · go_simp
              refine hK.out _ _ ?_ (fun hHeld => ?_)
              · ((try dsimp only); exact Lib.hid trivial)
              clear hK K
              try walk_nrm
              refine wpAnyH_ready (rs := [9]) (by kernel_rfl) (by simp) ?_
              refine AllReadyH.cons rfl (fun K hK => ?_) AllReadyH.nil
              · go_simp
                refine hK.out _ _ ?_ (fun hHeld => ?_)
                · ((try dsimp only); exact Lib.hid trivial)
                clear hK K
                try walk_nrm
                refine wpAnyH_take (i := 14) (v := ?_) rfl (by kernel_rfl) (by kernel_rfl) (by kernel_rfl) (fun _ _ _ h => h) (Or.inl ⟨by rfl, ?_⟩) (by assumption) ?_
                rotate_left
                · (intro w hSw; (try dsimp only at hSw); go_simp <;> with_reducible rfl)
                try walk_nrm
                refine wpAnyH_ready (rs := [15]) (by kernel_rfl) (by simp) ?_
                refine AllReadyH.cons rfl (fun K hK => ?_) AllReadyH.nil
                · go_simp
                  refine hK.out _ _ ?_ (fun hHeld => ?_)
                  · ((try dsimp only); exact Lib.hid trivial)
                  clear hK K
                  try walk_nrm
                  refine wpAnyH_take (i := 16) (v := ?_) rfl (by kernel_rfl) (by kernel_rfl) (by kernel_rfl) (fun _ _ _ h => h) (Or.inl ⟨by rfl, ?_⟩) (by assumption) ?_
                  rotate_left
                  · (intro w hSw; (try dsimp only at hSw); go_simp <;> with_reducible rfl)
                  try walk_nrm
                  refine wpAnyH_ready (rs := [17]) (by kernel_rfl) (by simp) ?_
                  refine AllReadyH.cons rfl (fun K hK => ?_) AllReadyH.nil
                  · go_simp
                    refine hK.out _ _ ?_ (fun hHeld => ?_)
                    · ((try dsimp only); exact Lib.hid trivial)
                    clear hK K
                    try walk_nrm
                    refine wpAnyH_done (by kernel_rfl) ?_ _
                    go_wp2_with fail
                    exact ⟨⟨m, swpF X j, by omega, rfl, HSTP.out, HMEM.out, ((HR.out.set j _).set m _).congr (fun a _ => HROW.out a), ((mut_drewN HMU.out _).set g j _ rfl).set g m _ rfl⟩, by simp [intOf]; omega⟩
          · have HDN := Lib.hid (HDN.out (by omega))
            have hlb : decide (XJ < XM) = false := decide_eq_false hl
            go_wp2_with fail
            go_quiet ((go_at_call 190; exact quiet_one (less_any _ _ _)))
            go_wp2_with fail
            go_roundw
            case rel => exact ⟨i + 1, X, by omega, by omega, by go_num, HDN.out, HME.out, HR.out, mut_drewN HMU.out _⟩
            case measure => simp [intOf]; omega
    · have HSD := Lib.hid (show SrtF X n from fun p q h1 h2 => HSR.out p q h1 (by omega))
      go_wp2_with fail
      go_end0
      exact ⟨rfl, X, HSD.out, HME.out, HRW.out, HMU0.out⟩

set_option maxRecDepth 100000 in
theorem len64_any (n : Nat) (hn : n ≤ 12) (w : World) : Calls Try.prog 194 #[.int .u64 n] w fun e w' => (∃ z : Int, e = .returned (.int .i64 z)) ∧ w = w' := by
  have h : n = 0 ∨ n = 1 ∨ n = 2 ∨ n = 3 ∨ n = 4 ∨ n = 5 ∨ n = 6 ∨ n = 7 ∨ n = 8 ∨ n = 9 ∨ n = 10 ∨ n = 11 ∨ n = 12 := by omega
  rcases h with rfl | rfl | rfl | rfl | rfl | rfl | rfl | rfl | rfl | rfl | rfl | rfl | rfl <;> (go_enter Try.func194, Try.ntmps194; go_wp2; go_ret; exact ⟨⟨_, rfl⟩, rfl⟩)
theorem len_any (n : Nat) (hn : n ≤ 12) (w : World) : Calls Try.prog 161 #[.int .u64 n] w fun e w' => (∃ z : Int, e = .returned (.int .i64 z)) ∧ w = w' := by
  go_enter Try.func161, Try.ntmps161
  go_wp2_with (go_at_call 194; refine (len64_any n hn _).mono ?_; rintro e w' ⟨⟨z, rfl⟩, rfl⟩)
  go_ret
  exact ⟨⟨_, rfl⟩, rfl⟩
set_option maxRecDepth 100000 in
set_option maxHeartbeats 1000000 in
theorem pdq_any (g c n : Nat) (z : Int) (X0 : Nat → Int) (R : Nat → Value) (w : World) (hr : w.rowIs g 3 c (rowN n X0 R)) (hn : n ≤ c) (hc : c ≤ 9223372036854775807) (h12 : n ≤ 12) : Calls Try.prog 160 #[.slice (some ⟨g, 0, none⟩) n c, .int .i64 0, .int .i64 n, .int .i64 z] w fun e w' => e = .returned (.tuple #[]) ∧ ∃ Y, SrtF Y n ∧ (∀ xs, MemF X0 n xs → MemF Y n xs) ∧ w'.rowIs g 3 c (rowN n Y R) ∧ Mut (fun b => b = g) w w' := by
  have HR0 := Lib.hid hr
  clear hr
  have h12i : (n : Int) ≤ 12 := by omega
  go_enter Try.func160, Try.ntmps160
  go_wp2_with fail
  go_loopw [1, 2, 3] (fun a b l wr => a = .int .i64 0 ∧ b = .int .i64 n ∧ l = .int .i64 z ∧ wr = w) (fun _ _ _ _ => 0)
  case atStart => exact ⟨rfl, rfl, rfl, rfl⟩
  case round =>
    obtain ⟨rfl, rfl, rfl, rfl⟩ := hrel
    have hnw : IntKind.i64.wrap ((n : Int) - 0) = (n : Int) := by rw [Int.sub_zero]; exact IntWalk.i64_in _ (by omega)
    go_wp2_with fail
    refine (insSort_any g c n X0 R _ HR0.out hn hc).mono ?_
    rintro e w' ⟨rfl, H⟩
    have HH := Lib.hid H
    clear H
    go_wp2_with fail
    ((try simp only [Exit.inBlock, Exit.then]); refine bodyPost_ret (results_none rfl _ _ _) rfl ?_)
    exact ⟨rfl, HH.out⟩
set_option maxRecDepth 100000 in
set_option maxHeartbeats 1000000 in
theorem sort_any (g c n : Nat) (X0 : Nat → Int) (R : Nat → Value) (w : World) (hr : w.rowIs g 3 c (rowN n X0 R)) (hn : n ≤ c) (hc : c ≤ 9223372036854775807) (h12 : n ≤ 12) : Calls Try.prog 111 #[.slice (some ⟨g, 0, none⟩) n c] w fun e w' => e = .returned (.tuple #[]) ∧ ∃ Y, SrtF Y n ∧ (∀ xs, MemF X0 n xs → MemF Y n xs) ∧ w'.rowIs g 3 c (rowN n Y R) ∧ Mut (fun b => b = g) w w' := by
  have HR0 := Lib.hid hr
  clear hr
  have hcv : IntKind.u64.wrap (n : Int) = (n : Int) := by simp [IntKind.wrap, IntKind.signed, IntKind.bits]; omega
  go_enter Try.func111, Try.ntmps111
  go_wp2_with fail
  refine (len_any n h12 _).mono ?_
  rintro e w' ⟨⟨z, rfl⟩, rfl⟩
  go_wp2_with fail
  refine (pdq_any g c n z X0 R _ HR0.out hn hc h12).mono ?_
  rintro e w' ⟨rfl, H⟩
  have HH := Lib.hid H
  clear H
  go_wp2_with fail
  go_end0
  exact ⟨rfl, HH.out⟩

theorem zeroInt_any (w : World) : (zeroValue 3).run Try.prog w = .ok (.int .i64 0) w := by kernel_rfl
set_option maxRecDepth 100000 in
set_option maxHeartbeats 1000000 in
theorem compact_any (g c n : Nat) (X : Nat → Int) (R : Nat → Value) (w : World) (hr : w.rowIs g 3 c (rowN n X R)) (hn : n ≤ c) (hc : c ≤ 9223372036854775807) : Calls Try.prog 112 #[.slice (some ⟨g, 0, none⟩) n c] w fun e w' => e = .returned (.slice (some ⟨g, 0, none⟩) (cmpF X n).length c) ∧ (∃ F, w'.rowIs g 3 c F ∧ ∀ a, a < (cmpF X n).length → F a = .int .i64 ((cmpF X n).getD a 0)) ∧ Mut (fun b => b = g) w w' := by
  have HR0 := Lib.hid hr
  clear hr
  have HALL := Lib.hid (fun (h : ∀ j, 0 < j → j < n → X j ≠ X (j - 1)) => show (cmpF X n).length = n ∧ ∀ a, a < (cmpF X n).length → rowN n X R a = .int .i64 ((cmpF X n).getD a 0) from by
    rw [cmpF_all n h]
    refine ⟨by simp, fun a ha => ?_⟩
    have ha' : a < n := by simpa using ha
    rw [rowN_at ha']
    simp [ha'])
  by_cases h2 : n < 2
  · have HA := Lib.hid (HALL.out (fun j h1 h2' => by omega))
    have h2i : (n : Int) < 2 := by omega
    go_enter Try.func112, Try.ntmps112
    go_wp2
    go_ret
    exact ⟨by rw [HA.out.1]; rfl, ⟨_, HR0.out, HA.out.2⟩, Mut.refl _ _⟩
  have h2i : ¬ ((n : Int) < 2) := by omega
  go_enter Try.func112, Try.ntmps112
  go_wp2_with fail
  go_loopw [3] (fun kv wr => ∃ k : Nat, 1 ≤ k ∧ k ≤ n ∧ kv = .int .i64 k ∧ (∀ j, 0 < j → j < k → X j ≠ X (j - 1)) ∧ wr.rowIs g 3 c (rowN n X R) ∧ Mut (fun b => b = g) w wr) (fun kv _ => n - (intOf kv).toNat)
  case atStart => exact ⟨1, Nat.le_refl _, by omega, by first | rfl | go_num, fun j h1 h2 => by omega, HR0.out, Mut.refl _ _⟩
  case round =>
    obtain ⟨k, hk1, hkn, rfl, hne, hrow, hmu⟩ := hrel
    have HNE := Lib.hid hne
    have HR := Lib.hid hrow
    have HMU := Lib.hid hmu
    clear hne hrow hmu
    by_cases hlt : k < n
    · obtain ⟨m, hm⟩ : ∃ m, m + 1 = k := ⟨k - 1, by omega⟩
      have hsub : IntKind.i64.wrap ((k : Int) - 1) = (m : Int) := by
        rw [show (k : Int) - 1 = (m : Int) from by omega]
        exact IntWalk.i64_in _ (by omega)
      have hki : (k : Int) < (n : Int) := by omega
      have hmi : (m : Int) < (n : Int) := by omega
      have c1 := HR.out.cell (i := k) (by omega)
      have c0 := HR.out.cell (i := m) (by omega)
      rw [rowN_at (by omega)] at c1 c0
      have HM := Lib.hid (show k - 1 = m from by omega)
      clear hm
      by_cases hxy : X k = X m
      · have hxb : (X k == X m) = true := by simpa using hxy
        have HEQ := Lib.hid (show cmpF X (k + 1) = (List.range k).map X from by rw [cmpF_eq (by omega) (by rw [HM.out]; exact hxy), cmpF_all k HNE.out])
        have HRW2 := Lib.hid (show ∀ W : World, W.rowIs g 3 c (rowN n X R) → W.rowIs g 3 c (fun a => if a < k then .int .i64 ((cmpF X (k + 1)).getD a 0) else rowN n X R a) from fun W h => h.congr fun a _ => by
          by_cases e : a < k
          · rw [if_pos e, rowN_at (by omega), HEQ.out]; simp [e]
          · rw [if_neg e])
        have HKL := Lib.hid (show k = (cmpF X (k + 1)).length from by rw [HEQ.out]; simp)
        generalize X m = XM at *
        generalize hXK : X k = XK at *
        have HXK := Lib.hid hXK
        clear hXK
        go_wp2_with fail
        go_quiet (fail)
        go_wp2_with fail
        clear c1 c0
        go_loopw [3, 5] (fun kv jv wr => ∃ (K j : Nat), 1 ≤ j ∧ k + j ≤ n ∧ K < k + j ∧ kv = .int .i64 K ∧ jv = .int .i64 j ∧ K = (cmpF X (k + j)).length ∧ wr.rowIs g 3 c (fun a => if a < K then .int .i64 ((cmpF X (k + j)).getD a 0) else rowN n X R a) ∧ Mut (fun b => b = g) w wr) (fun _ jv _ => n - (intOf jv).toNat)
        case atStart => exact ⟨k, 1, Nat.le_refl _, by omega, by omega, rfl, by first | rfl | go_num, HKL.out, HRW2.out _ (by first | exact HR.out | exact HR.out.drewN _), mut_drewN HMU.out _⟩
        case round =>
          obtain ⟨K, j, hj1, hjn, hKj, rfl, rfl, hKl, hrow, hmu⟩ := hrel
          have HKL := Lib.hid hKl
          have HR := Lib.hid hrow
          have HMU := Lib.hid hmu
          clear hKl hrow hmu HRW2
          by_cases hlj : k + j < n
          · obtain ⟨q, hq⟩ : ∃ q, q + 1 = j := ⟨j - 1, by omega⟩
            have hsub2 : IntKind.i64.wrap ((j : Int) - 1) = (q : Int) := by
              rw [show (j : Int) - 1 = (q : Int) from by omega]
              exact IntWalk.i64_in _ (by omega)
            have hji : (j : Int) < ((n - k : Nat) : Int) := by omega
            have hqi : (q : Int) < ((n - k : Nat) : Int) := by omega
            have hKi : (K : Int) < (n : Int) := by omega
            have c1 := HR.out.cell (i := k + j) (by omega)
            have c0 := HR.out.cell (i := k + q) (by omega)
            have cK := HR.out.cell (i := K) (by omega)
            have fK := HR.out.frozen K
            rw [if_neg (by omega), rowN_at (by omega)] at c1 c0
            have HSET := Lib.hid (fun (W : World) (u : Value) (h : W.rowIs g 3 c (fun a => if a < K then .int .i64 ((cmpF X (k + j)).getD a 0) else rowN n X R a)) => h.set K u)
            have HQ := Lib.hid (show k + j - 1 = k + q from by omega)
            clear hq
            have HYE := Lib.hid (fun (h : X (k + j) = X (k + q)) => show cmpF X (k + (j + 1)) = cmpF X (k + j) from cmpF_eq (m := k + j) (by omega) (by rw [HQ.out]; exact h))
            have HYN := Lib.hid (fun (h : ¬ X (k + j) = X (k + q)) => show cmpF X (k + (j + 1)) = cmpF X (k + j) ++ [X (k + j)] from cmpF_ne (m := k + j) (by rw [HQ.out]; exact h))
            generalize X (k + q) = XQ at *
            generalize hXJ : X (k + j) = XJ at *
            have HXJ := Lib.hid hXJ
            clear hXJ
            by_cases huv : XJ = XQ
            · have HYY := Lib.hid (HYE.out huv)
              subst huv
              have hub : (XJ != XJ) = false := bne_self_eq_false XJ
              go_wp2_with fail
              go_quiet (fail)
              go_wp2_with fail
              go_roundw
              case rel => exact ⟨K, j + 1, by omega, by omega, by omega, rfl, by go_num, by rw [HYY.out]; exact HKL.out, by rw [HYY.out]; exact HR.out, mut_drewN HMU.out _⟩
              case measure => simp [intOf]; omega
            · have HYY := Lib.hid (HYN.out huv)
              have hub : (XJ != XQ) = true := by simpa using huv
              have HROW := Lib.hid (fun a => show (if a = K then Value.int .i64 XJ else if a < K then .int .i64 ((cmpF X (k + j)).getD a 0) else rowN n X R a) = (if a < K + 1 then .int .i64 ((cmpF X (k + j) ++ [XJ]).getD a 0) else rowN n X R a) from by
                have hl := HKL.out
                by_cases e : a = K
                · rw [if_pos e, if_pos (by omega), e, hl]; simp [List.getD]
                · rw [if_neg e]
                  by_cases e2 : a < K
                  · rw [if_pos e2, if_pos (by omega)]
                    have : a < (cmpF X (k + j)).length := by omega
                    simp [List.getD, List.getElem?_append_left this]
                  · rw [if_neg e2, if_neg (by omega)])
              go_wp2_with fail
              go_quiet (fail)
              go_wp2_with fail
              go_roundw
              case rel => exact ⟨K + 1, j + 1, by omega, by omega, by omega, by go_num, by go_num, by rw [HYY.out, List.length_append, ← HKL.out]; rfl, by rw [HYY.out]; exact (HR.out.set K _).congr (fun a _ => HROW.out a), (mut_drewN HMU.out _).set g K _ rfl⟩
              case measure => simp [intOf]; omega
          · have hend : k + j = n := by omega
            have hcl : ∀ ty, (Builtin.clear_ #[25] ty #[.slice (some ⟨g, K, none⟩) (n - K) (c - K)]).run Try.prog wr = .ok (.tuple #[]) (wr.setCells g K (List.replicate (n - K) (.int .i64 0))) :=
              fun ty => Lib.run_clear_slice wr 25 3 ty (.int .i64 0) Try.underlying25 zeroInt_any rfl rfl g K _ _ (by omega) (fun t ht => by rw [HR.out.cell (i := K + t) (by omega)]; rfl) (fun t ht => HR.out.frozen _)
            have HFIN := Lib.hid (show (∃ F, (wr.setCells g K (List.replicate (n - K) (.int .i64 0))).rowIs g 3 c F ∧ ∀ a, a < (cmpF X n).length → F a = .int .i64 ((cmpF X n).getD a 0)) ∧ Mut (fun b => b = g) w (wr.setCells g K (List.replicate (n - K) (.int .i64 0))) from by
              refine ⟨⟨_, rowIs_setCells _ K wr _ HR.out, fun a ha => ?_⟩, mut_setCells (S := fun b => b = g) rfl _ _ _ HMU.out⟩
              have hl := HKL.out
              rw [hend] at hl
              rw [if_neg (by omega), if_pos (by omega), hend])
            have HKN := Lib.hid (show K = (cmpF X n).length from by rw [← hend]; exact HKL.out)
            have hjk : ¬ ((j : Int) < ((n - k : Nat) : Int)) := by omega
            have hKi : (K : Int) ≤ (n : Int) := by omega
            clear hend
            go_wp2_with (simp only [hcl])
            go_ret
            exact ⟨by rw [← HKN.out]; rfl, HFIN.out⟩
      · have hxb : (X k == X m) = false := by simpa using hxy
        have HXN := Lib.hid (show ∀ j, 0 < j → j < k + 1 → X j ≠ X (j - 1) from fun j h1 h2 => by
          by_cases e : j = k
          · rw [e, HM.out]; exact hxy
          · exact HNE.out j h1 (by omega))
        generalize X m = XM at *
        generalize X k = XK at *
        go_wp2_with fail
        go_quiet (fail)
        go_wp2_with fail
        go_roundw
        case rel => exact ⟨k + 1, by omega, by omega, by go_num, HXN.out, HR.out, mut_drewN HMU.out _⟩
        case measure => simp [intOf]; omega
    · obtain rfl : k = n := by omega
      have HA := Lib.hid (HALL.out HNE.out)
      go_wp2
      go_ret
      exact ⟨by rw [HA.out.1]; rfl, ⟨_, HR.out, HA.out.2⟩, HMU.out⟩

end Go.Proofs.Ytiaamddhocdhaaa
end

/- SetW -/
section
namespace Go.Proofs.Ytiaamddhocdhaaa
open Go.ChangeShapes Go.WideShapes Go.ChangeAt Go.RowKit
set_option linter.unusedVariables false

/-- A set that a call hands back: its row lies in memory that T names or in new memory; it is not nil. -/
def SetR (T : Nat → Prop) (w : World) (xs : List Int) (e : Ending) (w' : World) : Prop := ∃ b off c, e = .returned (.slice (some ⟨b, off, none⟩) xs.length c) ∧ intsR (fun k => T k ∨ New w w' k) w' [.slice (some ⟨b, off, none⟩) xs.length c] xs ∧ Bel w w'
section
variable {e : TypeId} {B : Nat}
theorem ownI_row {w : World} {p : Option Addr} {cap : Nat} {xs : List Int} (h : OwnI e B w p cap xs) (hp : p ≠ none) : ∃ (g : Nat) (R : Nat → Value), p = some ⟨g, 0, none⟩ ∧ B ≤ g ∧ xs.length ≤ cap ∧ cap ≤ maxLen ∧ w.rowIs g e cap (rowN xs.length (fun a => xs.getD a 0) R) := by
  obtain ⟨⟨h1, h2⟩, h3⟩ := h
  rcases h2 with ⟨h4, _⟩ | ⟨g, cap', cur, h4, h5, h6, h7, h8, h9, h10⟩
  · exfalso; apply hp; have h5 : p = none ∧ xs.length = 0 ∧ cap = 0 := by simpa using h4
    exact h5.1
  · obtain ⟨rfl, rfl⟩ : p = some ⟨g, 0, none⟩ ∧ cap = cap' := by simpa using h4
    refine ⟨g, fun a => (cur[a]?).getD default, rfl, h5, h7, h8, cur, h6, by simpa using h9, fun i hi => ?_⟩
    unfold rowN
    have hsz : cur.size = cap := by simpa using h9
    by_cases hlt : i < xs.length
    · rw [if_pos hlt]
      have h11 : (cur.toList.take (xs.map (Value.int .i64)).length)[i]? = (xs.map (Value.int .i64))[i]? := by
        have hl : (xs.map (Value.int .i64)).length = xs.length := by simp
        rw [hl]
        have h10' := h10
        first
          | rw [h10']
          | (simp only [Nat.mul_one] at h10'; rw [h10'])
      rw [List.getElem?_take, if_pos (by simpa using hlt)] at h11
      rw [Array.getElem?_toList] at h11
      rw [h11]
      simp [hlt]
    · rw [if_neg hlt]
      show cur[i]? = some ((cur[i]?).getD default)
      rw [Array.getElem?_eq_getElem (by omega)]
      rfl
end
theorem ints_take {T : Nat → Prop} {w : World} {p : Option Addr} {n c : Nat} {xs : List Int} (h : intsR T w [.slice p n c] xs) (hn : xs.length = n) {k : Nat} (hk : k ≤ n) : intsR T w [.slice p k c] (xs.take k) := by
  obtain ⟨p', c', hv, h1, h2, h3⟩ := h
  obtain ⟨h0, -⟩ := List.cons.inj hv
  injection h0 with a1 a2 a3
  subst a1; subst a3
  refine ⟨p, c, by rw [List.length_take, Nat.min_eq_left (by omega)], by rw [List.length_take]; omega, h2, fun i hi => ?_⟩
  have hi' : i < k ∧ i < xs.length := by rw [List.length_take] at hi; omega
  obtain ⟨b, off, ecs, e1, e2, e3, e4, e5⟩ := h3 i hi'.2
  exact ⟨b, off, ecs, e1, e2, e3, e4, by rw [List.getElem_take]; exact e5⟩
theorem ints_drop {T : Nat → Prop} {w : World} {b off : Nat} {n c : Nat} {xs : List Int} (h : intsR T w [.slice (some ⟨b, off, none⟩) n c] xs) (hn : xs.length = n) {k : Nat} (hk : k ≤ n) (c' : Nat) (hc : n - k ≤ c') (hc' : c' ≤ maxLen) : intsR T w [.slice (some ⟨b, off + k, none⟩) (n - k) c'] (xs.drop k) := by
  obtain ⟨p', c0, hv, h1, h2, h3⟩ := h
  obtain ⟨h0, -⟩ := List.cons.inj hv
  injection h0 with a1 a2 a3
  subst a1; subst a3
  refine ⟨_, c', by rw [List.length_drop, hn], by rw [List.length_drop]; omega, hc', fun i hi => ?_⟩
  have hi' : i < xs.length - k := by rw [List.length_drop] at hi; exact hi
  obtain ⟨b', off', ecs, e1, e2, e3, e4, e5⟩ := h3 (k + i) (by omega)
  obtain ⟨rfl, rfl⟩ : b = b' ∧ off = off' := by simpa using e1
  refine ⟨b, off + k, ecs, rfl, e2, e3, fun m hm => ?_, by rw [List.getElem_drop]; exact e5⟩
  have := e4 m hm
  rw [show off + k + i * 1 + m = off + (k + i) * 1 + m from by omega]
  exact this
theorem ints_nil {T : Nat → Prop} {w : World} (p : Option Addr) (c : Nat) (hc : c ≤ maxLen) : intsR T w [.slice p 0 c] [] := ⟨p, c, rfl, Nat.zero_le _, hc, fun i hi => absurd hi (Nat.not_lt_zero _)⟩
theorem ints_mem {T : Nat → Prop} {w : World} {v : Value} {xs : List Int} (h : intsR T w [v] xs) : ∀ x, x ∈ xs → I64 x := by
  intro x hx
  obtain ⟨i, hi, rfl⟩ := List.getElem_of_mem hx
  obtain ⟨p', c0, hv, h1, h2, h3⟩ := h
  obtain ⟨b', off', ecs, e1, e2, e3, e4, e5⟩ := h3 i hi
  exact e5.2
set_option maxRecDepth 100000 in
set_option maxHeartbeats 1000000 in
theorem iSetOf_any (ad : Addr) (k : Nat) (xs : List Int) (T : Nat → Prop) (w : World) (hx : intsR T w [.slice (some ad) xs.length k] xs) (hT : ∀ b, T b → b < w.heap.size) (h12 : xs.length ≤ 12) :
    Calls Try.prog 44 #[.slice (some ad) xs.length k] w (SetR (fun _ => False) w (setL xs)) := by
  have HX := Lib.hid hx
  have HT := Lib.hid hT
  clear hx hT
  go_enter Try.func44, Try.ntmps44
  go_wp2_with fail
  refine (cloneInts_any _ _ _ xs T _ rfl HX.out HT.out (fun h => by cases h) (by omega)).mono ?_
  rintro e w1 ⟨q, c, rfl, hO, g1, hq, -⟩
  obtain ⟨g, R, rfl, hg, hlc, hcm, hrow⟩ := ownI_row hO (fun h => by have := hq.1 h; cases this)
  have HROW := Lib.hid hrow
  have HI := Lib.hid (ints_mem HX.out)
  have HG := Lib.hid g1
  have HCM := Lib.hid hcm
  unfold maxLen at hcm
  clear hO hrow hq g1
  go_wp2_with fail
  refine (sort_any g c xs.length _ R _ HROW.out hlc (by omega) h12).mono ?_
  rintro e w2 ⟨rfl, Y, hs, hm, hr2, hmu⟩
  have HS := Lib.hid hs
  have HM := Lib.hid (hm xs (memF_list xs))
  have HR2 := Lib.hid hr2
  have HB2 := Lib.hid (Mut.bel HG.out hmu (fun k hk => by rw [hk]; exact hg))
  clear hs hm hr2 hmu
  go_wp2_with fail
  refine (compact_any g c xs.length Y R _ HR2.out hlc (by omega)).mono ?_
  rintro e w3 ⟨rfl, ⟨F, hF, hFa⟩, hmu⟩
  have HB3 := Lib.hid (Mut.bel HB2.out hmu (fun k hk => by rw [hk]; exact hg))
  have HE := Lib.hid (cmpF_set HS.out HM.out)
  have HLE := Lib.hid (Nat.le_trans (cmpF_le Y xs.length) hlc)
  have HRES := Lib.hid (show intsR (New w w3) w3 [.slice (some ⟨g, 0, none⟩) (cmpF Y xs.length).length c] (setL xs) from by
    rw [← HE.out]
    exact rowIs_sub hF HLE.out rfl hFa (fun x hx => HI.out x (by rw [HE.out, setL_mem] at hx; exact hx)) ⟨hg, hF.lt⟩ ⟨HLE.out, HCM.out⟩)
  clear hF hFa hmu
  rw [HE.out] at *
  go_wp2
  go_ret
  exact ⟨g, 0, c, rfl, intsR_good.mono HRES.out (fun b hb => .inr hb), HB3.out⟩

set_option maxRecDepth 100000 in
set_option maxHeartbeats 1000000 in
theorem sPut_any (b off n k : Nat) (x : Int) (xs : List Int) (T : Nat → Prop) (w : World) (hn : xs.length = n) (hx : intsR T w [.slice (some ⟨b, off, none⟩) n k] xs) (hT : ∀ b, T b → b < w.heap.size) (hI : I64 x) (hl : n ≤ 1000) :
    Calls Try.prog 172 #[.slice (some ⟨b, off, none⟩) n k, .int .i64 x] w (SetR T w (putL xs x)) := by
  have hkk : n ≤ k ∧ k ≤ maxLen := by
    obtain ⟨p', c', hv, hk, hkm, -⟩ := hx
    obtain ⟨h0, -⟩ := List.cons.inj hv
    injection h0 with a1 a2 a3
    subst a3
    exact ⟨by omega, hkm⟩
  obtain ⟨hk, hkm⟩ := hkk
  have HKM := Lib.hid hkm
  unfold maxLen at hkm
  have HX := Lib.hid hx
  have HT := Lib.hid hT
  have HI := Lib.hid hI
  have HN := Lib.hid hn
  have HAT := Lib.hid (fun i (hi : i < n) => show w.cell? ⟨b, off + i, none⟩ = some (.int .i64 (xs.getD i 0)) from by
    obtain ⟨b', off', h1, h2⟩ := intsR_at' HX.out (i := i) (by rw [HN.out]; exact hi)
    obtain ⟨rfl, rfl⟩ : b = b' ∧ off = off' := by simpa [sliceAddr] using h1
    exact h2)
  clear hx hT hI hn
  go_enter Try.func172, Try.ntmps172
  go_wp2_with fail
  refine (sSetHas_any _ xs x T _ HX.out).mono ?_
  rintro e w' ⟨rfl, rfl⟩
  cases hb : hasB x xs
  rotate_left
  · have HP := Lib.hid (show putL xs x = xs from if_pos hb)
    clear hb
    go_wp2
    go_ret
    exact ⟨b, off, k, by rw [HP.out, HN.out]; rfl, by rw [HP.out, HN.out]; exact intsR_good.mono HX.out (fun _ h => .inl h), Bel.refl _⟩
  · have HP := Lib.hid (show putL xs x = xs.take (cntL x xs) ++ x :: xs.drop (cntL x xs) from if_neg (by rw [hb]; decide))
    have HCL := Lib.hid (show cntL x xs ≤ n from by rw [← HN.out]; exact cntL_le x xs)
    have HLT := Lib.hid (cntL_lt x xs)
    have HGE := Lib.hid (show cntL x xs < n → ¬ xs.getD (cntL x xs) 0 < x from by rw [← HN.out]; exact cntL_at x xs)
    clear hb
    generalize cntL x xs = K at *
    have hKn := HCL.out
    go_wp2_with fail
    go_loopw [5] (fun jv wr => ∃ j : Nat, j ≤ K ∧ jv = .int .i64 j ∧ w = wr) (fun jv _ => n + 1 - (intOf jv).toNat)
    case atStart => exact ⟨0, Nat.zero_le _, rfl, rfl⟩
    case round =>
      obtain ⟨j, hjK, rfl, rfl⟩ := hrel
      by_cases hlt : j < K
      · have hji : (j : Int) < (n : Int) := by omega
        have c1 := HAT.out j (by omega)
        have hd := HLT.out j hlt
        generalize xs.getD j 0 = D at *
        go_wp2_with fail
        go_roundw
        case rel => exact ⟨j + 1, by omega, by go_num, by first | rfl | trivial⟩
        case measure => simp [intOf]; omega
      · obtain rfl : j = K := by omega
        have HH : Hid ((j < n ∧ ∃ D, w.cell? ⟨b, off + j, none⟩ = some (.int .i64 D) ∧ ¬ D < x) ∨ ¬ (j < n)) := Lib.hid (by
          by_cases e : j < n
          · exact .inl ⟨e, _, HAT.out j e, by have := HGE.out e; omega⟩
          · exact .inr e)
        have HTK := Lib.hid (ints_take HX.out HN.out hKn)
        have HAX : ∃ A : Addr, (if k = j then (some ⟨b, off, none⟩ : Option Addr) else some ⟨b, off + j, none⟩) = some A ∧ Hid (intsR T w [.slice (some A) (n - j) (k - j)] (xs.drop j)) := by
          by_cases e : k = j
          · refine ⟨⟨b, off, none⟩, by rw [if_pos e], Lib.hid ?_⟩
            have h1 : xs.drop j = [] := List.drop_eq_nil_of_le (by rw [HN.out]; omega)
            rw [h1, show n - j = 0 from by omega]
            exact ints_nil _ _ (by unfold maxLen; omega)
          · exact ⟨⟨b, off + j, none⟩, by rw [if_neg e], Lib.hid (ints_drop HX.out HN.out hKn _ (by omega) (by unfold maxLen; omega))⟩
        obtain ⟨A, hA, HDR⟩ := HAX
        have HTL := Lib.hid (show (xs.take j).length = j from by rw [List.length_take, HN.out]; omega)
        have HDL := Lib.hid (show (xs.drop j).length = n - j from by rw [List.length_drop, HN.out])
        have hji2 : (j : Int) ≤ (n : Int) := by omega
        have hjk2 : (j : Int) ≤ (k : Int) := by omega
        have HPL := Lib.hid (show (putL xs x).length = 0 + j + 1 + (n - j) from by rw [HP.out, List.length_append, List.length_cons, HTL.out, HDL.out]; omega)
        have HPE := Lib.hid (show putL xs x = ([] ++ xs.take j) ++ [x] ++ xs.drop j from by rw [HP.out]; simp)
        have HO0 := Lib.hid (fun (g : Nat) (W : World) (h : W.heap[g]? = some (.cells #[] 3 (0, 0))) (hg : w.heap.size ≤ g) => show OwnI 3 w.heap.size W (some ⟨g, 0, none⟩) 0 [] from OwnI.empty h hg)
        have hXl : (xs.take j).length ≤ 1000 := by rw [HTL.out]; omega
        have hDl : (xs.drop j).length ≤ 1000 := by rw [HDL.out]; omega
        clear HP
        generalize xs.take j = XT at *
        generalize xs.drop j = XD at *
        have HEND : Hid (∀ D : Int, ((j < n ∧ w.cell? ⟨b, off + j, none⟩ = some (.int .i64 D) ∧ ¬ D < x) ∨ ¬ (j < n)) → True) := Lib.hid (fun _ _ => trivial)
        clear HEND
        rcases HH.out with ⟨hjn, D, c1, hd⟩ | hjn
        · have hji : (j : Int) < (n : Int) := by omega
          obtain rfl : A = ⟨b, off + j, none⟩ := by
            rw [if_neg (by omega)] at hA
            simpa using hA.symm
          go_wp2_with (first | (at_builtin; refine wpList_apps (B := w.heap.size) _ rfl _ _ 25 rfl (.int .i64 0) 8 Try.underlying25 (by kernel_rfl) rfl (by decide) q2 _ c2' ([] ++ XT ++ [x]) rfl (hO2.bel (by (repeat (first | assumption | exact Bel.refl _ | apply Bel.drewN | apply Bel.drew | apply Bel.alloc | refine Bel.trans ?_ (by assumption))))) (by first | (simp [HTL.out]; done) | (simp [HTL.out]; omega)) _ _ _ XD T rfl (by rw [HDL.out]; exact intsR_good.bel HDR.out (by (repeat (first | assumption | exact Bel.refl _ | apply Bel.drewN | apply Bel.drew | apply Bel.alloc | refine Bel.trans ?_ (by assumption)))) HT.out) HDL.out (fun h => by cases h) (by omega) (by first | omega | (simp; done) | (simp; omega)) ?_; intro q3 c3' w3 hO3 hG3 hN3; have hB3 : Bel w w3 := hG3.bel w (by (repeat (first | assumption | exact Bel.refl _ | apply Bel.drewN | apply Bel.drew | apply Bel.alloc | refine Bel.trans ?_ (by assumption)))) (Nat.le_refl _); clear hG3 hN3) | (at_builtin; refine wpList_apps (B := w.heap.size) _ rfl _ _ 25 rfl (.int .i64 0) 8 Try.underlying25 (by kernel_rfl) rfl (by decide) q1 _ c1' ([] ++ XT) rfl (hO1.bel (by (repeat (first | assumption | exact Bel.refl _ | apply Bel.drewN | apply Bel.drew | apply Bel.alloc | refine Bel.trans ?_ (by assumption))))) (by first | (simp [HTL.out]; done) | (simp [HTL.out]; omega)) _ _ _ [x] (fun g => g = w1.heap.size) rfl (intsR_cell (alloc_at rfl) HI.out) rfl (fun h => by cases h) (by omega) (by first | omega | (simp; done) | (simp; omega)) ?_; intro q2 c2' w2 hO2 hG2 hN2; have hB2 : Bel w w2 := hG2.bel w (by (repeat (first | assumption | exact Bel.refl _ | apply Bel.drewN | apply Bel.drew | apply Bel.alloc | refine Bel.trans ?_ (by assumption)))) (Nat.le_refl _); have hs2 := hB2.size; clear hG2 hN2) | (at_builtin; refine wpList_apps (B := w.heap.size) _ rfl _ _ 25 rfl (.int .i64 0) 8 Try.underlying25 (by kernel_rfl) rfl (by decide) (some ⟨w.heap.size, 0, none⟩) _ 0 [] rfl (HO0.out _ _ (alloc_at rfl) (Nat.le_refl _)) rfl _ _ _ XT T rfl (by rw [HTL.out]; exact intsR_good.bel HTK.out (by (repeat (first | assumption | exact Bel.refl _ | apply Bel.drewN | apply Bel.drew | apply Bel.alloc | refine Bel.trans ?_ (by assumption)))) HT.out) HTL.out (fun h => by cases h) (by omega) (by first | omega | (simp; done) | (simp; omega)) ?_; intro q1 c1' w1 hO1 hG1 hN1; have hB1 : Bel w w1 := hG1.bel w (by (repeat (first | assumption | exact Bel.refl _ | apply Bel.drewN | apply Bel.drew | apply Bel.alloc | refine Bel.trans ?_ (by assumption)))) (Nat.le_refl _); have hs1 := hB1.size; clear hG1 hN1))
          rw [← HPE.out] at hO3
          obtain ⟨g, R, rfl, hgB, hlc, hcm, -⟩ := ownI_row hO3 (OwnI.some hO3 (by rw [HPE.out]; simp))
          have HRES := Lib.hid (show intsR (fun b => T b ∨ New w w3 b) w3 [.slice (some ⟨g, 0, none⟩) (putL xs x).length c3'] (putL xs x) from hO3.done (fun b h1 h2 => .inr ⟨h1, h2⟩))
          clear hO3
          go_ret
          exact ⟨g, 0, c3', by rw [HPL.out]; first | rfl | (simp; done), HRES.out, hB3⟩
        · have hji : ¬ (j : Int) < (n : Int) := by omega
          go_wp2_with (first | (at_builtin; refine wpList_apps (B := w.heap.size) _ rfl _ _ 25 rfl (.int .i64 0) 8 Try.underlying25 (by kernel_rfl) rfl (by decide) q2 _ c2' ([] ++ XT ++ [x]) rfl (hO2.bel (by (repeat (first | assumption | exact Bel.refl _ | apply Bel.drewN | apply Bel.drew | apply Bel.alloc | refine Bel.trans ?_ (by assumption))))) (by first | (simp [HTL.out]; done) | (simp [HTL.out]; omega)) _ _ _ XD T rfl (by rw [HDL.out]; exact intsR_good.bel HDR.out (by (repeat (first | assumption | exact Bel.refl _ | apply Bel.drewN | apply Bel.drew | apply Bel.alloc | refine Bel.trans ?_ (by assumption)))) HT.out) HDL.out (fun h => by cases h) (by omega) (by first | omega | (simp; done) | (simp; omega)) ?_; intro q3 c3' w3 hO3 hG3 hN3; have hB3 : Bel w w3 := hG3.bel w (by (repeat (first | assumption | exact Bel.refl _ | apply Bel.drewN | apply Bel.drew | apply Bel.alloc | refine Bel.trans ?_ (by assumption)))) (Nat.le_refl _); clear hG3 hN3) | (at_builtin; refine wpList_apps (B := w.heap.size) _ rfl _ _ 25 rfl (.int .i64 0) 8 Try.underlying25 (by kernel_rfl) rfl (by decide) q1 _ c1' ([] ++ XT) rfl (hO1.bel (by (repeat (first | assumption | exact Bel.refl _ | apply Bel.drewN | apply Bel.drew | apply Bel.alloc | refine Bel.trans ?_ (by assumption))))) (by first | (simp [HTL.out]; done) | (simp [HTL.out]; omega)) _ _ _ [x] (fun g => g = w1.heap.size) rfl (intsR_cell (alloc_at rfl) HI.out) rfl (fun h => by cases h) (by omega) (by first | omega | (simp; done) | (simp; omega)) ?_; intro q2 c2' w2 hO2 hG2 hN2; have hB2 : Bel w w2 := hG2.bel w (by (repeat (first | assumption | exact Bel.refl _ | apply Bel.drewN | apply Bel.drew | apply Bel.alloc | refine Bel.trans ?_ (by assumption)))) (Nat.le_refl _); have hs2 := hB2.size; clear hG2 hN2) | (at_builtin; refine wpList_apps (B := w.heap.size) _ rfl _ _ 25 rfl (.int .i64 0) 8 Try.underlying25 (by kernel_rfl) rfl (by decide) (some ⟨w.heap.size, 0, none⟩) _ 0 [] rfl (HO0.out _ _ (alloc_at rfl) (Nat.le_refl _)) rfl _ _ _ XT T rfl (by rw [HTL.out]; exact intsR_good.bel HTK.out (by (repeat (first | assumption | exact Bel.refl _ | apply Bel.drewN | apply Bel.drew | apply Bel.alloc | refine Bel.trans ?_ (by assumption)))) HT.out) HTL.out (fun h => by cases h) (by omega) (by first | omega | (simp; done) | (simp; omega)) ?_; intro q1 c1' w1 hO1 hG1 hN1; have hB1 : Bel w w1 := hG1.bel w (by (repeat (first | assumption | exact Bel.refl _ | apply Bel.drewN | apply Bel.drew | apply Bel.alloc | refine Bel.trans ?_ (by assumption)))) (Nat.le_refl _); have hs1 := hB1.size; clear hG1 hN1))
          rw [← HPE.out] at hO3
          obtain ⟨g, R, rfl, hgB, hlc, hcm, -⟩ := ownI_row hO3 (OwnI.some hO3 (by rw [HPE.out]; simp))
          have HRES := Lib.hid (show intsR (fun b => T b ∨ New w w3 b) w3 [.slice (some ⟨g, 0, none⟩) (putL xs x).length c3'] (putL xs x) from hO3.done (fun b h1 h2 => .inr ⟨h1, h2⟩))
          clear hO3
          go_ret
          exact ⟨g, 0, c3', by rw [HPL.out]; first | rfl | (simp; done), HRES.out, hB3⟩

end Go.Proofs.Ytiaamddhocdhaaa
end

/- ReachF -/
section
namespace Go.Proofs.Ytiaamddhocdhaaa
open Go.RowKit
set_option linter.unusedVariables false

/-- All numbers of the list are activities. -/
def InR (p : ProjT) (l : List Int) : Prop := ∀ x, x ∈ l → 0 ≤ x ∧ x < (p.2.1.length : Int)
theorem side_in {p : ProjT} (h : projOk p = true) (a : Int) : InR p (sideV p a false) := by
  intro x hx
  have h1 := (setL_mem _ _).1 hx
  obtain ⟨i, hi, rfl⟩ := sideTo_mem _ _ _ _ (Nat.le_refl _) x h1
  obtain ⟨-, ⟨b, hb, hb'⟩, -⟩ := linkOk_bd (projOk_link h hi)
  unfold sideE
  rw [if_neg (by decide)]
  omega
theorem inc_len : ∀ (l : List Int) (lo n : Int), Inc l → (∀ x, x ∈ l → lo ≤ x ∧ x < n) → lo ≤ n → (l.length : Int) ≤ n - lo := by
  intro l
  induction l with
  | nil => intro lo n _ _ h; simp; omega
  | cons x l ih =>
    intro lo n h hr hlo
    have h' := List.pairwise_cons.1 h
    have hx := hr x List.mem_cons_self
    have := ih (x + 1) n h'.2 (fun y hy => ⟨by have := h'.1 y hy; omega, (hr y (List.mem_cons_of_mem _ hy)).2⟩) (by omega)
    simp only [List.length_cons]
    omega
theorem inr_len {p : ProjT} {l : List Int} (h : Inc l) (hr : InR p l) : l.length ≤ p.2.1.length := by
  have := inc_len l 0 p.2.1.length h hr (by omega)
  omega
/-- One union of a round. -/
def unS (p : ProjT) (s : List Int) (x : Int) : List Int := setL (s ++ sideV p x false)
def stepS (p : ProjT) (s : List Int) : List Int := s.foldl (unS p) s
def reachS (p : ProjT) (a : Int) : Nat → List Int
  | 0 => sucV p a
  | n + 1 => stepS p (reachS p a n)
def fldS (p : ProjT) (s : List Int) (j : Nat) : List Int := (s.take j).foldl (unS p) s
theorem fldS_zero (p : ProjT) (s : List Int) : fldS p s 0 = s := by simp [fldS]
theorem fldS_next {p : ProjT} {s : List Int} {j : Nat} (h : j < s.length) : fldS p s (j + 1) = unS p (fldS p s j) (s.getD j 0) := by
  unfold fldS
  rw [List.take_succ_eq_append_getElem h, List.foldl_append, List.getD_eq_getElem?_getD, List.getElem?_eq_getElem h]
  rfl
theorem fldS_all (p : ProjT) (s : List Int) : fldS p s s.length = stepS p s := by unfold fldS stepS; rw [List.take_length]
theorem unS_mem (p : ProjT) (s : List Int) (x y : Int) : y ∈ unS p s x ↔ y ∈ s ∨ y ∈ sideV p x false := by unfold unS; rw [setL_mem, List.mem_append]
theorem fold_un (p : ProjT) (l : List Int) : ∀ (s : List Int) (y : Int), y ∈ l.foldl (unS p) s ↔ y ∈ s ∨ ∃ x, x ∈ l ∧ y ∈ sideV p x false := by
  induction l with
  | nil => intro s y; simp
  | cons z l ih =>
    intro s y
    rw [List.foldl_cons, ih, unS_mem]
    constructor
    · rintro ((h | h) | ⟨x, hx, h⟩)
      · exact .inl h
      · exact .inr ⟨z, List.mem_cons_self, h⟩
      · exact .inr ⟨x, List.mem_cons_of_mem _ hx, h⟩
    · rintro (h | ⟨x, hx, h⟩)
      · exact .inl (.inl h)
      · rcases List.mem_cons.1 hx with e | hx
        · subst e; exact .inl (.inr h)
        · exact .inr ⟨x, hx, h⟩
theorem stepS_mem (p : ProjT) (s : List Int) (y : Int) : y ∈ stepS p s ↔ y ∈ s ∨ ∃ x, x ∈ s ∧ y ∈ sideV p x false := fold_un p s s y
/-- Sets of activities. -/
def SetA (p : ProjT) (l : List Int) : Prop := Inc l ∧ InR p l
theorem fldS_set {p : ProjT} (hp : projOk p = true) {s : List Int} (h : SetA p s) : ∀ j, j ≤ s.length → SetA p (fldS p s j) := by
  intro j
  induction j with
  | zero => intro _; rw [fldS_zero]; exact h
  | succ j ih =>
    intro hj
    rw [fldS_next (by omega)]
    refine ⟨setL_inc _, fun x hx => ?_⟩
    rcases (unS_mem _ _ _ _).1 hx with h1 | h1
    · exact (ih (by omega)).2 x h1
    · exact side_in hp _ x h1
theorem suc_set {p : ProjT} (hp : projOk p = true) (a : Int) : SetA p (sucV p a) := by
  unfold sucV nbrV
  split
  · exact ⟨setL_inc _, side_in hp a⟩
  · exact ⟨List.Pairwise.nil, fun x hx => by cases hx⟩
theorem reachS_set {p : ProjT} (hp : projOk p = true) (a : Int) : ∀ n, SetA p (reachS p a n) := by
  intro n
  induction n with
  | zero => exact suc_set hp a
  | succ n ih =>
    show SetA p (stepS p (reachS p a n))
    rw [← fldS_all]
    exact fldS_set hp ih _ (Nat.le_refl _)
theorem reachS_up {p : ProjT} {a : Int} {n : Nat} {x : Int} (h : x ∈ reachS p a n) : x ∈ reachS p a (n + 1) := (stepS_mem _ _ _).2 (.inl h)
theorem reachS_le {p : ProjT} {a : Int} {n m : Nat} (h : n ≤ m) {x : Int} (hx : x ∈ reachS p a n) : x ∈ reachS p a m := by
  obtain ⟨d, rfl⟩ := Nat.le.dest h
  clear h
  induction d with
  | zero => exact hx
  | succ d ih => exact reachS_up ih
/-- Nothing can be added. -/
def ClosedA (p : ProjT) (s : List Int) : Prop := ∀ x, x ∈ s → ∀ y, y ∈ sideV p x false → y ∈ s
theorem closed_step {p : ProjT} {s : List Int} (h : ClosedA p s) (x : Int) : x ∈ stepS p s ↔ x ∈ s := by
  rw [stepS_mem]
  exact ⟨fun h' => h'.elim id fun ⟨z, hz, hx⟩ => h z hz x hx, .inl⟩
theorem closed_up {p : ProjT} {a : Int} {n : Nat} (h : ClosedA p (reachS p a n)) : ∀ d x, x ∈ reachS p a (n + d) → x ∈ reachS p a n := by
  intro d
  induction d with
  | zero => intro x hx; exact hx
  | succ d ih =>
    intro x hx
    rcases (stepS_mem _ _ _).1 hx with h1 | ⟨z, hz, h1⟩
    · exact ih x h1
    · exact h z (ih z hz) x h1
theorem inc_lt_len : ∀ {a b : List Int}, Inc a → Inc b → (∀ x, x ∈ a → x ∈ b) → (∃ y, y ∈ b ∧ ¬ y ∈ a) → a.length < b.length := by
  intro a
  induction a with
  | nil =>
    intro b _ _ _ h
    obtain ⟨y, hy, _⟩ := h
    exact List.length_pos_of_mem hy
  | cons x a ih =>
    intro b ha hb hs hex
    cases b with
    | nil => exact absurd (hs x List.mem_cons_self) (by simp)
    | cons y b =>
      have ha' := List.pairwise_cons.1 ha
      have hb' := List.pairwise_cons.1 hb
      by_cases e : x = y
      · subst e
        obtain ⟨z, hz, hz'⟩ := hex
        have := ih ha'.2 hb'.2 (fun w hw => by
          rcases List.mem_cons.1 (hs w (List.mem_cons_of_mem _ hw)) with e | h
          · subst e; exact absurd (ha'.1 _ hw) (by omega)
          · exact h) ⟨z, by
            rcases List.mem_cons.1 hz with e | h
            · subst e; exact absurd List.mem_cons_self hz'
            · exact h, fun h => hz' (List.mem_cons_of_mem _ h)⟩
        simp only [List.length_cons]; omega
      · have hxb : x ∈ b := by
          rcases List.mem_cons.1 (hs x List.mem_cons_self) with h | h
          · exact absurd h e
          · exact h
        have hyx := hb'.1 x hxb
        have hsub : ∀ w, w ∈ x :: a → w ∈ b := fun w hw => by
          rcases List.mem_cons.1 (hs w hw) with h | h
          · subst h
            rcases List.mem_cons.1 hw with h | h
            · exact absurd h.symm e
            · have := ha'.1 w h; omega
          · exact h
        by_cases hall : ∃ z, z ∈ b ∧ ¬ z ∈ x :: a
        · have h1 : a.length < b.length := ih ha'.2 hb'.2 (fun w hw => hsub w (List.mem_cons_of_mem _ hw)) ⟨x, hxb, fun h => by have := ha'.1 x h; omega⟩
          simp only [List.length_cons]; omega
        · have h1 : a.length < b.length := ih ha'.2 hb'.2 (fun w hw => hsub w (List.mem_cons_of_mem _ hw)) ⟨x, hxb, fun h => by have := ha'.1 x h; omega⟩
          simp only [List.length_cons]; omega
theorem reach_grow {p : ProjT} (hp : projOk p = true) (a : Int) : ∀ n, (∃ k, k ≤ n ∧ ClosedA p (reachS p a k)) ∨ n + 1 ≤ (reachS p a n).length := by
  intro n
  induction n with
  | zero =>
    by_cases h : (reachS p a 0).length = 0
    · left
      refine ⟨0, Nat.le_refl _, fun x hx => ?_⟩
      rw [List.eq_nil_of_length_eq_zero h] at hx
      cases hx
    · right; omega
  | succ n ih =>
    rcases ih with ⟨k, hk, h⟩ | ih
    · exact .inl ⟨k, by omega, h⟩
    · by_cases hc : ClosedA p (reachS p a n)
      · exact .inl ⟨n, by omega, hc⟩
      · right
        have hex : ∃ y, y ∈ reachS p a (n + 1) ∧ ¬ y ∈ reachS p a n := by
          unfold ClosedA at hc
          simp only [Classical.not_forall] at hc
          obtain ⟨x, hx, y, hy, hny⟩ := hc
          exact ⟨y, (stepS_mem _ _ _).2 (.inr ⟨x, hx, hy⟩), hny⟩
        have := inc_lt_len (reachS_set hp a n).1 (reachS_set hp a (n + 1)).1 (fun x hx => reachS_up hx) hex
        omega
/-- The rounds reach all. -/
theorem reach_all {p : ProjT} (hp : projOk p = true) (a : Int) (n : Nat) (x : Int) (h : x ∈ reachS p a n) : x ∈ reachS p a p.2.1.length := by
  rcases reach_grow hp a p.2.1.length with ⟨k, hk, hc⟩ | hg
  · rcases Nat.lt_or_ge n k with hn | hn
    · exact reachS_le (by omega) h
    · obtain ⟨d, rfl⟩ := Nat.le.dest hn
      exact reachS_le hk (closed_up hc d x h)
  · have := inr_len (reachS_set hp a p.2.1.length).1 (reachS_set hp a p.2.1.length).2
    omega
def reachB (p : ProjT) (a b : Int) : Bool := projOk p && hasB b (reachS p a p.2.1.length)
/-- One element of the program's inner loop. -/
def bfs (s : List Int × List Int) (x : Int) : List Int × List Int := if hasB x s.1 = true then s else (s.1 ++ [x], s.2 ++ [x])
def bfsTo (seen opn D : List Int) (j : Nat) : List Int × List Int := (D.take j).foldl bfs (seen, opn)
theorem bfsTo_zero (seen opn D : List Int) : bfsTo seen opn D 0 = (seen, opn) := by simp [bfsTo]
theorem bfsTo_next {seen opn D : List Int} {j : Nat} (h : j < D.length) : bfsTo seen opn D (j + 1) = bfs (bfsTo seen opn D j) (D.getD j 0) := by
  unfold bfsTo
  rw [List.take_succ_eq_append_getElem h, List.foldl_append, List.getD_eq_getElem?_getD, List.getElem?_eq_getElem h]
  rfl
theorem bfs_mem (l : List Int) : ∀ (s : List Int × List Int) (y : Int), (y ∈ (l.foldl bfs s).1 ↔ y ∈ s.1 ∨ y ∈ l) ∧ (y ∈ (l.foldl bfs s).2 → y ∈ s.2 ∨ y ∈ l) ∧ (y ∈ s.2 → y ∈ (l.foldl bfs s).2) ∧ (y ∈ (l.foldl bfs s).1 → y ∈ s.1 ∨ y ∈ (l.foldl bfs s).2) := by
  induction l with
  | nil => intro s y; simp; exact Or.inl
  | cons z l ih =>
    intro s y
    rw [List.foldl_cons]
    obtain ⟨h1, h2, h3, h4⟩ := ih (bfs s z) y
    by_cases hz : hasB z s.1 = true
    · have e : bfs s z = s := if_pos hz
      rw [e] at h1 h2 h3 h4 ⊢
      have hz' := (hasB_iff z s.1).1 hz
      refine ⟨h1.trans ⟨fun h => h.elim .inl fun h => .inr (List.mem_cons_of_mem _ h), fun h => h.elim .inl fun h => ?_⟩, fun h => (h2 h).elim .inl fun h => .inr (List.mem_cons_of_mem _ h), h3, h4⟩
      rcases List.mem_cons.1 h with e | h
      · subst e; exact .inl hz'
      · exact .inr h
    · have e : bfs s z = (s.1 ++ [z], s.2 ++ [z]) := if_neg hz
      rw [e] at h1 h2 h3 h4 ⊢
      simp only [List.mem_append, List.mem_singleton] at h1 h2 h3 h4
      refine ⟨h1.trans ?_, fun h => ?_, fun h => h3 (.inl h), fun h => ?_⟩
      · rw [List.mem_cons, or_assoc]
      · rw [List.mem_cons]
        rcases h2 h with (h | h) | h
        · exact .inl h
        · exact .inr (.inl h)
        · exact .inr (.inr h)
      · rcases h4 h with (h5 | h5) | h5
        · exact .inl h5
        · exact .inr ((ih (s.1 ++ [z], s.2 ++ [z]) y).2.2.1 (by simp [h5]))
        · exact .inr h5
/-- No number twice, told by the set's length. -/
def Once (l : List Int) : Prop := (setL l).length = l.length
theorem once_snoc {l : List Int} {x : Int} (h : Once l) (hx : ¬ x ∈ l) : Once (l ++ [x]) := by
  unfold Once at h ⊢
  rw [setL_snoc]
  unfold putL
  rw [if_neg (by rw [hasB_iff, setL_mem]; exact hx)]
  have := cntL_le x (setL l)
  simp [List.length_take, List.length_drop]
  omega
theorem once_bfs (l : List Int) : ∀ (s : List Int × List Int), Once s.1 → Once (l.foldl bfs s).1 := by
  induction l with
  | nil => intro s h; exact h
  | cons z l ih =>
    intro s h
    rw [List.foldl_cons]
    refine ih _ ?_
    unfold bfs
    split
    · exact h
    · next hz => exact once_snoc h fun hm => hz ((hasB_iff z s.1).2 hm)
theorem once_len {p : ProjT} {l : List Int} (h : Once l) (hr : InR p l) : l.length ≤ p.2.1.length := by
  have h1 := inr_len (setL_inc l) (fun x hx => hr x ((setL_mem l x).1 hx))
  unfold Once at h
  omega
/-- What the search has so far. -/
structure Bfs (p : ProjT) (a : Int) (seen opn : List Int) : Prop where
  reach : ∀ x, x ∈ seen → ∃ n, x ∈ reachS p a n
  once : Once seen
  done : ∀ u, (u = a ∨ u ∈ seen) → u ∈ opn ∨ ∀ y, y ∈ sideV p u false → y ∈ seen
  left : ∀ x, x ∈ opn → x = a ∨ x ∈ seen
theorem Bfs.start (p : ProjT) (a : Int) : Bfs p a [] [a] := by
  refine ⟨fun x h => absurd h (by simp), rfl, fun u h => ?_, fun x h => .inl (by simpa using h)⟩
  rcases h with h | h
  · exact .inl (by simp [h])
  · cases h
theorem Bfs.inr {p : ProjT} {a : Int} {seen opn : List Int} (hp : projOk p = true) (h : Bfs p a seen opn) : InR p seen := fun x hx => by
  obtain ⟨n, hn⟩ := h.reach x hx
  exact (reachS_set hp a n).2 x hn
theorem Bfs.next {p : ProjT} {a u : Int} {seen rest : List Int} (hp : projOk p = true) (ha : inB a 0 ((p.2.1.length : Int) - 1) = true) (h : Bfs p a seen (u :: rest)) : Bfs p a (bfsTo seen (u :: rest) (sideV p u false) (sideV p u false).length).1 (bfsTo seen (u :: rest) (sideV p u false) (sideV p u false).length).2.tail := by
  unfold bfsTo
  rw [List.take_length]
  generalize hD : sideV p u false = D
  have hm := fun y => bfs_mem D (seen, u :: rest) y
  have hsuc : ∀ y, y ∈ sideV p u false → ∃ n, y ∈ reachS p a n := fun y hy => by
    rcases h.left u List.mem_cons_self with e | hu
    · subst e; exact ⟨0, by show y ∈ sucV p u; unfold sucV nbrV; rw [if_pos ⟨hp, ha⟩]; exact hy⟩
    · obtain ⟨n, hn⟩ := h.reach u hu
      exact ⟨n + 1, (stepS_mem _ _ _).2 (.inr ⟨u, hn, hy⟩)⟩
  have hhead : ∃ r, (D.foldl bfs (seen, u :: rest)).2 = u :: r := by
    clear hm hD
    have : ∀ (l : List Int) (s : List Int × List Int) r, s.2 = u :: r → ∃ r', (l.foldl bfs s).2 = u :: r' := by
      intro l
      induction l with
      | nil => intro s r h; exact ⟨r, h⟩
      | cons z l ih =>
        intro s r h
        rw [List.foldl_cons]
        unfold bfs
        split
        · exact ih s r h
        · exact ih _ (r ++ [z]) (by simp [h])
    exact this D (seen, u :: rest) rest rfl
  obtain ⟨r, hr⟩ := hhead
  refine ⟨fun x hx => ?_, once_bfs D (seen, u :: rest) h.once, fun v hv => ?_, fun x hx => ?_⟩
  · rcases (hm x).1.1 hx with h1 | h1
    · exact h.reach x h1
    · rw [← hD] at h1; exact hsuc x h1
  · by_cases e : v = u
    · right
      subst e
      intro y hy
      rw [hD] at hy
      exact (hm y).1.2 (.inr hy)
    · have hin : v ∈ u :: r → v ∈ r := fun h => by
        rcases List.mem_cons.1 h with h | h
        · exact absurd h e
        · exact h
      rcases hv with hv | hv
      · rcases h.done v (.inl hv) with h1 | h1
        · left
          have := (hm v).2.2.1 h1
          rw [hr] at this ⊢
          exact hin this
        · right
          intro y hy
          exact (hm y).1.2 (.inl (h1 y hy))
      · rcases (hm v).2.2.2 hv with h1 | h1
        · rcases h.done v (.inr h1) with h2 | h2
          · left
            have := (hm v).2.2.1 h2
            rw [hr] at this ⊢
            exact hin this
          · right
            intro y hy
            exact (hm y).1.2 (.inl (h2 y hy))
        · left
          rw [hr] at h1 ⊢
          exact hin h1
  · have hx' : x ∈ (D.foldl bfs (seen, u :: rest)).2 := by rw [hr] at hx ⊢; exact List.mem_cons_of_mem _ hx
    rcases (hm x).2.1 hx' with h1 | h1
    · rcases h.left x h1 with h2 | h2
      · exact .inl h2
      · exact .inr ((hm x).1.2 (.inl h2))
    · exact .inr ((hm x).1.2 (.inr h1))
/-- At the end the search has all. -/
theorem Bfs.fin {p : ProjT} {a b : Int} {seen : List Int} (hp : projOk p = true) (ha : inB a 0 ((p.2.1.length : Int) - 1) = true) (h : Bfs p a seen []) : hasB b seen = reachB p a b := by
  have hall : ∀ n x, x ∈ reachS p a n → x ∈ seen := by
    intro n
    induction n with
    | zero =>
      intro x hx
      have hx' : x ∈ sideV p a false := by
        have : sucV p a = sideV p a false := if_pos ⟨hp, ha⟩
        rw [← this]; exact hx
      rcases h.done a (.inl rfl) with h1 | h1
      · cases h1
      · exact h1 x hx'
    | succ n ih =>
      intro x hx
      rcases (stepS_mem _ _ _).1 hx with h1 | ⟨z, hz, h1⟩
      · exact ih x h1
      · rcases h.done z (.inr (ih z hz)) with h2 | h2
        · cases h2
        · exact h2 x h1
  unfold reachB
  rw [hp, Bool.true_and]
  rw [Bool.eq_iff_iff, hasB_iff, hasB_iff]
  exact ⟨fun hb => by obtain ⟨n, hn⟩ := h.reach b hb; exact reach_all hp a n b hn, hall _ b⟩
/-- Out of range: nothing. -/
theorem reach_out {p : ProjT} {a : Int} (ha : inB a 0 ((p.2.1.length : Int) - 1) = false) : ∀ n, reachS p a n = [] := by
  intro n
  induction n with
  | zero => exact if_neg (by rw [ha]; simp)
  | succ n ih => show stepS p (reachS p a n) = []; rw [ih]; rfl
theorem reachB_a {p : ProjT} {a b : Int} (ha : inB a 0 ((p.2.1.length : Int) - 1) = false) : reachB p a b = false := by
  unfold reachB; rw [reach_out ha]; simp [hasB]
theorem reachB_b {p : ProjT} {a b : Int} (hb : inB b 0 ((p.2.1.length : Int) - 1) = false) : reachB p a b = false := by
  unfold reachB
  cases hp : projOk p
  · rfl
  · rw [Bool.true_and, hasB_iff']
    intro hm
    have := (reachS_set hp a _).2 b hm
    unfold inB at hb
    rw [decide_eq_true this.1, decide_eq_true (show b ≤ (p.2.1.length : Int) - 1 from by omega)] at hb
    cases hb
theorem reachB_p {p : ProjT} {a b : Int} (hp : projOk p = false) : reachB p a b = false := by unfold reachB; rw [hp]; rfl
end Go.Proofs.Ytiaamddhocdhaaa
end

/- OrderF -/
section
namespace Go.Proofs.Ytiaamddhocdhaaa
open Go.RowKit
set_option linter.unusedVariables false

theorem topoR_empty {p : ProjT} (h : p.2.2.1.length = 0) : ∀ k, k ≤ p.2.1.length → topoR p k = rangeL k := by
  intro k
  induction k with
  | zero => intro _; rfl
  | succ k ih =>
    intro hk
    have h1 := ih (by omega)
    rw [topoR_yes (a := k) (idxV_hit (by omega) ?_ ?_), h1, rangeL_succ]
    · unfold freeB readyB
      rw [h1, h, (hasB_iff' _ _).2 (fun hm => by have := rangeL_has.1 hm; omega)]
      rfl
    · intro j hj
      unfold freeB
      rw [h1, (hasB_iff _ _).2 (rangeL_has.2 ⟨by omega, by omega⟩)]
      rfl
theorem order_links {p : ProjT} (hp : projOk p = true) (h : topoB p = false) : 0 < p.2.2.1.length := by
  rcases Nat.eq_zero_or_pos p.2.2.1.length with h0 | h0
  · exfalso
    have h1 := topoR_empty h0 p.2.1.length (Nat.le_refl _)
    have := (topo_full hp (by rw [h1, rangeL_length])).1
    rw [h] at this
    cases this
  · exact h0
theorem getD_sn_lt {l : List Int} {a : Int} {i : Nat} (h : i < l.length) : (l ++ [a]).getD i 0 = l.getD i 0 := by
  simp only [List.getD_eq_getElem?_getD]
  rw [List.getElem?_append_left h]
theorem getD_sn_at (l : List Int) (a : Int) : (l ++ [a]).getD l.length 0 = a := by simp [List.getD_eq_getElem?_getD]
theorem ordD_in {l : List Int} {i : Nat} (h : i < l.length) : l.getD i 0 ∈ l := by
  rw [List.getD_eq_getElem?_getD, List.getElem?_eq_getElem h]
  exact List.getElem_mem h
theorem ordD_at {l : List Int} {x : Int} (h : x ∈ l) : ∃ i, i < l.length ∧ l.getD i 0 = x := by
  obtain ⟨i, hi, rfl⟩ := List.getElem_of_mem h
  exact ⟨i, hi, by rw [List.getD_eq_getElem?_getD, List.getElem?_eq_getElem hi]; rfl⟩
/-- The order so far: no number twice, each behind those that its links ask for. -/
structure OrdR (p : ProjT) (l : List Int) : Prop where
  inr : InR p l
  onc : Once l
  dif : ∀ i j, i < j → j < l.length → l.getD i 0 ≠ l.getD j 0
  pre : ∀ j, j < l.length → readyB p (l.take j) (l.getD j 0) = true
theorem OrdR.snoc {p : ProjT} {l : List Int} {a : Nat} (h : OrdR p l) (ha : a < p.2.1.length) (hf : freeB p l a = true) : OrdR p (l ++ [(a : Int)]) := by
  unfold freeB at hf
  simp only [Bool.and_eq_true, Bool.not_eq_true'] at hf
  have hn : ¬ (a : Int) ∈ l := (hasB_iff' _ _).1 hf.1
  refine ⟨fun x hx => ?_, once_snoc h.onc hn, fun i j hij hj => ?_, fun j hj => ?_⟩
  · rcases List.mem_append.1 hx with hx | hx
    · exact h.inr x hx
    · rw [List.mem_singleton.1 hx]; omega
  · simp at hj
    by_cases e : j < l.length
    · rw [getD_sn_lt e, getD_sn_lt (by omega)]; exact h.dif i j hij e
    · obtain rfl : j = l.length := by omega
      rw [getD_sn_at, getD_sn_lt hij]
      exact fun he => hn (he ▸ ordD_in hij)
  · simp at hj
    by_cases e : j < l.length
    · rw [getD_sn_lt e, List.take_append_of_le_length (by omega)]; exact h.pre j e
    · obtain rfl : j = l.length := by omega
      rw [getD_sn_at, List.take_left']
      · exact hf.2
      · rfl
theorem topoR_ord (p : ProjT) : ∀ k, OrdR p (topoR p k) := by
  intro k
  induction k with
  | zero =>
    show OrdR p []
    exact { inr := fun x hx => (by cases hx), onc := rfl, dif := fun i j _ hj => absurd hj (Nat.not_lt_zero _), pre := fun j hj => absurd hj (Nat.not_lt_zero _) }
  | succ k ih =>
    cases hf : (List.range p.2.1.length).find? (freeB p (topoR p k)) with
    | none => rw [topoR_no hf]; exact ih
    | some a =>
      rw [topoR_yes hf]
      exact ih.snoc (List.mem_range.1 (List.mem_of_find?_eq_some hf)) (List.find?_some hf)
theorem rangeL_inc (n : Nat) : Inc (rangeL n) := by
  unfold Inc rangeL
  rw [List.pairwise_map]
  exact List.pairwise_lt_range.imp (fun h => by omega)
theorem OrdR.set {p : ProjT} {l : List Int} (h : OrdR p l) (hl : l.length = p.2.1.length) : setL l = rangeL p.2.1.length := by
  refine inc_ext (setL_inc l) (rangeL_inc _) fun x => ⟨fun hx => rangeL_has.2 (h.inr x ((setL_mem l x).1 hx)), fun hx => ?_⟩
  refine Classical.byContradiction fun hn => ?_
  have h1 := inc_lt_len (setL_inc l) (rangeL_inc p.2.1.length) (fun y hy => rangeL_has.2 (h.inr y ((setL_mem l y).1 hy))) ⟨x, hx, hn⟩
  have h2 : (setL l).length = l.length := h.onc
  rw [rangeL_length] at h1
  omega
/-- The places of the first k of the order. -/
def atV (n : Nat) (o : List Int) : Nat → List Int
  | 0 => List.replicate n 0
  | k + 1 => (atV n o k).set (o.getD k 0).toNat (k : Int)
theorem atV_length (n : Nat) (o : List Int) : ∀ k, (atV n o k).length = n := by
  intro k
  induction k with
  | zero => simp [atV]
  | succ k ih => simp [atV, ih]
theorem atV_at {p : ProjT} {l : List Int} (h : OrdR p l) : ∀ k, k ≤ l.length → ∀ i, i < k → (atV p.2.1.length l k).getD (l.getD i 0).toNat 0 = i := by
  intro k
  induction k with
  | zero => intro _ i hi; cases hi
  | succ k ih =>
    intro hk i hi
    have hb := h.inr _ (ordD_in (show k < l.length by omega))
    have hbi := h.inr _ (ordD_in (show i < l.length by omega))
    simp only [atV, List.getD_eq_getElem?_getD]
    by_cases e : i = k
    · subst e
      rw [List.getElem?_set_self (by rw [atV_length]; simp only [List.getD_eq_getElem?_getD] at hb; omega)]
      rfl
    · have hd := h.dif i k (by omega) (by omega)
      rw [List.getElem?_set_ne (by simp only [List.getD_eq_getElem?_getD] at hb hbi hd; omega)]
      have := ih (by omega) i (by omega)
      simpa only [List.getD_eq_getElem?_getD] using this
theorem OrdR.after {p : ProjT} {l : List Int} (h : OrdR p l) (hl : l.length = p.2.1.length) {j : Nat} (hj : j < p.2.2.1.length) (hb : 0 ≤ (p.2.2.1.getD j zLink).2.1 ∧ (p.2.2.1.getD j zLink).2.1 < (p.2.1.length : Int)) (hg : 0 < fullGapV p (p.2.2.1.getD j zLink)) :
    (atV p.2.1.length l l.length).getD (p.2.2.1.getD j zLink).1.toNat 0 ≤ (atV p.2.1.length l l.length).getD (p.2.2.1.getD j zLink).2.1.toNat 0 := by
  have hm : (p.2.2.1.getD j zLink).2.1 ∈ l := (setL_mem l _).1 (by rw [h.set hl]; exact rangeL_has.2 hb)
  obtain ⟨jb, hjb, e⟩ := ordD_at hm
  have hr := h.pre jb hjb
  unfold readyB at hr
  simp only [Bool.not_eq_true', List.any_eq_false] at hr
  have h1 := hr j (List.mem_range.2 hj)
  unfold barsB at h1
  rw [e, decide_eq_true rfl, decide_eq_true hg] at h1
  simp only [Bool.true_and, Bool.not_eq_true', Bool.not_eq_false] at h1
  have h2 := (hasB_iff _ _).1 h1
  obtain ⟨ia, hia, e2⟩ := ordD_at h2
  have hlt : ia < jb := by simp at hia; omega
  have e3 : l.getD ia 0 = (p.2.2.1.getD j zLink).1 := by
    rw [← e2]
    simp only [List.getD_eq_getElem?_getD]
    rw [List.getElem?_take_of_lt hlt]
  rw [← e, ← e3, atV_at h _ (Nat.le_refl _) ia (by omega), atV_at h _ (Nat.le_refl _) jb hjb]
  omega
theorem sideTo_has {ls : List LinkT} {a : Int} {back : Bool} {i : Nat} (h : sideB a back (ls.getD i zLink) = true) : ∀ j, i < j → sideE back (ls.getD i zLink) ∈ sideTo ls a back j := by
  intro j
  induction j with
  | zero => intro hj; cases hj
  | succ j ih =>
    intro hj
    by_cases e : i = j
    · subst e
      rw [sideTo_yes h]
      exact List.mem_append_right _ (List.mem_singleton.2 rfl)
    · have := ih (by omega)
      simp only [sideTo]
      split
      · exact List.mem_append_left _ this
      · exact this
theorem order_in {n : Nat} {a : Int} (h : 0 ≤ a ∧ a < (n : Int)) : inB a 0 ((n : Int) - 1) = true := by simp only [inB, Bool.and_eq_true, decide_eq_true_eq]; omega
theorem order_suc {p : ProjT} (hp : projOk p = true) {j : Nat} (hj : j < p.2.2.1.length) : hasB (p.2.2.1.getD j zLink).2.1 (sucV p (p.2.2.1.getD j zLink).1) = true := by
  obtain ⟨⟨a1, e1, h1⟩, ⟨a2, e2, h2⟩, -⟩ := linkOk_bd (projOk_link hp hj)
  rw [hasB_iff]
  unfold sucV nbrV
  rw [if_pos ⟨hp, order_in (by rw [e1]; omega)⟩]
  unfold sideV
  rw [setL_mem]
  exact sideTo_has (ls := p.2.2.1) (back := false) (i := j) (by unfold sideB; simp) _ hj
theorem order_pre {p : ProjT} (hp : projOk p = true) {j : Nat} (hj : j < p.2.2.1.length) : hasB (p.2.2.1.getD j zLink).1 (preV p (p.2.2.1.getD j zLink).2.1) = true := by
  obtain ⟨⟨a1, e1, h1⟩, ⟨a2, e2, h2⟩, -⟩ := linkOk_bd (projOk_link hp hj)
  rw [hasB_iff]
  unfold preV nbrV
  rw [if_pos ⟨hp, order_in (by rw [e2]; omega)⟩]
  unfold sideV
  rw [setL_mem]
  exact sideTo_has (ls := p.2.2.1) (back := true) (i := j) (by unfold sideB; simp) _ hj
theorem order_reach {p : ProjT} (hp : projOk p = true) {j : Nat} (hj : j < p.2.2.1.length) : reachB p (p.2.2.1.getD j zLink).1 (p.2.2.1.getD j zLink).2.1 = true := by
  unfold reachB
  rw [hp, (hasB_iff _ _).2 (reachS_le (Nat.zero_le _) (show _ ∈ reachS p _ 0 from (hasB_iff _ _).1 (order_suc hp hj)))]
  rfl
theorem order_roots {p : ProjT} (hp : projOk p = true) : (rootV p).length ≤ p.2.1.length := by
  unfold rootV
  rw [if_pos hp]
  exact rootTo_le _ _
/-- A full order's facts. -/
theorem order_full {p : ProjT} (hp : projOk p = true) (h : topoB p = true) : OrdR p (topoV p) ∧ (topoV p).length = p.2.1.length := by
  have e : topoV p = topoR p p.2.1.length := by unfold topoV; rw [if_pos h]
  unfold topoB at h
  simp only [Bool.and_eq_true, decide_eq_true_eq] at h
  rw [e]
  exact ⟨topoR_ord p _, h.2⟩
end Go.Proofs.Ytiaamddhocdhaaa
end

/- RingP -/
section
namespace Go.Proofs.Ytiaamddhocdhaaa
open Go.RowKit
set_option linter.unusedVariables false

theorem Net.wk_next (N : Net) : ∀ (l : List Nat) (u v : Nat), N.wk u l v → ∀ i, i + 1 < l.length → N.to (l.getD i 0) = N.fr (l.getD (i + 1) 0)
  | [], u, v, h, i, hi => absurd hi (Nat.not_lt_zero _)
  | [j], u, v, h, i, hi => by simp at hi
  | j :: k :: t, u, v, h, 0, hi => h.2.2.2.1.symm
  | j :: k :: t, u, v, h, i + 1, hi => Net.wk_next N (k :: t) _ v h.2.2 i (by simpa using hi)
theorem Net.wk_round (N : Net) {l : List Nat} {u : Nat} (h : N.wk u l u) {i : Nat} (hi : i < l.length) : N.to (l.getD i 0) = N.fr (l.getD ((i + 1) % l.length) 0) := by
  by_cases e : i + 1 < l.length
  · rw [Nat.mod_eq_of_lt e]; exact N.wk_next l u u h i e
  · obtain ⟨n, hn⟩ : ∃ n, l.length = n + 1 := ⟨l.length - 1, by omega⟩
    obtain rfl : i = n := by omega
    rw [← hn, Nat.mod_self, ← lastD_at l i hn, ← headD_at]
    have := N.wk_ends h (by rintro rfl; simp at hn)
    rw [this.1, this.2]
/-- A cycle that is reported. -/
structure RingOk (p : ProjT) (L : List Nat) : Prop where
  eq : posV p = nI L
  ne : 0 < L.length
  le : L.length ≤ 6
  lt : ∀ i, i < L.length → L.getD i 0 < p.2.2.1.length
  nx : ∀ i, i < L.length → (p.2.2.1.getD (L.getD i 0) zLink).2.1 = (p.2.2.1.getD (L.getD ((i + 1) % L.length) 0) zLink).1
  pos : 0 < (netOf p).wt L
  ear : earlV p = []
  dst : distV p = []
theorem ring_some {p : ProjT} (hp : projOk p = true) (h : posV p ≠ []) : ∃ L, RingOk p L := by
  have hne : (netOf p).posF ≠ [] := by
    intro e; apply h; rw [posV_ok hp, e]; rfl
  obtain ⟨u, h1, h2, h3⟩ := posF_sound _ hne
  have h4 : (netOf p).n ≤ 6 := (netOf_fine hp).le
  have hl : ∀ i, i < (netOf p).posF.length → (netOf p).posF.getD i 0 < p.2.2.1.length := fun i hi => (netOf p).wk_lt _ _ _ h1 _ (getD_in hi)
  have h0 : 0 < (netOf p).posF.length := List.length_pos_iff.2 hne
  have hd : distV p = [] := by unfold distV; rw [if_neg (by rintro ⟨_, e⟩; exact hne e)]
  refine ⟨(netOf p).posF, posV_ok hp, h0, by omega, hl, fun i hi => ?_, h2, ?_, hd⟩
  · have hm : (i + 1) % (netOf p).posF.length < (netOf p).posF.length := Nat.mod_lt _ h0
    have e1 := netOf_at hp (hl i hi)
    have e2 := netOf_at hp (hl _ hm)
    rw [e1.2.1, e2.1, (netOf p).wk_round h1 hi]
  · unfold earlV; rw [hd]; rfl
theorem RingOk.step {p : ProjT} {L : List Nat} (h : RingOk p L) {i : Nat} (hi : i < L.length) : (netOf p).wt (L.take (i + 1)) = (netOf p).wt (L.take i) + fullGapV p (p.2.2.1.getD (L.getD i 0) zLink) := wt_take _ _ hi
theorem RingOk.bd {p : ProjT} {L : List Nat} (hp : projOk p = true) (h : RingOk p L) (i : Nat) : -360 ≤ (netOf p).wt (L.take i) ∧ (netOf p).wt (L.take i) ≤ 432 := by
  have h1 := wt_bd (netOf p) (netOf_fine hp) (L.take i) (fun x hx => by
    obtain ⟨j, hj, rfl⟩ := List.getElem_of_mem (List.mem_of_mem_take hx)
    have := h.lt j hj
    rw [getD_get _ 0 hj] at this
    exact this)
  have h2 : (L.take i).length ≤ 6 := Nat.le_trans (by simp; omega) h.le
  omega
theorem earlTo_le {M : List (List Int)} {k : Nat} : ∀ n i, i < n → (M.getD i []).getD k 0 ≤ earlTo M k n := by
  intro n
  induction n with
  | zero => intro i hi; omega
  | succ n ih =>
    intro i hi
    simp only [earlTo, maxI_lt]
    by_cases e : i = n
    · subst e; split <;> omega
    · have := ih i (by omega)
      split <;> omega
theorem earlTo_att {M : List (List Int)} {k : Nat} : ∀ n, earlTo M k n = 0 ∨ ∃ i, i < n ∧ earlTo M k n = (M.getD i []).getD k 0 ∧ 0 ≤ (M.getD i []).getD k 0 := by
  intro n
  induction n with
  | zero => left; rfl
  | succ n ih =>
    have h0 : 0 ≤ earlTo M k n := by rcases ih with h | ⟨i, _, h1, h2⟩ <;> omega
    simp only [earlTo, maxI_lt]
    split
    · right; exact ⟨n, by omega, rfl, by omega⟩
    · rcases ih with h | ⟨i, h1, h2⟩
      · left; exact h
      · right; exact ⟨i, by omega, h2⟩
theorem earlM_at {M : List (List Int)} {n j : Nat} (h : j < n) : (earlM M n).getD j 0 = earlTo M j M.length := by
  rw [getD_get _ 0 (by rw [earlM_length]; exact h)]
  simp [earlM]
/-- The earliest starts where no cycle is reported. -/
structure EarlyOk (p : ProjT) (E : List Int) : Prop where
  len : E.length = p.2.1.length
  bd : ∀ i, i < p.2.1.length → 0 ≤ E.getD i 0 ∧ E.getD i 0 ≤ 4608
  link : ∀ k, k < p.2.2.1.length → E.getD (p.2.2.1.getD k zLink).1.toNat 0 + fullGapV p (p.2.2.1.getD k zLink) ≤ E.getD (p.2.2.1.getD k zLink).2.1.toNat 0
theorem ring_none {p : ProjT} (hp : projOk p = true) (h : posV p = []) : EarlyOk p (earlV p) := by
  have he : (netOf p).posF = [] := by
    rw [posV_ok hp] at h
    have := congrArg List.length h
    rw [nI_length] at this
    exact List.eq_nil_of_length_eq_zero this
  have hF := netOf_fine hp
  have hD := dist_all (netOf p) hF ((netOf p).posF_none hF he) p.2.1.length (Nat.le_refl _)
  have hv : distV p = rowsOf p.2.1.length p.2.1.length (distM (netOf p) p.2.1.length) := by unfold distV; rw [if_pos ⟨hp, he⟩]
  have hl : (distV p).length = p.2.1.length := by rw [hv, rowsOf_length]
  have hat : ∀ i k, i < p.2.1.length → k < p.2.1.length → ((distV p).getD i []).getD k 0 = distM (netOf p) p.2.1.length i k := by
    intro i k hi hk
    rw [hv, getD_get _ [] (by rw [rowsOf_length]; exact hi), rowsOf_at, getD_get _ 0 (by simp; exact hk)]
    simp
  have hea : ∀ j, j < p.2.1.length → (earlV p).getD j 0 = earlTo (distV p) j p.2.1.length := by
    intro j hj
    unfold earlV
    rw [earlM_at (by rw [hl]; exact hj), hl]
  refine ⟨by unfold earlV; rw [earlM_length, hl], fun i hi => ?_, fun k hk => ?_⟩
  · rw [hea i hi]
    have := earlTo_bd (distV_sq p) (k := i) (by rw [hl]; exact hi) p.2.1.length (by rw [hl]; exact Nat.le_refl _)
    exact this
  · obtain ⟨e1, e2, h1, h2, h3, h4, h5⟩ := netOf_at hp hk
    rw [e1, e2, Int.toNat_natCast, Int.toNat_natCast, hea _ h1, hea _ h2]
    have hlk : (netOf p).gp k ≤ distM (netOf p) p.2.1.length ((netOf p).fr k) ((netOf p).to k) := hD.link k hk
    have hg : fullGapV p (p.2.2.1.getD k zLink) = (netOf p).gp k := rfl
    rw [hg]
    rcases earlTo_att (M := distV p) (k := (netOf p).fr k) p.2.1.length with h6 | ⟨i, hi, h7, h8⟩
    · have := earlTo_le (M := distV p) (k := (netOf p).to k) p.2.1.length ((netOf p).fr k) h1
      rw [hat _ _ h1 h2] at this
      omega
    · rw [hat _ _ hi h1] at h7 h8
      have h9 := hD.tri i ((netOf p).fr k) ((netOf p).to k) hi h1 h2 (by omega) (by omega)
      have := earlTo_le (M := distV p) (k := (netOf p).to k) p.2.1.length i hi
      rw [hat _ _ hi h2] at this
      omega
theorem topo_len {p : ProjT} (hp : projOk p = true) : topoB p = decide ((topoV p).length = p.2.1.length) := by
  have h0 := (projOk_bd hp).1
  cases h : topoB p
  · have : topoV p = [] := by unfold topoV; rw [h]; rfl
    rw [this, eq_comm, decide_eq_false_iff_not]
    simp; omega
  · rw [eq_comm, decide_eq_true_eq]; exact (order_full hp h).2
end Go.Proofs.Ytiaamddhocdhaaa
end

/- Topo -/
section
namespace Go.Proofs.Ytiaamddhocdhaaa
open Go.ChangeShapes Go.WideShapes Go.ChangeAt Go.RowKit
set_option linter.unusedVariables false

set_option maxHeartbeats 400000 in
theorem closBar_any (p : ProjT) (S : Nat → Prop) (p1 : Option Addr) (k1 : Nat) (p2 : Option Addr) (k2 : Nat) (p3 : Option Addr) (k3 : Nat) (p4 : Option Addr) (k4 : Nat) (done : List Int) (q : Option Addr) (cap : Nat) (V : Nat → Prop) (BP BO BI : Nat) (i : Int) (k : LinkT) (w : World) (hx : projR S w [.int .i64 p.1, .slice p1 p.2.1.length k1, .slice p2 p.2.2.1.length k2, .slice p3 p.2.2.2.1.length k3, .slice p4 p.2.2.2.2.length k4] p) (hS : ∀ b, S b → b < w.heap.size) (hp : projOk p = true) (hd : intsR V w [.slice q done.length cap] done) (hV : ∀ b, V b → b < w.heap.size) (hb : w.cell? ⟨BP, 0, none⟩ = some (.int .i64 p.1) ∧ w.cell? ⟨BP, 1, none⟩ = some (.slice p1 p.2.1.length k1) ∧ w.cell? ⟨BP, 2, none⟩ = some (.slice p2 p.2.2.1.length k2) ∧ w.cell? ⟨BP, 3, none⟩ = some (.slice p3 p.2.2.2.1.length k3) ∧ w.cell? ⟨BP, 4, none⟩ = some (.slice p4 p.2.2.2.2.length k4) ∧ w.cell? ⟨BO, 0, none⟩ = some (.slice q done.length cap) ∧ w.cell? ⟨BI, 0, none⟩ = some (.int .i64 i)) (hk : linkOkB p.2.1.length k = true) :
    Calls Try.prog 102 #[.agg #[.int .i64 k.1, .int .i64 k.2.1, .bool k.2.2.1, .int .i64 k.2.2.2], .pointer (some ⟨BI, 0, none⟩), .pointer (some ⟨BP, 0, none⟩), .pointer (some ⟨BO, 0, none⟩)] w fun e w' => e = .returned (.bool (barsB p done i k)) ∧ Bel w w' := by
  have HP := Lib.hid hx
  have HS := Lib.hid hS
  have HPO := Lib.hid hp
  have HD := Lib.hid hd
  have HV := Lib.hid hV
  have HK := Lib.hid hk
  obtain ⟨b0, b1, b2, b3, b4, bo, bi⟩ := hb
  have ab0 := fun o => ((Bel.refl w).alloc o).cell b0
  have ab1 := fun o => ((Bel.refl w).alloc o).cell b1
  have ab2 := fun o => ((Bel.refl w).alloc o).cell b2
  have ab3 := fun o => ((Bel.refl w).alloc o).cell b3
  have ab4 := fun o => ((Bel.refl w).alloc o).cell b4
  have abo := fun o => ((Bel.refl w).alloc o).cell bo
  have abi := fun o => ((Bel.refl w).alloc o).cell bi
  clear hx hS hp hd hV hk
  go_enter Try.func102, Try.ntmps102
  by_cases h1 : k.2.1 = i
  rotate_left
  · have z1 : (k.2.1 == i) = false := by simpa using h1
    have HF := Lib.hid (show barsB p done i k = false from by unfold barsB; rw [decide_eq_false h1]; rfl)
    clear h1
    go_wp2
    go_ret
    exact ⟨ret_bool HF.out.symm, by (repeat (first | assumption | exact Bel.refl _ | apply Bel.drewN | apply Bel.drew | apply Bel.alloc | refine Bel.trans ?_ (by assumption)))⟩
  have z1 : (k.2.1 == i) = true := by simpa using h1
  have HF1 := Lib.hid (show barsB p done i k = (decide (0 < fullGapV p k) && !hasB k.1 done) from by unfold barsB; rw [decide_eq_true h1]; rfl)
  clear h1
  go_wp2_with fail
  refine (fullGap_any _ p S k _ (aggR_mk (projR_good.bel HP.out (by (repeat (first | assumption | exact Bel.refl _ | apply Bel.drewN | apply Bel.drew | apply Bel.alloc | refine Bel.trans ?_ (by assumption)))) HS.out)) (fun b hb => Nat.lt_of_lt_of_le (HS.out b hb) (Bel.size (by (repeat (first | assumption | exact Bel.refl _ | apply Bel.drewN | apply Bel.drew | apply Bel.alloc | refine Bel.trans ?_ (by assumption)))))) HPO.out HK.out).mono ?_
  rintro e w1 ⟨rfl, g1⟩
  have bo := g1.cell (abo _)
  have kc0 := g1.cell (p := ⟨w.heap.size, 0, none⟩) (v := .int .i64 k.1) (by simp [go_sem])
  have kc1 := g1.cell (p := ⟨w.heap.size, 1, none⟩) (v := .int .i64 k.2.1) (by simp [go_sem])
  have kc2 := g1.cell (p := ⟨w.heap.size, 2, none⟩) (v := .bool k.2.2.1) (by simp [go_sem])
  have kc3 := g1.cell (p := ⟨w.heap.size, 3, none⟩) (v := .int .i64 k.2.2.2) (by simp [go_sem])
  have G1 : Bel w w1 := by (repeat (first | assumption | exact Bel.refl _ | apply Bel.drewN | apply Bel.drew | apply Bel.alloc | refine Bel.trans ?_ (by assumption)))
  clear ab0 ab1 ab2 ab3 ab4 abo abi b0 b1 b2 b3 b4 bi
  by_cases h2 : 0 < fullGapV p k
  rotate_left
  · have HF := Lib.hid (show barsB p done i k = false from by rw [HF1.out, decide_eq_false h2]; rfl)
    generalize fullGapV p k = G at *
    go_wp2
    go_ret
    exact ⟨ret_bool HF.out.symm, by (repeat (first | assumption | exact Bel.refl _ | apply Bel.drewN | apply Bel.drew | apply Bel.alloc | refine Bel.trans ?_ (by assumption)))⟩
  have HF := Lib.hid (show barsB p done i k = !hasB k.1 done from by rw [HF1.out, decide_eq_true h2]; rfl)
  clear HF1
  generalize fullGapV p k = G at *
  go_wp2_with fail
  refine (containsInts_any _ done _ V _ (intsR_good.bel HD.out (by (repeat (first | assumption | exact Bel.refl _ | apply Bel.drewN | apply Bel.drew | apply Bel.alloc | refine Bel.trans ?_ (by assumption)))) HV.out)).mono ?_
  rintro e w2 ⟨rfl, rfl⟩
  go_wp2
  go_ret
  exact ⟨ret_bool HF.out.symm, by (repeat (first | assumption | exact Bel.refl _ | apply Bel.drewN | apply Bel.drew | apply Bel.alloc | refine Bel.trans ?_ (by assumption)))⟩

set_option maxHeartbeats 400000 in
theorem indexBar_any (c : Nat → Bool) (B0 B1 B2 : Nat) (v : Value) (xs : List LinkT) (S : Nat → Prop) (w : World) (hx : linksR S w [v] xs) (hS : ∀ b, S b → b < w.heap.size)
    (hcl : ∀ W, Bel w W → ∀ j, j < xs.length → Calls Try.prog 102 #[.agg #[.int .i64 (xs.getD j zLink).1, .int .i64 (xs.getD j zLink).2.1, .bool (xs.getD j zLink).2.2.1, .int .i64 (xs.getD j zLink).2.2.2], .pointer (some ⟨B0, 0, none⟩), .pointer (some ⟨B1, 0, none⟩), .pointer (some ⟨B2, 0, none⟩)] W fun e w' => e = .returned (.bool (c j)) ∧ Bel W w') :
    Calls Try.prog 156 #[v, .func (.func 102) #[] #[.pointer (some ⟨B0, 0, none⟩), .pointer (some ⟨B1, 0, none⟩), .pointer (some ⟨B2, 0, none⟩)]] w fun e w' => e = .returned (.int .i64 (idxV c xs.length)) ∧ Bel w w' := by
  have HM := Lib.hid hx
  have HS := Lib.hid hS
  have HCL := Lib.hid hcl
  obtain ⟨p2, k2, hv, l2, l2', hr⟩ := sliceR_open hx
  clear hr
  subst hv
  unfold maxLen at l2'
  clear hx hS hcl
  go_enter Try.func156, Try.ntmps156
  go_wp2_with fail
  go_loopw [8] (fun i wr => ∃ (k : Nat), k ≤ xs.length ∧ i = .int .i64 k ∧ (∀ j, j < k → c j = false) ∧ Bel w wr) (fun i _ => xs.length - (intOf i).toNat)
  case atStart => exact ⟨0, Nat.zero_le _, rfl, fun j hj => by omega, by (repeat (first | assumption | exact Bel.refl _ | apply Bel.drewN | apply Bel.drew | apply Bel.alloc | refine Bel.trans ?_ (by assumption)))⟩
  case round =>
    obtain ⟨k, hk, rfl, hall, hB⟩ := hrel
    have HA := Lib.hid hall; clear hall
    by_cases hlt : k < xs.length
    · obtain ⟨b, off, ecs, ea, hrow, hel⟩ := sliceR_at zLink HM.out hlt
      obtain rfl : p2 = some ⟨b, off, none⟩ := ea
      have HC := Lib.hid (HCL.out wr hB k hlt)
      generalize xs.getD k zLink = X at *
      obtain ⟨rfl, eq0, eq1, eq3⟩ := linkR_open hel
      have ed := fun i hi => hB.cell (hrow i hi).1
      have ed0 := ed 0 (by simp)
      have ed1 := ed 1 (by simp)
      have ed2 := ed 2 (by simp)
      have ed3 := ed 3 (by simp)
      simp only [List.getElem_cons_zero, List.getElem_cons_succ, Nat.add_zero] at ed0 ed1 ed2 ed3
      clear hrow hel eq0 eq1 eq3 ed
      go_wp2_with fail
      refine (HC.out).mono ?_
      rintro e w1 ⟨rfl, g1⟩
      have G : Bel w w1 := by (repeat (first | assumption | exact Bel.refl _ | apply Bel.drewN | apply Bel.drew | apply Bel.alloc | refine Bel.trans ?_ (by assumption)))
      cases hb : c k
      · have HBk := Lib.hid hb; clear hb
        go_wp2
        go_roundw
        case rel =>
          refine ⟨k + 1, by omega, by go_num, fun j hj => ?_, G⟩
          by_cases e : j < k
          · exact HA.out j e
          · obtain rfl : j = k := by omega
            exact HBk.out
        case measure => simp [intOf]; omega
      · have HE := Lib.hid (show idxV c xs.length = k from by unfold idxV; rw [idxV_hit hlt hb HA.out])
        clear hb
        go_wp2
        go_ret
        exact ⟨ret_int HE.out.symm, G⟩
    · have HE := Lib.hid (show idxV c xs.length = -1 from by unfold idxV; rw [idxV_miss fun j hj => HA.out j (by omega)])
      go_wp2
      go_ret
      exact ⟨ret_int HE.out.symm, hB⟩

theorem containsBar_any (c : Nat → Bool) (B0 B1 B2 : Nat) (v : Value) (xs : List LinkT) (S : Nat → Prop) (w : World) (hx : linksR S w [v] xs) (hS : ∀ b, S b → b < w.heap.size)
    (hcl : ∀ W, Bel w W → ∀ j, j < xs.length → Calls Try.prog 102 #[.agg #[.int .i64 (xs.getD j zLink).1, .int .i64 (xs.getD j zLink).2.1, .bool (xs.getD j zLink).2.2.1, .int .i64 (xs.getD j zLink).2.2.2], .pointer (some ⟨B0, 0, none⟩), .pointer (some ⟨B1, 0, none⟩), .pointer (some ⟨B2, 0, none⟩)] W fun e w' => e = .returned (.bool (c j)) ∧ Bel W w') :
    Calls Try.prog 101 #[v, .func (.func 102) #[] #[.pointer (some ⟨B0, 0, none⟩), .pointer (some ⟨B1, 0, none⟩), .pointer (some ⟨B2, 0, none⟩)]] w fun e w' => e = .returned (.bool ((List.range xs.length).any c)) ∧ Bel w w' := by
  have HM := Lib.hid hx
  have HS := Lib.hid hS
  have HCL := Lib.hid hcl
  clear hx hS hcl
  have HF : (idxV c xs.length = -1 ∧ (List.range xs.length).any c = false) ∨ (0 ≤ idxV c xs.length ∧ (List.range xs.length).any c = true) := by
    unfold idxV
    cases h : (List.range xs.length).find? c with
    | none => exact Or.inl ⟨rfl, any_miss fun j hj => by simpa using List.find?_eq_none.1 h j (List.mem_range.2 hj)⟩
    | some k => exact Or.inr ⟨Int.natCast_nonneg k, any_hit (List.mem_range.1 (List.mem_of_find?_eq_some h)) (List.find?_some h)⟩
  go_enter Try.func101, Try.ntmps101
  go_wp2_with fail
  refine (indexBar_any c B0 B1 B2 v xs S _ HM.out HS.out HCL.out).mono ?_
  rintro e w1 ⟨rfl, g1⟩
  generalize idxV c xs.length = r at *
  rcases HF with ⟨rfl, hf⟩ | ⟨hr, hf⟩
  · have H := Lib.hid hf; clear hf
    go_wp2
    go_ret
    exact ⟨ret_bool H.out.symm, g1⟩
  · have H := Lib.hid hf; clear hf
    go_wp2
    go_ret
    exact ⟨ret_bool (by rw [H.out]; first | done | simpa using hr), g1⟩

set_option maxHeartbeats 400000 in
theorem closFree_any (p : ProjT) (S : Nat → Prop) (p1 : Option Addr) (k1 : Nat) (p2 : Option Addr) (k2 : Nat) (p3 : Option Addr) (k3 : Nat) (p4 : Option Addr) (k4 : Nat) (done : List Int) (q : Option Addr) (cap : Nat) (V : Nat → Prop) (BP BO : Nat) (j : Nat) (ec : Value) (w : World) (hx : projR S w [.int .i64 p.1, .slice p1 p.2.1.length k1, .slice p2 p.2.2.1.length k2, .slice p3 p.2.2.2.1.length k3, .slice p4 p.2.2.2.2.length k4] p) (hS : ∀ b, S b → b < w.heap.size) (hp : projOk p = true) (hd : intsR V w [.slice q done.length cap] done) (hV : ∀ b, V b → b < w.heap.size) (hb : w.cell? ⟨BP, 0, none⟩ = some (.int .i64 p.1) ∧ w.cell? ⟨BP, 1, none⟩ = some (.slice p1 p.2.1.length k1) ∧ w.cell? ⟨BP, 2, none⟩ = some (.slice p2 p.2.2.1.length k2) ∧ w.cell? ⟨BP, 3, none⟩ = some (.slice p3 p.2.2.2.1.length k3) ∧ w.cell? ⟨BP, 4, none⟩ = some (.slice p4 p.2.2.2.2.length k4) ∧ w.cell? ⟨BO, 0, none⟩ = some (.slice q done.length cap)) (hj : j < p.2.1.length) :
    Calls Try.prog 99 #[.agg #[.string (p.2.1.getD j zAct).1, .int .i64 (p.2.1.getD j zAct).2.1, ec], .pointer (some ⟨BP, 0, none⟩), .pointer (some ⟨BO, 0, none⟩)] w fun e w' => e = .returned (.bool (freeB p done j)) ∧ Bel w w' := by
  have HP := Lib.hid hx
  have HS := Lib.hid hS
  have HPO := Lib.hid hp
  have HD := Lib.hid hd
  have HV := Lib.hid hV
  have HNM := Lib.hid (projOk_name hp hj)
  have HBX := Lib.hid hb
  obtain ⟨b0, b1, b2, b3, b4, bo⟩ := hb
  have HQ := Lib.hid (show linksR S w [.slice p2 p.2.2.1.length k2] p.2.2.1 from by
    obtain ⟨c1, c2, c3, c4, ez, q0, q1, q2, q3, q4⟩ := projR_open hx
    simp at ez
    obtain ⟨rfl, rfl, rfl, rfl⟩ := ez
    exact q2)
  have ab0 := fun o => ((Bel.refl w).alloc o).cell b0
  have ab1 := fun o => ((Bel.refl w).alloc o).cell b1
  have ab2 := fun o => ((Bel.refl w).alloc o).cell b2
  have ab3 := fun o => ((Bel.refl w).alloc o).cell b3
  have ab4 := fun o => ((Bel.refl w).alloc o).cell b4
  have abo := fun o => ((Bel.refl w).alloc o).cell bo
  clear hx hS hp hd hV hj
  generalize p.2.1.getD j zAct = X at *
  go_enter Try.func99, Try.ntmps99
  go_wp2_with fail
  refine (iActivityIndex_any _ p X.1 S _ (aggR_mk (projR_good.bel HP.out (by (repeat (first | assumption | exact Bel.refl _ | apply Bel.drewN | apply Bel.drew | apply Bel.alloc | refine Bel.trans ?_ (by assumption)))) HS.out)) (fun b hb => Nat.lt_of_lt_of_le (HS.out b hb) (Bel.size (by (repeat (first | assumption | exact Bel.refl _ | apply Bel.drewN | apply Bel.drew | apply Bel.alloc | refine Bel.trans ?_ (by assumption))))))).mono ?_
  rintro e w1 ⟨rfl, g1⟩
  rw [HNM.out]
  have b0 := g1.cell (ab0 _)
  have b1 := g1.cell (ab1 _)
  have b2 := g1.cell (ab2 _)
  have b3 := g1.cell (ab3 _)
  have b4 := g1.cell (ab4 _)
  have bo := g1.cell (abo _)
  have G1 : Bel w w1 := by (repeat (first | assumption | exact Bel.refl _ | apply Bel.drewN | apply Bel.drew | apply Bel.alloc | refine Bel.trans ?_ (by assumption)))
  clear ab0 ab1 ab2 ab3 ab4 abo
  have ab0 := fun o => ((Bel.refl w1).alloc o).cell b0
  have ab1 := fun o => ((Bel.refl w1).alloc o).cell b1
  have ab2 := fun o => ((Bel.refl w1).alloc o).cell b2
  have ab3 := fun o => ((Bel.refl w1).alloc o).cell b3
  have ab4 := fun o => ((Bel.refl w1).alloc o).cell b4
  have abo := fun o => ((Bel.refl w1).alloc o).cell bo
  go_wp2_with fail
  refine (containsInts_any _ done _ V _ (intsR_good.bel HD.out (by (repeat (first | assumption | exact Bel.refl _ | apply Bel.drewN | apply Bel.drew | apply Bel.alloc | refine Bel.trans ?_ (by assumption)))) HV.out)).mono ?_
  rintro e w2 ⟨rfl, rfl⟩
  cases hh : hasB (j : Int) done
  rotate_left
  · have HF := Lib.hid (show freeB p done j = false from by unfold freeB; rw [hh]; rfl)
    clear hh
    go_wp2
    go_ret
    exact ⟨ret_bool HF.out.symm, by (repeat (first | assumption | exact Bel.refl _ | apply Bel.drewN | apply Bel.drew | apply Bel.alloc | refine Bel.trans ?_ (by assumption)))⟩
  have HF := Lib.hid (show freeB p done j = !(List.range p.2.2.1.length).any (fun n => barsB p done (j : Int) (p.2.2.1.getD n zLink)) from by unfold freeB readyB; rw [hh]; rfl)
  clear hh
  go_wp2_with fail
  refine (containsBar_any (fun n => barsB p done (j : Int) (p.2.2.1.getD n zLink)) _ _ _ _ p.2.2.1 S _ (linksR_good.bel HQ.out (by (repeat (first | assumption | exact Bel.refl _ | apply Bel.drewN | apply Bel.drew | apply Bel.alloc | refine Bel.trans ?_ (by assumption)))) HS.out) (fun b hb => Nat.lt_of_lt_of_le (HS.out b hb) (Bel.size (by (repeat (first | assumption | exact Bel.refl _ | apply Bel.drewN | apply Bel.drew | apply Bel.alloc | refine Bel.trans ?_ (by assumption)))))) ?_).mono ?_
  · intro W hW n hn
    exact closBar_any p S p1 k1 p2 k2 p3 k3 p4 k4 done q cap V BP BO w1.heap.size (j : Int) (p.2.2.1.getD n zLink) W (projR_good.bel HP.out (by (repeat (first | assumption | exact Bel.refl _ | apply Bel.drewN | apply Bel.drew | apply Bel.alloc | refine Bel.trans ?_ (by assumption)))) HS.out) (fun b hb => Nat.lt_of_lt_of_le (HS.out b hb) (Bel.size (by (repeat (first | assumption | exact Bel.refl _ | apply Bel.drewN | apply Bel.drew | apply Bel.alloc | refine Bel.trans ?_ (by assumption)))))) HPO.out (intsR_good.bel HD.out (by (repeat (first | assumption | exact Bel.refl _ | apply Bel.drewN | apply Bel.drew | apply Bel.alloc | refine Bel.trans ?_ (by assumption)))) HV.out) (fun b hb => Nat.lt_of_lt_of_le (HV.out b hb) (Bel.size (by (repeat (first | assumption | exact Bel.refl _ | apply Bel.drewN | apply Bel.drew | apply Bel.alloc | refine Bel.trans ?_ (by assumption)))))) ⟨hW.cell (ab0 _), hW.cell (ab1 _), hW.cell (ab2 _), hW.cell (ab3 _), hW.cell (ab4 _), hW.cell (abo _), hW.cell (by simp [go_sem])⟩ (projOk_link HPO.out hn)
  rintro e w3 ⟨rfl, g3⟩
  generalize (List.range p.2.2.1.length).any (fun n => barsB p done (j : Int) (p.2.2.1.getD n zLink)) = z at *
  go_wp2
  go_ret
  exact ⟨ret_bool HF.out.symm, by (repeat (first | assumption | exact Bel.refl _ | apply Bel.drewN | apply Bel.drew | apply Bel.alloc | refine Bel.trans ?_ (by assumption)))⟩

set_option maxHeartbeats 400000 in
theorem indexFree_any (c : Nat → Bool) (B0 B1 : Nat) (v : Value) (xs : List ActT) (S : Nat → Prop) (w : World) (hx : actsR S w [v] xs) (hS : ∀ b, S b → b < w.heap.size)
    (hcl : ∀ W, Bel w W → ∀ j, j < xs.length → ∀ ec : Value, Calls Try.prog 99 #[.agg #[.string (xs.getD j zAct).1, .int .i64 (xs.getD j zAct).2.1, ec], .pointer (some ⟨B0, 0, none⟩), .pointer (some ⟨B1, 0, none⟩)] W fun e w' => e = .returned (.bool (c j)) ∧ Bel W w') :
    Calls Try.prog 98 #[v, .func (.func 99) #[] #[.pointer (some ⟨B0, 0, none⟩), .pointer (some ⟨B1, 0, none⟩)]] w fun e w' => e = .returned (.int .i64 (idxV c xs.length)) ∧ Bel w w' := by
  have HM := Lib.hid hx
  have HS := Lib.hid hS
  have HCL := Lib.hid hcl
  obtain ⟨p2, k2, hv, l2, l2', hr⟩ := sliceR_open hx
  clear hr
  subst hv
  unfold maxLen at l2'
  clear hx hS hcl
  go_enter Try.func98, Try.ntmps98
  go_wp2_with fail
  go_loopw [8] (fun i wr => ∃ (k : Nat), k ≤ xs.length ∧ i = .int .i64 k ∧ (∀ j, j < k → c j = false) ∧ Bel w wr) (fun i _ => xs.length - (intOf i).toNat)
  case atStart => exact ⟨0, Nat.zero_le _, rfl, fun j hj => by omega, by (repeat (first | assumption | exact Bel.refl _ | apply Bel.drewN | apply Bel.drew | apply Bel.alloc | refine Bel.trans ?_ (by assumption)))⟩
  case round =>
    obtain ⟨k, hk, rfl, hall, hB⟩ := hrel
    have HA := Lib.hid hall; clear hall
    by_cases hlt : k < xs.length
    · obtain ⟨b, off, ecs, ea, hrow, hel⟩ := sliceR_at zAct HM.out hlt
      obtain rfl : p2 = some ⟨b, off, none⟩ := ea
      have HC := Lib.hid (HCL.out wr hB k hlt)
      generalize xs.getD k zAct = X at *
      obtain ⟨ec2, rfl, eq0, eq1, eq2⟩ := actR_open hel
      have ed := fun i hi => hB.cell (hrow i hi).1
      have ed0 := ed 0 (by simp)
      have ed1 := ed 1 (by simp)
      have ed2 := ed 2 (by simp)
      simp only [List.getElem_cons_zero, List.getElem_cons_succ, Nat.add_zero] at ed0 ed1 ed2
      clear hrow hel eq0 eq1 eq2 ed
      go_wp2_with fail
      refine (HC.out _).mono ?_
      rintro e w1 ⟨rfl, g1⟩
      have G : Bel w w1 := by (repeat (first | assumption | exact Bel.refl _ | apply Bel.drewN | apply Bel.drew | apply Bel.alloc | refine Bel.trans ?_ (by assumption)))
      cases hb : c k
      · have HBk := Lib.hid hb; clear hb
        go_wp2
        go_roundw
        case rel =>
          refine ⟨k + 1, by omega, by go_num, fun j hj => ?_, G⟩
          by_cases e : j < k
          · exact HA.out j e
          · obtain rfl : j = k := by omega
            exact HBk.out
        case measure => simp [intOf]; omega
      · have HE := Lib.hid (show idxV c xs.length = k from by unfold idxV; rw [idxV_hit hlt hb HA.out])
        clear hb
        go_wp2
        go_ret
        exact ⟨ret_int HE.out.symm, G⟩
    · have HE := Lib.hid (show idxV c xs.length = -1 from by unfold idxV; rw [idxV_miss fun j hj => HA.out j (by omega)])
      go_wp2
      go_ret
      exact ⟨ret_int HE.out.symm, hB⟩

end Go.Proofs.Ytiaamddhocdhaaa
end

/- Topo2 -/
section
namespace Go.Proofs.Ytiaamddhocdhaaa
open Go.ChangeShapes Go.WideShapes Go.ChangeAt Go.RowKit
set_option linter.unusedVariables false



end Go.Proofs.Ytiaamddhocdhaaa
end

/- Topo3 -/
section
namespace Go.Proofs.Ytiaamddhocdhaaa
open Go.ChangeShapes Go.WideShapes Go.ChangeAt Go.RowKit
set_option linter.unusedVariables false

set_option maxHeartbeats 1000000 in
theorem iTopologicalOrder_any (v : Value) (p : ProjT) (S : Nat → Prop) (w : World) (hx : aggR projR S w v p) (hS : ∀ b, S b → b < w.heap.size) (_hn : bulkProject p ≤ 1048576) :
    Calls Try.prog 35 #[v] w (FreshP intsR w (topoV p) (topoB p)) := by
  obtain ⟨cs, rfl, hx⟩ := hx
  obtain ⟨c1, c2, c3, c4, rfl, q0, q1, q2, q3, q4⟩ := projR_open hx
  have Q1 := Lib.hid q1
  have Q2 := Lib.hid q2
  have Q3 := Lib.hid q3
  have Q4 := Lib.hid q4
  have HP := Lib.hid hx
  obtain ⟨p1, k1, rfl, l1, l1', -⟩ := sliceR_open q1
  obtain ⟨p2, k2, rfl, l2, l2', -⟩ := sliceR_open q2
  obtain ⟨p3, k3, rfl, l3, l3', -⟩ := sliceR_open q3
  obtain ⟨p4, k4, rfl, l4, l4', -⟩ := sliceR_open q4
  unfold maxLen at l1' l2' l3' l4'
  clear hx q0 q1 q2 q3 q4
  have HS := Lib.hid hS
  have HN := Lib.hid _hn
  clear hS _hn
  have HP1 := Lib.hid (show ∀ W, Bel w W → aggR projR S W (.agg #[.int .i64 p.1, .slice p1 p.2.1.length k1, .slice p2 p.2.2.1.length k2, .slice p3 p.2.2.2.1.length k3, .slice p4 p.2.2.2.2.length k4]) p from fun W hW => aggR_mk (projR_good.bel HP.out hW HS.out))
  show Calls Try.prog 35 #[.agg #[.int .i64 p.1, .slice p1 p.2.1.length k1, .slice p2 p.2.2.1.length k2, .slice p3 p.2.2.2.1.length k3, .slice p4 p.2.2.2.2.length k4]] w _
  go_enter Try.func35, Try.ntmps35
  go_wp2_with fail
  refine (iProjectOk_any _ p S _ (HP1.out _ (by (repeat (first | assumption | exact Bel.refl _ | apply Bel.drewN | apply Bel.drew | apply Bel.alloc | refine Bel.trans ?_ (by assumption))))) (fun b hb => Nat.lt_of_lt_of_le (HS.out b hb) (Bel.size (by (repeat (first | assumption | exact Bel.refl _ | apply Bel.drewN | apply Bel.drew | apply Bel.alloc | refine Bel.trans ?_ (by assumption))))))).mono ?_
  rintro e w1 ⟨rfl, g1⟩
  have b0 := g1.cell (p := ⟨w.heap.size, 0, none⟩) (v := .int .i64 p.1) (by simp [go_sem])
  have b1 := g1.cell (p := ⟨w.heap.size, 1, none⟩) (v := .slice p1 p.2.1.length k1) (by simp [go_sem])
  have b2 := g1.cell (p := ⟨w.heap.size, 2, none⟩) (v := .slice p2 p.2.2.1.length k2) (by simp [go_sem])
  have b3 := g1.cell (p := ⟨w.heap.size, 3, none⟩) (v := .slice p3 p.2.2.2.1.length k3) (by simp [go_sem])
  have b4 := g1.cell (p := ⟨w.heap.size, 4, none⟩) (v := .slice p4 p.2.2.2.2.length k4) (by simp [go_sem])
  have KX := Lib.hid (show ∀ W, Bel w1 W → W.cell? ⟨w.heap.size, 0, none⟩ = some (.int .i64 p.1) ∧ W.cell? ⟨w.heap.size, 1, none⟩ = some (.slice p1 p.2.1.length k1) ∧ W.cell? ⟨w.heap.size, 2, none⟩ = some (.slice p2 p.2.2.1.length k2) ∧ W.cell? ⟨w.heap.size, 3, none⟩ = some (.slice p3 p.2.2.2.1.length k3) ∧ W.cell? ⟨w.heap.size, 4, none⟩ = some (.slice p4 p.2.2.2.2.length k4) from fun W hW => ⟨hW.cell b0, hW.cell b1, hW.cell b2, hW.cell b3, hW.cell b4⟩)
  have G1 : Bel w w1 := by (repeat (first | assumption | exact Bel.refl _ | apply Bel.drewN | apply Bel.drew | apply Bel.alloc | refine Bel.trans ?_ (by assumption)))
  clear b0 b1 b2 b3 b4
  cases hp : projOk p
  · have HV := Lib.hid (topo_no hp).2
    have HTB := Lib.hid (topo_no hp).1
    clear hp
    go_wp2
    go_ret2
    exact ⟨.slice none 0 0, by rw [HTB.out]; rfl, by rw [HV.out]; exact ⟨none, 0, rfl, Nat.le_refl _, Nat.zero_le _, fun i hi => absurd hi (Nat.not_lt_zero _)⟩, by (repeat (first | assumption | exact Bel.refl _ | apply Bel.drewN | apply Bel.drew | apply Bel.alloc | refine Bel.trans ?_ (by assumption)))⟩
  have HPO := Lib.hid hp; clear hp
  have hpl := (projOk_bd HPO.out).2.1
  obtain ⟨b0, b1, b2, b3, b4⟩ := KX.out w1 (Bel.refl _)
  have hsz1 := G1.size
  have ab0 := fun o => ((Bel.refl w1).alloc o).cell b0
  have aab0 := fun o o' => (((Bel.refl w1).alloc o).alloc o').cell b0
  have ab1 := fun o => ((Bel.refl w1).alloc o).cell b1
  have aab1 := fun o o' => (((Bel.refl w1).alloc o).alloc o').cell b1
  have ab2 := fun o => ((Bel.refl w1).alloc o).cell b2
  have aab2 := fun o o' => (((Bel.refl w1).alloc o).alloc o').cell b2
  have ab3 := fun o => ((Bel.refl w1).alloc o).cell b3
  have aab3 := fun o o' => (((Bel.refl w1).alloc o).alloc o').cell b3
  have ab4 := fun o => ((Bel.refl w1).alloc o).cell b4
  have aab4 := fun o o' => (((Bel.refl w1).alloc o).alloc o').cell b4
  go_wp2_with fail
  clear b0 b1 b2 b3 b4 ab0 ab1 ab2 ab3 ab4 aab0 aab1 aab2 aab3 aab4
  go_loopw [13] (fun i wr => ∃ (k : Nat) (ys : List Int) (q : Option Addr) (cap : Nat), k ≤ p.2.1.length ∧ i = .int .i64 k ∧ ys = topoR p k ∧ ys.length = k ∧ Own (fun _ => False) 1 intR 3 w1.heap.size wr q cap ys ∧ Blk wr (w1.heap.size + 1) 25 [.slice q ys.length cap] ∧ (∀ a, q = some a → w1.heap.size + 1 ≠ a.block) ∧ Bel w1 wr) (fun i _ => p.2.1.length - (intOf i).toNat)
  case atStart => exact ⟨0, [], some ⟨w1.heap.size, 0, none⟩, 0, Nat.zero_le _, rfl, rfl, rfl, (Own.empty (alloc_at rfl) (Nat.le_refl _)).bel intR_good (by (repeat (first | assumption | exact Bel.refl _ | apply Bel.drewN | apply Bel.drew | apply Bel.alloc | refine Bel.trans ?_ (by assumption)))), Blk.new' _ (by simp), (fun a ha => by cases ha; exact Nat.succ_ne_self _), by (repeat (first | assumption | exact Bel.refl _ | apply Bel.drewN | apply Bel.drew | apply Bel.alloc | refine Bel.trans ?_ (by assumption)))⟩
  case round =>
    obtain ⟨k, ys, q, cap, hk, rfl, hys, hyl, hO, hBk, hne, hB⟩ := hrel
    obtain ⟨wo, hwo⟩ : ∃ W, W = wr := ⟨wr, rfl⟩
    subst hwo
    have HY := Lib.hid hys; clear hys
    have HYL := Lib.hid hyl
    have hyk : ys.length ≤ k := by omega
    clear hyl
    have HNE := Lib.hid hne; clear hne
    have hszr := hB.size
    have hltB := hBk.lt
    have HBK := Lib.hid hBk
    have hcO := hBk.cellv (j := 0) (by simp)
    simp only [List.getElem_cons_zero] at hcO
    clear hBk
    obtain ⟨b0, b1, b2, b3, b4⟩ := KX.out wo hB
    have hBw : Bel w wo := G1.trans hB
    have HD := Lib.hid (hO.done (T := New w1 wo) intR_good (fun b h _ => h.elim) (fun b h1 h2 => ⟨h1, h2⟩))
    by_cases hlt : k < p.2.1.length
    · go_wp2_with fail
      refine (indexFree_any (freeB p ys) w.heap.size (w1.heap.size + 1) _ p.2.1 S _ (actsR_good.bel Q1.out hBw HS.out) (fun b hb => Nat.lt_of_lt_of_le (HS.out b hb) hBw.size) ?_).mono ?_
      · intro W hW j hj ec
        exact closFree_any p S p1 k1 p2 k2 p3 k3 p4 k4 ys q cap (New w1 wo) w.heap.size (w1.heap.size + 1) j ec W (projR_good.bel HP.out (by (repeat (first | assumption | exact Bel.refl _ | apply Bel.drewN | apply Bel.drew | apply Bel.alloc | refine Bel.trans ?_ (by assumption)))) HS.out) (fun b hb => Nat.lt_of_lt_of_le (HS.out b hb) (Bel.size (by (repeat (first | assumption | exact Bel.refl _ | apply Bel.drewN | apply Bel.drew | apply Bel.alloc | refine Bel.trans ?_ (by assumption)))))) HPO.out (intsR_good.bel HD.out hW (fun b hb => hb.2)) (fun b hb => Nat.lt_of_lt_of_le hb.2 hW.size) ⟨hW.cell b0, hW.cell b1, hW.cell b2, hW.cell b3, hW.cell b4, hW.cell hcO⟩ hj
      rintro e w2 ⟨rfl, g2⟩
      have G2 : Bel w1 w2 := hB.trans g2
      cases hf : (List.range p.2.1.length).find? (freeB p ys) with
      | none =>
        have HT := Lib.hid (topo_stop hlt (by rw [← HY.out]; exact hf))
        have HI := Lib.hid (show idxV (freeB p ys) p.2.1.length = -1 from by unfold idxV; rw [hf])
        clear hf
        rw [HI.out]
        go_wp2
        go_ret2
        exact ⟨.slice none 0 0, by rw [HT.out.1]; rfl, by rw [HT.out.2]; exact ⟨none, 0, rfl, Nat.le_refl _, Nat.zero_le _, fun i hi => absurd hi (Nat.not_lt_zero _)⟩, by (repeat (first | assumption | exact Bel.refl _ | apply Bel.drewN | apply Bel.drew | apply Bel.alloc | refine Bel.trans ?_ (by assumption)))⟩
      | some a =>
        have hal : a < p.2.1.length := List.mem_range.1 (List.mem_of_find?_eq_some hf)
        have HN := Lib.hid (show topoR p (k + 1) = ys ++ [(a : Int)] from by rw [HY.out]; exact topoR_yes (by rw [← HY.out]; exact hf))
        have HI := Lib.hid (show idxV (freeB p ys) p.2.1.length = a from by unfold idxV; rw [hf])
        clear hf
        rw [HI.out]
        have hcO := g2.cell hcO
        have hsz2 := g2.size
        have hBk2 := Lib.hid (HBK.out.bel g2)
        have hcA := fun o => ((Bel.refl w2).alloc o).cell hcO
        go_wp2_with (at_builtin; refine wpList_app2 (n := 1) intR_good _ rfl _ _ 25 rfl (.int .i64 0) 8 Try.underlying25 (by kernel_rfl) rfl (by decide) (by decide) q cap ys ((a : Int)) rfl (hO.bel intR_good (by (repeat (first | assumption | exact Bel.refl _ | apply Bel.drewN | apply Bel.drew | apply Bel.alloc | refine Bel.trans ?_ (by assumption))))) _ 1 [.int .i64 (a : Int)] rfl rfl (World.news_of_block (alloc_at (by simp))) (by intro u hu; simp at hu; subst hu; rfl) (intRep (by unfold I64; omega)) (by omega) (by first | omega | (simp; omega)) ?_; intro q' cap' w' hO' hBW hsz' hOT'; obtain ⟨hh1, hh2⟩ := hOT' (w1.heap.size + 1) (by simp; omega) HNE.out; have hBk3 : Blk w' (w1.heap.size + 1) 25 [.slice q ys.length cap] := (hBk2.out.alloc _).of hh1; have hc3 := hBk3.cellv (j := 0) (by simp); simp only [List.getElem_cons_zero] at hc3; have hf3 := hBk3.frozen 0; have HB3 := Lib.hid hBk3; have HH2 := Lib.hid hh2; have HB := hBW w1 (by (repeat (first | assumption | exact Bel.refl _ | apply Bel.drewN | apply Bel.drew | apply Bel.alloc | refine Bel.trans ?_ (by assumption)))) (Nat.le_refl _); have HO' := Lib.hid hO'; clear hBW hsz' hOT' hh1 hBk3 hh2 hO')
        go_roundw
        case rel => exact ⟨k + 1, ys ++ [(a : Int)], q', cap', by omega, by go_num, HN.out.symm, by simp [HYL.out], HO'.out.setAt intR_good HH2.out _ _, by simpa using HB3.out.set 0 _, HH2.out, HB.set (Nat.le_succ _) _⟩
        case measure => simp [intOf]; omega
    · have hkn : k = p.2.1.length := by omega
      have HYF := Lib.hid (show ys = topoR p p.2.1.length from by rw [HY.out, hkn])
      have HT := Lib.hid (topo_full HPO.out (by rw [← HYF.out, HYL.out, hkn]))
      clear hkn
      go_wp2
      go_ret2
      exact ⟨.slice q ys.length cap, by rw [HT.out.1]; rfl, by rw [HT.out.2, ← HYF.out]; exact intsR_good.mono HD.out (fun b hb => ⟨Nat.le_trans hsz1 hb.1, hb.2⟩), by (repeat (first | assumption | exact Bel.refl _ | apply Bel.drewN | apply Bel.drew | apply Bel.alloc | refine Bel.trans ?_ (by assumption)))⟩

end Go.Proofs.Ytiaamddhocdhaaa
end

/- Seq -/
section
namespace Go.Proofs.Ytiaamddhocdhaaa
open Go.ChangeShapes Go.WideShapes Go.ChangeAt Go.RowKit
set_option linter.unusedVariables false

theorem eqLitB_dec (X Y : LitT) : eqLitB X.1 X.2.1 X.2.2 Y.1 Y.2.1 Y.2.2 = decide (X = Y) := by
  rw [Bool.eq_iff_iff]; simp [eqLitB, Prod.ext_iff]

set_option maxHeartbeats 400000 in
theorem equalInts_any (v v' : Value) (xs ys : List (Int)) (S S' : Nat → Prop) (w : World) (hx : intsR S w [v] xs) (hy : intsR S' w [v'] ys) :
    Calls Try.prog 109 #[v, v'] w fun e w' => e = .returned (.bool (decide (xs = ys))) ∧ Bel w w' := by
  obtain ⟨p, cap, rfl, h1, h2, h3⟩ := sliceR_open hx
  obtain ⟨p', cap', rfl, h1', h2', h3'⟩ := sliceR_open hy
  unfold maxLen at h2 h2'
  clear hx hy
  by_cases hE : xs.length = ys.length
  · have HE := Lib.hid hE
    have hne : (((xs.length : Nat) : Int) != ((ys.length : Nat) : Int)) = false := by simp [hE]
    clear hE
    go_enter Try.func109, Try.ntmps109
    go_wp2_with fail
    go_loopw [13] (fun i wr => ∃ k : Nat, k ≤ xs.length ∧ i = .int .i64 k ∧ Bel w wr ∧ ∀ j, j < k → xs[j]? = ys[j]?) (fun i _ => xs.length - (intOf i).toNat)
    case atStart => exact ⟨0, Nat.zero_le _, rfl, Bel.refl _, fun j hj => by omega⟩
    case round =>
      obtain ⟨k, hk, rfl, hB, hall⟩ := hrel
      have HA := Lib.hid hall; clear hall
      by_cases hlt : k < xs.length
      · have hlt' : k < ys.length := by rw [← HE.out]; exact hlt
        obtain ⟨b, off, ecs, rfl, hSb, hlen, hrow, hel⟩ := h3 k hlt
        obtain ⟨b', off', ecs', rfl, hSb', hlen', hrow', hel'⟩ := h3' k hlt'
        obtain ⟨rfl, _⟩ := hel
        obtain ⟨rfl, _⟩ := hel'
        have d0 := hB.cell (hrow 0 (by simp)).1
        simp only [List.getElem_cons_zero, Nat.mul_one, Nat.add_zero] at d0
        have f0 := hB.cell (hrow' 0 (by simp)).1
        simp only [List.getElem_cons_zero, Nat.mul_one, Nat.add_zero] at f0
        generalize hkx : xs[k] = X at *
        generalize hky : ys[k] = Y at *
        have HKX := Lib.hid hkx; clear hkx
        have HKY := Lib.hid hky; clear hky
        clear hlen hlen' hrow hrow' h3 h3'
        by_cases hXY : X = Y
        · have bne : (X != Y) = false := by simp [hXY]
          have HQ := Lib.hid hXY; clear hXY
          go_wp2_with fail
          go_quiet (fail)
          go_wp2
          go_roundw
          case rel =>
            refine ⟨k + 1, by omega, by go_num, hB.drewN _, fun j hj => ?_⟩
            by_cases e : j < k
            · exact HA.out j e
            · obtain rfl : j = k := by omega
              rw [List.getElem?_eq_getElem hlt, List.getElem?_eq_getElem hlt', HKX.out, HKY.out, HQ.out]
          case measure => simp [intOf]; omega
        · have bne : (X != Y) = true := by simp [hXY]
          have HQ := Lib.hid hXY; clear hXY
          go_wp2_with fail
          go_quiet (fail)
          go_wp2
          go_ret
          refine ⟨ret_bool ?_, hB.drewN _⟩
          symm
          rw [decide_eq_false_iff_not]
          intro h
          subst h
          exact HQ.out (by rw [← HKX.out, ← HKY.out])
      · go_wp2
        go_ret
        refine ⟨ret_bool ?_, hB⟩
        symm
        rw [decide_eq_true_eq]
        refine List.ext_getElem? fun j => ?_
        by_cases e : j < k
        · exact HA.out j e
        · have h1 : xs.length ≤ j := by omega
          rw [List.getElem?_eq_none h1, List.getElem?_eq_none (by rw [← HE.out]; exact h1)]
  · have hne : (((xs.length : Nat) : Int) != ((ys.length : Nat) : Int)) = true := by simp; omega
    have HE := Lib.hid hE; clear hE
    go_enter Try.func109, Try.ntmps109
    go_wp2
    go_ret
    refine ⟨ret_bool ?_, Bel.refl _⟩
    symm
    rw [decide_eq_false_iff_not]
    intro h
    exact HE.out (by rw [h])




theorem iSetEqual_any (v v' : Value) (xs ys : List (Int)) (S S' : Nat → Prop) (w : World) (hx : intsR S w [v] xs) (hy : intsR S' w [v'] ys) :
    Calls Try.prog 43 #[v, v'] w fun e w' => e = .returned (.bool (decide (xs = ys))) ∧ Bel w w' := by
  have hx0 := hx
  have hy0 := hy
  obtain ⟨p, cap, rfl, _⟩ := sliceR_open hx
  obtain ⟨p', cap', rfl, _⟩ := sliceR_open hy
  go_enter Try.func43, Try.ntmps43
  go_wp2_with fail
  refine (equalInts_any _ _ xs ys _ _ _ hx0 hy0).mono ?_
  rintro e w1 ⟨rfl, g⟩
  go_wp2
  go_ret
  exact ⟨rfl, g⟩




end Go.Proofs.Ytiaamddhocdhaaa
end

/- BulkOk -/
section
namespace Go.Proofs.Ytiaamddhocdhaaa
open Go.RowKit
set_option linter.unusedVariables false

theorem sumL_bdX {α : Type} (f : α → Nat) (c : Nat) : ∀ (xs : List α), (∀ x, x ∈ xs → f x ≤ c) → sumL (xs.map f) ≤ xs.length * c := by
  intro xs
  induction xs with
  | nil => intro _; simp [sumL]
  | cons x xs ih =>
    intro h
    rw [List.map_cons, sumL_cons, List.length_cons, Nat.succ_mul]
    have := h x List.mem_cons_self
    have := ih fun y hy => h y (List.mem_cons_of_mem _ hy)
    omega
theorem mem_getDX {α : Type} {xs : List α} {x : α} (d : α) (h : x ∈ xs) : ∃ i, i < xs.length ∧ xs.getD i d = x := by
  obtain ⟨i, hi, rfl⟩ := List.getElem_of_mem h
  exact ⟨i, hi, by simp [List.getD, hi]⟩
theorem amounts_lenX {l : List Int} {n : Nat} (h : amountsB l n = true) : l.length = n := by
  unfold amountsB at h
  simp only [Bool.and_eq_true, decide_eq_true_eq] at h
  omega
theorem projOk_act_name {p : ProjT} (h : projOk p = true) {k : Nat} (hk : k < p.2.1.length) : (p.2.1.getD k zAct).1.size ≤ 8 := by
  have h1 := projOk_act h hk
  unfold actAtOk actOkB isNameB inBv at h1
  simp only [Bool.and_eq_true, decide_eq_true_eq] at h1
  omega
theorem resOk_bdX {r : ResT} (h : resOkB r = true) : r.1.length ≤ 8 ∧ r.2.length ≤ 4 ∧ ∀ x, x ∈ r.2 → x.length = 4 := by
  unfold resOkB stepsOkB inBv at h
  simp only [Bool.and_eq_true, decide_eq_true_eq, Bool.or_eq_true] at h
  refine ⟨by omega, by omega, fun x hx => ?_⟩
  obtain ⟨i, hi, rfl⟩ := mem_getDX [] hx
  have h1 := List.all_eq_true.1 h.1 i (List.mem_range.2 hi)
  unfold rowOkB at h1
  simp only [Bool.and_eq_true, decide_eq_true_eq] at h1
  exact h1.1
theorem projOk_resX {p : ProjT} (h : projOk p = true) {k : Nat} (hk : k < p.2.2.2.1.length) : resOkB (p.2.2.2.1.getD k zRes) = true := by
  unfold projOk at h
  simp only [Bool.and_eq_true] at h
  exact List.all_eq_true.1 h.2.2.1 k (List.mem_range.2 hk)
theorem bulkAct_leX {p : ProjT} (h : projOk p = true) : ∀ x, x ∈ p.2.1 → bulkActivity x ≤ 100 := by
  intro x hx
  obtain ⟨i, hi, rfl⟩ := mem_getDX zAct hx
  have hb := projOk_bd h
  have h1 := projOk_act_name h hi
  have h2 := projOk_modes h hi
  have h3 : sumL ((p.2.1.getD i zAct).2.2.map bulkMode) ≤ (p.2.1.getD i zAct).2.2.length * 10 := sumL_bdX _ _ _ fun m hm => by
    obtain ⟨j, hj, rfl⟩ := mem_getDX zMode hm
    have h4 := projOk_mode h hi hj
    unfold modeOkB at h4
    simp only [Bool.and_eq_true] at h4
    have h5 := amounts_lenX h4.2.1
    have h6 := amounts_lenX h4.2.2
    unfold bulkMode bulkIntS
    omega
  unfold bulkActivity bulkModeS
  generalize (p.2.1.getD i zAct).2.2.length = M at *
  have : M * 10 ≤ 3 * 10 := Nat.mul_le_mul_right _ h2.2
  omega
theorem bulkRes_leX {p : ProjT} (h : projOk p = true) : ∀ x, x ∈ p.2.2.2.1 → bulkResource x ≤ 100 := by
  intro x hx
  obtain ⟨i, hi, rfl⟩ := mem_getDX zRes hx
  obtain ⟨h1, h2, h3⟩ := resOk_bdX (projOk_resX h hi)
  have h4 : sumL ((p.2.2.2.1.getD i zRes).2.map bulkIntS) ≤ (p.2.2.2.1.getD i zRes).2.length * 4 := sumL_bdX _ _ _ fun m hm => by
    unfold bulkIntS
    rw [h3 m hm]; exact Nat.le_refl _
  unfold bulkResource bulkStepS bulkIntSS
  generalize (p.2.2.2.1.getD i zRes).2.length = M at *
  have : M * 4 ≤ 4 * 4 := Nat.mul_le_mul_right _ h2
  omega
theorem bulkProj_ok {p : ProjT} (h : projOk p = true) : bulkProject p ≤ 1048576 := by
  have hb := projOk_bd h
  have h1 := sumL_bdX bulkActivity 100 p.2.1 (bulkAct_leX h)
  have h2 := sumL_bdX bulkResource 100 p.2.2.2.1 (bulkRes_leX h)
  unfold bulkProject bulkActivityS bulkResourceS bulkLinkS bulkIntS
  have : p.2.1.length * 100 ≤ 6 * 100 := Nat.mul_le_mul_right _ hb.2.1
  have : p.2.2.2.1.length * 100 ≤ 3 * 100 := Nat.mul_le_mul_right _ hb.2.2.1
  omega
theorem bulkSch_ok {p : ProjT} {s : SchT} (h : schFormB p s = true) : bulkSchedule s ≤ 1048576 := by
  unfold schFormB at h
  simp only [Bool.and_eq_true, decide_eq_true_eq] at h
  have hb := projOk_bd h.1
  unfold bulkSchedule bulkIntS
  omega
end Go.Proofs.Ytiaamddhocdhaaa
end

/- Types -/
section
namespace Go.Proofs.Ytiaamddhocdhaaa
open Go.RowKit
set_option linter.unusedVariables false
set_option maxRecDepth 10000

theorem laidOutAll : laidOutB Try.prog = true := by kernel_rfl
theorem ownKnobNone : ownKnob Try.prog.godebug = none := by kernel_rfl
theorem opInt {H : Type} {enc : TypeId × Value → H} (w : World) : Opens enc Try.prog w 3 intR := opens_int Try.underlying3
theorem opBool {H : Type} {enc : TypeId × Value → H} (w : World) : Opens enc Try.prog w 4 boolR := opens_bool Try.underlying4
theorem opStr {H : Type} {enc : TypeId × Value → H} (w : World) : Opens enc Try.prog w 9 strR := opens_string Try.underlying9
theorem opInts {H : Type} {enc : TypeId × Value → H} (w : World) : Opens enc Try.prog w 25 intsR := opens_slice Try.underlying25 (by kernel_rfl) (by decide) (opInt w)
theorem opSch {H : Type} {enc : TypeId × Value → H} (w : World) : Opens enc Try.prog w 90 schR := opens_struct2 Try.underlying90 (by kernel_rfl) ⟨by kernel_rfl, by kernel_rfl⟩ ⟨by kernel_rfl, by kernel_rfl⟩ (opInts w) (opInts w)
theorem opRows {H : Type} {enc : TypeId × Value → H} (w : World) : Opens enc Try.prog w 63 rowsR := opens_slice Try.underlying63 (by kernel_rfl) (by decide) (opInts w)
theorem opStep {H : Type} {enc : TypeId × Value → H} (w : World) : Opens enc Try.prog w 216 stepR := opens_struct2 Try.underlying216 (by kernel_rfl) ⟨by kernel_rfl, by kernel_rfl⟩ ⟨by kernel_rfl, by kernel_rfl⟩ (opInt w) (opInt w)
theorem opSteps {H : Type} {enc : TypeId × Value → H} (w : World) : Opens enc Try.prog w 153 stepsR := opens_slice Try.underlying153 (by kernel_rfl) (by decide) (opStep w)
theorem opMode {H : Type} {enc : TypeId × Value → H} (w : World) : Opens enc Try.prog w 213 modeR := opens_struct3 Try.underlying213 (by kernel_rfl) ⟨by kernel_rfl, by kernel_rfl⟩ ⟨by kernel_rfl, by kernel_rfl⟩ ⟨by kernel_rfl, by kernel_rfl⟩ (opInt w) (opInts w) (opInts w)
theorem opModes {H : Type} {enc : TypeId × Value → H} (w : World) : Opens enc Try.prog w 149 modesR := opens_slice Try.underlying149 (by kernel_rfl) (by decide) (opMode w)
theorem opAct {H : Type} {enc : TypeId × Value → H} (w : World) : Opens enc Try.prog w 151 actR := opens_struct3 Try.underlying151 (by kernel_rfl) ⟨by kernel_rfl, by kernel_rfl⟩ ⟨by kernel_rfl, by kernel_rfl⟩ ⟨by kernel_rfl, by kernel_rfl⟩ (opStr w) (opInt w) (opModes w)
theorem opActs {H : Type} {enc : TypeId × Value → H} (w : World) : Opens enc Try.prog w 22 actsR := opens_slice Try.underlying22 (by kernel_rfl) (by decide) (opAct w)
theorem opRes {H : Type} {enc : TypeId × Value → H} (w : World) : Opens enc Try.prog w 155 resR := opens_struct2 Try.underlying155 (by kernel_rfl) ⟨by kernel_rfl, by kernel_rfl⟩ ⟨by kernel_rfl, by kernel_rfl⟩ (opSteps w) (opRows w)
theorem opRess {H : Type} {enc : TypeId × Value → H} (w : World) : Opens enc Try.prog w 24 ressR := opens_slice Try.underlying24 (by kernel_rfl) (by decide) (opRes w)
theorem opLink {H : Type} {enc : TypeId × Value → H} (w : World) : Opens enc Try.prog w 159 linkR := opens_struct4 Try.underlying159 (by kernel_rfl) ⟨by kernel_rfl, by kernel_rfl⟩ ⟨by kernel_rfl, by kernel_rfl⟩ ⟨by kernel_rfl, by kernel_rfl⟩ ⟨by kernel_rfl, by kernel_rfl⟩ (opInt w) (opInt w) (opBool w) (opInt w)
theorem opLinks {H : Type} {enc : TypeId × Value → H} (w : World) : Opens enc Try.prog w 23 linksR := opens_slice Try.underlying23 (by kernel_rfl) (by decide) (opLink w)
theorem opProj {H : Type} {enc : TypeId × Value → H} (w : World) : Opens enc Try.prog w 27 projR := opens_struct5 Try.underlying27 (by kernel_rfl) ⟨by kernel_rfl, by kernel_rfl⟩ ⟨by kernel_rfl, by kernel_rfl⟩ ⟨by kernel_rfl, by kernel_rfl⟩ ⟨by kernel_rfl, by kernel_rfl⟩ ⟨by kernel_rfl, by kernel_rfl⟩ (opInt w) (opActs w) (opLinks w) (opRess w) (opInts w)
end Go.Proofs.Ytiaamddhocdhaaa
end

/- Code -/
section
namespace Go.Proofs.Ytiaamddhocdhaaa
open Go.RowKit
set_option linter.unusedVariables false
theorem opens_u8 {P : Program} {H : Type} {enc : TypeId × Value → H} {w : World} {t : TypeId} (ht : P.underlying t = some (.int .u8)) : Opens enc P w t u8R := by
  intro fuel cs y h hn
  obtain ⟨n, h1, _, h3⟩ := DataW.trod_int ht h
  exact ⟨n, h1, by simpa [Lit.wf, IntKind.min, IntKind.max, IntKind.signed, IntKind.bits] using h3⟩
theorem opU8 {H : Type} {enc : TypeId × Value → H} (w : World) : Opens enc Try.prog w 5 u8R := opens_u8 Try.underlying5
theorem opBytes {H : Type} {enc : TypeId × Value → H} (w : World) : Opens enc Try.prog w 38 bytesR := opens_slice Try.underlying38 (by kernel_rfl) (by decide) (opU8 w)
end Go.Proofs.Ytiaamddhocdhaaa
end

/- FldP -/
section
namespace Go.Proofs.Ytiaamddhocdhaaa
open Go.RowKit
set_option linter.unusedVariables false

theorem run_links_field (a b c d e : Value) (w : World) : Sem.run Try.prog (Instr.field 34 (.agg #[a, b, c, d, e]) 2) w = .ok c w := by
  unfold Instr.field part isAgg
  simp [go_sem, asAgg]
end Go.Proofs.Ytiaamddhocdhaaa
end

/- WRing -/
section
namespace Go.Proofs.Ytiaamddhocdhaaa
open Go.ChangeShapes Go.WideShapes Go.ChangeAt Go.RowKit
set_option linter.unusedVariables false

set_option maxRecDepth 100000 in
set_option maxHeartbeats 4000000 in
theorem fnRing_walk (v0 : Value) (C : List Int) (w : World) (h0 : bytesR (Old w) w [v0] C) :
    Calls Try.prog 6 #[v0] w fun e w' => e = .returned (.bool true) ∧ Bel w w' := by
  obtain ⟨q, c, rfl, hq1, hq2, -⟩ := sliceR_open h0
  unfold maxLen at hq2
  have HC := Lib.hid (show ∀ W, Bel w W → bytesR (Old w) W [.slice q C.length c] C ∧ (∀ b, Old w b → b < W.heap.size) from fun W hW => ⟨bytesR_good.bel h0 hW (fun b hb => hb), fun b hb => Nat.lt_of_lt_of_le hb hW.size⟩)
  clear h0
  by_cases hl : C.length ≤ 1048576
  rotate_left
  · have hli : (1048576 : Int) < (C.length : Int) := by omega
    go_enter Try.func6, Try.ntmps6
    go_wp2_with fail
    go_ret
    exact ⟨rfl, Bel.refl _⟩
  have hli : ¬ (1048576 : Int) < (C.length : Int) := by omega
  have hfld := run_links_field
  go_enter Try.func6, Try.ntmps6
  go_wp2_with fail
  refine (MakeLoops_any _ C _ _ (HC.out _ (Bel.refl _)).1 (HC.out _ (Bel.refl _)).2 hl).mono ?_
  rintro e w1 ⟨cs, rfl, hr, g1⟩
  have hPD := loopsP_ok C (newV C)
  obtain ⟨P, hP⟩ : ∃ P, (loopsP C (newV C)).1 = P := ⟨_, rfl⟩
  rw [hP] at hr hPD
  have hok := hPD.1
  have hn4 := hPD.2
  have hpb := projOk_bd hok
  have HPO := Lib.hid hok
  have HBP := Lib.hid (bulkProj_ok hok)
  obtain ⟨x1, x2, x3, x4, rfl, u0, u1, u2, u3, u4⟩ := projR_open hr
  obtain ⟨p1, k1, rfl, la, la', -⟩ := sliceR_open u1
  obtain ⟨p2, k2, rfl, ll, ll', -⟩ := sliceR_open u2
  obtain ⟨p3, k3, rfl, -⟩ := sliceR_open u3
  obtain ⟨p4, k4, rfl, -⟩ := sliceR_open u4
  unfold maxLen at la' ll'
  have HPR := Lib.hid (stays_agg projR_good hr)
  have HLK := Lib.hid (show ∀ W, Bel w1 W → linksR (New w w1) W [.slice p2 P.2.2.1.length k2] P.2.2.1 from fun W hW => linksR_good.bel u2 hW (fun b hb => hb.2))
  have HAK := Lib.hid (show ∀ W, Bel w1 W → actsR (New w w1) W [.slice p1 P.2.1.length k1] P.2.1 from fun W hW => actsR_good.bel u1 hW (fun b hb => hb.2))
  have G1 : Bel w w1 := g1
  clear hr u0 u1 u2 u3 u4 hP hPD hok g1
  go_wp2_with fail
  refine (iPositiveCycle_any _ P (New w w1) _ (HPR.out _ (by (repeat (first | assumption | exact Bel.refl _ | apply Bel.drewN | apply Bel.drew | apply Bel.alloc | refine Bel.trans ?_ (by assumption))))).1 (HPR.out _ (by (repeat (first | assumption | exact Bel.refl _ | apply Bel.drewN | apply Bel.drew | apply Bel.alloc | refine Bel.trans ?_ (by assumption))))).2 HBP.out).mono ?_
  rintro e w2 ⟨v2, rfl, hr, g2⟩
  have HB3 := Lib.hid (show ∀ W, Bel w2 W → W.cell? ⟨w1.heap.size, 0, none⟩ = some (.int .i64 P.1) ∧ W.cell? ⟨w1.heap.size, 1, none⟩ = some (.slice p1 P.2.1.length k1) ∧ W.cell? ⟨w1.heap.size, 2, none⟩ = some (.slice p2 P.2.2.1.length k2) ∧ W.cell? ⟨w1.heap.size, 3, none⟩ = some (.slice p3 P.2.2.2.1.length k3) ∧ W.cell? ⟨w1.heap.size, 4, none⟩ = some (.slice p4 P.2.2.2.2.length k4) from fun W hW => ⟨hW.cell (g2.cell (by simp [go_sem])), hW.cell (g2.cell (by simp [go_sem])), hW.cell (g2.cell (by simp [go_sem])), hW.cell (g2.cell (by simp [go_sem])), hW.cell (g2.cell (by simp [go_sem]))⟩)
  have G2 : Bel w1 w2 := by (repeat (first | assumption | exact Bel.refl _ | apply Bel.drewN | apply Bel.drew | apply Bel.alloc | refine Bel.trans ?_ (by assumption)))
  obtain ⟨rq, rc, rfl, lr, lr', -⟩ := sliceR_open hr
  unfold maxLen at lr'
  have HRR := Lib.hid (stays_one intsR_good hr)
  obtain ⟨b0, b1, b2, b3, b4⟩ := HB3.out w2 (Bel.refl _)
  clear hr g2
  go_wp2_with fail
  refine (iEarliestStarts_any _ P (New w w1) _ (HPR.out _ (by (repeat (first | assumption | exact Bel.refl _ | apply Bel.drewN | apply Bel.drew | apply Bel.alloc | refine Bel.trans ?_ (by assumption))))).1 (HPR.out _ (by (repeat (first | assumption | exact Bel.refl _ | apply Bel.drewN | apply Bel.drew | apply Bel.alloc | refine Bel.trans ?_ (by assumption))))).2 HBP.out).mono ?_
  rintro e w3 ⟨v3, rfl, hr, g3⟩
  obtain ⟨eq, ec, rfl, le, le', -⟩ := sliceR_open hr
  unfold maxLen at le'
  have HER := Lib.hid (stays_one intsR_good hr)
  have G23 : Bel w2 w3 := by (repeat (first | assumption | exact Bel.refl _ | apply Bel.drewN | apply Bel.drew | apply Bel.alloc | refine Bel.trans ?_ (by assumption)))
  clear hr g3 b0 b1 b2 b3 b4
  obtain ⟨b0, b1, b2, b3, b4⟩ := HB3.out w3 G23
  go_wp2_with fail
  refine (iTopologicalOrder_any _ P (New w w1) _ (HPR.out _ (by (repeat (first | assumption | exact Bel.refl _ | apply Bel.drewN | apply Bel.drew | apply Bel.alloc | refine Bel.trans ?_ (by assumption))))).1 (HPR.out _ (by (repeat (first | assumption | exact Bel.refl _ | apply Bel.drewN | apply Bel.drew | apply Bel.alloc | refine Bel.trans ?_ (by assumption))))).2 HBP.out).mono ?_
  rintro e w4 ⟨v4, rfl, hr, g4⟩
  obtain ⟨oq, oc, rfl, lo, lo', -⟩ := sliceR_open hr
  unfold maxLen at lo'
  have G34 : Bel w3 w4 := by (repeat (first | assumption | exact Bel.refl _ | apply Bel.drewN | apply Bel.drew | apply Bel.alloc | refine Bel.trans ?_ (by assumption)))
  have HG24 := Lib.hid (show Bel w2 w4 ∧ True from ⟨G23.trans G34, trivial⟩)
  have HG4 := Lib.hid (show Bel w1 w4 ∧ True from ⟨G2.trans HG24.out.1, trivial⟩)
  clear hr g4 b0 b1 b2 b3 b4
  obtain ⟨b0, b1, b2, b3, b4⟩ := HB3.out w4 HG24.out.1
  by_cases hR : posV P = []
  · have HE := Lib.hid (ring_none HPO.out hR)
    have hr0 : (posV P).length = 0 := by rw [hR]; rfl
    rw [hr0, HE.out.len]
    rw [HE.out.len] at le
    have htl := topo_len HPO.out
    clear hr0 hR
    generalize earlV P = E at *
    obtain ⟨tb, htb⟩ : ∃ x, topoB P = x := ⟨_, rfl⟩
    obtain ⟨tn, htn⟩ : ∃ x, (topoV P).length = x := ⟨_, rfl⟩
    rw [htb, htn] at htl
    rw [htb, htn]
    have HTL := Lib.hid htl
    clear htl htb htn lo lo'
    go_upto_region 20 with (fail)
    go_cut [124] (fun s wx => s = .bool false ∧ Bel w4 wx)
    case first =>
      have hT1 : (tb == ((tn : Int) == (P.2.1.length : Int))) = true := by rw [HTL.out]; by_cases h : tn = P.2.1.length <;> simp [h]; omega
      have hT2 : (tb != ((tn : Int) == (P.2.1.length : Int))) = false := by simp only [bne, hT1, Bool.not_true]
      have hT3 : (!(tb == ((tn : Int) == (P.2.1.length : Int)))) = false := by rw [hT1]; rfl
      have hT4 : ((tn : Int) == (P.2.1.length : Int)) = tb := (eq_of_beq hT1).symm
      go_wp2_with fail
      go_meet
      exact ⟨rfl, by (repeat (first | assumption | exact Bel.refl _ | apply Bel.drewN | apply Bel.drew | apply Bel.alloc | refine Bel.trans ?_ (by assumption)))⟩
    case rest =>
      obtain ⟨rfl, hcB⟩ := hcut
      clear b0 b1 b2 b3 b4
      obtain ⟨b0, b1, b2, b3, b4⟩ := HB3.out wc (HG24.out.1.trans hcB)
      go_wp2_with fail
      go_loopw [128] (fun kk wr => ∃ j : Nat, j ≤ P.2.2.1.length ∧ kk = .int .i64 j ∧ Bel w4 wr) (fun kk _ => P.2.2.1.length - (intOf kk).toNat)
      case atStart => exact ⟨0, Nat.zero_le _, rfl, by (repeat (first | assumption | exact Bel.refl _ | apply Bel.drewN | apply Bel.drew | apply Bel.alloc | refine Bel.trans ?_ (by assumption)))⟩
      case round =>
        clear b0 b1 b2 b3 b4
        obtain ⟨j, hj, rfl, hB⟩ := hrel
        obtain ⟨b0, b1, b2, b3, b4⟩ := HB3.out wr (HG24.out.1.trans hB)
        by_cases hlt : j < P.2.2.1.length
        · have hji : (j : Int) < (P.2.2.1.length : Int) := by omega
          obtain ⟨lb, loff, rfl, d0, d1, d2, d3⟩ := link_at (HLK.out wr (HG4.out.1.trans hB)) hlt
          obtain ⟨⟨fa, e1, hfa⟩, ⟨tb, e2, htb⟩, -⟩ := linkOk_bd (projOk_link HPO.out hlt)
          have hgb := fullGapV_bd HPO.out (projOk_link HPO.out hlt)
          have hel := HE.out.link j hlt
          have hbf := HE.out.bd fa hfa
          have hbt := HE.out.bd tb htb
          obtain ⟨G, hG⟩ : ∃ G, fullGapV P (P.2.2.1.getD j zLink) = G := ⟨_, rfl⟩
          rw [hG] at hel hgb
          have HGV := Lib.hid (show linkGapV P (j : Int) (rangeL (P.2.1.getD fa zAct).2.2.length) = G from by
            rw [← hG]
            unfold linkGapV fullGapV
            rw [HPO.out, ← inB_v (j : Int), order_in ⟨by omega, by omega⟩, Int.toNat_natCast, e1, Int.toNat_natCast]
            rfl)
          rw [e1, e2, Int.toNat_natCast, Int.toNat_natCast] at hel
          rw [e1] at d0
          rw [e2] at d1
          clear e1 e2 hG
          generalize (P.2.2.1.getD j zLink).2.2.1 = fe at *
          generalize (P.2.2.1.getD j zLink).2.2.2 = lag at *
          have hte : fa < E.length := by rw [HE.out.len]; exact hfa
          have htt : tb < E.length := by rw [HE.out.len]; exact htb
          obtain ⟨eb, eo, rfl, -, m1, -⟩ := intsR_at (HER.out wr (G34.trans hB)).1 hte
          obtain ⟨eb', eo', eea, -, m2, -⟩ := intsR_at (HER.out wr (G34.trans hB)).1 htt
          obtain ⟨rfl, rfl⟩ : eb = eb' ∧ eo = eo' := by simpa using eea
          clear eea
          obtain ⟨EF, hEF⟩ : ∃ x, E.getD fa 0 = x := ⟨_, rfl⟩
          obtain ⟨ET, hET⟩ : ∃ x, E.getD tb 0 = x := ⟨_, rfl⟩
          rw [hEF] at m1 hbf hel
          rw [hET] at m2 hbt hel
          have hml := (projOk_modes HPO.out hfa).2
          obtain ⟨ab, ao, acs, aea, arow, ael⟩ := sliceR_at zAct (HAK.out wr (HG4.out.1.trans hB)) hfa
          obtain rfl : p1 = some ⟨ab, ao, none⟩ := aea
          obtain ⟨X, hX⟩ : ∃ X, P.2.1.getD fa zAct = X := ⟨_, rfl⟩
          rw [hX] at HGV hml ael
          obtain ⟨ac2, rfl, aq0, aq1, aq2⟩ := actR_open ael
          have HEL := Lib.hid ael
          obtain ⟨am, amk, rfl, aml, aml', -⟩ := sliceR_open aq2
          have ea0 := (arow 0 (by simp)).1
          have ea1 := (arow 1 (by simp)).1
          have ea2 := (arow 2 (by simp)).1
          simp only [List.getElem_cons_zero, List.getElem_cons_succ, Nat.add_zero] at ea0 ea1 ea2
          have hfi : (fa : Int) < (P.2.1.length : Int) := by omega
          have hlx : bulkIntS (rangeL X.2.2.length) ≤ 1048576 := by unfold bulkIntS; rw [rangeL_length]; omega
          have HBW := Lib.hid (show Bel w1 wr ∧ True from And.intro (HG4.out.1.trans hB) trivial)
          have HSW := Lib.hid (fun b (hb : New w w1 b) => Nat.lt_of_lt_of_le hb.2 HBW.out.1.size)
          have hti : (tb : Int) < (P.2.1.length : Int) := by omega
          have HALL := Lib.hid (show ∀ W, Bel (wr.alloc (.cells #[.int .i64 (fa : Int), .int .i64 (tb : Int), .bool fe, .int .i64 lag] 70)) W → W.cell? ⟨w1.heap.size, 0, none⟩ = some (.int .i64 P.1) ∧ W.cell? ⟨w1.heap.size, 1, none⟩ = some (.slice (some ⟨ab, ao, none⟩) P.2.1.length k1) ∧ W.cell? ⟨w1.heap.size, 2, none⟩ = some (.slice (some ⟨lb, loff, none⟩) P.2.2.1.length k2) ∧ W.cell? ⟨w1.heap.size, 3, none⟩ = some (.slice p3 P.2.2.2.1.length k3) ∧ W.cell? ⟨w1.heap.size, 4, none⟩ = some (.slice p4 P.2.2.2.2.length k4) ∧ W.cell? ⟨wr.heap.size, 0, none⟩ = some (.int .i64 (fa : Int)) ∧ W.cell? ⟨wr.heap.size, 1, none⟩ = some (.int .i64 (tb : Int)) ∧ W.cell? ⟨wr.heap.size, 2, none⟩ = some (.bool fe) ∧ W.cell? ⟨wr.heap.size, 3, none⟩ = some (.int .i64 lag) ∧ W.cell? ⟨ab, ao + fa * 3, none⟩ = some (.string X.1) ∧ W.cell? ⟨ab, ao + fa * 3 + 1, none⟩ = some (.int .i64 X.2.1) ∧ W.cell? ⟨ab, ao + fa * 3 + 2, none⟩ = some (.slice am X.2.2.length amk) ∧ W.cell? ⟨eb, eo + fa, none⟩ = some (.int .i64 EF) ∧ W.cell? ⟨eb, eo + tb, none⟩ = some (.int .i64 ET) from fun W hW => by
            have hWr : Bel wr W := ((Bel.refl wr).alloc _).trans hW
            exact ⟨hWr.cell b0, hWr.cell b1, hWr.cell b2, hWr.cell b3, hWr.cell b4, hW.cell (by simp [go_sem]), hW.cell (by simp [go_sem]), hW.cell (by simp [go_sem]), hW.cell (by simp [go_sem]), hWr.cell ea0, hWr.cell ea1, hWr.cell ea2, hWr.cell m1, hWr.cell m2⟩)
          have hno : ¬ ET < EF + G := by omega
          clear hX arow ael aq0 aq1 aq2 hEF hET m1 m2 ea0 ea1 ea2 hte htt
          go_wp2_with fail
          have hwg : IntKind.i64.wrap (EF + G) = EF + G := IntWalk.i64_in _ (by omega)
          go_region_held3 (fun W => W.cell? ⟨w1.heap.size, 0, none⟩ = some (.int .i64 P.1) ∧ W.cell? ⟨w1.heap.size, 1, none⟩ = some (.slice (some ⟨ab, ao, none⟩) P.2.1.length k1) ∧ W.cell? ⟨w1.heap.size, 2, none⟩ = some (.slice (some ⟨lb, loff, none⟩) P.2.2.1.length k2) ∧ W.cell? ⟨w1.heap.size, 3, none⟩ = some (.slice p3 P.2.2.2.1.length k3) ∧ W.cell? ⟨w1.heap.size, 4, none⟩ = some (.slice p4 P.2.2.2.2.length k4) ∧ W.cell? ⟨wr.heap.size, 0, none⟩ = some (.int .i64 (fa : Int)) ∧ W.cell? ⟨wr.heap.size, 1, none⟩ = some (.int .i64 (tb : Int)) ∧ W.cell? ⟨wr.heap.size, 2, none⟩ = some (.bool fe) ∧ W.cell? ⟨wr.heap.size, 3, none⟩ = some (.int .i64 lag) ∧ W.cell? ⟨ab, ao + fa * 3, none⟩ = some (.string X.1) ∧ W.cell? ⟨ab, ao + fa * 3 + 1, none⟩ = some (.int .i64 X.2.1) ∧ W.cell? ⟨ab, ao + fa * 3 + 2, none⟩ = some (.slice am X.2.2.length amk) ∧ W.cell? ⟨eb, eo + fa, none⟩ = some (.int .i64 EF) ∧ W.cell? ⟨eb, eo + tb, none⟩ = some (.int .i64 ET)) (first | (with_reducible exact HALL.out _ (by (repeat (first | assumption | exact Bel.refl _ | apply Bel.drewN | apply Bel.drew | apply Bel.alloc | refine Bel.trans ?_ (by assumption))))) | exact HALL.out _ (by (repeat (first | assumption | exact Bel.refl _ | apply Bel.drewN | apply Bel.drew | apply Bel.alloc | refine Bel.trans ?_ (by assumption))))) (first | (go_at_call 37; (with_reducible refine (iModeIndexes_any _ X (New w w1) _ (aggR_mk (actR_good.bel HEL.out (by (repeat (first | assumption | exact Bel.refl _ | apply Bel.drewN | apply Bel.drew | apply Bel.alloc | refine Bel.trans ?_ (by assumption)))) HSW.out)) (by omega)).mono ?_); rintro e wt ⟨vm, rfl, hr, gt⟩; have HRG := Lib.hid (stays_one intsR_good hr); obtain ⟨rp, rk, rfl, -⟩ := sliceR_open hr; clear hr) | (go_at_call 36; (with_reducible refine (iLinkGap_any _ P (New w w1) _ _ (rangeL X.2.2.length) _ _ (HPR.out _ (by (repeat (first | assumption | exact Bel.refl _ | apply Bel.drewN | apply Bel.drew | apply Bel.alloc | refine Bel.trans ?_ (by assumption))))).1 (HPR.out _ (by (repeat (first | assumption | exact Bel.refl _ | apply Bel.drewN | apply Bel.drew | apply Bel.alloc | refine Bel.trans ?_ (by assumption))))).2 HBP.out (HRG.out _ (by (repeat (first | assumption | exact Bel.refl _ | apply Bel.drewN | apply Bel.drew | apply Bel.alloc | refine Bel.trans ?_ (by assumption))))).1 (HRG.out _ (by (repeat (first | assumption | exact Bel.refl _ | apply Bel.drewN | apply Bel.drew | apply Bel.alloc | refine Bel.trans ?_ (by assumption))))).2 hlx).mono ?_); rintro e wt ⟨rfl, gt⟩; rw [HGV.out]) | fail)
          go_wp2_with fail
          go_roundw
          case rel => exact ⟨j + 1, by omega, by go_num, by (repeat (first | assumption | exact Bel.refl _ | apply Bel.drewN | apply Bel.drew | apply Bel.alloc | refine Bel.trans ?_ (by assumption)))⟩
          case measure => (simp [intOf] <;> omega)
        · obtain rfl : j = P.2.2.1.length := by omega
          go_wp2_with fail
          go_ret
          exact ⟨rfl, by (repeat (first | assumption | exact Bel.refl _ | apply Bel.drewN | apply Bel.drew | apply Bel.alloc | refine Bel.trans ?_ (by assumption)))⟩
  · obtain ⟨L, hL⟩ := ring_some HPO.out hR
    have HL := Lib.hid hL
    have hll : (posV P).length = L.length := by rw [hL.eq, nI_length]
    have he0 : (earlV P).length = 0 := by rw [hL.ear]; rfl
    have hL0 := hL.ne
    have hL6 := hL.le
    rw [hll, he0]
    rw [hll] at lr
    rw [hL.eq] at HRR
    rw [nI_length] at HRR
    have hd0 : (distV P).length = 0 := by rw [hL.dst]; rfl
    have hL0i : (0 : Int) < (L.length : Int) := by omega
    clear hL hR hll he0
    go_wp2_with fail
    go_loopw [8, 33] (fun sm kk wr => ∃ j : Nat, j ≤ L.length ∧ kk = .int .i64 j ∧ sm = .int .i64 ((netOf P).wt (L.take j)) ∧ Bel w4 wr) (fun _ kk _ => L.length - (intOf kk).toNat)
    case atStart => exact ⟨0, Nat.zero_le _, rfl, rfl, by (repeat (first | assumption | exact Bel.refl _ | apply Bel.drewN | apply Bel.drew | apply Bel.alloc | refine Bel.trans ?_ (by assumption)))⟩
    case round =>
      clear b0 b1 b2 b3 b4
      obtain ⟨j, hj, rfl, rfl, hB⟩ := hrel
      obtain ⟨b0, b1, b2, b3, b4⟩ := HB3.out wr (HG24.out.1.trans hB)
      have hl6 := HL.out.le
      by_cases hlt : j < L.length
      · have hji : (j : Int) < (L.length : Int) := by omega
        obtain ⟨a, ha⟩ : ∃ a, L.getD j 0 = a := ⟨_, rfl⟩
        have hm : (j + 1) % L.length < L.length := Nat.mod_lt _ (by omega)
        obtain ⟨nm, hnm⟩ : ∃ n, (j + 1) % L.length = n := ⟨_, rfl⟩
        obtain ⟨b, hb⟩ : ∃ b, L.getD nm 0 = b := ⟨_, rfl⟩
        have hal := HL.out.lt j hlt
        have hnx := HL.out.nx j hlt
        have hst := HL.out.step hlt
        have hsb := RingOk.bd HPO.out HL.out j
        rw [hnm] at hm hnx
        have hbl := HL.out.lt nm hm
        rw [ha] at hal hnx hst
        rw [hb] at hbl hnx
        have hrem : ((j : Int) + 1).tmod (L.length : Int) = (nm : Int) := by rw [Int.tmod_eq_emod_of_nonneg (by omega), ← hnm]; simp
        have hmi : (nm : Int) < (L.length : Int) := by omega
        have hq0 := intsR_at (HRR.out wr (HG24.out.1.trans hB)).1 (i := j) (by rw [nI_length]; exact hlt)
        obtain ⟨rb, ro, rfl, -, m1, -⟩ := hq0
        obtain ⟨rb', ro', eea, -, m2, -⟩ := intsR_at (HRR.out wr (HG24.out.1.trans hB)).1 (i := nm) (by rw [nI_length]; exact hm)
        obtain ⟨rfl, rfl⟩ : rb = rb' ∧ ro = ro' := by simpa using eea
        clear eea
        rw [nI_at, ha] at m1
        rw [nI_at, hb] at m2
        clear ha hb hnm
        obtain ⟨lb, loff, rfl, d0, d1, -, -⟩ := link_at (HLK.out wr (HG4.out.1.trans hB)) hal
        obtain ⟨lb', loff', eea, c0, -, -, -⟩ := link_at (HLK.out wr (HG4.out.1.trans hB)) hbl
        obtain ⟨rfl, rfl⟩ : lb = lb' ∧ loff = loff' := by simpa using eea
        clear eea
        obtain ⟨⟨fa, e1, hfa⟩, ⟨tb, e2, htb⟩, -⟩ := linkOk_bd (projOk_link HPO.out hal)
        rw [← hnx, e2] at c0
        have hgb := fullGapV_bd HPO.out (projOk_link HPO.out hal)
        obtain ⟨G, hG⟩ : ∃ G, fullGapV P (P.2.2.1.getD a zLink) = G := ⟨_, rfl⟩
        rw [hG] at hgb hst
        have HST := Lib.hid hst
        have hali : (a : Int) < (P.2.2.1.length : Int) := by omega
        have hbli : (b : Int) < (P.2.2.1.length : Int) := by omega
        have hnal : ¬ (P.2.2.1.length : Int) ≤ (a : Int) := by omega
        have hb0 : decide ((b : Int) < 0) = false := decide_eq_false (by omega)
        have hbd : decide ((P.2.2.1.length : Int) ≤ (b : Int)) = false := decide_eq_false (by omega)
        have hnbl : ¬ (P.2.2.1.length : Int) ≤ (b : Int) := by omega
        have HGV := Lib.hid (show linkGapV P (a : Int) (rangeL (P.2.1.getD fa zAct).2.2.length) = G from by
          rw [← hG]
          unfold linkGapV fullGapV
          rw [HPO.out, ← inB_v (a : Int), order_in ⟨by omega, by omega⟩, Int.toNat_natCast, e1, Int.toNat_natCast]
          rfl)
        rw [e1] at d0
        rw [e2] at d1
        clear e1 e2 hG hnx hst
        generalize (netOf P).wt (L.take j) = SM at *
        have hwj : IntKind.i64.wrap ((j : Int) + 1) = (j : Int) + 1 := IntWalk.i64_in _ (by omega)
        have hml := (projOk_modes HPO.out hfa).2
        obtain ⟨ab, ao, acs, aea, arow, ael⟩ := sliceR_at zAct (HAK.out wr (HG4.out.1.trans hB)) hfa
        obtain rfl : p1 = some ⟨ab, ao, none⟩ := aea
        obtain ⟨X, hX⟩ : ∃ X, P.2.1.getD fa zAct = X := ⟨_, rfl⟩
        rw [hX] at HGV hml ael
        obtain ⟨ac2, rfl, aq0, aq1, aq2⟩ := actR_open ael
        have HEL := Lib.hid ael
        obtain ⟨am, amk, rfl, aml, aml', -⟩ := sliceR_open aq2
        have ea0 := (arow 0 (by simp)).1
        have ea1 := (arow 1 (by simp)).1
        have ea2 := (arow 2 (by simp)).1
        simp only [List.getElem_cons_zero, List.getElem_cons_succ, Nat.add_zero] at ea0 ea1 ea2
        have hfi : (fa : Int) < (P.2.1.length : Int) := by omega
        have hlx : bulkIntS (rangeL X.2.2.length) ≤ 1048576 := by unfold bulkIntS; rw [rangeL_length]; omega
        have HBW := Lib.hid (show Bel w1 wr ∧ True from And.intro (HG4.out.1.trans hB) trivial)
        have HSW := Lib.hid (fun b (hb : New w w1 b) => Nat.lt_of_lt_of_le hb.2 HBW.out.1.size)
        have HALL := Lib.hid (show ∀ W, Bel wr W → W.cell? ⟨w1.heap.size, 0, none⟩ = some (.int .i64 P.1) ∧ W.cell? ⟨w1.heap.size, 1, none⟩ = some (.slice (some ⟨ab, ao, none⟩) P.2.1.length k1) ∧ W.cell? ⟨w1.heap.size, 2, none⟩ = some (.slice (some ⟨lb, loff, none⟩) P.2.2.1.length k2) ∧ W.cell? ⟨w1.heap.size, 3, none⟩ = some (.slice p3 P.2.2.2.1.length k3) ∧ W.cell? ⟨w1.heap.size, 4, none⟩ = some (.slice p4 P.2.2.2.2.length k4) ∧ W.cell? ⟨lb, loff + a * 4, none⟩ = some (.int .i64 (fa : Int)) ∧ W.cell? ⟨lb, loff + a * 4 + 1, none⟩ = some (.int .i64 (tb : Int)) ∧ W.cell? ⟨lb, loff + b * 4, none⟩ = some (.int .i64 (tb : Int)) ∧ W.cell? ⟨ab, ao + fa * 3, none⟩ = some (.string X.1) ∧ W.cell? ⟨ab, ao + fa * 3 + 1, none⟩ = some (.int .i64 X.2.1) ∧ W.cell? ⟨ab, ao + fa * 3 + 2, none⟩ = some (.slice am X.2.2.length amk) from fun W hWr => ⟨hWr.cell b0, hWr.cell b1, hWr.cell b2, hWr.cell b3, hWr.cell b4, hWr.cell d0, hWr.cell d1, hWr.cell c0, hWr.cell ea0, hWr.cell ea1, hWr.cell ea2⟩)
        have hws : IntKind.i64.wrap (SM + G) = SM + G := IntWalk.i64_in _ (by omega)
        clear hX arow ael aq0 aq1 aq2 ea0 ea1 ea2 d0 d1 c0 b0 b1 b2 b3 b4
        obtain ⟨b0, b1, b2, b3, b4, d0, d1, c0, -⟩ := HALL.out wr (Bel.refl _)
        go_wp2_with fail
        go_quiet (fail)
        go_wp2_with fail
        go_region_held3 (fun W => W.cell? ⟨w1.heap.size, 0, none⟩ = some (.int .i64 P.1) ∧ W.cell? ⟨w1.heap.size, 1, none⟩ = some (.slice (some ⟨ab, ao, none⟩) P.2.1.length k1) ∧ W.cell? ⟨w1.heap.size, 2, none⟩ = some (.slice (some ⟨lb, loff, none⟩) P.2.2.1.length k2) ∧ W.cell? ⟨w1.heap.size, 3, none⟩ = some (.slice p3 P.2.2.2.1.length k3) ∧ W.cell? ⟨w1.heap.size, 4, none⟩ = some (.slice p4 P.2.2.2.2.length k4) ∧ W.cell? ⟨lb, loff + a * 4, none⟩ = some (.int .i64 (fa : Int)) ∧ W.cell? ⟨lb, loff + a * 4 + 1, none⟩ = some (.int .i64 (tb : Int)) ∧ W.cell? ⟨lb, loff + b * 4, none⟩ = some (.int .i64 (tb : Int)) ∧ W.cell? ⟨ab, ao + fa * 3, none⟩ = some (.string X.1) ∧ W.cell? ⟨ab, ao + fa * 3 + 1, none⟩ = some (.int .i64 X.2.1) ∧ W.cell? ⟨ab, ao + fa * 3 + 2, none⟩ = some (.slice am X.2.2.length amk)) (first | (with_reducible exact HALL.out _ (by (repeat (first | assumption | exact Bel.refl _ | apply Bel.drewN | apply Bel.drew | apply Bel.alloc | refine Bel.trans ?_ (by assumption))))) | exact HALL.out _ (by (repeat (first | assumption | exact Bel.refl _ | apply Bel.drewN | apply Bel.drew | apply Bel.alloc | refine Bel.trans ?_ (by assumption))))) (first | (go_at_call 37; (with_reducible refine (iModeIndexes_any _ X (New w w1) _ (aggR_mk (actR_good.bel HEL.out (by (repeat (first | assumption | exact Bel.refl _ | apply Bel.drewN | apply Bel.drew | apply Bel.alloc | refine Bel.trans ?_ (by assumption)))) HSW.out)) (by omega)).mono ?_); rintro e wt ⟨vm, rfl, hr, gt⟩; have HRG := Lib.hid (stays_one intsR_good hr); obtain ⟨rp, rk, rfl, -⟩ := sliceR_open hr; clear hr) | (go_at_call 36; (with_reducible refine (iLinkGap_any _ P (New w w1) _ _ (rangeL X.2.2.length) _ _ (HPR.out _ (by (repeat (first | assumption | exact Bel.refl _ | apply Bel.drewN | apply Bel.drew | apply Bel.alloc | refine Bel.trans ?_ (by assumption))))).1 (HPR.out _ (by (repeat (first | assumption | exact Bel.refl _ | apply Bel.drewN | apply Bel.drew | apply Bel.alloc | refine Bel.trans ?_ (by assumption))))).2 HBP.out (HRG.out _ (by (repeat (first | assumption | exact Bel.refl _ | apply Bel.drewN | apply Bel.drew | apply Bel.alloc | refine Bel.trans ?_ (by assumption))))).1 (HRG.out _ (by (repeat (first | assumption | exact Bel.refl _ | apply Bel.drewN | apply Bel.drew | apply Bel.alloc | refine Bel.trans ?_ (by assumption))))).2 hlx).mono ?_); rintro e wt ⟨rfl, gt⟩; rw [HGV.out]) | fail)
        go_wp2_with fail
        go_roundw
        case rel => exact ⟨j + 1, by omega, by go_num, by rw [HST.out], by (repeat (first | assumption | exact Bel.refl _ | apply Bel.drewN | apply Bel.drew | apply Bel.alloc | refine Bel.trans ?_ (by assumption)))⟩
        case measure => (simp [intOf] <;> omega)
      · obtain rfl : j = L.length := by omega
        have hps := HL.out.pos
        rw [List.take_length]
        generalize (netOf P).wt L = SM at *
        clear lr
        go_wp2_with fail
        refine (iDistances_mat _ P (New w w1) _ (HPR.out _ (by (repeat (first | assumption | exact Bel.refl _ | apply Bel.drewN | apply Bel.drew | apply Bel.alloc | refine Bel.trans ?_ (by assumption))))).1 (HPR.out _ (by (repeat (first | assumption | exact Bel.refl _ | apply Bel.drewN | apply Bel.drew | apply Bel.alloc | refine Bel.trans ?_ (by assumption))))).2 HBP.out).mono ?_
        rintro e w5 ⟨v5, rfl, hr5, g5⟩
        obtain ⟨dq, dc, rfl, -⟩ := matR_open hr5
        rw [hd0]
        clear hr5
        go_wp2_with fail
        go_ret
        exact ⟨rfl, by (repeat (first | assumption | exact Bel.refl _ | apply Bel.drewN | apply Bel.drew | apply Bel.alloc | refine Bel.trans ?_ (by assumption)))⟩

end Go.Proofs.Ytiaamddhocdhaaa
end

/- FnRing -/
section
namespace Go.Proofs.Ytiaamddhocdhaaa.fnRing
open Go.ChangeShapes Go.WideShapes Go.ChangeAt Go.RowKit
open Go.ChangeMaps (open_string shut_string)
set_option linter.unusedVariables false

theorem agg_of {P : Program} {w : World} {r : Reach} {b : Nat} {t : TypeId} {fs : Array Field} {v : Value} (ht : P.underlying t = some (.struct fs)) (h : Value.okWide P w r b t v) : ∃ cs, v = .agg cs := by
  unfold Value.okWide at h
  rw [ht] at h
  obtain ⟨cs, h1, _⟩ := h
  exact ⟨cs, h1⟩

set_option maxRecDepth 100000 in
theorem lifted (os : Os) (started : os.Started) (H : Type) (enc : TypeId × Value → H) :
    ReturnsInHanded {} Try.checked os 6 .any (Rows.fnRingSpec.pre6 enc Try.prog Try.f6 Rows.fnRingRow.domain false) (Rows.fnRingSpec.post enc Try.prog Try.f6 false true false false) := by
  refine returnsInHanded_of_change (C := Try.checked) ownKnobNone started (by kernel_rfl) Try.func6
    (ChangeSpec.witness6 (enc := enc) (C := Try.checked) false ⟨#[], #[.slice none 0 0], []⟩ 8 (by kernel_rfl) (by kernel_rfl) (by kernel_rfl) (by kernel_rfl)) ?_
  intro W base args ds gs before hval0 hW hcnd _
  have hval : ∀ (j : Nat) t v, Try.f6.params[j]? = some t → args[j]? = some v → Value.okWide Try.prog W .any base t v := hval0
  have hW' := hW
  obtain ⟨p, q, hA0, hV, rfl, hfz, hnd⟩ := hW
  have hA : DataW.TrodAll enc Try.prog W 0 (fun _ => true) true Try.f6.params.toList args.toList ds p := hA0
  rw [Try.params6] at hA hval
  obtain ⟨v0, vs0, d0, ds0, p0, q0, hargs, rfl, rfl, h0, r0⟩ := trodAll_cons hA
  obtain ⟨rfl, rfl, rfl⟩ := trodAll_nil r0
  obtain rfl : args = #[v0] := by cases args; simp_all
  obtain ⟨rfl, rfl⟩ := trodVars_none hV
  have lt0 : ∀ x ∈ p0, x.block < W.heap.size := by obtain ⟨m, hm⟩ := h0; exact DataW.trod_lt m _ _ _ hm
  have fz0 : W.noneFrozen p0 := noneFrozen_sub hfz (by intro x hx; simp [hx])
  obtain ⟨x0, g0⟩ := (opBytes (enc := enc) W).one h0 fz0 (by obtain ⟨_, _, _, e⟩ := okWide_slice Try.underlying38 (hval 0 38 v0 rfl rfl); rw [e]; rfl)
  clear hA0 hval0
  refine (fnRing_walk v0 x0 W g0).mono fun e W' ⟨he, bel⟩ => ?_
  subst he
  exact ⟨_, rfl, _, _, _, [], _, [], hW', trodAll_mk1 (shut_bool Try.underlying4 _), (trodAll_cons_mk (Below.trod laidOutAll (by kernel_rfl) (of_decide_eq_true (by kernel_rfl)) h0 bel lt0) trodAll_mk0), rfl, bel.frame _, fun h => by cases h⟩

theorem proved : Rows.FnRingSaid :=
  OpenClaim.holds_of_wide 6 Try.f6 rfl rfl rfl rfl rfl rfl rfl ⟨rfl, rfl, rfl, rfl, rfl⟩ rfl rfl rfl rfl rfl (by kernel_rfl) Try.func6 (by kernel_rfl)
    (of_decide_eq_true (by kernel_rfl)) (by unfold Func.isWrapper; first | (rw [if_pos (by decide +kernel)]; kernel_rfl) | (rw [if_neg (by decide +kernel)]; exact ⟨rfl, rfl⟩))
    (fun os started H enc _ => lifted os started H enc)
#print axioms proved
end Go.Proofs.Ytiaamddhocdhaaa.fnRing
end
