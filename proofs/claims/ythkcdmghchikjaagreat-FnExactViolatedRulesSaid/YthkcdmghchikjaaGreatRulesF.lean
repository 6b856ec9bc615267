/- The list of all rules of a project, and those a schedule violates. No program. -/
import Derived.Test.YthkcdmghchikjaaGreatViolE
namespace Go.Proofs.YthkcdmghchikjaaGreat
open Go.RowKit
set_option linter.unusedVariables false

/-- base, and f of the first k numbers. -/
def accF (base : List RuleT) (f : Nat → RuleT) (k : Nat) : List RuleT := base ++ (List.range k).map f
theorem accF_zero (base : List RuleT) (f : Nat → RuleT) : accF base f 0 = base := by simp [accF]
theorem accF_succ (base : List RuleT) (f : Nat → RuleT) (k : Nat) : accF base f (k + 1) = accF base f k ++ [f k] := by simp [accF, List.range_succ]
theorem accF_length (base : List RuleT) (f : Nat → RuleT) (k : Nat) : (accF base f k).length = base.length + k := by simp [accF]
theorem accF_mem {base : List RuleT} {f : Nat → RuleT} {k : Nat} {r : RuleT} (h : r ∈ accF base f k) : r ∈ base ∨ ∃ j, j < k ∧ r = f j := by
  rcases List.mem_append.1 h with h | h
  · exact .inl h
  · obtain ⟨j, hj, e⟩ := List.mem_map.1 h
    exact .inr ⟨j, List.mem_range.1 hj, e.symm⟩
/-- base, and rows of f. -/
def accM (base : List RuleT) (g : Nat → Nat → RuleT) (m : Nat → Nat) : Nat → List RuleT
  | 0 => base
  | k + 1 => accF (accM base g m k) (g k) (m k)
theorem accM_length {base : List RuleT} {g : Nat → Nat → RuleT} {m : Nat → Nat} {M : Nat} (hm : ∀ k, m k ≤ M) : ∀ k, (accM base g m k).length ≤ base.length + k * M := by
  intro k
  induction k with
  | zero => simp [accM]
  | succ k ih =>
    simp only [accM, accF_length]
    have := hm k
    rw [Nat.succ_mul]
    omega
theorem accM_mem {base : List RuleT} {g : Nat → Nat → RuleT} {m : Nat → Nat} {r : RuleT} : ∀ {k}, r ∈ accM base g m k → r ∈ base ∨ ∃ i j, i < k ∧ j < m i ∧ r = g i j := by
  intro k
  induction k with
  | zero => intro h; exact .inl h
  | succ k ih =>
    intro h
    rcases accF_mem h with h | ⟨j, hj, e⟩
    · rcases ih h with h | ⟨i, j, hi, hj, e⟩
      · exact .inl h
      · exact .inr ⟨i, j, by omega, hj, e⟩
    · exact .inr ⟨k, j, by omega, hj, e⟩

def rLink (i : Nat) : RuleT := (1, (i : Int), 0, 0)
def rEnd (i : Nat) : RuleT := (2, (i : Int), 0, 0)
def rTime (i t : Nat) : RuleT := (3, (i : Int), (t : Int), 0)
def rPair (i b j : Nat) : RuleT := (5, (i : Int), (b : Int), ((b + 1 + j : Nat) : Int))
def rStock (i : Nat) : RuleT := (6, (i : Int), 0, 0)
def isMach (p : ProjT) (i : Nat) : Bool := machB p (i : Int)
/-- How many pairs begin with b on resource i. -/
def pairN (p : ProjT) (i b : Nat) : Nat := if machB p (i : Int) = true then p.2.1.length - (b + 1) else 0
theorem pairN_le (p : ProjT) (i b : Nat) : pairN p i b ≤ p.2.1.length := by unfold pairN; split <;> omega
theorem pairN_no {p : ProjT} {i : Nat} (h : machB p (i : Int) = false) (b : Nat) : pairN p i b = 0 := by unfold pairN; rw [if_neg (by rw [h]; decide)]
theorem pairN_yes {p : ProjT} {i : Nat} (h : machB p (i : Int) = true) (b : Nat) : pairN p i b = p.2.1.length - (b + 1) := if_pos h
def rul1 (p : ProjT) : List RuleT := accF [] rLink p.2.2.1.length
def rul2 (p : ProjT) : List RuleT := accF (rul1 p) rEnd p.2.1.length
def rul3 (p : ProjT) (n : Nat) : List RuleT := accM (rul2 p) rTime (fun _ => 61) n
/-- The pairs of resource i. -/
def rul4 (p : ProjT) : Nat → List RuleT
  | 0 => rul3 p p.2.2.2.1.length
  | i + 1 => accM (rul4 p i) (rPair i) (pairN p i) p.2.1.length
def rulesV (p : ProjT) : List RuleT := accF (rul4 p p.2.2.2.1.length) rStock p.2.2.2.2.length
theorem rul3_length (p : ProjT) (n : Nat) : (rul3 p n).length ≤ p.2.2.1.length + p.2.1.length + n * 61 := by
  have h := accM_length (base := rul2 p) (g := rTime) (m := fun _ => 61) (M := 61) (fun _ => Nat.le_refl _) n
  unfold rul3
  refine Nat.le_trans h ?_
  unfold rul2 rul1
  simp only [accF_length, List.length_nil]
  omega
theorem rul4_length (p : ProjT) : ∀ i, (rul4 p i).length ≤ p.2.2.1.length + p.2.1.length + p.2.2.2.1.length * 61 + i * (p.2.1.length * p.2.1.length) := by
  intro i
  induction i with
  | zero => simpa [rul4] using rul3_length p p.2.2.2.1.length
  | succ i ih =>
    simp only [rul4]
    refine Nat.le_trans (accM_length (pairN_le p i) _) ?_
    rw [Nat.succ_mul]
    omega
theorem rules_small {p : ProjT} (h : projOk p = true) : (∀ n, n ≤ p.2.2.2.1.length → (rul3 p n).length ≤ 201) ∧ (∀ n, n ≤ p.2.2.2.1.length → (rul4 p n).length ≤ 309) ∧ (rulesV p).length ≤ 311 := by
  obtain ⟨h1, h2, h3, h4, h5, h6, h7⟩ := projOk_bd h
  have hq : p.2.1.length * p.2.1.length ≤ 36 := Nat.mul_le_mul h2 h2
  have hA : ∀ n, n ≤ p.2.2.2.1.length → (rul4 p n).length ≤ 309 := fun n hn => by
    have h := rul4_length p n
    have h8 : n * (p.2.1.length * p.2.1.length) ≤ 3 * 36 := Nat.mul_le_mul (by omega) hq
    omega
  refine ⟨fun n hn => by have := rul3_length p n; omega, hA, ?_⟩
  unfold rulesV
  rw [accF_length]
  have := hA _ (Nat.le_refl _)
  omega
theorem rul4_mem {p : ProjT} {r : RuleT} : ∀ {n}, r ∈ rul4 p n → r ∈ rul3 p p.2.2.2.1.length ∨ ∃ i b j, i < n ∧ b < p.2.1.length ∧ j < pairN p i b ∧ r = rPair i b j := by
  intro n
  induction n with
  | zero => intro h; exact .inl h
  | succ n ih =>
    intro h
    rcases accM_mem h with h | ⟨b, j, hb, hj, e⟩
    · rcases ih h with h | ⟨i, b, j, hi, hb, hj, e⟩
      · exact .inl h
      · exact .inr ⟨i, b, j, by omega, hb, hj, e⟩
    · exact .inr ⟨n, b, j, by omega, hb, hj, e⟩
theorem inBv_yes {k n : Nat} (h : k < n) : inBv (k : Int) 0 ((n : Int) - 1) = true := by
  unfold inBv
  rw [decide_eq_true (show (0 : Int) ≤ (k : Int) from by omega), decide_eq_true (show (k : Int) ≤ (n : Int) - 1 from by omega)]
  rfl
/-- All rules of the list are well formed. -/
theorem rulesV_ok {p : ProjT} (h : projOk p = true) {r : RuleT} (hr : r ∈ rulesV p) : ruleOkB p r = true := by
  have hb := projOk_bd h
  unfold ruleOkB
  rw [h, Bool.true_and]
  rcases accF_mem hr with hr | ⟨i, hi, rfl⟩
  · rcases rul4_mem hr with hr | ⟨i, b, j, hi, hb', hj, rfl⟩
    · rcases accM_mem hr with hr | ⟨i, t, hi, ht, rfl⟩
      · rcases accF_mem hr with hr | ⟨i, hi, rfl⟩
        · rcases accF_mem hr with hr | ⟨i, hi, rfl⟩
          · cases hr
          · show ruleAt p 1 (i : Int) 0 0 = true
            unfold ruleAt
            rw [if_pos rfl, inBv_yes hi]; rfl
        · show ruleAt p 2 (i : Int) 0 0 = true
          unfold ruleAt
          rw [if_neg (by decide), if_pos rfl, inBv_yes hi]; rfl
      · show ruleAt p 3 (i : Int) (t : Int) 0 = true
        unfold ruleAt
        have h61 : inBv (t : Int) 0 60 = true := by have := inBv_yes (k := t) (n := 61) ht; simpa using this
        rw [if_neg (by decide), if_neg (by decide), if_pos rfl, inBv_yes hi, h61]; rfl
    · show ruleAt p 5 (i : Int) (b : Int) ((b + 1 + j : Nat) : Int) = true
      unfold ruleAt
      unfold pairN at hj
      split at hj
      · next hm =>
        rw [if_neg (by decide), if_neg (by decide), if_neg (by decide), if_neg (by decide), if_pos rfl, hm, inBv_yes hb', inBv_yes (show b + 1 + j < p.2.1.length from by omega), decide_eq_true (show ((b : Nat) : Int) < ((b + 1 + j : Nat) : Int) from by omega)]
        rfl
      · omega
  · show ruleAt p 6 (i : Int) 0 0 = true
    unfold ruleAt
    rw [if_neg (by decide), if_neg (by decide), if_neg (by decide), if_neg (by decide), if_neg (by decide), if_pos rfl, inBv_yes hi]; rfl
theorem ruleOk_small {p : ProjT} (hp : projOk p = true) {r : RuleT} (h : ruleOkB p r = true) : I64 r.1 ∧ I64 r.2.1 ∧ I64 r.2.2.1 ∧ I64 r.2.2.2 := by
  have hb := projOk_bd hp
  unfold I64
  rcases ruleOk_cases h with ⟨k, hk, rfl⟩ | ⟨k, hk, rfl⟩ | ⟨a, t, ha, ht, rfl⟩ | ⟨a, x, y, ha, hxy, hy, rfl⟩ | ⟨a, b, c, ha, hm, hb, hc, rfl⟩ | ⟨k, hk, rfl⟩ <;> (refine ⟨?_, ?_, ?_, ?_⟩ <;> constructor <;> (dsimp only; omega))
/-- The violated ones of the first j. -/
def violTo (p : ProjT) (s : SchT) (j : Nat) : List RuleT := ((rulesV p).take j).filter fun r => !satB p s r
theorem violTo_zero (p : ProjT) (s : SchT) : violTo p s 0 = [] := by simp [violTo]
theorem violTo_yes {p : ProjT} {s : SchT} {j : Nat} (h : j < (rulesV p).length) (hs : satB p s ((rulesV p).getD j (0, 0, 0, 0)) = true) : violTo p s (j + 1) = violTo p s j := by
  unfold violTo
  rw [List.take_succ_eq_append_getElem h, List.filter_append]
  rw [List.getD_eq_getElem?_getD, List.getElem?_eq_getElem h, Option.getD_some] at hs
  simp [hs]
theorem violTo_no {p : ProjT} {s : SchT} {j : Nat} (h : j < (rulesV p).length) (hs : satB p s ((rulesV p).getD j (0, 0, 0, 0)) = false) : violTo p s (j + 1) = violTo p s j ++ [(rulesV p).getD j (0, 0, 0, 0)] := by
  unfold violTo
  rw [List.take_succ_eq_append_getElem h, List.filter_append]
  rw [List.getD_eq_getElem?_getD, List.getElem?_eq_getElem h, Option.getD_some] at hs
  simp [hs, List.getElem?_eq_getElem h]
theorem violTo_le (p : ProjT) (s : SchT) (j : Nat) : (violTo p s j).length ≤ j := by
  unfold violTo
  refine Nat.le_trans (List.length_filter_le _ _) ?_
  rw [List.length_take]
  omega
def violV (p : ProjT) (s : SchT) : List RuleT := if schFormB p s = true then violTo p s (rulesV p).length else []
theorem violV_len (p : ProjT) (s : SchT) : (violV p s).length ≤ 1048576 := by
  unfold violV
  split
  · next h =>
    have h1 := violTo_le p s (rulesV p).length
    have h2 := (rules_small (projOk_form h)).2.2
    omega
  · simp
def schOkB (p : ProjT) (s : SchT) : Bool := schFormB p s && decide ((violV p s).length = 0)
end Go.Proofs.YthkcdmghchikjaaGreat
