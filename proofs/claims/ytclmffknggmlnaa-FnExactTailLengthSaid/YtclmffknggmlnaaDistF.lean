/- The longest distances of a project: how a walk reckons them. No program. -/
import Derived.Test.YtclmffknggmlnaaRingF
import Derived.Test.YtclmffknggmlnaaFw
import Derived.Test.YtclmffknggmlnaaGrid
import Derived.Test.YtclmffknggmlnaaHas
namespace Go.Proofs.Ytclmffknggmlnaa
open Go.RowKit
set_option linter.unusedVariables false

theorem triV_same (a : Int) : triV a a 0 = a := by
  unfold triV
  split
  · rfl
  · split <;> omega
theorem triV_same' (a : Int) : triV a 0 a = a := by
  unfold triV
  split
  · rfl
  · split <;> omega
theorem distM_col {N : Net} {m : Nat} (h : distM N m m m = 0) (i : Nat) : distM N (m + 1) i m = distM N m i m := by
  simp only [distM, h, triV_same]
theorem distM_row {N : Net} {m : Nat} (h : distM N m m m = 0) (k : Nat) : distM N (m + 1) m k = distM N m m k := by
  simp only [distM, h, triV_same']
/-- The table in stage m, as far as row i, column k. -/
def distS (N : Net) (m i k a b : Nat) : Int := if a < i ∨ (a = i ∧ b < k) then distM N (m + 1) a b else distM N m a b
theorem distS_at (N : Net) (m i k : Nat) : distS N m i k i k = distM N m i k := by
  unfold distS; rw [if_neg (by omega)]
theorem distS_col {N : Net} {m : Nat} (h : distM N m m m = 0) (i k : Nat) : distS N m i k i m = distM N m i m := by
  unfold distS; split
  · exact distM_col h i
  · rfl
theorem distS_row {N : Net} {m : Nat} (h : distM N m m m = 0) (i k : Nat) : distS N m i k m k = distM N m m k := by
  unfold distS; split
  · exact distM_row h k
  · rfl
theorem distS_step {N : Net} {m i k : Nat} {x : Int} (h : x = triV (distM N m i k) (distM N m i m) (distM N m m k)) (a b : Nat) : (if a = i ∧ b = k then x else distS N m i k a b) = distS N m i (k + 1) a b := by
  unfold distS
  by_cases e : a = i ∧ b = k
  · obtain ⟨rfl, rfl⟩ := e
    rw [if_pos ⟨rfl, rfl⟩, if_pos (by omega), h]; rfl
  · rw [if_neg e]
    by_cases e2 : a < i ∨ (a = i ∧ b < k)
    · rw [if_pos e2, if_pos (by omega)]
    · rw [if_neg e2, if_neg (by omega)]
theorem distS_skip {N : Net} {m i k : Nat} (h : triV (distM N m i k) (distM N m i m) (distM N m m k) = distM N m i k) (a b : Nat) : distS N m i k a b = distS N m i (k + 1) a b := by
  rw [← distS_step h.symm a b]
  split
  · rename_i e; obtain ⟨rfl, rfl⟩ := e; exact distS_at _ _ _ _
  · rfl
theorem distS_zero (N : Net) (m a b : Nat) : distM N m a b = distS N m 0 0 a b := by
  unfold distS; rw [if_neg (by omega)]
theorem distS_next (N : Net) (m n i a b : Nat) (hb : b < n) : distS N m i n a b = distS N m (i + 1) 0 a b := by
  unfold distS
  by_cases e : a < i ∨ (a = i ∧ b < n)
  · rw [if_pos e, if_pos (by omega)]
  · rw [if_neg e, if_neg (by omega)]
theorem distS_end (N : Net) (m n a b : Nat) (ha : a < n) : distS N m n 0 a b = distM N (m + 1) a b := by
  unfold distS; rw [if_pos (by omega)]
theorem dist0_step (N : Net) (t : Nat) {x : Int} (h : x = if dist0 N t (N.fr t) (N.to t) < N.gp t then N.gp t else dist0 N t (N.fr t) (N.to t)) (a b : Nat) : (if a = N.fr t ∧ b = N.to t then x else dist0 N t a b) = dist0 N (t + 1) a b := by
  simp only [dist0]
  by_cases e : a = N.fr t ∧ b = N.to t
  · obtain ⟨rfl, rfl⟩ := e
    rw [if_pos ⟨rfl, rfl⟩, h]
    split
    · rename_i hc; rw [if_pos ⟨rfl, rfl, hc⟩]
    · rename_i hc; rw [if_neg (by rintro ⟨_, _, h2⟩; exact hc h2)]
  · rw [if_neg e, if_neg (by rintro ⟨h1, h2, _⟩; exact e ⟨h1, h2⟩)]
theorem maxI_lt (a b : Int) : maxI a b = if a < b then b else a := by unfold maxI; split <;> split <;> omega
/-- Every value in a table is a small number. -/
theorem distM_bd {N : Net} (hF : N.Fine) (hN : ∀ (l : List Nat) (i : Nat), N.wk i l i → N.wt l ≤ 0) {m i k : Nat} (hm : m ≤ N.n) (hi : i < N.n) (hk : k < N.n) : distM N m i k = -1000 ∨ -420 ≤ distM N m i k ∧ distM N m i k ≤ 4608 := (dist_all N hF hN m hm).low hF hm hi hk
theorem distS_bd {N : Net} (hF : N.Fine) (hN : ∀ (l : List Nat) (i : Nat), N.wk i l i → N.wt l ≤ 0) {m x y i k : Nat} (hm : m < N.n) (hi : i < N.n) (hk : k < N.n) : distS N m x y i k = -1000 ∨ -420 ≤ distS N m x y i k ∧ distS N m x y i k ≤ 4608 := by
  unfold distS; split
  · exact distM_bd hF hN (by omega) hi hk
  · exact distM_bd hF hN (by omega) hi hk
theorem dist0_bd {N : Net} (hF : N.Fine) {t i k : Nat} (ht : t ≤ N.nl) (hi : i < N.n) (hk : k < N.n) : dist0 N t i k = -1000 ∨ -60 ≤ dist0 N t i k ∧ dist0 N t i k ≤ 72 := by
  rcases (dist0_all N hF t ht).2.1 i k hi hk with h | ⟨_, h⟩
  · exact .inl h
  · exact .inr h
/-- The row that a walk lays first. -/
def row0 (N : Net) (i m : Nat) : List Int := (List.range m).map fun k => dist0 N 0 i k
theorem row0_length (N : Net) (i m : Nat) : (row0 N i m).length = m := by simp [row0]
theorem row0_snoc (N : Net) (i m : Nat) : row0 N i (m + 1) = row0 N i m ++ [if i = m then 0 else -1000] := by
  simp [row0, List.range_succ, dist0]
theorem row0_at (N : Net) (i m k : Nat) (hk : k < m) : (row0 N i m).getD k 0 = dist0 N 0 i k := by
  simp [row0, hk]
/-- The rows laid so far. -/
def Rows0 (N : Net) (w : World) (rows : List (Nat × List Int)) : Prop := (∀ i (h : i < rows.length), (rows[i]).2 = row0 N i N.n ∧ (rows[i]).1 < w.heap.size) ∧ ∀ i j (hi : i < rows.length) (hj : j < rows.length), i ≠ j → (rows[i]).1 ≠ (rows[j]).1
theorem Rows0.nil (N : Net) (w : World) : Rows0 N w [] := ⟨fun i h => absurd h (Nat.not_lt_zero _), fun i j h => absurd h (Nat.not_lt_zero _)⟩
theorem Rows0.snoc {N : Net} {w w' : World} {rows : List (Nat × List Int)} (h : Rows0 N w rows) {g : Nat} {xs : List Int} (hxs : xs = row0 N rows.length N.n) (hg : w.heap.size ≤ g ∧ g < w'.heap.size) : Rows0 N w' (rows ++ [(g, xs)]) := by
  subst hxs
  have hs : w.heap.size ≤ w'.heap.size := by omega
  refine ⟨fun i hi => ?_, fun i j hi hj hij => ?_⟩
  · by_cases e : i < rows.length
    · rw [List.getElem_append_left e]
      exact ⟨(h.1 i e).1, Nat.lt_of_lt_of_le (h.1 i e).2 hs⟩
    · have e' : i = rows.length := by simp at hi; omega
      subst e'
      rw [List.getElem_append_right (Nat.le_refl _)]
      simp only [Nat.sub_self, List.getElem_cons_zero]
      exact ⟨trivial, hg.2⟩
  · simp at hi hj
    by_cases e : i < rows.length <;> by_cases e2 : j < rows.length
    · rw [List.getElem_append_left e, List.getElem_append_left e2]; exact h.2 i j e e2 hij
    · rw [List.getElem_append_left e, List.getElem_append_right (by omega)]
      have := (h.1 i e).2
      simp
      omega
    · rw [List.getElem_append_right (by omega), List.getElem_append_left e2]
      have := (h.1 j e2).2
      simp
      omega
    · omega
/-- The table as a list of rows. -/
def distV (p : ProjT) : List (List Int) := if projOk p = true ∧ (netOf p).posF = [] then rowsOf p.2.1.length p.2.1.length (distM (netOf p) p.2.1.length) else []
/-- What the walk of the distances leaves: rows apart in new blocks. -/
def GridRes (p : ProjT) (w : World) (e : Ending) (w' : World) : Prop := ∃ o c rb cp, e = .returned (.slice (some ⟨o, 0, none⟩) p.2.1.length c) ∧ p.2.1.length ≤ c ∧ c ≤ maxLen ∧ Grid w.heap.size w' o p.2.1.length p.2.1.length rb cp (intsV (distM (netOf p) p.2.1.length)) ∧ Bel w w'
/-- What Distances leaves. -/
def DistRes (p : ProjT) (w : World) (e : Ending) (w' : World) : Prop := (¬ (projOk p = true ∧ (netOf p).posF = []) ∧ e = .returned (.slice none 0 0) ∧ Bel w w') ∨ (projOk p = true ∧ (netOf p).posF = [] ∧ GridRes p w e w')
theorem grid_bel_set {W w w' : World} {B o N n : Nat} {rb cp : Nat → Nat} {V : Nat → Nat → Value} (h : Grid B w o N n rb cp V) (hW : Bel W w') (hB : W.heap.size ≤ B) {i k : Nat} (hi : i < N) (u : Value) : Bel W (w'.setCell ⟨rb i, k, none⟩ u) := hW.set (Nat.le_trans hB (h.base i hi).1) u
theorem grid_link {w : World} {B o n : Nat} {rb cp : Nat → Nat} {N : Net} {t : Nat} (h : Grid B w o n n rb cp (intsV (dist0 N t))) (hf : N.fr t < n) (ht : N.to t < n) {x : Int} (hx : x = if dist0 N t (N.fr t) (N.to t) < N.gp t then N.gp t else dist0 N t (N.fr t) (N.to t)) : Grid B (w.setCell ⟨rb (N.fr t), N.to t, none⟩ (.int .i64 x)) o n n rb cp (intsV (dist0 N (t + 1))) :=
  (h.set hf ht _).congr fun a b _ _ => by
    show _ = Value.int .i64 (dist0 N (t + 1) a b)
    rw [← dist0_step N t hx a b]
    split <;> rfl
theorem grid_tri {w : World} {B o n : Nat} {rb cp : Nat → Nat} {N : Net} {m i k : Nat} (h : Grid B w o n n rb cp (intsV (distS N m i k))) (hi : i < n) (hk : k < n) {x : Int} (hx : x = triV (distM N m i k) (distM N m i m) (distM N m m k)) : Grid B (w.setCell ⟨rb i, k, none⟩ (.int .i64 x)) o n n rb cp (intsV (distS N m i (k + 1))) :=
  (h.set hi hk _).congr fun a b _ _ => by
    show _ = Value.int .i64 (distS N m i (k + 1) a b)
    rw [← distS_step hx a b]
    split <;> rfl
theorem grid_skip {w : World} {B o n : Nat} {rb cp : Nat → Nat} {N : Net} {m i k : Nat} (h : Grid B w o n n rb cp (intsV (distS N m i k))) (hx : triV (distM N m i k) (distM N m i m) (distM N m m k) = distM N m i k) : Grid B w o n n rb cp (intsV (distS N m i (k + 1))) :=
  h.congr fun a b _ _ => by
    show Value.int .i64 (distS N m i k a b) = Value.int .i64 (distS N m i (k + 1) a b)
    rw [distS_skip hx a b]
theorem grid_row {w : World} {B o n : Nat} {rb cp : Nat → Nat} {N : Net} {m i : Nat} (h : Grid B w o n n rb cp (intsV (distS N m i n))) : Grid B w o n n rb cp (intsV (distS N m (i + 1) 0)) :=
  h.congr fun a b _ hb => by
    show Value.int .i64 (distS N m i n a b) = Value.int .i64 (distS N m (i + 1) 0 a b)
    rw [distS_next N m n i a b hb]
theorem grid_first {w : World} {B o n : Nat} {rb cp : Nat → Nat} {N : Net} {m : Nat} (h : Grid B w o n n rb cp (intsV (distM N m))) : Grid B w o n n rb cp (intsV (distS N m 0 0)) :=
  h.congr fun a b _ hb => by
    show Value.int .i64 (distM N m a b) = Value.int .i64 (distS N m 0 0 a b)
    rw [distS_zero N m a b]
theorem grid_last {w : World} {B o n : Nat} {rb cp : Nat → Nat} {N : Net} {m : Nat} (h : Grid B w o n n rb cp (intsV (distS N m n 0))) : Grid B w o n n rb cp (intsV (distM N (m + 1))) :=
  h.congr fun a b ha _ => by
    show Value.int .i64 (distS N m n 0 a b) = Value.int .i64 (distM N (m + 1) a b)
    rw [distS_end N m n a b ha]
/-- What the three cells give, in the middle of a stage. -/
theorem tri_at {N : Net} {m i k : Nat} (hd : distM N m m m = 0) : triV (distM N m i k) (distM N m i m) (distM N m m k) = triV (distS N m i k i k) (distS N m i k i m) (distS N m i k m k) := by
  rw [distS_at, distS_col hd, distS_row hd]
theorem grid_rows0 {e : TypeId} {w : World} {B : Nat} {p : Option Addr} {cap n : Nat} {rows : List (Nat × List Int)} {N : Net} (h : Own (fun b => B ≤ b) 1 brow e B w p cap rows) (hr : Rows0 N w rows) (hl : rows.length = n) (hn : N.n = n) (h0 : 0 < n) : ∃ o rb cp, p = some ⟨o, 0, none⟩ ∧ n ≤ cap ∧ cap ≤ maxLen ∧ Grid B w o n n rb cp (intsV (dist0 N 0)) := by
  obtain ⟨o, cp, h1, h2, h3, h4⟩ := grid_of_own (n := n) h (by intro e; rw [e] at hl; simp at hl; omega) (fun x hx => by
    obtain ⟨i, hi, rfl⟩ := List.mem_iff_getElem.1 hx
    rw [(hr.1 i hi).1, row0_length, hn]) hr.2
  rw [hl] at h2 h4
  refine ⟨o, _, cp, h1, h2, h3, h4.congr fun i k hi hk => ?_⟩
  show Value.int .i64 ((rows.getD i (0, [])).2.getD k 0) = Value.int .i64 (dist0 N 0 i k)
  rw [List.getD_eq_getElem?_getD (l := rows), List.getElem?_eq_getElem (by omega), Option.getD_some, (hr.1 i (by omega)).1, hn, row0_at _ _ _ _ hk]
end Go.Proofs.Ytclmffknggmlnaa
