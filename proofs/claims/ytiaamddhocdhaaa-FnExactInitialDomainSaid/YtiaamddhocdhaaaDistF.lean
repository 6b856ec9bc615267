/- The longest distances of a project: how a walk reckons them. No program. -/
import Derived.Test.YtiaamddhocdhaaaRingF
import Derived.Test.YtiaamddhocdhaaaNet
import Derived.Test.YtiaamddhocdhaaaGrid
import Derived.Test.YtiaamddhocdhaaaHas
namespace Go.Proofs.Ytiaamddhocdhaaa
open Go.RowKit
set_option linter.unusedVariables false

theorem triV_same (a : Int) : triV a a 0 = a := by
  unfold triV
  split
  · rfl
  · split <;> omega
theorem triV_same' (a : Int) : triV a 0 a = a := by
  unfold triV
  split
  · rfl
  · split <;> omega
theorem distM_col {N : Net} {m : Nat} (h : distM N m m m = 0) (i : Nat) : distM N (m + 1) i m = distM N m i m := by
  simp only [distM, h, triV_same]
theorem distM_row {N : Net} {m : Nat} (h : distM N m m m = 0) (k : Nat) : distM N (m + 1) m k = distM N m m k := by
  simp only [distM, h, triV_same']
/-- The table in stage m, as far as row i, column k. -/
def distS (N : Net) (m i k a b : Nat) : Int := if a < i ∨ (a = i ∧ b < k) then distM N (m + 1) a b else distM N m a b
theorem distS_at (N : Net) (m i k : Nat) : distS N m i k i k = distM N m i k := by
  unfold distS; rw [if_neg (by omega)]
theorem distS_col {N : Net} {m : Nat} (h : distM N m m m = 0) (i k : Nat) : distS N m i k i m = distM N m i m := by
  unfold distS; split
  · exact distM_col h i
  · rfl
theorem distS_row {N : Net} {m : Nat} (h : distM N m m m = 0) (i k : Nat) : distS N m i k m k = distM N m m k := by
  unfold distS; split
  · exact distM_row h k
  · rfl
theorem distS_step {N : Net} {m i k : Nat} {x : Int} (h : x = triV (distM N m i k) (distM N m i m) (distM N m m k)) (a b : Nat) : (if a = i ∧ b = k then x else distS N m i k a b) = distS N m i (k + 1) a b := by
  unfold distS
  by_cases e : a = i ∧ b = k
  · obtain ⟨rfl, rfl⟩ := e
    rw [if_pos ⟨rfl, rfl⟩, if_pos (by omega), h]; rfl
  · rw [if_neg e]
    by_cases e2 : a < i ∨ (a = i ∧ b < k)
    · rw [if_pos e2, if_pos (by omega)]
    · rw [if_neg e2, if_neg (by omega)]
theorem distS_skip {N : Net} {m i k : Nat} (h : triV (distM N m i k) (distM N m i m) (distM N m m k) = distM N m i k) (a b : Nat) : distS N m i k a b = distS N m i (k + 1) a b := by
  rw [← distS_step h.symm a b]
  split
  · rename_i e; obtain ⟨rfl, rfl⟩ := e; exact distS_at _ _ _ _
  · rfl
theorem distS_zero (N : Net) (m a b : Nat) : distM N m a b = distS N m 0 0 a b := by
  unfold distS; rw [if_neg (by omega)]
theorem distS_next (N : Net) (m n i a b : Nat) (hb : b < n) : distS N m i n a b = distS N m (i + 1) 0 a b := by
  unfold distS
  by_cases e : a < i ∨ (a = i ∧ b < n)
  · rw [if_pos e, if_pos (by omega)]
  · rw [if_neg e, if_neg (by omega)]
theorem distS_end (N : Net) (m n a b : Nat) (ha : a < n) : distS N m n 0 a b = distM N (m + 1) a b := by
  unfold distS; rw [if_pos (by omega)]
theorem dist0_step (N : Net) (t : Nat) {x : Int} (h : x = if dist0 N t (N.fr t) (N.to t) < N.gp t then N.gp t else dist0 N t (N.fr t) (N.to t)) (a b : Nat) : (if a = N.fr t ∧ b = N.to t then x else dist0 N t a b) = dist0 N (t + 1) a b := by
  simp only [dist0]
  by_cases e : a = N.fr t ∧ b = N.to t
  · obtain ⟨rfl, rfl⟩ := e
    rw [if_pos ⟨rfl, rfl⟩, h]
    split
    · rename_i hc; rw [if_pos ⟨rfl, rfl, hc⟩]
    · rename_i hc; rw [if_neg (by rintro ⟨_, _, h2⟩; exact hc h2)]
  · rw [if_neg e, if_neg (by rintro ⟨h1, h2, _⟩; exact e ⟨h1, h2⟩)]
theorem maxI_lt (a b : Int) : maxI a b = if a < b then b else a := by unfold maxI; split <;> split <;> omega
/-- Every value in a table is a small number. -/
theorem distM_bd {N : Net} (hF : N.Fine) (hN : ∀ (l : List Nat) (i : Nat), N.wk i l i → N.wt l ≤ 0) {m i k : Nat} (hm : m ≤ N.n) (hi : i < N.n) (hk : k < N.n) : distM N m i k = -1000 ∨ -420 ≤ distM N m i k ∧ distM N m i k ≤ 4608 := (dist_all N hF hN m hm).low hF hm hi hk
theorem distS_bd {N : Net} (hF : N.Fine) (hN : ∀ (l : List Nat) (i : Nat), N.wk i l i → N.wt l ≤ 0) {m x y i k : Nat} (hm : m < N.n) (hi : i < N.n) (hk : k < N.n) : distS N m x y i k = -1000 ∨ -420 ≤ distS N m x y i k ∧ distS N m x y i k ≤ 4608 := by
  unfold distS; split
  · exact distM_bd hF hN (by omega) hi hk
  · exact distM_bd hF hN (by omega) hi hk
theorem dist0_bd {N : Net} (hF : N.Fine) {t i k : Nat} (ht : t ≤ N.nl) (hi : i < N.n) (hk : k < N.n) : dist0 N t i k = -1000 ∨ -60 ≤ dist0 N t i k ∧ dist0 N t i k ≤ 72 := by
  rcases (dist0_all N hF t ht).2.1 i k hi hk with h | ⟨_, h⟩
  · exact .inl h
  · exact .inr h
/-- The row that a walk lays first. -/
def row0 (N : Net) (i m : Nat) : List Int := (List.range m).map fun k => dist0 N 0 i k
theorem row0_length (N : Net) (i m : Nat) : (row0 N i m).length = m := by simp [row0]
theorem row0_snoc (N : Net) (i m : Nat) : row0 N i (m + 1) = row0 N i m ++ [if i = m then 0 else -1000] := by
  simp [row0, List.range_succ, dist0]
theorem row0_at (N : Net) (i m k : Nat) (hk : k < m) : (row0 N i m).getD k 0 = dist0 N 0 i k := by
  simp [row0, hk]
/-- The rows laid so far. -/
def Rows0 (N : Net) (w : World) (rows : List (Nat × List Int)) : Prop := (∀ i (h : i < rows.length), (rows[i]).2 = row0 N i N.n ∧ (rows[i]).1 < w.heap.size) ∧ ∀ i j (hi : i < rows.length) (hj : j < rows.length), i ≠ j → (rows[i]).1 ≠ (rows[j]).1
theorem Rows0.nil (N : Net) (w : World) : Rows0 N w [] := ⟨fun i h => absurd h (Nat.not_lt_zero _), fun i j h => absurd h (Nat.not_lt_zero _)⟩
theorem Rows0.snoc {N : Net} {w w' : World} {rows : List (Nat × List Int)} (h : Rows0 N w rows) {g : Nat} {xs : List Int} (hxs : xs = row0 N rows.length N.n) (hg : w.heap.size ≤ g ∧ g < w'.heap.size) : Rows0 N w' (rows ++ [(g, xs)]) := by
  subst hxs
  have hs : w.heap.size ≤ w'.heap.size := by omega
  refine ⟨fun i hi => ?_, fun i j hi hj hij => ?_⟩
  · by_cases e : i < rows.length
    · rw [List.getElem_append_left e]
      exact ⟨(h.1 i e).1, Nat.lt_of_lt_of_le (h.1 i e).2 hs⟩
    · have e' : i = rows.length := by simp at hi; omega
      subst e'
      rw [List.getElem_append_right (Nat.le_refl _)]
      simp only [Nat.sub_self, List.getElem_cons_zero]
      exact ⟨trivial, hg.2⟩
  · simp at hi hj
    by_cases e : i < rows.length <;> by_cases e2 : j < rows.length
    · rw [List.getElem_append_left e, List.getElem_append_left e2]; exact h.2 i j e e2 hij
    · rw [List.getElem_append_left e, List.getElem_append_right (by omega)]
      have := (h.1 i e).2
      simp
      omega
    · rw [List.getElem_append_right (by omega), List.getElem_append_left e2]
      have := (h.1 j e2).2
      simp
      omega
    · omega
/-- The table as a list of rows. -/
def distV (p : ProjT) : List (List Int) := if projOk p = true ∧ (netOf p).posF = [] then rowsOf p.2.1.length p.2.1.length (distM (netOf p) p.2.1.length) else []
/-- What the walk of the distances leaves: rows apart in new blocks. -/
def GridRes (p : ProjT) (w : World) (e : Ending) (w' : World) : Prop := ∃ o c rb cp, e = .returned (.slice (some ⟨o, 0, none⟩) p.2.1.length c) ∧ p.2.1.length ≤ c ∧ c ≤ maxLen ∧ Grid w.heap.size w' o p.2.1.length p.2.1.length rb cp (intsV (distM (netOf p) p.2.1.length)) ∧ Bel w w'
/-- What Distances leaves. -/
def DistRes (p : ProjT) (w : World) (e : Ending) (w' : World) : Prop := (¬ (projOk p = true ∧ (netOf p).posF = []) ∧ e = .returned (.slice none 0 0) ∧ Bel w w') ∨ (projOk p = true ∧ (netOf p).posF = [] ∧ GridRes p w e w')
theorem grid_bel_set {W w w' : World} {B o N n : Nat} {rb cp : Nat → Nat} {V : Nat → Nat → Value} (h : Grid B w o N n rb cp V) (hW : Bel W w') (hB : W.heap.size ≤ B) {i k : Nat} (hi : i < N) (u : Value) : Bel W (w'.setCell ⟨rb i, k, none⟩ u) := hW.set (Nat.le_trans hB (h.base i hi).1) u
theorem grid_link {w : World} {B o n : Nat} {rb cp : Nat → Nat} {N : Net} {t : Nat} (h : Grid B w o n n rb cp (intsV (dist0 N t))) (hf : N.fr t < n) (ht : N.to t < n) {x : Int} (hx : x = if dist0 N t (N.fr t) (N.to t) < N.gp t then N.gp t else dist0 N t (N.fr t) (N.to t)) : Grid B (w.setCell ⟨rb (N.fr t), N.to t, none⟩ (.int .i64 x)) o n n rb cp (intsV (dist0 N (t + 1))) :=
  (h.set hf ht _).congr fun a b _ _ => by
    show _ = Value.int .i64 (dist0 N (t + 1) a b)
    rw [← dist0_step N t hx a b]
    split <;> rfl
theorem grid_tri {w : World} {B o n : Nat} {rb cp : Nat → Nat} {N : Net} {m i k : Nat} (h : Grid B w o n n rb cp (intsV (distS N m i k))) (hi : i < n) (hk : k < n) {x : Int} (hx : x = triV (distM N m i k) (distM N m i m) (distM N m m k)) : Grid B (w.setCell ⟨rb i, k, none⟩ (.int .i64 x)) o n n rb cp (intsV (distS N m i (k + 1))) :=
  (h.set hi hk _).congr fun a b _ _ => by
    show _ = Value.int .i64 (distS N m i (k + 1) a b)
    rw [← distS_step hx a b]
    split <;> rfl
theorem grid_skip {w : World} {B o n : Nat} {rb cp : Nat → Nat} {N : Net} {m i k : Nat} (h : Grid B w o n n rb cp (intsV (distS N m i k))) (hx : triV (distM N m i k) (distM N m i m) (distM N m m k) = distM N m i k) : Grid B w o n n rb cp (intsV (distS N m i (k + 1))) :=
  h.congr fun a b _ _ => by
    show Value.int .i64 (distS N m i k a b) = Value.int .i64 (distS N m i (k + 1) a b)
    rw [distS_skip hx a b]
theorem grid_row {w : World} {B o n : Nat} {rb cp : Nat → Nat} {N : Net} {m i : Nat} (h : Grid B w o n n rb cp (intsV (distS N m i n))) : Grid B w o n n rb cp (intsV (distS N m (i + 1) 0)) :=
  h.congr fun a b _ hb => by
    show Value.int .i64 (distS N m i n a b) = Value.int .i64 (distS N m (i + 1) 0 a b)
    rw [distS_next N m n i a b hb]
theorem grid_first {w : World} {B o n : Nat} {rb cp : Nat → Nat} {N : Net} {m : Nat} (h : Grid B w o n n rb cp (intsV (distM N m))) : Grid B w o n n rb cp (intsV (distS N m 0 0)) :=
  h.congr fun a b _ hb => by
    show Value.int .i64 (distM N m a b) = Value.int .i64 (distS N m 0 0 a b)
    rw [distS_zero N m a b]
theorem grid_last {w : World} {B o n : Nat} {rb cp : Nat → Nat} {N : Net} {m : Nat} (h : Grid B w o n n rb cp (intsV (distS N m n 0))) : Grid B w o n n rb cp (intsV (distM N (m + 1))) :=
  h.congr fun a b ha _ => by
    show Value.int .i64 (distS N m n 0 a b) = Value.int .i64 (distM N (m + 1) a b)
    rw [distS_end N m n a b ha]
/-- What the three cells give, in the middle of a stage. -/
theorem tri_at {N : Net} {m i k : Nat} (hd : distM N m m m = 0) : triV (distM N m i k) (distM N m i m) (distM N m m k) = triV (distS N m i k i k) (distS N m i k i m) (distS N m i k m k) := by
  rw [distS_at, distS_col hd, distS_row hd]
theorem grid_rows0 {e : TypeId} {w : World} {B : Nat} {p : Option Addr} {cap n : Nat} {rows : List (Nat × List Int)} {N : Net} (h : Own (fun b => B ≤ b) 1 brow e B w p cap rows) (hr : Rows0 N w rows) (hl : rows.length = n) (hn : N.n = n) (h0 : 0 < n) : ∃ o rb cp, p = some ⟨o, 0, none⟩ ∧ n ≤ cap ∧ cap ≤ maxLen ∧ Grid B w o n n rb cp (intsV (dist0 N 0)) := by
  obtain ⟨o, cp, h1, h2, h3, h4⟩ := grid_of_own (n := n) h (by intro e; rw [e] at hl; simp at hl; omega) (fun x hx => by
    obtain ⟨i, hi, rfl⟩ := List.mem_iff_getElem.1 hx
    rw [(hr.1 i hi).1, row0_length, hn]) hr.2
  rw [hl] at h2 h4
  refine ⟨o, _, cp, h1, h2, h3, h4.congr fun i k hi hk => ?_⟩
  show Value.int .i64 ((rows.getD i (0, [])).2.getD k 0) = Value.int .i64 (dist0 N 0 i k)
  rw [List.getD_eq_getElem?_getD (l := rows), List.getElem?_eq_getElem (by omega), Option.getD_some, (hr.1 i (by omega)).1, hn, row0_at _ _ _ _ hk]
end Go.Proofs.Ytiaamddhocdhaaa

/- Two tables that a call keeps side by side: the distances met so far, and which were met. No program. -/
namespace Go.Proofs.Ytiaamddhocdhaaa
open Go.RowKit
set_option linter.unusedVariables false

def fz (x : Int) : Int := if x = -1000 then 0 else x
def addV (d x : Int) : Int := if d = -1000 ∨ d < x then x else d
def farV (D : Nat → Nat → Int) : Nat → Nat → Value := fun i k => .int .i64 (fz (D i k))
def metV (D : Nat → Nat → Int) : Nat → Nat → Value := fun i k => .bool (!decide (D i k = -1000))
/-- The two tables, N rows of n laid; the slots behind are nil. -/
structure FM (B : Nat) (w : World) (N n fb mb oF cF oM cM : Nat) (rF pF rM pM : Nat → Nat) (D : Nat → Nat → Int) : Prop where
  gF : Grid B w oF N n rF pF (farV D)
  gM : Grid B w oM N n rM pM (metV D)
  bF : w.cell? ⟨fb, 0, none⟩ = some (.slice (some ⟨oF, 0, none⟩) n cF)
  bM : w.cell? ⟨mb, 0, none⟩ = some (.slice (some ⟨oM, 0, none⟩) n cM)
  two : ∀ b, GridB oF N rF b → ¬ GridB oM N rM b
  nF : ∀ b, GridB oF N rF b → b ≠ fb ∧ b ≠ mb
  nM : ∀ b, GridB oM N rM b → b ≠ fb ∧ b ≠ mb
  sF : ∀ j, N ≤ j → j < n → w.cell? ⟨oF, j, none⟩ = some (.slice none 0 0) ∧ w.frozen? ⟨oF, j, none⟩ = false
  sM : ∀ j, N ≤ j → j < n → w.cell? ⟨oM, j, none⟩ = some (.slice none 0 0) ∧ w.frozen? ⟨oM, j, none⟩ = false
  cap : n ≤ cF ∧ cF ≤ maxLen
variable {B N n fb mb oF cF oM cM : Nat} {rF pF rM pM : Nat → Nat} {D : Nat → Nat → Int}
theorem FM.bel {w w' : World} (h : FM B w N n fb mb oF cF oM cM rF pF rM pM D) (hb : Bel w w') : FM B w' N n fb mb oF cF oM cM rF pF rM pM D where
  gF := h.gF.bel hb
  gM := h.gM.bel hb
  bF := hb.cell h.bF
  bM := hb.cell h.bM
  two := h.two
  nF := h.nF
  nM := h.nM
  sF := fun j h1 h2 => cell_keep (h.sF j h1 h2) (hb.block h.gF.top.2)
  sM := fun j h1 h2 => cell_keep (h.sM j h1 h2) (hb.block h.gM.top.2)
  cap := h.cap
theorem FM.congr {w : World} (h : FM B w N n fb mb oF cF oM cM rF pF rM pM D) {D' : Nat → Nat → Int} (e : ∀ a b, a < N → b < n → D a b = D' a b) : FM B w N n fb mb oF cF oM cM rF pF rM pM D' where
  gF := h.gF.congr fun i k hi hk => by unfold farV; rw [e i k hi hk]
  gM := h.gM.congr fun i k hi hk => by unfold metV; rw [e i k hi hk]
  bF := h.bF
  bM := h.bM
  two := h.two
  nF := h.nF
  nM := h.nM
  sF := h.sF
  sM := h.sM
  cap := h.cap
theorem cell_set_far {w : World} {b k q j : Nat} {v : Value} (h : w.cell? ⟨b, k, none⟩ = some v) (hq : b ≠ q) (u : Value) : (w.setCell ⟨q, j, none⟩ u).cell? ⟨b, k, none⟩ = some v := cell_setAt h hq u
/-- Both tables are written at one place. -/
theorem FM.put {w : World} (h : FM B w n n fb mb oF cF oM cM rF pF rM pM D) {i k : Nat} (hi : i < n) (hk : k < n) {x : Int} (hx : x ≠ -1000) : FM B ((w.setCell ⟨rF i, k, none⟩ (.int .i64 x)).setCell ⟨rM i, k, none⟩ (.bool true)) n n fb mb oF cF oM cM rF pF rM pM (fun a b => if a = i ∧ b = k then x else D a b) where
  gF := ((h.gF.set hi hk _).far (fun hb => h.two _ hb (.inr ⟨i, hi, rfl⟩)) _).congr fun a b _ _ => by
    simp only [farV]
    by_cases e : a = i ∧ b = k
    · rw [if_pos e, if_pos e, fz, if_neg hx]
    · rw [if_neg e, if_neg e]
  gM := ((h.gM.far (fun hb => h.two _ (.inr ⟨i, hi, rfl⟩) hb) _).set hi hk _).congr fun a b _ _ => by
    simp only [metV]
    by_cases e : a = i ∧ b = k
    · simp only [if_pos e]; rw [decide_eq_false hx]; rfl
    · simp only [if_neg e]
  bF := cell_set_far (cell_set_far h.bF (fun e => (h.nF _ (.inr ⟨i, hi, rfl⟩)).1 e.symm) _) (fun e => (h.nM _ (.inr ⟨i, hi, rfl⟩)).1 e.symm) _
  bM := cell_set_far (cell_set_far h.bM (fun e => (h.nF _ (.inr ⟨i, hi, rfl⟩)).2 e.symm) _) (fun e => (h.nM _ (.inr ⟨i, hi, rfl⟩)).2 e.symm) _
  two := h.two
  nF := h.nF
  nM := h.nM
  sF := fun j h1 h2 => absurd h1 (by omega)
  sM := fun j h1 h2 => absurd h1 (by omega)
  cap := h.cap
theorem put_bel {W w w' : World} (h : FM B w n n fb mb oF cF oM cM rF pF rM pM D) (hW : Bel W w') (hB : W.heap.size ≤ B) {i k : Nat} (hi : i < n) (u v : Value) : Bel W ((w'.setCell ⟨rF i, k, none⟩ u).setCell ⟨rM i, k, none⟩ v) :=
  (hW.set (p := ⟨rF i, k, none⟩) (Nat.le_trans hB (h.gF.base i hi).1) u).set (p := ⟨rM i, k, none⟩) (Nat.le_trans hB (h.gM.base i hi).1) v
/-- One row more in both tables. -/
theorem FM.snoc {w X : World} (h : FM B w N n fb mb oF cF oM cM rF pF rM pM D) (hX : Bel w X) (hN : N < n) (hn : n ≤ maxLen) {f m : Nat} (hf : w.heap.size ≤ f ∧ f < X.heap.size) (hm : w.heap.size ≤ m ∧ m < X.heap.size) (hfm : f ≠ m)
    (cf : ∀ k, k < n → X.cell? ⟨f, k, none⟩ = some (.int .i64 0) ∧ X.frozen? ⟨f, k, none⟩ = false) (cm : ∀ k, k < n → X.cell? ⟨m, k, none⟩ = some (.bool false) ∧ X.frozen? ⟨m, k, none⟩ = false) (hD : ∀ b, D N b = if b = N then 0 else -1000) :
    ∃ rF' pF' rM' pM', FM B (((X.setCell ⟨oF, N, none⟩ (.slice (some ⟨f, 0, none⟩) n n)).setCell ⟨oM, N, none⟩ (.slice (some ⟨m, 0, none⟩) n n)).setCell ⟨m, N, none⟩ (.bool true)) (N + 1) n fb mb oF cF oM cM rF' pF' rM' pM' D := by
  have hF1 := h.gF.top
  have hM1 := h.gM.top
  have hoo : oF ≠ oM := fun e => h.two oF (.inl rfl) (.inl e)
  have gF := h.gF.bel hX
  have gM := h.gM.bel hX
  have hfF : ¬ GridB oF N rF f := fun hb => by have := (h.gF.lt hb).2; omega
  have hfM : ¬ GridB oM N rM f := fun hb => by have := (h.gM.lt hb).2; omega
  have hmF : ¬ GridB oF N rF m := fun hb => by have := (h.gF.lt hb).2; omega
  have hmM : ¬ GridB oM N rM m := fun hb => by have := (h.gM.lt hb).2; omega
  have bfl := lt_of_cell h.bF
  have bml := lt_of_cell h.bM
  have nfo := h.nF oF (.inl rfl)
  have nmo := h.nM oM (.inl rfl)
  have slotF := cell_keep (h.sF N (Nat.le_refl _) hN) (hX.block hF1.2)
  have slotM := cell_keep (h.sM N (Nat.le_refl _) hN) (hX.block hM1.2)
  have stayF : ∀ X' : World, (∀ b, GridB oF N rF b → b ≠ oF → X'.heap[b]? = X.heap[b]?) → True := fun _ _ => trivial
  -- the grid of distances
  have gF1 : Grid B (((X.setCell ⟨oF, N, none⟩ (.slice (some ⟨f, 0, none⟩) n n)).setCell ⟨oM, N, none⟩ (.slice (some ⟨m, 0, none⟩) n n)).setCell ⟨m, N, none⟩ (.bool true)) oF N n rF pF (farV D) := by
    have s1 : Grid B (X.setCell ⟨oF, N, none⟩ (.slice (some ⟨f, 0, none⟩) n n)) oF N n rF pF (farV D) :=
      { top := by rw [size_setCell]; exact gF.top
        slot := fun i hi => setCell_other (gF.slot i hi) (.inr (by omega)) _
        fits := gF.fits
        cell := fun i k hi hk => setCell_other (gF.cell i k hi hk) (.inl (gF.base i hi).2.2) _
        base := fun i hi => by rw [size_setCell]; exact gF.base i hi
        apart := gF.apart }
    exact (s1.far (fun hb => h.two _ hb (.inl rfl)) _).far hmF _
  have gM1 : Grid B (((X.setCell ⟨oF, N, none⟩ (.slice (some ⟨f, 0, none⟩) n n)).setCell ⟨oM, N, none⟩ (.slice (some ⟨m, 0, none⟩) n n)).setCell ⟨m, N, none⟩ (.bool true)) oM N n rM pM (metV D) := by
    have s0 := gM.far (q := oF) (k := N) (fun hb => h.two _ (.inl rfl) hb) (.slice (some ⟨f, 0, none⟩) n n)
    have s1 : Grid B ((X.setCell ⟨oF, N, none⟩ (.slice (some ⟨f, 0, none⟩) n n)).setCell ⟨oM, N, none⟩ (.slice (some ⟨m, 0, none⟩) n n)) oM N n rM pM (metV D) :=
      { top := by rw [size_setCell]; exact s0.top
        slot := fun i hi => setCell_other (s0.slot i hi) (.inr (by omega)) _
        fits := s0.fits
        cell := fun i k hi hk => setCell_other (s0.cell i k hi hk) (.inl (s0.base i hi).2.2) _
        base := fun i hi => by rw [size_setCell]; exact s0.base i hi
        apart := s0.apart }
    exact s1.far hmM _
  have hsz : (((X.setCell ⟨oF, N, none⟩ (.slice (some ⟨f, 0, none⟩) n n)).setCell ⟨oM, N, none⟩ (.slice (some ⟨m, 0, none⟩) n n)).setCell ⟨m, N, none⟩ (.bool true)).heap.size = X.heap.size := by simp only [size_setCell]
  have key : ∀ {b k : Nat} {v : Value}, X.cell? ⟨b, k, none⟩ = some v ∧ X.frozen? ⟨b, k, none⟩ = false → (b ≠ oF ∨ k ≠ N) → (b ≠ oM ∨ k ≠ N) → (b ≠ m ∨ k ≠ N) → (((X.setCell ⟨oF, N, none⟩ (.slice (some ⟨f, 0, none⟩) n n)).setCell ⟨oM, N, none⟩ (.slice (some ⟨m, 0, none⟩) n n)).setCell ⟨m, N, none⟩ (.bool true)).cell? ⟨b, k, none⟩ = some v ∧ (((X.setCell ⟨oF, N, none⟩ (.slice (some ⟨f, 0, none⟩) n n)).setCell ⟨oM, N, none⟩ (.slice (some ⟨m, 0, none⟩) n n)).setCell ⟨m, N, none⟩ (.bool true)).frozen? ⟨b, k, none⟩ = false :=
    fun hc h1 h2 h3 => setCell_other (setCell_other (setCell_other hc h1 _) h2 _) h3 _
  refine ⟨fun i => if i = N then f else rF i, fun i => if i = N then n else pF i, fun i => if i = N then m else rM i, fun i => if i = N then n else pM i, ?_⟩
  refine
    { gF := (gF1.snoc (r := f) (c := n) (f := fun _ => .int .i64 0) ?_ ⟨Nat.le_refl _, hn⟩ (fun k hk => key (cf k hk) (.inl (by omega)) (.inl (by omega)) (.inl hfm)) ⟨by omega, by rw [hsz]; exact hf.2⟩ hfF).congr fun i k hi hk => ?_
      gM := (gM1.snoc (r := m) (c := n) (f := fun k => .bool (decide (k = N))) ?_ ⟨Nat.le_refl _, hn⟩ (fun k hk => ?_) ⟨by omega, by rw [hsz]; exact hm.2⟩ hmM).congr fun i k hi hk => ?_
      bF := cell_set_far (cell_set_far (cell_set_far (hX.cell h.bF) (fun e => nfo.1 e.symm) _) (fun e => nmo.1 e.symm) _) (by have : fb < w.heap.size := bfl; omega) _
      bM := cell_set_far (cell_set_far (cell_set_far (hX.cell h.bM) (fun e => nfo.2 e.symm) _) (fun e => nmo.2 e.symm) _) (by have : mb < w.heap.size := bml; omega) _
      two := ?_
      nF := ?_
      nM := ?_
      sF := fun j h1 h2 => key (cell_keep (h.sF j (by omega) h2) (hX.block hF1.2)) (.inr (by omega)) (.inl hoo) (.inl (by omega))
      sM := fun j h1 h2 => key (cell_keep (h.sM j (by omega) h2) (hX.block hM1.2)) (.inl (fun e => hoo e.symm)) (.inr (by omega)) (.inl (by omega))
      cap := h.cap }
  · refine setCell_other (setCell_other ⟨setCell_same slotF.1 _, by rw [frozen_set]; exact slotF.2⟩ (.inl hoo) _) (.inl (by omega)) _
  · by_cases e : i = N
    · subst e
      simp only [if_true, farV, hD]
      split <;> rfl
    · simp only [if_neg e]
  · refine setCell_other ⟨setCell_same (setCell_other slotM (.inl fun e => hoo e.symm) _).1 _, by rw [frozen_set, frozen_set]; exact slotM.2⟩ (.inl (by omega)) _
  · by_cases e : k = N
    · subst e
      have := setCell_other (setCell_other (cm k hk) (.inl (by omega)) (b' := oF) (k' := k) (.slice (some ⟨f, 0, none⟩) n n)) (.inl (by omega)) (b' := oM) (k' := k) (.slice (some ⟨m, 0, none⟩) n n)
      exact ⟨by rw [setCell_same this.1]; simp, by rw [frozen_set]; exact this.2⟩
    · have := key (cm k hk) (.inl (by omega)) (.inl (by omega)) (.inr e)
      rw [decide_eq_false e]
      exact this
  · by_cases e : i = N
    · subst e
      simp only [if_true, metV, hD]
      by_cases e2 : k = i
      · simp [e2]
      · simp [e2]
    · simp only [if_neg e]
  · rintro b (rfl | ⟨i, hi, rfl⟩) (hb | ⟨j, hj, hb⟩)
    · exact hoo hb
    · by_cases e : j = N
      · simp only [if_pos e] at hb; omega
      · simp only [if_neg e] at hb; exact h.two _ (.inl rfl) (.inr ⟨j, by omega, hb⟩)
    · by_cases e : i = N
      · simp only [if_pos e] at hb; omega
      · simp only [if_neg e] at hb; exact h.two _ (.inr ⟨i, by omega, rfl⟩) (.inl hb)
    · by_cases e : i = N <;> by_cases e2 : j = N
      · simp only [if_pos e, if_pos e2] at hb; exact hfm hb
      · simp only [if_pos e, if_neg e2] at hb; exact hfM (.inr ⟨j, by omega, hb⟩)
      · simp only [if_neg e, if_pos e2] at hb; exact hmF (.inr ⟨i, by omega, hb.symm⟩)
      · simp only [if_neg e, if_neg e2] at hb; exact h.two _ (.inr ⟨i, by omega, rfl⟩) (.inr ⟨j, by omega, hb⟩)
  · rintro b (rfl | ⟨i, hi, rfl⟩)
    · exact nfo
    · by_cases e : i = N
      · simp only [if_pos e]
        have h1 : fb < w.heap.size := bfl
        have h2 : mb < w.heap.size := bml
        exact ⟨by omega, by omega⟩
      · simp only [if_neg e]; exact h.nF _ (.inr ⟨i, by omega, rfl⟩)
  · rintro b (rfl | ⟨i, hi, rfl⟩)
    · exact nmo
    · by_cases e : i = N
      · simp only [if_pos e]
        have h1 : fb < w.heap.size := bfl
        have h2 : mb < w.heap.size := bml
        exact ⟨by omega, by omega⟩
      · simp only [if_neg e]; exact h.nM _ (.inr ⟨i, by omega, rfl⟩)
/-- The reckoning of add. -/
theorem addV_tri {a b c : Int} (hb : b = -1000 ∨ -420 ≤ b) (hc : c = -1000 ∨ -420 ≤ c) (h1 : b ≠ -1000) (h2 : c ≠ -1000) : addV a (b + c) = triV a b c := by
  have h3 : triV a b c = if a < b + c then b + c else a := by unfold triV; rw [if_neg (by intro h; rcases h with h | h; exact h1 h; exact h2 h)]
  rw [h3]
  unfold addV
  by_cases e : a < b + c
  · rw [if_pos (.inr e), if_pos e]
  · rw [if_neg e, if_neg (by intro h; rcases h with h | h <;> omega)]
theorem addV_link {a g : Int} (hg : -60 ≤ g) : addV a g = if a < g then g else a := by
  unfold addV
  by_cases e : a < g
  · rw [if_pos (.inr e), if_pos e]
  · rw [if_neg e, if_neg (by rintro (h | h) <;> omega)]
/-- The last walk: what was not met is told so. -/
def finS (D : Nat → Nat → Int) (i k a b : Nat) : Int := if a < i ∨ (a = i ∧ b < k) then D a b else fz (D a b)
theorem finS_at (D : Nat → Nat → Int) (i k : Nat) : finS D i k i k = fz (D i k) := by unfold finS; rw [if_neg (by omega)]
theorem finS_step (D : Nat → Nat → Int) (i k a b : Nat) : (if a = i ∧ b = k then D i k else finS D i k a b) = finS D i (k + 1) a b := by
  unfold finS
  by_cases e : a = i ∧ b = k
  · obtain ⟨rfl, rfl⟩ := e
    rw [if_pos ⟨rfl, rfl⟩, if_pos (by omega)]
  · rw [if_neg e]
    by_cases e2 : a < i ∨ (a = i ∧ b < k)
    · rw [if_pos e2, if_pos (by omega)]
    · rw [if_neg e2, if_neg (by omega)]
theorem rowIs_made' {w : World} {z : Value} {n : Nat} {t : TypeId} {g : Nat} (hg : g = w.heap.size) : (w.alloc (.cells (madeCells #[z] n) t)).rowIs g t n (fun _ => z) := by
  subst hg; exact World.rowIs_made w z n t
theorem FM.start {B n fb mb oF oM : Nat} {e1 e2 : TypeId} {w : World} (hF : w.rowIs oF e1 n (fun _ => .slice none 0 0)) (hM : w.rowIs oM e2 n (fun _ => .slice none 0 0)) (bF : w.cell? ⟨fb, 0, none⟩ = some (.slice (some ⟨oF, 0, none⟩) n n)) (bM : w.cell? ⟨mb, 0, none⟩ = some (.slice (some ⟨oM, 0, none⟩) n n)) (h1 : B ≤ oF) (h2 : B ≤ oM) (h3 : oF ≠ oM) (h4 : oF ≠ fb) (h5 : oF ≠ mb) (h6 : oM ≠ fb) (h7 : oM ≠ mb) (hn : n ≤ maxLen) (D : Nat → Nat → Int) : FM B w 0 n fb mb oF n oM n (fun _ => 0) (fun _ => 0) (fun _ => 0) (fun _ => 0) D where
  gF := .nil ⟨h1, hF.lt⟩
  gM := .nil ⟨h2, hM.lt⟩
  bF := bF
  bM := bM
  two := by
    rintro b (rfl | ⟨i, hi, _⟩) (hb | ⟨j, hj, _⟩)
    · exact h3 hb
    · omega
    · omega
    · omega
  nF := by
    rintro b (rfl | ⟨i, hi, _⟩)
    · exact ⟨h4, h5⟩
    · omega
  nM := by
    rintro b (rfl | ⟨i, hi, _⟩)
    · exact ⟨h6, h7⟩
    · omega
  sF := fun j _ h => ⟨hF.cell h, hF.frozen j⟩
  sM := fun j _ h => ⟨hM.cell h, hM.frozen j⟩
  cap := ⟨Nat.le_refl _, hn⟩
theorem FM.start2 {B n fb mb oF oM : Nat} {e1 e2 tF tM : TypeId} {w : World} (bF : w.heap[fb]? = some (.cells #[.slice (some ⟨oF, 0, none⟩) n n] tF (0, 0))) (bM : w.heap[mb]? = some (.cells #[.slice (some ⟨oM, 0, none⟩) n n] tM (0, 0))) (hF : w.rowIs oF e1 n (fun _ => .slice none 0 0)) (hM : w.rowIs oM e2 n (fun _ => .slice none 0 0)) (h1 : B ≤ oF) (h2 : B ≤ oM) (h3 : oF ≠ oM) (h4 : oF ≠ fb) (h5 : oF ≠ mb) (h6 : oM ≠ fb) (h7 : oM ≠ mb) (hn : n ≤ maxLen) (D : Nat → Nat → Int) : FM B w 0 n fb mb oF n oM n (fun _ => 0) (fun _ => 0) (fun _ => 0) (fun _ => 0) D :=
  FM.start hF hM ((cell_obj bF 0).trans rfl) ((cell_obj bM 0).trans rfl) h1 h2 h3 h4 h5 h6 h7 hn D
/-- What the two makes leave. -/
def CutF (B n : Nat) (D : Nat → Nat → Int) (w0 : World) (s4 s5 : Value) (wx : World) : Prop := ∃ fb mb oF oM, s4 = .pointer (some ⟨fb, 0, none⟩) ∧ s5 = .pointer (some ⟨mb, 0, none⟩) ∧ FM B wx 0 n fb mb oF n oM n (fun _ => 0) (fun _ => 0) (fun _ => 0) (fun _ => 0) D ∧ Bel w0 wx
theorem cell_alloc {w : World} {a : Addr} {v : Value} (h : w.cell? a = some v) (o : Obj) : (w.alloc o).cell? a = some v := ((Bel.refl w).alloc o).cell h
/-- What the round that lays two rows has come to, ahead of its last store. -/
def CutRow (B N n fb mb oF cF oM cM : Nat) (D : Nat → Nat → Int) (w0 wx : World) : Prop := ∃ m, (wx.cell? ⟨mb, 0, none⟩ = some (.slice (some ⟨oM, 0, none⟩) n cM) ∧ wx.cell? ⟨oM, N, none⟩ = some (.slice (some ⟨m, 0, none⟩) n n) ∧ wx.cell? ⟨m, N, none⟩ = some (.bool false) ∧ wx.frozen? ⟨m, N, none⟩ = false) ∧ (∃ rF pF rM pM, FM B (wx.setCell ⟨m, N, none⟩ (.bool true)) (N + 1) n fb mb oF cF oM cM rF pF rM pM D) ∧ Bel w0 (wx.setCell ⟨m, N, none⟩ (.bool true))
theorem cutRow_of {e1 e2 : TypeId} {w0 w X : World} (h : FM B w N n fb mb oF cF oM cM rF pF rM pM D) (hX : Bel w X) (hN : N < n) (hn : n ≤ maxLen) {f m : Nat} (hf : w.heap.size ≤ f ∧ f < X.heap.size) (hm : w.heap.size ≤ m ∧ m < X.heap.size) (hfm : f ≠ m)
    (cf : X.rowIs f e1 n (fun _ => .int .i64 0)) (cm : X.rowIs m e2 n (fun _ => .bool false)) (hD : ∀ b, D N b = if b = N then 0 else -1000) (hW : Bel w0 w) (hB : w0.heap.size ≤ B) :
    CutRow B N n fb mb oF cF oM cM D w0 ((X.setCell ⟨oF, N, none⟩ (.slice (some ⟨f, 0, none⟩) n n)).setCell ⟨oM, N, none⟩ (.slice (some ⟨m, 0, none⟩) n n)).drew := by
  have hF1 := h.gF.top
  have hM1 := h.gM.top
  have hoo : oF ≠ oM := fun e => h.two oF (.inl rfl) (.inl e)
  have nfo := h.nF oF (.inl rfl)
  have nmo := h.nM oM (.inl rfl)
  have bml := lt_of_cell h.bM
  have bml' : mb < w.heap.size := bml
  have slotM := cell_keep (h.sM N (Nat.le_refl _) hN) (hX.block hM1.2)
  obtain ⟨rF', pF', rM', pM', h'⟩ := h.snoc hX hN hn hf hm hfm (fun k hk => ⟨cf.cell hk, cf.frozen k⟩) (fun k hk => ⟨cm.cell hk, cm.frozen k⟩) hD
  refine ⟨m, ⟨?_, ?_, ?_, ?_⟩, ⟨rF', pF', rM', pM', h'.bel ((Bel.refl _).drew)⟩, ?_⟩
  · exact cell_set_far (cell_set_far (hX.cell h.bM) (fun e => nfo.2 e.symm) _) (fun e => nmo.2 e.symm) _
  · exact setCell_same (setCell_other slotM (.inl fun e => hoo e.symm) _).1 _
  · exact (setCell_other (setCell_other ⟨cm.cell hN, cm.frozen N⟩ (.inl (by omega)) _) (.inl (by omega)) _).1
  · exact (setCell_other (setCell_other ⟨cm.cell hN, cm.frozen N⟩ (.inl (by omega)) _) (.inl (by omega)) _).2
  · have hs := hW.size
    exact ((((hW.trans hX).set (p := ⟨oF, N, none⟩) (show w0.heap.size ≤ oF by omega) _).set (p := ⟨oM, N, none⟩) (show w0.heap.size ≤ oM by omega) _).drew).set (p := ⟨m, N, none⟩) (show w0.heap.size ≤ m by omega) _
theorem cutRow_of2 {e1 e2 : TypeId} {w0 w : World} {o1 o2 : Obj} (h : FM B w N n fb mb oF cF oM cM rF pF rM pM D) (hN : N < n) (hn : n ≤ maxLen) {f m : Nat} (hf : w.heap.size ≤ f ∧ f < w.heap.size + 2) (hm : w.heap.size ≤ m ∧ m < w.heap.size + 2) (hfm : f ≠ m)
    (cf : ((w.alloc o1).alloc o2).rowIs f e1 n (fun _ => .int .i64 0)) (cm : ((w.alloc o1).alloc o2).rowIs m e2 n (fun _ => .bool false)) (hD : ∀ b, D N b = if b = N then 0 else -1000) (hW : Bel w0 w) (hB : w0.heap.size ≤ B) :
    CutRow B N n fb mb oF cF oM cM D w0 ((((w.setCell ⟨oF, N, none⟩ (.slice (some ⟨f, 0, none⟩) n n)).setCell ⟨oM, N, none⟩ (.slice (some ⟨m, 0, none⟩) n n)).alloc o1).alloc o2).drew := by
  have hF1 := h.gF.top.2
  have hM1 := h.gM.top.2
  have hs : ((w.alloc o1).alloc o2).heap.size = w.heap.size + 2 := by simp
  have e := cutRow_of (X := (w.alloc o1).alloc o2) h (((Bel.refl w).alloc o1).alloc o2) hN hn (by rw [hs]; exact hf) (by rw [hs]; exact hm) hfm cf cm hD hW hB
  rw [World.setCell_alloc_past _ _ _ _ (by simp; omega), World.setCell_alloc_past _ _ _ _ hF1, World.setCell_alloc_past _ _ _ _ (by simp; omega), World.setCell_alloc_past _ _ _ _ (by rw [size_setCell]; exact hM1)] at e
  exact e
/-- One step of add makes the next table. -/
theorem FM.link {w : World} {N : Net} {t : Nat} (hg : -60 ≤ N.gp t) (h : FM B w n n fb mb oF cF oM cM rF pF rM pM (fun a b => if a = N.fr t ∧ b = N.to t then addV (dist0 N t (N.fr t) (N.to t)) (N.gp t) else dist0 N t a b)) : FM B w n n fb mb oF cF oM cM rF pF rM pM (dist0 N (t + 1)) :=
  h.congr fun a b _ _ => dist0_step N t (addV_link hg) a b
theorem FM.tri {w : World} {N : Net} {m i k : Nat} (hd : distM N m m m = 0) (hb : distS N m i k i m = -1000 ∨ -420 ≤ distS N m i k i m) (hc : distS N m i k m k = -1000 ∨ -420 ≤ distS N m i k m k) (h1 : ¬ distS N m i k i m = -1000) (h2 : ¬ distS N m i k m k = -1000)
    (h : FM B w n n fb mb oF cF oM cM rF pF rM pM (fun a b => if a = i ∧ b = k then addV (distS N m i k i k) (distS N m i k i m + distS N m i k m k) else distS N m i k a b)) : FM B w n n fb mb oF cF oM cM rF pF rM pM (distS N m i (k + 1)) :=
  h.congr fun a b _ _ => distS_step (by rw [addV_tri hb hc h1 h2, tri_at hd]) a b
theorem FM.skip {w : World} {N : Net} {m i k : Nat} (hd : distM N m m m = 0) (hx : distS N m i k i m = -1000 ∨ distS N m i k m k = -1000) (h : FM B w n n fb mb oF cF oM cM rF pF rM pM (distS N m i k)) : FM B w n n fb mb oF cF oM cM rF pF rM pM (distS N m i (k + 1)) :=
  h.congr fun a b _ _ => distS_skip (by rw [tri_at hd]; unfold triV; rw [if_pos hx, distS_at]) a b
theorem FM.row {w : World} {N : Net} {m i : Nat} (h : FM B w n n fb mb oF cF oM cM rF pF rM pM (distS N m i n)) : FM B w n n fb mb oF cF oM cM rF pF rM pM (distS N m (i + 1) 0) := h.congr fun a b _ hb => distS_next N m n i a b hb
theorem FM.first {w : World} {N : Net} {m : Nat} (h : FM B w n n fb mb oF cF oM cM rF pF rM pM (distM N m)) : FM B w n n fb mb oF cF oM cM rF pF rM pM (distS N m 0 0) := h.congr fun a b _ _ => distS_zero N m a b
theorem FM.last {w : World} {N : Net} {m : Nat} (h : FM B w n n fb mb oF cF oM cM rF pF rM pM (distS N m n 0)) : FM B w n n fb mb oF cF oM cM rF pF rM pM (distM N (m + 1)) := h.congr fun a b ha _ => distS_end N m n a b ha
/-- The last walk's state. -/
structure Fin (B : Nat) (w : World) (n fb mb oF cF oM cM : Nat) (rF pF rM pM : Nat → Nat) (D : Nat → Nat → Int) (i k : Nat) : Prop where
  gF : Grid B w oF n n rF pF (intsV (finS D i k))
  gM : Grid B w oM n n rM pM (metV D)
  bF : w.cell? ⟨fb, 0, none⟩ = some (.slice (some ⟨oF, 0, none⟩) n cF)
  bM : w.cell? ⟨mb, 0, none⟩ = some (.slice (some ⟨oM, 0, none⟩) n cM)
theorem FM.fin {w : World} (h : FM B w n n fb mb oF cF oM cM rF pF rM pM D) : Fin B w n fb mb oF cF oM cM rF pF rM pM D 0 0 :=
  ⟨h.gF.congr fun a b _ _ => by
    show Value.int .i64 (fz (D a b)) = Value.int .i64 (finS D 0 0 a b)
    unfold finS; rw [if_neg (by omega)], h.gM, h.bF, h.bM⟩
theorem Fin.bel {w w' : World} {i k : Nat} (h : Fin B w n fb mb oF cF oM cM rF pF rM pM D i k) (hb : Bel w w') : Fin B w' n fb mb oF cF oM cM rF pF rM pM D i k := ⟨h.gF.bel hb, h.gM.bel hb, hb.cell h.bF, hb.cell h.bM⟩
theorem Fin.congr {w : World} {i k i' k' : Nat} (h : Fin B w n fb mb oF cF oM cM rF pF rM pM D i k) (e : ∀ a b, a < n → b < n → finS D i k a b = finS D i' k' a b) : Fin B w n fb mb oF cF oM cM rF pF rM pM D i' k' :=
  ⟨h.gF.congr fun a b ha hb => by
    show Value.int .i64 (finS D i k a b) = Value.int .i64 (finS D i' k' a b)
    rw [e a b ha hb], h.gM, h.bF, h.bM⟩
theorem Fin.skip {w : World} {i k : Nat} (h : Fin B w n fb mb oF cF oM cM rF pF rM pM D i k) (hd : ¬ D i k = -1000) : Fin B w n fb mb oF cF oM cM rF pF rM pM D i (k + 1) :=
  h.congr fun a b _ _ => by
    rw [← finS_step D i k a b]
    split
    · rename_i e; obtain ⟨rfl, rfl⟩ := e; rw [finS_at, fz, if_neg hd]
    · rfl
theorem Fin.next {w : World} {i : Nat} (h : Fin B w n fb mb oF cF oM cM rF pF rM pM D i n) : Fin B w n fb mb oF cF oM cM rF pF rM pM D (i + 1) 0 :=
  h.congr fun a b _ hb => by
    unfold finS
    by_cases e : a < i ∨ (a = i ∧ b < n)
    · rw [if_pos e, if_pos (by omega)]
    · rw [if_neg e, if_neg (by omega)]
theorem Fin.put {w wx : World} {i k : Nat} (h0 : FM B wx n n fb mb oF cF oM cM rF pF rM pM D) (h : Fin B w n fb mb oF cF oM cM rF pF rM pM D i k) (hi : i < n) (hk : k < n) (hd : D i k = -1000) : Fin B (w.setCell ⟨rF i, k, none⟩ (.int .i64 (-1000))) n fb mb oF cF oM cM rF pF rM pM D i (k + 1) :=
  ⟨(h.gF.set hi hk _).congr fun a b _ _ => by
    show _ = Value.int .i64 (finS D i (k + 1) a b)
    rw [← finS_step D i k a b, hd]
    split <;> rfl, h.gM.far (fun hb => h0.two _ (.inr ⟨i, hi, rfl⟩) hb) _, cell_set_far h.bF (fun e => (h0.nF _ (.inr ⟨i, hi, rfl⟩)).1 e.symm) _, cell_set_far h.bM (fun e => (h0.nF _ (.inr ⟨i, hi, rfl⟩)).2 e.symm) _⟩
theorem Fin.all {w : World} (h : Fin B w n fb mb oF cF oM cM rF pF rM pM D n 0) : Grid B w oF n n rF pF (intsV D) :=
  h.gF.congr fun a b ha hb => by
    show Value.int .i64 (finS D n 0 a b) = Value.int .i64 (D a b)
    unfold finS; rw [if_pos (by omega)]
end Go.Proofs.Ytiaamddhocdhaaa
