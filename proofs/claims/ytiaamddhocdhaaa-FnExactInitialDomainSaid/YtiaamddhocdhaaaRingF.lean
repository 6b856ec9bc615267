/- The net of a project: the cycle that PositiveCycle finds. No program. -/
import Derived.Test.YtiaamddhocdhaaaFullGap
import Derived.Test.YtiaamddhocdhaaaNet
import Derived.Test.YtiaamddhocdhaaaApps
namespace Go.Proofs.Ytiaamddhocdhaaa
open Go.RowKit
set_option linter.unusedVariables false

/-- The links of a project, weighed by their gaps. -/
def netOf (p : ProjT) : Net := ⟨p.2.1.length, p.2.2.1.length, fun j => (p.2.2.1.getD j zLink).1.toNat, fun j => (p.2.2.1.getD j zLink).2.1.toNat, fun j => fullGapV p (p.2.2.1.getD j zLink)⟩
theorem netOf_at {p : ProjT} (h : projOk p = true) {j : Nat} (hj : j < p.2.2.1.length) : (p.2.2.1.getD j zLink).1 = ((netOf p).fr j : Nat) ∧ (p.2.2.1.getD j zLink).2.1 = ((netOf p).to j : Nat) ∧ (netOf p).fr j < p.2.1.length ∧ (netOf p).to j < p.2.1.length ∧ (netOf p).fr j ≠ (netOf p).to j ∧ -60 ≤ (netOf p).gp j ∧ (netOf p).gp j ≤ 72 := by
  obtain ⟨⟨a, ha, ha'⟩, ⟨b, hb, hb'⟩, hne, _, _⟩ := linkOk_bd (projOk_link h hj)
  have hg := fullGapV_bd h (projOk_link h hj)
  have e1 : (netOf p).fr j = a := by show (p.2.2.1.getD j zLink).1.toNat = a; rw [ha]; rfl
  have e2 : (netOf p).to j = b := by show (p.2.2.1.getD j zLink).2.1.toNat = b; rw [hb]; rfl
  rw [e1, e2]
  exact ⟨ha, hb, ha', hb', fun e => hne (by rw [ha, hb, e]), hg⟩
theorem netOf_fine {p : ProjT} (h : projOk p = true) : (netOf p).Fine :=
  ⟨fun j hj => by obtain ⟨_, _, h3, h4, h5, h6, h7⟩ := netOf_at h hj; exact ⟨h3, h4, h5, h6, h7⟩, (projOk_bd h).2.1⟩
def nI (l : List Nat) : List Int := l.map fun (n : Nat) => (n : Int)
theorem nI_length (l : List Nat) : (nI l).length = l.length := by simp [nI]
theorem nI_at (l : List Nat) (i : Nat) : (nI l).getD i 0 = ((l.getD i 0 : Nat) : Int) := by
  unfold nI
  simp only [List.getD, List.getElem?_map]
  cases l[i]? <;> rfl
theorem nI_append (a b : List Nat) : nI (a ++ b) = nI a ++ nI b := by simp [nI]
theorem nI_one (k : Nat) : nI [k] = [(k : Int)] := rfl
theorem headD_at (l : List Nat) : l.headD 0 = l.getD 0 0 := by cases l <;> rfl
theorem lastD_at (l : List Nat) (n : Nat) (h : l.length = n + 1) : l.getLastD 0 = l.getD n 0 := by
  cases l with
  | nil => simp at h
  | cons a t =>
    have : (a :: t).getLastD 0 = (a :: t).getLast (by simp) := by simp [List.getLastD]
    rw [this, List.getLast_eq_getElem]
    simp only [List.length_cons, Nat.add_right_cancel_iff] at h
    simp [List.getD, ← h]
theorem getD_in {l : List Nat} {i : Nat} (h : i < l.length) : l.getD i 0 ∈ l := by
  rw [show l.getD i 0 = l[i] from by simp [List.getD, h]]
  exact List.getElem_mem h
theorem wt_take (N : Net) (l : List Nat) {i : Nat} (h : i < l.length) : N.wt (l.take (i + 1)) = N.wt (l.take i) + N.gp (l.getD i 0) := by
  rw [List.take_succ_eq_append_getElem h, N.wt_append]
  simp [Net.wt, List.getD, h]
theorem wt_bd (N : Net) (hF : N.Fine) : ∀ l : List Nat, (∀ x ∈ l, x < N.nl) → -60 * (l.length : Int) ≤ N.wt l ∧ N.wt l ≤ 72 * (l.length : Int)
  | [], _ => by simp [Net.wt]
  | j :: t, h => by
    have h1 := wt_bd N hF t (fun x hx => h x (by simp [hx]))
    have h2 := hF.at_ j (h j (by simp))
    simp only [Net.wt, List.length_cons]
    omega
def posV (p : ProjT) : List Int := if projOk p = true then nI (netOf p).posF else []
theorem posV_no {p : ProjT} (h : projOk p = false) : posV p = [] := by unfold posV; rw [h]; rfl
theorem posV_ok {p : ProjT} (h : projOk p = true) : posV p = nI (netOf p).posF := by unfold posV; rw [if_pos h]
theorem posF_sound (N : Net) (h : N.posF ≠ []) : ∃ u, N.wk u N.posF u ∧ 0 < N.wt N.posF ∧ N.posF.length ≤ N.n := by
  obtain ⟨t, ht, h1, h2⟩ := firstV_of h
  have h2' : N.posF = firstV (fun k => N.ringF (t + 1) [k]) N.nl := h2
  obtain ⟨k, hk, h3, h4⟩ := firstV_of h1
  rw [h2', h4]
  obtain ⟨u, h5, h6, h7⟩ := N.ringF_sound (t + 1) [k] (N.fr k) (N.to k) ⟨hk, rfl, rfl⟩ (by simp) h3
  exact ⟨u, h5, h6, by rw [h7]; simp; omega⟩
theorem posV_len (p : ProjT) : (posV p).length ≤ 1048576 := by
  unfold posV
  split
  · rename_i h
    rw [nI_length]
    by_cases hn : (netOf p).posF = []
    · rw [hn]; simp
    · obtain ⟨u, _, _, h3⟩ := posF_sound _ hn
      have h4 : (netOf p).n ≤ 6 := (netOf_fine h).le
      omega
  · simp
theorem ring_zero (N : Net) (way : List Nat) : N.ringF 0 way = if N.to (way.getLastD 0) = N.fr (way.headD 0) ∧ 0 < N.wt way then way else [] := rfl
theorem ring_succ (N : Net) (f : Nat) (way : List Nat) : N.ringF (f + 1) way = if N.to (way.getLastD 0) = N.fr (way.headD 0) then [] else
      if (way.dropLast.map N.to).contains (N.to (way.getLastD 0)) then [] else
        firstV (fun k => if way.headD 0 < k ∧ N.fr k = N.to (way.getLastD 0) then N.ringF f (way ++ [k]) else []) N.nl := rfl
theorem drop_no {N : Net} {way : List Nat} {z : Nat} (h : ∀ j, j + 1 < way.length → N.to (way.getD j 0) ≠ z) : ((way.dropLast.map N.to).contains z) = false := by
  rw [Bool.eq_false_iff]
  intro hc
  rw [List.contains_iff_mem, List.mem_map] at hc
  obtain ⟨x, hx, hxz⟩ := hc
  obtain ⟨i, hi, rfl⟩ := List.getElem_of_mem hx
  simp only [List.length_dropLast] at hi
  refine h i (by omega) ?_
  rw [List.getElem_dropLast] at hxz
  rw [← hxz]
  simp [List.getD, show i < way.length from by omega]
theorem drop_yes {N : Net} {way : List Nat} {z j : Nat} (hj : j + 1 < way.length) (h : N.to (way.getD j 0) = z) : ((way.dropLast.map N.to).contains z) = true := by
  rw [List.contains_iff_mem, List.mem_map]
  refine ⟨way.getD j 0, ?_, h⟩
  have : way.getD j 0 = way.dropLast[j]'(by simp; omega) := by
    rw [List.getElem_dropLast]
    simp [List.getD, show j < way.length from by omega]
  rw [this]
  exact List.getElem_mem _
/-- The cells of a link. -/
theorem link_at {S : Nat → Prop} {w : World} {q : Option Addr} {n k : Nat} {xs : List LinkT} (h : linksR S w [.slice q n k] xs) {j : Nat} (hj : j < xs.length) : ∃ b off, q = some ⟨b, off, none⟩ ∧
    w.cell? ⟨b, off + j * 4, none⟩ = some (.int .i64 (xs.getD j zLink).1) ∧ w.cell? ⟨b, off + j * 4 + 1, none⟩ = some (.int .i64 (xs.getD j zLink).2.1) ∧ w.cell? ⟨b, off + j * 4 + 2, none⟩ = some (.bool (xs.getD j zLink).2.2.1) ∧ w.cell? ⟨b, off + j * 4 + 3, none⟩ = some (.int .i64 (xs.getD j zLink).2.2.2) := by
  obtain ⟨b, off, ecs, ea, hrow, hel⟩ := sliceR_at zLink h hj
  obtain ⟨rfl, _, _, _⟩ := linkR_open hel
  exact ⟨b, off, ea, (hrow 0 (by simp)).1, (hrow 1 (by simp)).1, (hrow 2 (by simp)).1, (hrow 3 (by simp)).1⟩
theorem cell_obj {w : World} {g : Nat} {cs : Array Value} {t : TypeId} (h : w.heap[g]? = some (.cells cs t (0, 0))) (j : Nat) : w.cell? ⟨g, j, none⟩ = cs[j]? := by simp [World.cell?, h]
/-- A datum that was made behind wr. -/
def CutI (wr : World) (xs : List Int) (s : Value) (wx : World) : Prop := intsR (New wr wx) wx [s] xs ∧ Bel wr wx
theorem alloc_keep {w : World} {g : Nat} {o o' : Obj} (h : w.heap[g]? = some o) : (w.alloc o').heap[g]? = some o := by
  have hlt := (Array.getElem?_eq_some_iff.1 h).1
  rw [← h]
  show (w.heap.push _)[g]? = _
  rw [Array.getElem?_push, if_neg (by omega)]
theorem drew_keep {w : World} {g : Nat} {o : Obj} (h : w.heap[g]? = some o) : w.drew.heap[g]? = some o := h
def RingRes (w : World) (V : Nat → Prop) (res : List Nat) (e : Ending) (w' : World) : Prop := ∃ v, e = .returned v ∧ intsR (fun b => V b ∨ New w w' b) w' [v] (nI res) ∧ Bel w w'
theorem RingRes.nil {w w' : World} {V : Nat → Prop} (h : Bel w w') : RingRes w V [] (.returned (.slice none 0 0)) w' := ⟨_, rfl, ⟨none, 0, rfl, Nat.le_refl _, Nat.zero_le _, fun i hi => absurd hi (Nat.not_lt_zero _)⟩, h⟩
end Go.Proofs.Ytiaamddhocdhaaa
