/- A domain that grows: two rows of numbers and a row of rows, each in memory of its own. No program. -/
import Derived.Test.YtjeeajgijdcdbaaDomM
import Derived.Test.YtjeeajgijdcdbaaOwnS
namespace Go.Proofs.Ytjeeajgijdcdbaa
open Go.RowKit
set_option linter.unusedVariables false

/-- A slot's value, as it lies there. -/
def valR : RepT Value := fun _ _ cs x => cs = [x]
theorem valR_good : Good valR := ⟨fun h _ => h, fun h _ => h⟩
def ApartD (p q : Option Addr) : Prop := ∀ a b, p = some a → q = some b → a.block ≠ b.block
theorem ApartD.symm {p q : Option Addr} (h : ApartD p q) : ApartD q p := fun a b ha hb e => h b a hb ha e.symm
/-- A row that is not touched. -/
theorem Own.rowD {α : Type} {n : Nat} {R : RepT α} {e : TypeId} {B : Nat} {w w' : World} {p : Option Addr} {cap : Nat} {xs : List α} (h : Own (fun _ => False) n R e B w p cap xs) (gd : Good R) (hk : ∀ a, p = some a → w'.heap[a.block]? = w.heap[a.block]?) : Own (fun _ => False) n R e B w' p cap xs := by
  obtain ⟨cells, ⟨h1, h2⟩, h3⟩ := h
  refine ⟨cells, ⟨h1, ?_⟩, fun i hi => ?_⟩
  · rcases h2 with h2 | ⟨g, cap', cur, h4, h5, h6, h7⟩
    · exact .inl h2
    · obtain ⟨rfl, _, _⟩ : p = some ⟨g, 0, none⟩ ∧ xs.length = xs.length ∧ cap = cap' := by simpa using h4
      exact .inr ⟨g, cap', cur, h4, h5, by rw [hk _ rfl]; exact h6, h7⟩
  · obtain ⟨ecs, e1, e2, e3⟩ := h3 i hi
    exact ⟨ecs, e1, e2, gd.mono (gd.stay e3 fun b hb' => hb'.1.elim) fun b hb' => hb'.1.elim⟩
/-- The block of a slice. -/
def InQ (p : Option Addr) (b : Nat) : Prop := ∃ a, p = some a ∧ b = a.block
theorem intsR_sharp {T : Nat → Prop} {w : World} {p : Option Addr} {c : Nat} {xs : List Int} (h : intsR T w [.slice p xs.length c] xs) : intsR (InQ p) w [.slice p xs.length c] xs := by
  obtain ⟨p', c', e, h1, h2, h3⟩ := h
  obtain ⟨rfl, rfl⟩ : p = p' ∧ c = c' := by simpa using e
  refine ⟨p, c, rfl, h1, h2, fun i hi => ?_⟩
  obtain ⟨b, off, ecs, e1, e2, e3, e4, e5⟩ := h3 i hi
  exact ⟨b, off, ecs, e1, ⟨_, e1, rfl⟩, e3, e4, e5⟩

structure Dom3 (t1 t2 : TypeId) (B : Nat) (w : World) (X Y : List Int) (VS : List Value) (RS : List (List Int)) (q1 : Option Addr) (c1 : Nat) (q2 : Option Addr) (c2 : Nat) (q3 : Option Addr) (c3 : Nat) (G : Nat → Nat → Prop) : Prop where
  o1 : Own (fun _ => False) 1 intR t1 B w q1 c1 X
  o2 : Own (fun _ => False) 1 intR t1 B w q2 c2 Y
  o3 : Own (fun _ => False) 1 valR t2 B w q3 c3 VS
  a12 : ApartD q1 q2
  a13 : ApartD q1 q3
  a23 : ApartD q2 q3
  len : VS.length = RS.length
  row : ∀ i, i < RS.length → intsR (G i) w [VS.getD i (.int .i64 0)] (RS.getD i [])
  sub : ∀ i b, i < RS.length → G i b → B ≤ b ∧ b < w.heap.size
  gq : ∀ i b, i < RS.length → G i b → ¬ InQ q1 b ∧ ¬ InQ q2 b ∧ ¬ InQ q3 b
  ap : ∀ i j b, i < RS.length → j < RS.length → i ≠ j → G i b → ¬ G j b
section
variable {t1 t2 : TypeId} {B : Nat} {X Y : List Int} {VS : List Value} {RS : List (List Int)} {q1 q2 q3 : Option Addr} {c1 c2 c3 : Nat} {G : Nat → Nat → Prop}
theorem Dom3.hi {w w' : World} (h : Dom3 t1 t2 B w X Y VS RS q1 c1 q2 c2 q3 c3 G) (hh : Hi B w w') : Dom3 t1 t2 B w' X Y VS RS q1 c1 q2 c2 q3 c3 G where
  o1 := h.o1.hi intR_good hh fun _ hf => hf.elim
  o2 := h.o2.hi intR_good hh fun _ hf => hf.elim
  o3 := h.o3.hi valR_good hh fun _ hf => hf.elim
  a12 := h.a12
  a13 := h.a13
  a23 := h.a23
  len := h.len
  row := fun i hi => intsR_good.stay (h.row i hi) fun b hb => hh.2 b (h.sub i b hi hb).1 (h.sub i b hi hb).2
  sub := fun i b hi hb => ⟨(h.sub i b hi hb).1, Nat.lt_of_lt_of_le (h.sub i b hi hb).2 hh.1⟩
  gq := h.gq
  ap := h.ap
theorem Dom3.bel {w w' : World} (h : Dom3 t1 t2 B w X Y VS RS q1 c1 q2 c2 q3 c3 G) (hb : Bel w w') : Dom3 t1 t2 B w' X Y VS RS q1 c1 q2 c2 q3 c3 G := h.hi (Hi.ofBel hb)
theorem Dom3.nil (w : World) : Dom3 t1 t2 B w [] [] [] [] none 0 none 0 none 0 G where
  o1 := Own.nil _
  o2 := Own.nil _
  o3 := Own.nil _
  a12 := fun _ _ h _ => by cases h
  a13 := fun _ _ h _ => by cases h
  a23 := fun _ _ h _ => by cases h
  len := rfl
  row := fun i hi => absurd hi (Nat.not_lt_zero _)
  sub := fun i b hi => absurd hi (Nat.not_lt_zero _)
  gq := fun i b hi => absurd hi (Nat.not_lt_zero _)
  ap := fun i j b hi => absurd hi (Nat.not_lt_zero _)
/-- Two rows of numbers, apart. -/
theorem Dom3.two {w : World} (h1 : Own (fun _ => False) 1 intR t1 B w q1 c1 X) (h2 : Own (fun _ => False) 1 intR t1 B w q2 c2 Y) (ha : ApartD q1 q2) : Dom3 t1 t2 B w X Y [] [] q1 c1 q2 c2 none 0 G where
  o1 := h1
  o2 := h2
  o3 := Own.nil _
  a12 := ha
  a13 := fun _ _ _ h => by cases h
  a23 := fun _ _ _ h => by cases h
  len := rfl
  row := fun i hi => absurd hi (Nat.not_lt_zero _)
  sub := fun i b hi => absurd hi (Nat.not_lt_zero _)
  gq := fun i b hi => absurd hi (Nat.not_lt_zero _)
  ap := fun i j b hi => absurd hi (Nat.not_lt_zero _)
/-- What an append to the slice q leaves of the rest. -/
def FarA (w w' : World) (q q' : Option Addr) : Prop := ∀ b, b < w.heap.size → (∀ a, q = some a → b ≠ a.block) → w'.heap[b]? = w.heap[b]? ∧ ∀ a, q' = some a → b ≠ a.block
theorem FarA.apart {w w' : World} {q q' p : Option Addr} (h : FarA w w' q q') (ha : ApartD q p) (hp : ∀ b, p = some b → b.block < w.heap.size) : ApartD q' p := fun a b h1 h2 e => (h b.block (hp b h2) (fun a' ha' e' => ha a' b ha' h2 e'.symm)).2 a h1 e.symm
theorem FarA.keep {w w' : World} {q q' p : Option Addr} (h : FarA w w' q q') (ha : ApartD q p) (hp : ∀ b, p = some b → b.block < w.heap.size) : ∀ b, p = some b → w'.heap[b.block]? = w.heap[b.block]? := fun b h2 => (h b.block (hp b h2) (fun a' ha' e' => ha a' b ha' h2 e'.symm)).1
theorem FarA.row {w w' : World} {q q' : Option Addr} (h : FarA w w' q q') {b : Nat} (hb : b < w.heap.size) (hq : ¬ InQ q b) : w'.heap[b]? = w.heap[b]? ∧ ¬ InQ q' b := by
  have := h b hb (fun a ha e => hq ⟨a, ha, e⟩)
  exact ⟨this.1, fun ⟨a, ha, e⟩ => this.2 a ha e⟩
theorem Dom3.push1 {w w' : World} (h : Dom3 t1 t2 B w X Y VS RS q1 c1 q2 c2 q3 c3 G) {q : Option Addr} {c : Nat} {x : Int} (ho : Own (fun _ => False) 1 intR t1 B w' q c (X ++ [x])) (hs : w.heap.size ≤ w'.heap.size) (hf : FarA w w' q1 q) : Dom3 t1 t2 B w' (X ++ [x]) Y VS RS q c q2 c2 q3 c3 G where
  o1 := ho
  o2 := h.o2.rowD intR_good (hf.keep h.a12 fun b hb => (h.o2.lt hb).2)
  o3 := h.o3.rowD valR_good (hf.keep h.a13 fun b hb => (h.o3.lt hb).2)
  a12 := hf.apart h.a12 fun b hb => (h.o2.lt hb).2
  a13 := hf.apart h.a13 fun b hb => (h.o3.lt hb).2
  a23 := h.a23
  len := h.len
  row := fun i hi => intsR_good.stay (h.row i hi) fun b hb => (hf.row (h.sub i b hi hb).2 (h.gq i b hi hb).1).1
  sub := fun i b hi hb => ⟨(h.sub i b hi hb).1, Nat.lt_of_lt_of_le (h.sub i b hi hb).2 hs⟩
  gq := fun i b hi hb => ⟨(hf.row (h.sub i b hi hb).2 (h.gq i b hi hb).1).2, (h.gq i b hi hb).2⟩
  ap := h.ap
theorem Dom3.push2 {w w' : World} (h : Dom3 t1 t2 B w X Y VS RS q1 c1 q2 c2 q3 c3 G) {q : Option Addr} {c : Nat} {x : Int} (ho : Own (fun _ => False) 1 intR t1 B w' q c (Y ++ [x])) (hs : w.heap.size ≤ w'.heap.size) (hf : FarA w w' q2 q) : Dom3 t1 t2 B w' X (Y ++ [x]) VS RS q1 c1 q c q3 c3 G where
  o1 := h.o1.rowD intR_good (hf.keep h.a12.symm fun b hb => (h.o1.lt hb).2)
  o2 := ho
  o3 := h.o3.rowD valR_good (hf.keep h.a23 fun b hb => (h.o3.lt hb).2)
  a12 := (hf.apart h.a12.symm fun b hb => (h.o1.lt hb).2).symm
  a13 := h.a13
  a23 := hf.apart h.a23 fun b hb => (h.o3.lt hb).2
  len := h.len
  row := fun i hi => intsR_good.stay (h.row i hi) fun b hb => (hf.row (h.sub i b hi hb).2 (h.gq i b hi hb).2.1).1
  sub := fun i b hi hb => ⟨(h.sub i b hi hb).1, Nat.lt_of_lt_of_le (h.sub i b hi hb).2 hs⟩
  gq := fun i b hi hb => ⟨(h.gq i b hi hb).1, (hf.row (h.sub i b hi hb).2 (h.gq i b hi hb).2.1).2, (h.gq i b hi hb).2.2⟩
  ap := h.ap
theorem getD_snocV {α : Type} (l : List α) (x d : α) (i : Nat) (hi : i < l.length + 1) : (l ++ [x]).getD i d = if i = l.length then x else l.getD i d := by
  simp only [List.getD_eq_getElem?_getD]
  by_cases e : i = l.length
  · rw [if_pos e, e, List.getElem?_append_right (Nat.le_refl _)]; simp
  · rw [if_neg e, List.getElem?_append_left (by omega)]
/-- A new row's blocks. -/
def FreshG (B : Nat) (w : World) (q1 q2 q3 : Option Addr) (n : Nat) (G : Nat → Nat → Prop) (g : Nat → Prop) : Prop := ∀ b, g b → (B ≤ b ∧ b < w.heap.size) ∧ (¬ InQ q1 b ∧ ¬ InQ q2 b ∧ ¬ InQ q3 b) ∧ ∀ i, i < n → ¬ G i b
theorem Dom3.push3 {w w' : World} (h : Dom3 t1 t2 B w X Y VS RS q1 c1 q2 c2 q3 c3 G) {q : Option Addr} {c : Nat} {v : Value} {r : List Int} {g : Nat → Prop} (hg : FreshG B w q1 q2 q3 RS.length G g) (hr : intsR g w [v] r) (ho : Own (fun _ => False) 1 valR t2 B w' q c (VS ++ [v])) (hs : w.heap.size ≤ w'.heap.size) (hf : FarA w w' q3 q) : Dom3 t1 t2 B w' X Y (VS ++ [v]) (RS ++ [r]) q1 c1 q2 c2 q c (fun i => if i = RS.length then g else G i) where
  o1 := h.o1.rowD intR_good (hf.keep h.a13.symm fun b hb => (h.o1.lt hb).2)
  o2 := h.o2.rowD intR_good (hf.keep h.a23.symm fun b hb => (h.o2.lt hb).2)
  o3 := ho
  a12 := h.a12
  a13 := (hf.apart h.a13.symm fun b hb => (h.o1.lt hb).2).symm
  a23 := (hf.apart h.a23.symm fun b hb => (h.o2.lt hb).2).symm
  len := by rw [List.length_append, List.length_append, h.len]; rfl
  row := fun i hi => by
    rw [List.length_append, List.length_singleton] at hi
    rw [getD_snocV VS v _ i (by rw [h.len]; exact hi), getD_snocV RS r _ i hi, h.len]
    by_cases e : i = RS.length
    · rw [if_pos e, if_pos e]
      simp only [if_pos e]
      exact intsR_good.stay hr fun b hb => (hf.row (hg b hb).1.2 (hg b hb).2.1.2.2).1
    · rw [if_neg e, if_neg e]
      simp only [if_neg e]
      have hi' : i < RS.length := by omega
      exact intsR_good.stay (h.row i hi') fun b hb => (hf.row (h.sub i b hi' hb).2 (h.gq i b hi' hb).2.2).1
  sub := fun i b hi hb => by
    rw [List.length_append, List.length_singleton] at hi
    by_cases e : i = RS.length
    · simp only [if_pos e] at hb; have := (hg b hb).1; omega
    · simp only [if_neg e] at hb; have := h.sub i b (by omega) hb; omega
  gq := fun i b hi hb => by
    rw [List.length_append, List.length_singleton] at hi
    by_cases e : i = RS.length
    · simp only [if_pos e] at hb
      exact ⟨(hg b hb).2.1.1, (hg b hb).2.1.2.1, (hf.row (hg b hb).1.2 (hg b hb).2.1.2.2).2⟩
    · simp only [if_neg e] at hb
      have hi' : i < RS.length := by omega
      exact ⟨(h.gq i b hi' hb).1, (h.gq i b hi' hb).2.1, (hf.row (h.sub i b hi' hb).2 (h.gq i b hi' hb).2.2).2⟩
  ap := fun i j b hi hj hij hb hc => by
    rw [List.length_append, List.length_singleton] at hi hj
    by_cases e : i = RS.length
    · have e2 : ¬ j = RS.length := fun e' => hij (e.trans e'.symm)
      simp only [if_pos e] at hb
      simp only [if_neg e2] at hc
      exact (hg b hb).2.2 j (by omega) hc
    · simp only [if_neg e] at hb
      by_cases e2 : j = RS.length
      · simp only [if_pos e2] at hc
        exact (hg b hc).2.2 i (by omega) hb
      · simp only [if_neg e2] at hc
        exact h.ap i j b (by omega) (by omega) hij hb hc
/-- Blocks that were not there. -/
theorem Dom3.fresh {w w' : World} (h : Dom3 t1 t2 B w X Y VS RS q1 c1 q2 c2 q3 c3 G) {g : Nat → Prop} (hB : B ≤ w.heap.size) (hg : ∀ b, g b → w.heap.size ≤ b ∧ b < w'.heap.size) : FreshG B w' q1 q2 q3 RS.length G g := fun b hb =>
  ⟨⟨by have := (hg b hb).1; omega, (hg b hb).2⟩, ⟨fun ⟨a, ha, e⟩ => by have := (h.o1.lt ha).2; have := (hg b hb).1; omega, fun ⟨a, ha, e⟩ => by have := (h.o2.lt ha).2; have := (hg b hb).1; omega, fun ⟨a, ha, e⟩ => by have := (h.o3.lt ha).2; have := (hg b hb).1; omega⟩, fun i hi hG => by have := (h.sub i b hi hG).2; have := (hg b hb).1; omega⟩
theorem Dom3.done {w : World} (h : Dom3 t1 t2 B w X Y VS RS q1 c1 q2 c2 q3 c3 G) : domM (fun b => B ≤ b ∧ b < w.heap.size) w [.slice q1 X.length c1, .slice q2 Y.length c2, .slice q3 VS.length c3] (X, Y, RS) := by
  have hle := h.o3.le
  refine ⟨_, _, _, InQ q1, InQ q2, fun b => InQ q3 b ∨ ∃ i, i < RS.length ∧ G i b, rfl, intsR_sharp (h.o1.done (T := fun _ => True) intR_good (fun _ _ _ => trivial) (fun _ _ _ => trivial)), intsR_sharp (h.o2.done (T := fun _ => True) intR_good (fun _ _ _ => trivial) (fun _ _ _ => trivial)), ?_, ?_, ?_, ?_⟩
  · refine ⟨q3, c3, by rw [h.len], by rw [← h.len]; exact hle.1, hle.2, ?_⟩
    rcases h.o3.cases with ⟨e1, e2, e3⟩ | ⟨o, cur, e1, e2, e3, e4, e5, e6⟩
    · left; rw [← h.len, e3]; rfl
    · right
      refine ⟨o, fun i => VS.getD i (.int .i64 0), G, e1, .inl ⟨_, e1, rfl⟩, ⟨fun i hi => ?_, fun i hi b hb => ⟨.inr ⟨i, hi, hb⟩, fun e => (h.gq i b hi hb).2.2 ⟨_, e1, e⟩⟩, fun i hi => h.row i hi, fun i j hi hj hij b hb => h.ap i j b hi hj hij hb⟩⟩
      have hi' : i < VS.length := by rw [h.len]; exact hi
      obtain ⟨p', cap', f1, f2, f3, f4⟩ := h.o3.done valR_good (T := fun _ => True) (fun _ _ _ => trivial) (fun _ _ _ => trivial)
      obtain ⟨b, off, ecs, g1, g2, g3, g4, g5⟩ := f4 i hi'
      have e5 : q3 = p' := by simp at f1; exact f1.1
      rw [← e5, e1] at g1
      obtain ⟨rfl, rfl⟩ : o = b ∧ off = 0 := by simpa [eq_comm] using g1
      obtain rfl : ecs = [VS[i]] := g5
      have := g4 0 (by simp)
      rw [getD_get VS _ hi']
      simpa using this
  · rintro b ⟨a, ha, rfl⟩
    refine ⟨h.o1.lt ha, fun ⟨a', ha', e⟩ => h.a12 a a' ha ha' e, ?_⟩
    rintro (⟨a', ha', e⟩ | ⟨i, hi, hG⟩)
    · exact h.a13 a a' ha ha' e
    · exact (h.gq i _ hi hG).1 ⟨a, ha, rfl⟩
  · rintro b ⟨a, ha, rfl⟩
    refine ⟨h.o2.lt ha, ?_⟩
    rintro (⟨a', ha', e⟩ | ⟨i, hi, hG⟩)
    · exact h.a23 a a' ha ha' e
    · exact (h.gq i _ hi hG).2.1 ⟨a, ha, rfl⟩
  · rintro b (⟨a, ha, rfl⟩ | ⟨i, hi, hG⟩)
    · exact h.o3.lt ha
    · exact h.sub i b hi hG
end
end Go.Proofs.Ytjeeajgijdcdbaa
