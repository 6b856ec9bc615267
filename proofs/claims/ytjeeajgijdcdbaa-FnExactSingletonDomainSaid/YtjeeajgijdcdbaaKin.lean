/- Writes that keep every cell's kind (Kin): an int for an int, a bool for a bool, a string for a string; what a datum reads as afterwards. No program. -/
import Derived.Test.YtjeeajgijdcdbaaMut
import Derived.Test.YtjeeajgijdcdbaaReps
namespace Go.Proofs.Ytjeeajgijdcdbaa
open Go.RowKit
set_option linter.unusedVariables false

def SameK (v v' : Value) : Prop :=
  (∃ a b, v = .int .i64 a ∧ v' = .int .i64 b ∧ I64 b) ∨ (∃ a b, v = .bool a ∧ v' = .bool b) ∨ (∃ a b, v = .string a ∧ v' = .string b ∧ b.size ≤ maxLen) ∨ v' = v
theorem SameK.refl (v : Value) : SameK v v := .inr (.inr (.inr rfl))
theorem SameK.int {a b : Int} (h : I64 b) : SameK (.int .i64 a) (.int .i64 b) := .inl ⟨a, b, rfl, rfl, h⟩
theorem SameK.bool (a b : Bool) : SameK (.bool a) (.bool b) := .inr (.inl ⟨a, b, rfl, rfl⟩)
theorem SameK.str {a b : ByteArray} (h : b.size ≤ maxLen) : SameK (.string a) (.string b) := .inr (.inr (.inl ⟨a, b, rfl, rfl, h⟩))
theorem SameK.trans {u v w : Value} (h : SameK u v) (k : SameK v w) : SameK u w := by
  rcases h with ⟨a, b, rfl, rfl, hb⟩ | ⟨a, b, rfl, rfl⟩ | ⟨a, b, rfl, rfl, hb⟩ | rfl
  · rcases k with ⟨c, d, h1, rfl, hd⟩ | ⟨c, d, h1, _⟩ | ⟨c, d, h1, _⟩ | rfl
    · exact .int hd
    · cases h1
    · cases h1
    · exact .int hb
  · rcases k with ⟨c, d, h1, _⟩ | ⟨c, d, h1, rfl⟩ | ⟨c, d, h1, _⟩ | rfl
    · cases h1
    · exact .bool _ _
    · cases h1
    · exact .bool _ _
  · rcases k with ⟨c, d, h1, _⟩ | ⟨c, d, h1, _⟩ | ⟨c, d, h1, rfl, hd⟩ | rfl
    · cases h1
    · cases h1
    · exact .str hd
    · exact .str hb
  · exact k
theorem SameK.slice {p : Option Addr} {n c : Nat} {v : Value} (h : SameK (.slice p n c) v) : v = .slice p n c := by
  rcases h with ⟨a, b, h1, _⟩ | ⟨a, b, h1, _⟩ | ⟨a, b, h1, _⟩ | h1
  · cases h1
  · cases h1
  · cases h1
  · exact h1

/-- Every cell keeps its kind. -/
structure Kin (w w' : World) : Prop where
  size : w.heap.size ≤ w'.heap.size
  cell : ∀ b o v, w.cell? ⟨b, o, none⟩ = some v → ∃ v', w'.cell? ⟨b, o, none⟩ = some v' ∧ SameK v v'
  frozen : ∀ b o, b < w.heap.size → w'.frozen? ⟨b, o, none⟩ = w.frozen? ⟨b, o, none⟩
theorem Kin.refl (w : World) : Kin w w := ⟨Nat.le_refl _, fun b o v h => ⟨v, h, .refl v⟩, fun _ _ _ => rfl⟩
theorem Kin.trans {a b c : World} (h : Kin a b) (k : Kin b c) : Kin a c := by
  refine ⟨Nat.le_trans h.size k.size, fun q o v hv => ?_, fun q o hq => ?_⟩
  · obtain ⟨v1, h1, h2⟩ := h.cell q o v hv
    obtain ⟨v2, h3, h4⟩ := k.cell q o v1 h1
    exact ⟨v2, h3, h2.trans h4⟩
  · rw [k.frozen q o (Nat.lt_of_lt_of_le hq h.size), h.frozen q o hq]
theorem Kin.ofBel {a b : World} (h : Bel a b) : Kin a b :=
  ⟨h.size, fun q o v hv => ⟨v, h.cell hv, .refl v⟩, fun q o hq => h.rules.2 q o hq⟩
theorem frozen_set (w : World) (q : Addr) (u : Value) (b o : Nat) : (w.setCell q u).frozen? ⟨b, o, none⟩ = w.frozen? ⟨b, o, none⟩ := by
  by_cases hb : q.block = b
  · subst hb
    cases hh : w.heap[q.block]? with
    | none => simp [World.frozen?, World.setCell, Array.getElem?_modify, hh]
    | some ob => cases ob <;> simp [World.frozen?, World.setCell, Array.getElem?_modify, hh]
  · exact World.frozen?_of_block (w := w) (a := ⟨b, o, none⟩) (Below.heap_setCell _ _ _ _ (Ne.symm hb))
theorem Kin.set {w : World} {b o : Nat} {v u : Value} (h : w.cell? ⟨b, o, none⟩ = some v) (hk : SameK v u) : Kin w (w.setCell ⟨b, o, none⟩ u) := by
  refine ⟨by simp [World.setCell], fun q j x hx => ?_, fun q j _ => frozen_set w _ u q j⟩
  by_cases hb : q = b
  · subst hb
    by_cases hj : j = o
    · subst hj
      rw [h] at hx
      obtain rfl : v = x := by simpa using hx
      refine ⟨u, ?_, hk⟩
      simp only [World.cell?] at h ⊢
      split at h
      · next c t fr hh =>
        simp only [World.setCell, Array.getElem?_modify, hh]
        simp only [if_true, Option.map_some, Option.isSome_none, Bool.false_eq_true, if_false, Array.getElem?_setIfInBounds] at h ⊢
        have hlt : j < c.size := (Array.getElem?_eq_some_iff.1 h).1
        simp [hlt]
      · simp at h
    · refine ⟨x, ?_, .refl x⟩
      simp only [World.cell?] at hx ⊢
      split at hx
      · next c t fr hh =>
        simp only [World.setCell, Array.getElem?_modify, hh]
        simp only [if_true, Option.map_some, Option.isSome_none, Bool.false_eq_true, if_false, Array.getElem?_setIfInBounds] at hx ⊢
        rw [if_neg (Ne.symm hj), hx]
      · simp at hx
  · exact ⟨x, cell_setAt hx hb u, .refl x⟩

/-- Lists of values, kind by kind. -/
def AllK : List Value → List Value → Prop
  | [], [] => True
  | v :: a, v' :: b => SameK v v' ∧ AllK a b
  | _, _ => False
theorem AllK.refl : ∀ l : List Value, AllK l l
  | [] => trivial
  | v :: l => ⟨.refl v, AllK.refl l⟩
theorem AllK.of : ∀ (a b : List Value), a.length = b.length → (∀ i (h : i < a.length) (h' : i < b.length), SameK a[i] b[i]) → AllK a b
  | [], [], _, _ => trivial
  | [], _ :: _, h, _ => by simp at h
  | _ :: _, [], h, _ => by simp at h
  | v :: a, v' :: b, hl, h => ⟨h 0 (by simp) (by simp), AllK.of a b (by simpa using hl) fun i h1 h2 => by
      have := h (i + 1) (by simp; omega) (by simp; omega)
      simpa using this⟩
theorem AllK.length : ∀ {a b : List Value}, AllK a b → a.length = b.length
  | [], [], _ => rfl
  | [], _ :: _, h => h.elim
  | _ :: _, [], h => h.elim
  | v :: a, v' :: b, h => by simp [AllK.length h.2]

theorem AllK.cons {v : Value} {a : List Value} : ∀ {l : List Value}, AllK (v :: a) l → ∃ v' b, l = v' :: b ∧ SameK v v' ∧ AllK a b
  | [], h => h.elim
  | v' :: b, h => ⟨v', b, rfl, h.1, h.2⟩
theorem AllK.one {v : Value} {l : List Value} (h : AllK [v] l) : ∃ v', l = [v'] ∧ SameK v v' := by
  obtain ⟨v', b, rfl, h1, h2⟩ := h.cons
  cases b with
  | nil => exact ⟨v', rfl, h1⟩
  | cons x b => exact h2.elim

/-- Behind kind-keeping writes the datum still reads, with as many leaves. -/
structure Kinded {α : Type} (R : RepT α) (cnt : α → Nat) : Prop where
  go : ∀ (S : Nat → Prop) (w w' : World) (cs cs' : List Value) (x : α), R S w cs x → Kin w w' → AllK cs cs' → ∃ x', R S w' cs' x' ∧ cnt x' = cnt x
theorem kinded_int : Kinded intR (fun _ => 1) := by
  constructor
  rintro S w w' cs cs' x ⟨rfl, hx⟩ hk ha
  obtain ⟨v', rfl, hv⟩ := ha.one
  · rcases hv with ⟨a, b, h1, rfl, hb⟩ | ⟨a, b, h1, _⟩ | ⟨a, b, h1, _⟩ | rfl
    · exact ⟨b, ⟨rfl, hb⟩, rfl⟩
    · cases h1
    · cases h1
    · exact ⟨x, ⟨rfl, hx⟩, rfl⟩
theorem kinded_bool : Kinded boolR (fun _ => 1) := by
  constructor
  rintro S w w' cs cs' x hx hk ha
  obtain rfl : cs = [.bool x] := hx
  obtain ⟨v', rfl, hv⟩ := ha.one
  · rcases hv with ⟨a, b, h1, _⟩ | ⟨a, b, h1, rfl⟩ | ⟨a, b, h1, _⟩ | rfl
    · cases h1
    · exact ⟨b, rfl, rfl⟩
    · cases h1
    · exact ⟨x, rfl, rfl⟩
theorem kinded_str : Kinded strR (fun _ => 1) := by
  constructor
  rintro S w w' cs cs' x ⟨rfl, hx⟩ hk ha
  obtain ⟨v', rfl, hv⟩ := ha.one
  · rcases hv with ⟨a, b, h1, _⟩ | ⟨a, b, h1, _⟩ | ⟨a, b, h1, rfl, hb⟩ | rfl
    · cases h1
    · cases h1
    · exact ⟨b, ⟨rfl, hb⟩, rfl⟩
    · exact ⟨x, ⟨rfl, hx⟩, rfl⟩
theorem kinded_cons {α β : Type} {R0 : RepT α} {R1 : RepT β} {c0 : α → Nat} {c1 : β → Nat} (k0 : Kinded R0 c0) (k1 : Kinded R1 c1) : Kinded (consR R0 R1) (fun x => c0 x.1 + c1 x.2) := by
  constructor
  rintro S w w' cs cs' x ⟨c, rest, rfl, h0, h1⟩ hk ha
  obtain ⟨v', rest', rfl, hv, hb⟩ := ha.cons
  · obtain ⟨y0, e0, f0⟩ := k0.go _ _ _ _ [v'] _ h0 hk ⟨hv, trivial⟩
    obtain ⟨y1, e1, f1⟩ := k1.go _ _ _ _ _ _ h1 hk hb
    exact ⟨(y0, y1), ⟨v', rest', rfl, e0, e1⟩, by show c0 y0 + c1 y1 = _; rw [f0, f1]⟩
theorem kinded_map {α : Type} {n : Nat} {R : RepT α} {cnt : α → Nat} (k : Kinded R cnt) {S : Nat → Prop} {w w' : World} {cs cs' : List Value} {xs : List α} (h : sliceR n R S w cs xs) (hk : Kin w w') (ha : AllK cs cs') :
    ∃ xs', sliceR n R S w' cs' xs' ∧ xs'.map cnt = xs.map cnt := by
  obtain ⟨p, cap, rfl, h1, h2, h3⟩ := h
  obtain ⟨v', rfl, hv⟩ := ha.one
  · obtain rfl := hv.slice
    have key : ∀ i, i < xs.length → ∃ y : α, (∃ hi : i < xs.length, cnt y = cnt xs[i]) ∧ ∃ b off ecs, p = some ⟨b, off, none⟩ ∧ S b ∧ ecs.length = n ∧ RowAt w' b (off + i * n) ecs ∧ R S w' ecs y := by
      intro i hi
      obtain ⟨b, off, ecs, e1, e2, e3, e4, e5⟩ := h3 i hi
      have hc : ∀ j, j < ecs.length → ∃ v' : Value, ∃ hj : j < ecs.length, w'.cell? ⟨b, off + i * n + j, none⟩ = some v' ∧ SameK ecs[j] v' := by
        intro j hj
        obtain ⟨v', q1, q2⟩ := hk.cell _ _ _ (e4 j hj).1
        exact ⟨v', hj, q1, q2⟩
      obtain ⟨ecs', hl, hec⟩ := choose_list ecs.length hc
      have hal : AllK ecs ecs' := AllK.of _ _ hl.symm fun j h1 h2 => (hec j h2).2.2
      obtain ⟨y, y1, y2⟩ := k.go _ _ _ _ _ _ e5 hk hal
      refine ⟨y, ⟨hi, y2⟩, b, off, ecs', e1, e2, by omega, fun j hj => ⟨(hec j hj).2.1, ?_⟩, y1⟩
      have hlt := lt_of_cell (e4 j (by omega)).1
      rw [hk.frozen _ _ hlt]
      exact (e4 j (by omega)).2
    obtain ⟨ys, hl, hy⟩ := choose_list xs.length key
    refine ⟨ys, ⟨p, cap, by rw [hl], by omega, h2, fun i hi => (hy i hi).2⟩, ?_⟩
    apply List.ext_getElem
    · simp [hl]
    · intro i h4 h5
      simp only [List.getElem_map]
      obtain ⟨_, h6⟩ := (hy i (by simpa using h4)).1
      exact h6

theorem kinded_slice {α : Type} {n : Nat} {R : RepT α} {cnt : α → Nat} (k : Kinded R cnt) : Kinded (sliceR n R) (fun xs => sumL (xs.map cnt)) := by
  constructor
  intro S w w' cs cs' xs h hk ha
  obtain ⟨xs', h1, h2⟩ := kinded_map k h hk ha
  exact ⟨xs', h1, congrArg sumL h2⟩
theorem Kin.slice {w w' : World} (hk : Kin w w') {b o : Nat} {p : Option Addr} {n c : Nat} (h : w.cell? ⟨b, o, none⟩ = some (.slice p n c)) : w'.cell? ⟨b, o, none⟩ = some (.slice p n c) := by
  obtain ⟨v', h1, h2⟩ := hk.cell _ _ _ h
  rw [h2.slice] at h1
  exact h1
theorem Kin.free {w w' : World} (hk : Kin w w') {b o : Nat} {v : Value} (h : w.cell? ⟨b, o, none⟩ = some v) (hf : w.frozen? ⟨b, o, none⟩ = false) : w'.frozen? ⟨b, o, none⟩ = false := by
  rw [hk.frozen _ _ (lt_of_cell h)]; exact hf
theorem Kin.setInt {w W : World} (hk : Kin w W) {b o : Nat} {a u : Int} (h : w.cell? ⟨b, o, none⟩ = some (.int .i64 a)) (hu : I64 u) : Kin w (W.setCell ⟨b, o, none⟩ (.int .i64 u)) := by
  obtain ⟨v', h1, h2⟩ := hk.cell _ _ _ h
  refine hk.trans (Kin.set h1 ?_)
  rcases h2 with ⟨c, d, h3, rfl, _⟩ | ⟨c, d, h3, _⟩ | ⟨c, d, h3, _⟩ | rfl
  · exact .int hu
  · cases h3
  · cases h3
  · exact .int hu
theorem Kin.setBool {w W : World} (hk : Kin w W) {b o : Nat} {a u : Bool} (h : w.cell? ⟨b, o, none⟩ = some (.bool a)) : Kin w (W.setCell ⟨b, o, none⟩ (.bool u)) := by
  obtain ⟨v', h1, h2⟩ := hk.cell _ _ _ h
  refine hk.trans (Kin.set h1 ?_)
  rcases h2 with ⟨c, d, h3, _⟩ | ⟨c, d, h3, rfl⟩ | ⟨c, d, h3, _⟩ | rfl
  · cases h3
  · exact .bool _ _
  · cases h3
  · exact .bool _ _
theorem Kin.setStr {w W : World} (hk : Kin w W) {b o : Nat} {a u : ByteArray} (h : w.cell? ⟨b, o, none⟩ = some (.string a)) (hu : u.size ≤ maxLen) : Kin w (W.setCell ⟨b, o, none⟩ (.string u)) := by
  obtain ⟨v', h1, h2⟩ := hk.cell _ _ _ h
  refine hk.trans (Kin.set h1 ?_)
  rcases h2 with ⟨c, d, h3, _⟩ | ⟨c, d, h3, _⟩ | ⟨c, d, h3, rfl, _⟩ | rfl
  · cases h3
  · cases h3
  · exact .str hu
  · exact .str hu
theorem markEnd {α : Type} {R : RepT α} {cnt : α → Nat} {n : Nat} (ek : Kinded R cnt) {S : Nat → Prop} {w W : World} {v : Value} {xs' : List α} {L : List Nat} (hr : sliceR n R S w [v] xs') (hm : xs'.map cnt = L) (K : Kin w W) : ∃ xs'', sliceR n R S W [v] xs'' ∧ xs''.map cnt = L := by
  obtain ⟨xs'', h1, h2⟩ := kinded_map ek hr K (AllK.refl _)
  exact ⟨xs'', h1, h2.trans hm⟩
theorem sumTake (L : List Nat) (i : Nat) (h : i < L.length) : sumL (L.take (i + 1)) = sumL (L.take i) + L[i] := by
  rw [List.take_succ_eq_append_getElem h, sumL_append]
  simp [sumL]
theorem sumTake_le (L : List Nat) (i : Nat) : sumL (L.take i) ≤ sumL L := by
  have h : L = L.take i ++ L.drop i := (List.take_append_drop i L).symm
  have h1 := congrArg sumL h
  rw [sumL_append] at h1
  omega

/-- What a contract left in new memory, in an interval of blocks. -/
def Ival (lo hi : Nat) : Nat → Prop := fun k => lo ≤ k ∧ k < hi
theorem stays_ival {α : Type} {R : RepT α} (gd : Good R) {a b : World} {v : Value} {x : α} {lo : Nat} (h : R (New a b) b [v] x) (hlo : lo ≤ a.heap.size) : ∀ W, Bel b W → R (Ival lo b.heap.size) W [v] x ∧ (∀ k, Ival lo b.heap.size k → k < W.heap.size) :=
  fun W hW => ⟨gd.bel (gd.mono h fun k hk => ⟨Nat.le_trans hlo hk.1, hk.2⟩) hW (fun k hk => hk.2), fun k hk => Nat.lt_of_lt_of_le hk.2 hW.size⟩
theorem stays_ival_agg {α : Type} {R : RepT α} (gd : Good R) {a b : World} {cs : List Value} {x : α} {lo : Nat} (h : R (New a b) b cs x) (hlo : lo ≤ a.heap.size) : ∀ W, Bel b W → aggR R (Ival lo b.heap.size) W (.agg cs.toArray) x ∧ (∀ k, Ival lo b.heap.size k → k < W.heap.size) :=
  fun W hW => ⟨aggR_mk (gd.bel (gd.mono h fun k hk => ⟨Nat.le_trans hlo hk.1, hk.2⟩) hW (fun k hk => hk.2)), fun k hk => Nat.lt_of_lt_of_le hk.2 hW.size⟩
theorem Mut.keepAgg {α : Type} {R : RepT α} (gd : Good R) {S T : Nat → Prop} {a b : World} {v : Value} {x : α} (hm : Mut S a b) (h : aggR R T a v x) (hT : ∀ k, T k → k < a.heap.size ∧ ¬ S k) : aggR R T b v x := by
  obtain ⟨cs, rfl, h⟩ := h
  exact ⟨cs, rfl, hm.keep gd h hT⟩
theorem aggR_bel {α : Type} {R : RepT α} (gd : Good R) {T : Nat → Prop} {a b : World} {v : Value} {x : α} (h : aggR R T a v x) (hb : Bel a b) (hT : ∀ k, T k → k < a.heap.size) : aggR R T b v x := by
  obtain ⟨cs, rfl, h⟩ := h
  exact ⟨cs, rfl, gd.bel h hb hT⟩

/-- Leaves. -/
def cntInts (xs : List Int) : Nat := sumL (xs.map fun _ => 1)
def cntRows (xs : List (List Int)) : Nat := sumL (xs.map cntInts)
def cntSteps (xs : List StepT) : Nat := sumL (xs.map fun _ => 1 + 1)
def cntLinks (xs : List LinkT) : Nat := sumL (xs.map fun _ => 1 + (1 + (1 + 1)))
def cntMode (x : ModeT) : Nat := 1 + (cntInts x.2.1 + cntInts x.2.2)
def cntModes (xs : List ModeT) : Nat := sumL (xs.map cntMode)
def cntAct (x : ActT) : Nat := 1 + (1 + cntModes x.2.2)
def cntActs (xs : List ActT) : Nat := sumL (xs.map cntAct)
def cntRes (x : ResT) : Nat := cntSteps x.1 + cntRows x.2
def cntRess (xs : List ResT) : Nat := sumL (xs.map cntRes)
def cntProj (x : ProjT) : Nat := 1 + (cntActs x.2.1 + (cntLinks x.2.2.1 + (cntRess x.2.2.2.1 + cntInts x.2.2.2.2)))
def cntSch (x : SchT) : Nat := cntInts x.1 + cntInts x.2
def cntDom (x : DomT) : Nat := cntInts x.1 + (cntInts x.2.1 + cntRows x.2.2)
theorem ints_kin : Kinded intsR cntInts := kinded_slice kinded_int
theorem rows_kin : Kinded rowsR cntRows := kinded_slice ints_kin
theorem step_kin : Kinded stepR (fun _ => 1 + 1) := kinded_cons kinded_int kinded_int
theorem steps_kin : Kinded stepsR cntSteps := kinded_slice step_kin
theorem link_kin : Kinded linkR (fun _ => 1 + (1 + (1 + 1))) := kinded_cons kinded_int (kinded_cons kinded_int (kinded_cons kinded_bool kinded_int))
theorem links_kin : Kinded linksR cntLinks := kinded_slice link_kin
theorem mode_kin : Kinded modeR cntMode := kinded_cons kinded_int (kinded_cons ints_kin ints_kin)
theorem modes_kin : Kinded modesR cntModes := kinded_slice mode_kin
theorem act_kin : Kinded actR cntAct := kinded_cons kinded_str (kinded_cons kinded_int modes_kin)
theorem acts_kin : Kinded actsR cntActs := kinded_slice act_kin
theorem res_kin : Kinded resR cntRes := kinded_cons steps_kin rows_kin
theorem ress_kin : Kinded ressR cntRess := kinded_slice res_kin
theorem proj_kin : Kinded projR cntProj := kinded_cons kinded_int (kinded_cons acts_kin (kinded_cons links_kin (kinded_cons ress_kin ints_kin)))
theorem sch_kin : Kinded schR cntSch := kinded_cons ints_kin ints_kin
theorem dom_kin : Kinded domR cntDom := kinded_cons ints_kin (kinded_cons ints_kin rows_kin)
theorem cntInts_eq (xs : List Int) : cntInts xs = xs.length := by
  unfold cntInts
  induction xs with
  | nil => rfl
  | cons x xs ih => rw [List.map_cons, sumL_cons, ih, List.length_cons]; omega
theorem sumL_le {α : Type} {f g : α → Nat} {c : Nat} (h : ∀ x, f x ≤ c * g x + c) : ∀ xs : List α, sumL (xs.map f) ≤ c * (xs.length + sumL (xs.map g))
  | [] => by simp [sumL]
  | x :: xs => by
    have h1 := h x
    have h2 := sumL_le h xs
    rw [List.map_cons, List.map_cons, sumL_cons, sumL_cons, List.length_cons]
    rw [Nat.mul_add] at h2 ⊢
    rw [Nat.mul_add, Nat.mul_add]
    omega
theorem sumL_const {α : Type} (c : Nat) : ∀ xs : List α, sumL (xs.map fun _ => c) = c * xs.length
  | [] => by simp [sumL]
  | x :: xs => by rw [List.map_cons, sumL_cons, sumL_const c xs, List.length_cons, Nat.mul_succ]; omega
theorem cntRows_le (xs : List (List Int)) : cntRows xs ≤ 1 * bulkIntSS xs := sumL_le (fun x => by rw [cntInts_eq]; unfold bulkIntS; omega) xs
theorem cntMode_le (x : ModeT) : cntMode x ≤ 2 * bulkMode x + 2 := by
  unfold cntMode bulkMode bulkIntS
  rw [cntInts_eq, cntInts_eq]; omega
theorem cntModes_le (xs : List ModeT) : cntModes xs ≤ 2 * bulkModeS xs := sumL_le cntMode_le xs
theorem cntAct_le (x : ActT) : cntAct x ≤ 2 * bulkActivity x + 2 := by
  have h := cntModes_le x.2.2
  unfold cntAct bulkActivity
  omega
theorem cntActs_le (xs : List ActT) : cntActs xs ≤ 2 * bulkActivityS xs := sumL_le cntAct_le xs
theorem cntRes_le (x : ResT) : cntRes x ≤ 2 * bulkResource x + 2 := by
  have h := cntRows_le x.2
  unfold cntRes bulkResource cntSteps bulkStepS
  rw [sumL_const]
  omega
theorem cntRess_le (xs : List ResT) : cntRess xs ≤ 2 * bulkResourceS xs := sumL_le cntRes_le xs
theorem cntProj_le (x : ProjT) : cntProj x ≤ 4 * bulkProject x + 1 := by
  have h1 := cntActs_le x.2.1
  have h2 := cntRess_le x.2.2.2.1
  unfold cntProj bulkProject cntLinks bulkLinkS bulkIntS
  rw [sumL_const, cntInts_eq]
  omega
theorem cntSch_le (x : SchT) : cntSch x ≤ bulkSchedule x := by
  unfold cntSch bulkSchedule bulkIntS
  rw [cntInts_eq, cntInts_eq]; omega
theorem cntDom_le (x : DomT) : cntDom x ≤ bulkDomain x := by
  have h := cntRows_le x.2.2
  unfold cntDom bulkDomain bulkIntS
  rw [cntInts_eq, cntInts_eq]; omega
end Go.Proofs.Ytjeeajgijdcdbaa
