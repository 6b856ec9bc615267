/- What the draws give: plain functions of the code and of the cursor's state. No program. -/
import Derived.Test.YtjeeajgijdcdbaaProjF
import Derived.Test.YtjeeajgijdcdbaaRuleOk
import Derived.Test.YtjeeajgijdcdbaaSchForm
namespace Go.Proofs.Ytjeeajgijdcdbaa
open Go.RowKit
set_option linter.unusedVariables false

/-- A cursor's state: the bytes that were taken, the hash. -/
abbrev StT := Nat × Int
def hashV (h : Int) : Int := IntKind.i64.wrap (IntKind.i64.wrap (h * 6364136223846793005) + 1442695040888963407)
def mixV (h : Int) : Int := bits .and .i64 (bits .xor .i64 (h / 8589934592) (h / 35184372088832)) 255
def byteV (C : List Int) (s : StT) : Int × StT :=
  if s.1 < C.length then (bits .and .i64 (mixV (hashV s.2) + C.getD s.1 0) 255, (s.1 + 1, hashV s.2)) else (mixV (hashV s.2), (s.1, hashV s.2))
theorem and255 (x : Int) : 0 ≤ bits .and .i64 x 255 ∧ bits .and .i64 x 255 ≤ 255 := by
  have h : ((BitVec.ofInt 64 x) &&& (BitVec.ofInt 64 255)).toNat ≤ 255 := by
    rw [BitVec.toNat_and]
    exact Nat.le_trans Nat.and_le_right (by decide)
  have e : bits .and .i64 x 255 = IntKind.i64.wrap (((BitVec.ofInt 64 x) &&& (BitVec.ofInt 64 255)).toNat : Int) := rfl
  generalize ((BitVec.ofInt 64 x) &&& (BitVec.ofInt 64 255)).toNat = n at h e
  have e2 : IntKind.i64.wrap (n : Int) = (n : Int) := by
    rw [IntKind.wrap_i64]
    omega
  omega
theorem byteV_in (C : List Int) (s : StT) : 0 ≤ (byteV C s).1 ∧ (byteV C s).1 ≤ 255 := by
  unfold byteV
  split
  · exact and255 _
  · exact and255 _
theorem byteV_st (C : List Int) (s : StT) (h : s.1 ≤ C.length) : (byteV C s).2.1 ≤ C.length := by
  unfold byteV
  split
  · simp only; omega
  · exact h
theorem wrap_i64 (x : Int) : I64 (IntKind.i64.wrap x) := by
  unfold I64
  rw [IntKind.wrap_i64]
  omega
theorem byteV_i64 (C : List Int) (s : StT) : I64 (byteV C s).2.2 := by
  unfold byteV
  split
  · exact wrap_i64 _
  · exact wrap_i64 _
/-- A number below n. -/
def belowV (C : List Int) (n : Int) (s : StT) : Int × StT := if n ≤ 0 then (0, s) else ((byteV C s).1 % n, (byteV C s).2)
theorem belowV_in (C : List Int) (n : Int) (s : StT) (h : 0 < n) : 0 ≤ (belowV C n s).1 ∧ (belowV C n s).1 < n := by
  unfold belowV
  rw [if_neg (by omega)]
  exact ⟨Int.emod_nonneg _ (by omega), Int.emod_lt_of_pos _ h⟩
theorem belowV_nn (C : List Int) (n : Int) (s : StT) : 0 ≤ (belowV C n s).1 := by
  unfold belowV
  split
  · exact Int.le_refl _
  · exact Int.emod_nonneg _ (by omega)
def onceV (C : List Int) (n : Int) (s : StT) : Bool × StT := (decide ((belowV C n s).1 = 0), (belowV C n s).2)

/-- The hash of a code. -/
def newTo (C : List Int) : Nat → Int
  | 0 => 1950 + C.length
  | k + 1 => bits .and .i64 (IntKind.i64.wrap (IntKind.i64.wrap (IntKind.i64.wrap (newTo C k * 59) + C.getD k 0) + 7)) 1073741823
def newV (C : List Int) : StT := (0, newTo C (min C.length 4000))

def stepsV (C : List Int) : Nat → List StepT → StT → List StepT × StT
  | 0, l, s => (l, s)
  | n + 1, l, s => stepsV C n (l ++ [((l.getD (l.length - 1) (0, 0)).1 + 1 + (belowV C 9 s).1, (belowV C 5 (belowV C 9 s).2).1)]) (belowV C 5 (belowV C 9 s).2).2
def steps0 (C : List Int) (s : StT) : List StepT × StT := stepsV C ((belowV C 6 (belowV C 4 s).2).1 / 2).toNat [(0, 1 + (belowV C 4 s).1)] (belowV C 6 (belowV C 4 s).2).2
def rowV (C : List Int) (i : Nat) : Nat → List Int → StT → List Int × StT
  | 0, l, s => (l, s)
  | n + 1, l, s => if i = l.length then rowV C i n (l ++ [0]) s else rowV C i n (l ++ [(belowV C 3 s).1]) (belowV C 3 s).2
def gridV (C : List Int) : Nat → List (List Int) → StT → List (List Int) × StT
  | 0, l, s => (l, s)
  | n + 1, l, s => gridV C n (l ++ [(rowV C l.length 4 [] s).1]) (rowV C l.length 4 [] s).2
def nameV (i : Nat) : ByteArray := match i % 6 with
  | 0 => ⟨#[97]⟩
  | 1 => ⟨#[98]⟩
  | 2 => ⟨#[99]⟩
  | 3 => ⟨#[100]⟩
  | 4 => ⟨#[101, 49]⟩
  | _ => ⟨#[102]⟩
def numsV (C : List Int) : Nat → List Int → StT → List Int × StT
  | 0, l, s => (l, s)
  | n + 1, l, s => numsV C n (l ++ [(belowV C 3 s).1]) (belowV C 3 s).2
/-- One mode. -/
def modeV (C : List Int) (r k : Nat) (s : StT) : ModeT × StT :=
  ((1 + (belowV C 4 s).1, (numsV C r [] (belowV C 4 s).2).1, (numsV C k [] (numsV C r [] (belowV C 4 s).2).2).1), (numsV C k [] (numsV C r [] (belowV C 4 s).2).2).2)
def modesV (C : List Int) (r k : Nat) : Nat → List ModeT → StT → List ModeT × StT
  | 0, l, s => (l, s)
  | n + 1, l, s => modesV C r k n (l ++ [(modeV C r k s).1]) (modeV C r k s).2
def actV (C : List Int) (i r k : Nat) (s : StT) : ActT × StT :=
  ((nameV i, (belowV C 2 s).1, (modesV C r k (1 + ((belowV C 4 (belowV C 2 s).2).1 / 2).toNat) [] (belowV C 4 (belowV C 2 s).2).2).1), (modesV C r k (1 + ((belowV C 4 (belowV C 2 s).2).1 / 2).toNat) [] (belowV C 4 (belowV C 2 s).2).2).2)
/-- One resource. -/
def resV (C : List Int) (s : StT) : ResT × StT :=
  if (onceV C 3 (steps0 C s).2).1 = true then (((steps0 C s).1, (gridV C 4 [] (onceV C 3 (steps0 C s).2).2).1), (gridV C 4 [] (onceV C 3 (steps0 C s).2).2).2)
  else (((steps0 C s).1, []), (onceV C 3 (steps0 C s).2).2)
def ressV (C : List Int) : Nat → List ResT → StT → List ResT × StT
  | 0, l, s => (l, s)
  | n + 1, l, s => ressV C n (l ++ [(resV C s).1]) (resV C s).2
def stocksV (C : List Int) (s : StT) : List Int × StT := if (onceV C 3 s).1 = true then ([(belowV C 6 (onceV C 3 s).2).1], (belowV C 6 (onceV C 3 s).2).2) else ([], (onceV C 3 s).2)
def actsV (C : List Int) (r k : Nat) : Nat → List ActT → StT → List ActT × StT
  | 0, l, s => (l, s)
  | n + 1, l, s => actsV C r k n (l ++ [(actV C l.length r k s).1]) (actV C l.length r k s).2
/-- One link; n: the activities. -/
def linkA (C : List Int) (n : Int) (s : StT) : Int × StT := belowV C (n - 1) s
def linkB (C : List Int) (n : Int) (s : StT) : Int × StT := belowV C (n - 1 - (linkA C n s).1) (linkA C n s).2
def linkE (C : List Int) (n : Int) (s : StT) : Bool × StT := onceV C 3 (linkB C n s).2
def linkL (C : List Int) (n : Int) (s : StT) : Int × StT := belowV C 3 (linkE C n s).2
def linkO (C : List Int) (n : Int) (s : StT) : Bool × StT := onceV C 6 (linkL C n s).2
def linkV (C : List Int) (n : Int) (s : StT) : LinkT × StT :=
  if (linkO C n s).1 = true then (((linkA C n s).1 + 1 + (linkB C n s).1, (linkA C n s).1, false, -4 - (belowV C 9 (linkO C n s).2).1), (belowV C 9 (linkO C n s).2).2)
  else (((linkA C n s).1, (linkA C n s).1 + 1 + (linkB C n s).1, !(linkE C n s).1, (linkL C n s).1), (linkO C n s).2)
def linksV (C : List Int) (m : Int) : Nat → List LinkT → StT → List LinkT × StT
  | 0, l, s => (l, s)
  | n + 1, l, s => if m > 1 then linksV C m n (l ++ [(linkV C m s).1]) (linkV C m s).2 else (l, s)
/-- A project's parts, one behind the other. -/
def dD (C : List Int) (s : StT) : Int × StT := belowV C 12 s
def dR (C : List Int) (s : StT) : List ResT × StT := ressV C (1 + ((belowV C 4 (dD C s).2).1 / 2).toNat) [] (belowV C 4 (dD C s).2).2
def dS (C : List Int) (s : StT) : List Int × StT := stocksV C (dR C s).2
def dA (C : List Int) (m : Int) (s : StT) : List ActT × StT := actsV C (dR C s).1.length (dS C s).1.length (1 + (belowV C m (dS C s).2).1.toNat) [] (belowV C m (dS C s).2).2
def dL (C : List Int) (m : Int) (s : StT) : List LinkT × StT := linksV C (dA C m s).1.length (belowV C 4 (dA C m s).2).1.toNat [] (belowV C 4 (dA C m s).2).2
def drawP (C : List Int) (m : Int) (s : StT) : ProjT × StT := ((12 + (dD C s).1, (dA C m s).1, (dL C m s).1, (dR C s).1, (dS C s).1), (dL C m s).2)
/-- More links, for loops. -/
def moreA (C : List Int) (n : Int) (s : StT) : Int × StT := belowV C n s
def moreB (C : List Int) (n : Int) (s : StT) : Int × StT := belowV C (n - 1) (moreA C n s).2
def moreE (C : List Int) (n : Int) (s : StT) : Bool × StT := onceV C 2 (moreB C n s).2
def moreL (C : List Int) (n : Int) (s : StT) : Int × StT := belowV C 8 (moreE C n s).2
def moreV (C : List Int) (n : Int) (s : StT) : LinkT × StT := (((moreA C n s).1, ((moreA C n s).1 + 1 + (moreB C n s).1) % n, (moreE C n s).1, (moreL C n s).1 - 4), (moreL C n s).2)
def moresV (C : List Int) (m : Int) : Nat → List LinkT → StT → List LinkT × StT
  | 0, l, s => (l, s)
  | n + 1, l, s => if m > 1 then moresV C m n (l ++ [(moreV C m s).1]) (moreV C m s).2 else (l, s)
def loopL (C : List Int) (p : ProjT) (s : StT) : List LinkT × StT := moresV C p.2.1.length (belowV C 4 s).1.toNat p.2.2.1 (belowV C 4 s).2
def loopsP (C : List Int) (s : StT) : ProjT × StT := (((drawP C 4 s).1.1, (drawP C 4 s).1.2.1, (loopL C (drawP C 4 s).1 (drawP C 4 s).2).1, (drawP C 4 s).1.2.2.2.1, (drawP C 4 s).1.2.2.2.2), (loopL C (drawP C 4 s).1 (drawP C 4 s).2).2)
/-- A schedule. -/
def schN (C : List Int) (at_ : Int) (s : StT) : Int × StT := if (onceV C 3 s).1 = true then belowV C 12 (onceV C 3 s).2 else (at_, (onceV C 3 s).2)
def schM (C : List Int) (a : ActT) (at_ : Int) (s : StT) : Int × StT := belowV C a.2.2.length (schN C at_ s).2
def schD (C : List Int) (a : ActT) (at_ : Int) (s : StT) : Int × StT := belowV C 5 (schM C a at_ s).2
def schTo (C : List Int) : List ActT → Int → List Int → List Int → StT → SchT × StT
  | [], _, x, y, s => ((x, y), s)
  | a :: as_, at_, x, y, s => schTo C as_ (at_ + (schD C a at_ s).1) (x ++ [(schN C at_ s).1]) (y ++ [(schM C a at_ s).1]) (schD C a at_ s).2
def schV (C : List Int) (p : ProjT) (s : StT) : SchT × StT := schTo C p.2.1 0 [] [] s
/-- A literal. -/
def litA (C : List Int) (p : ProjT) (s : StT) : Int × StT := belowV C p.2.1.length s
def litO (C : List Int) (p : ProjT) (s : StT) : Bool × StT := onceV C 4 (litA C p s).2
def litK (C : List Int) (p : ProjT) (s : StT) : Int × StT := belowV C 2 (litO C p s).2
def litW (C : List Int) (p : ProjT) (s : StT) : Int × StT := if (litO C p s).1 = true then belowV C (p.2.1.getD (litA C p s).1.toNat zAct).2.2.length (litK C p s).2 else belowV C 10 (litK C p s).2
def litD (C : List Int) (p : ProjT) (s : StT) : LitT × StT := (((if (litO C p s).1 = true then 3 + (litK C p s).1 else 1 + (litK C p s).1), (litA C p s).1, (litW C p s).1), (litW C p s).2)
end Go.Proofs.Ytjeeajgijdcdbaa
