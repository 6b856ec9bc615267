/- The shapes of the given data in cells. No program. -/
import Derived.Test.YtjeeajgijdcdbaaReps
namespace Go.Proofs.Ytjeeajgijdcdbaa
open Go.RowKit
set_option linter.unusedVariables false

theorem litR_open {S : Nat → Prop} {w : World} {cs : List Value} {x : LitT} (h : litR S w cs x) : cs = [.int .i64 x.1, .int .i64 x.2.1, .int .i64 x.2.2] ∧ I64 x.1 ∧ I64 x.2.1 ∧ I64 x.2.2 := by
  obtain ⟨c0, r0, rfl, ⟨e0, b0⟩, c1, r1, rfl, ⟨e1, b1⟩, ⟨e2, b2⟩⟩ := h
  have e0 : c0 = _ := (List.cons.inj e0).1
  have e1 : c1 = _ := (List.cons.inj e1).1
  subst e0 e1 e2
  exact ⟨rfl, b0, b1, b2⟩

theorem litR_shut {S : Nat → Prop} {w : World} {x0 : Int} {x1 : Int} {x2 : Int}  (b0 : I64 x0) (b1 : I64 x1) (b2 : I64 x2) : litR S w [.int .i64 x0, .int .i64 x1, .int .i64 x2] (x0, x1, x2) :=
  ⟨_, _, rfl, ⟨rfl, b0⟩, ⟨_, _, rfl, ⟨rfl, b1⟩, ⟨rfl, b2⟩⟩⟩

theorem stepR_open {S : Nat → Prop} {w : World} {cs : List Value} {x : StepT} (h : stepR S w cs x) : cs = [.int .i64 x.1, .int .i64 x.2] ∧ I64 x.1 ∧ I64 x.2 := by
  obtain ⟨c0, r0, rfl, ⟨e0, b0⟩, ⟨e1, b1⟩⟩ := h
  have e0 : c0 = _ := (List.cons.inj e0).1
  subst e0 e1
  exact ⟨rfl, b0, b1⟩

theorem stepR_shut {S : Nat → Prop} {w : World} {x0 : Int} {x1 : Int}  (b0 : I64 x0) (b1 : I64 x1) : stepR S w [.int .i64 x0, .int .i64 x1] (x0, x1) :=
  ⟨_, _, rfl, ⟨rfl, b0⟩, ⟨rfl, b1⟩⟩

theorem linkR_open {S : Nat → Prop} {w : World} {cs : List Value} {x : LinkT} (h : linkR S w cs x) : cs = [.int .i64 x.1, .int .i64 x.2.1, .bool x.2.2.1, .int .i64 x.2.2.2] ∧ I64 x.1 ∧ I64 x.2.1 ∧ I64 x.2.2.2 := by
  obtain ⟨c0, r0, rfl, ⟨e0, b0⟩, c1, r1, rfl, ⟨e1, b1⟩, c2, r2, rfl, e2, ⟨e3, b3⟩⟩ := h
  have e0 : c0 = _ := (List.cons.inj e0).1
  have e1 : c1 = _ := (List.cons.inj e1).1
  have e2 : c2 = _ := (List.cons.inj e2).1
  subst e0 e1 e2 e3
  exact ⟨rfl, b0, b1, b3⟩

theorem linkR_shut {S : Nat → Prop} {w : World} {x0 : Int} {x1 : Int} {x2 : Bool} {x3 : Int}  (b0 : I64 x0) (b1 : I64 x1) (b3 : I64 x3) : linkR S w [.int .i64 x0, .int .i64 x1, .bool x2, .int .i64 x3] (x0, x1, x2, x3) :=
  ⟨_, _, rfl, ⟨rfl, b0⟩, ⟨_, _, rfl, ⟨rfl, b1⟩, ⟨_, _, rfl, rfl, ⟨rfl, b3⟩⟩⟩⟩

theorem ruleR_open {S : Nat → Prop} {w : World} {cs : List Value} {x : RuleT} (h : ruleR S w cs x) : cs = [.int .i64 x.1, .int .i64 x.2.1, .int .i64 x.2.2.1, .int .i64 x.2.2.2] ∧ I64 x.1 ∧ I64 x.2.1 ∧ I64 x.2.2.1 ∧ I64 x.2.2.2 := by
  obtain ⟨c0, r0, rfl, ⟨e0, b0⟩, c1, r1, rfl, ⟨e1, b1⟩, c2, r2, rfl, ⟨e2, b2⟩, ⟨e3, b3⟩⟩ := h
  have e0 : c0 = _ := (List.cons.inj e0).1
  have e1 : c1 = _ := (List.cons.inj e1).1
  have e2 : c2 = _ := (List.cons.inj e2).1
  subst e0 e1 e2 e3
  exact ⟨rfl, b0, b1, b2, b3⟩

theorem ruleR_shut {S : Nat → Prop} {w : World} {x0 : Int} {x1 : Int} {x2 : Int} {x3 : Int}  (b0 : I64 x0) (b1 : I64 x1) (b2 : I64 x2) (b3 : I64 x3) : ruleR S w [.int .i64 x0, .int .i64 x1, .int .i64 x2, .int .i64 x3] (x0, x1, x2, x3) :=
  ⟨_, _, rfl, ⟨rfl, b0⟩, ⟨_, _, rfl, ⟨rfl, b1⟩, ⟨_, _, rfl, ⟨rfl, b2⟩, ⟨rfl, b3⟩⟩⟩⟩

theorem schR_open {S : Nat → Prop} {w : World} {cs : List Value} {x : SchT} (h : schR S w cs x) : ∃ c0 c1 : Value, cs = [c0, c1] ∧ intsR S w [c0] x.1 ∧ intsR S w [c1] x.2 := by
  obtain ⟨c0, r0, rfl, h0, h1⟩ := h
  have hl : ∃ c1, r0 = [c1] := by obtain ⟨p, cap, e, _⟩ := h1; exact ⟨_, e⟩
  obtain ⟨c1, rfl⟩ := hl
  exact ⟨c0, c1, rfl, h0, h1⟩

theorem schR_shut {S : Nat → Prop} {w : World} {x0 : List (Int)} {x1 : List (Int)} {c0 : Value} {c1 : Value} (h0 : intsR S w [c0] x0) (h1 : intsR S w [c1] x1) : schR S w [c0, c1] (x0, x1) :=
  ⟨_, _, rfl, h0, h1⟩

theorem domR_open {S : Nat → Prop} {w : World} {cs : List Value} {x : DomT} (h : domR S w cs x) : ∃ c0 c1 c2 : Value, cs = [c0, c1, c2] ∧ intsR S w [c0] x.1 ∧ intsR S w [c1] x.2.1 ∧ rowsR S w [c2] x.2.2 := by
  obtain ⟨c0, r0, rfl, h0, c1, r1, rfl, h1, h2⟩ := h
  have hl : ∃ c2, r1 = [c2] := by obtain ⟨p, cap, e, _⟩ := h2; exact ⟨_, e⟩
  obtain ⟨c2, rfl⟩ := hl
  exact ⟨c0, c1, c2, rfl, h0, h1, h2⟩

theorem domR_shut {S : Nat → Prop} {w : World} {x0 : List (Int)} {x1 : List (Int)} {x2 : List (List Int)} {c0 : Value} {c1 : Value} {c2 : Value} (h0 : intsR S w [c0] x0) (h1 : intsR S w [c1] x1) (h2 : rowsR S w [c2] x2) : domR S w [c0, c1, c2] (x0, x1, x2) :=
  ⟨_, _, rfl, h0, ⟨_, _, rfl, h1, h2⟩⟩

theorem modeR_open {S : Nat → Prop} {w : World} {cs : List Value} {x : ModeT} (h : modeR S w cs x) : ∃ c1 c2 : Value, cs = [.int .i64 x.1, c1, c2] ∧ I64 x.1 ∧ intsR S w [c1] x.2.1 ∧ intsR S w [c2] x.2.2 := by
  obtain ⟨c0, r0, rfl, ⟨e0, b0⟩, c1, r1, rfl, h1, h2⟩ := h
  have e0 : c0 = _ := (List.cons.inj e0).1
  subst e0
  have hl : ∃ c2, r1 = [c2] := by obtain ⟨p, cap, e, _⟩ := h2; exact ⟨_, e⟩
  obtain ⟨c2, rfl⟩ := hl
  exact ⟨c1, c2, rfl, b0, h1, h2⟩

theorem modeR_shut {S : Nat → Prop} {w : World} {x0 : Int} {x1 : List (Int)} {x2 : List (Int)} {c1 : Value} {c2 : Value} (b0 : I64 x0) (h1 : intsR S w [c1] x1) (h2 : intsR S w [c2] x2) : modeR S w [.int .i64 x0, c1, c2] (x0, x1, x2) :=
  ⟨_, _, rfl, ⟨rfl, b0⟩, ⟨_, _, rfl, h1, h2⟩⟩

theorem actR_open {S : Nat → Prop} {w : World} {cs : List Value} {x : ActT} (h : actR S w cs x) : ∃ c2 : Value, cs = [.string x.1, .int .i64 x.2.1, c2] ∧ (x.1).size ≤ maxLen ∧ I64 x.2.1 ∧ modesR S w [c2] x.2.2 := by
  obtain ⟨c0, r0, rfl, ⟨e0, b0⟩, c1, r1, rfl, ⟨e1, b1⟩, h2⟩ := h
  have e0 : c0 = _ := (List.cons.inj e0).1
  have e1 : c1 = _ := (List.cons.inj e1).1
  subst e0 e1
  have hl : ∃ c2, r1 = [c2] := by obtain ⟨p, cap, e, _⟩ := h2; exact ⟨_, e⟩
  obtain ⟨c2, rfl⟩ := hl
  exact ⟨c2, rfl, b0, b1, h2⟩

theorem actR_shut {S : Nat → Prop} {w : World} {x0 : ByteArray} {x1 : Int} {x2 : List (ModeT)} {c2 : Value} (b0 : x0.size ≤ maxLen) (b1 : I64 x1) (h2 : modesR S w [c2] x2) : actR S w [.string x0, .int .i64 x1, c2] (x0, x1, x2) :=
  ⟨_, _, rfl, ⟨rfl, b0⟩, ⟨_, _, rfl, ⟨rfl, b1⟩, h2⟩⟩

theorem resR_open {S : Nat → Prop} {w : World} {cs : List Value} {x : ResT} (h : resR S w cs x) : ∃ c0 c1 : Value, cs = [c0, c1] ∧ stepsR S w [c0] x.1 ∧ rowsR S w [c1] x.2 := by
  obtain ⟨c0, r0, rfl, h0, h1⟩ := h
  have hl : ∃ c1, r0 = [c1] := by obtain ⟨p, cap, e, _⟩ := h1; exact ⟨_, e⟩
  obtain ⟨c1, rfl⟩ := hl
  exact ⟨c0, c1, rfl, h0, h1⟩

theorem resR_shut {S : Nat → Prop} {w : World} {x0 : List (StepT)} {x1 : List (List Int)} {c0 : Value} {c1 : Value} (h0 : stepsR S w [c0] x0) (h1 : rowsR S w [c1] x1) : resR S w [c0, c1] (x0, x1) :=
  ⟨_, _, rfl, h0, h1⟩

theorem projR_open {S : Nat → Prop} {w : World} {cs : List Value} {x : ProjT} (h : projR S w cs x) : ∃ c1 c2 c3 c4 : Value, cs = [.int .i64 x.1, c1, c2, c3, c4] ∧ I64 x.1 ∧ actsR S w [c1] x.2.1 ∧ linksR S w [c2] x.2.2.1 ∧ ressR S w [c3] x.2.2.2.1 ∧ intsR S w [c4] x.2.2.2.2 := by
  obtain ⟨c0, r0, rfl, ⟨e0, b0⟩, c1, r1, rfl, h1, c2, r2, rfl, h2, c3, r3, rfl, h3, h4⟩ := h
  have e0 : c0 = _ := (List.cons.inj e0).1
  subst e0
  have hl : ∃ c4, r3 = [c4] := by obtain ⟨p, cap, e, _⟩ := h4; exact ⟨_, e⟩
  obtain ⟨c4, rfl⟩ := hl
  exact ⟨c1, c2, c3, c4, rfl, b0, h1, h2, h3, h4⟩

theorem projR_shut {S : Nat → Prop} {w : World} {x0 : Int} {x1 : List (ActT)} {x2 : List (LinkT)} {x3 : List (ResT)} {x4 : List (Int)} {c1 : Value} {c2 : Value} {c3 : Value} {c4 : Value} (b0 : I64 x0) (h1 : actsR S w [c1] x1) (h2 : linksR S w [c2] x2) (h3 : ressR S w [c3] x3) (h4 : intsR S w [c4] x4) : projR S w [.int .i64 x0, c1, c2, c3, c4] (x0, x1, x2, x3, x4) :=
  ⟨_, _, rfl, ⟨rfl, b0⟩, ⟨_, _, rfl, h1, ⟨_, _, rfl, h2, ⟨_, _, rfl, h3, h4⟩⟩⟩⟩

theorem sliceR_open {α : Type} {n : Nat} {R : RepT α} {S : Nat → Prop} {w : World} {v : Value} {xs : List α} (h : sliceR n R S w [v] xs) : ∃ p cap, v = .slice p xs.length cap ∧ xs.length ≤ cap ∧ cap ≤ maxLen ∧
    ∀ i (h : i < xs.length), ∃ b off ecs, p = some ⟨b, off, none⟩ ∧ S b ∧ ecs.length = n ∧ RowAt w b (off + i * n) ecs ∧ R S w ecs xs[i] := by
  obtain ⟨p, cap, e, r⟩ := h
  exact ⟨p, cap, by simpa using e, r⟩
end Go.Proofs.Ytjeeajgijdcdbaa
