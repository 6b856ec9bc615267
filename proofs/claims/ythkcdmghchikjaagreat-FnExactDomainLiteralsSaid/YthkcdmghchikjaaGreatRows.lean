/-
  No cell of these rows narrows 'for every input' (looked for: loops, veiled, ifaces, maps, wideKeys, modest, calm, conditions, laid).
  DERIVED. THE GIVEN ROWS OF THIS SEAT. 6 by the template 'for every input the law returns true; each argument reads behind the call as it read before'; 0 by the template 'total and deterministic' (their statements: YthkcdmghchikjaaGreatTotals.lean).
  GIVEN WITH THE SEED: the statements are not yours to turn. If you find one false, say at which input.
  Laid BY PROGRAM, IN A SANDBOX (cutbox-rows.mjs): the forced cells as the released guide's own fill.sh prints them over the translation b24f40d786f0c6c2… (all of the seat's roots in one cut). By AI agents, Wed Nov 11 2026. No macro, syntax, notation, axiom, sorry.
-/
import Derived.Test.YthkcdmghchikjaaGreatChecked
import GoSem.Claim
import GoSem.ClaimJoined
import GoSem.ClaimMapViews
import Derived.JoinedTies
import Derived.KernelRfl
namespace Go.Proofs.YthkcdmghchikjaaGreat
/- THE CELL 'sum', in the pinned program and in every row, IS THE sha256 OF THE DUMP (.gsa) THAT YthkcdmghchikjaaGreatProg.lean LOADS. Nothing in Lean hashes anything: it is a label: what it is worth is what the hold of that sum in a sandbox is worth. -/
noncomputable def Tryz.pinned : Pinned := { name := "ythkcdmghchikjaagreat", sum := "b24f40d786f0c6c223ef7ef8e9473dd06749e83cb0602e3bd2bedb9d19cf8b22", checked := Tryz.checked }
namespace Rows
def none {H : Type} : Left H := { results := [], args := [] }

/-- 'laws.FnExactScheduleOk': WHATEVER THE INPUT: true; the input reads as it did. -/
def fnExactScheduleOkSpec : ChangeSpec := { name := "fnExactScheduleOk", fn := fun _ => fun
  | [d1, d2] => { results := [.lit (.bool true)], args := [d1, d2] }
  | _ => none }
def fnExactScheduleOkRow : OpenClaim := { program := "ythkcdmghchikjaagreat", sum := "b24f40d786f0c6c223ef7ef8e9473dd06749e83cb0602e3bd2bedb9d19cf8b22", func := "loop.example/g00806/laws.FnExactScheduleOk", spec := "fnExactScheduleOk", unfollowed := true, recurses := true, apart := false }
def FnExactScheduleOkSaid : Prop := fnExactScheduleOkRow.holds Tryz.pinned (OpenSpec.ofChange fnExactScheduleOkSpec)

/-- ITS FALSE NEIGHBOUR: 'it returns false'. Refute it at one input. -/
def fnExactScheduleOkWrong : ChangeSpec := { name := "fnExactScheduleOk", fn := fun _ => fun
  | [d1, d2] => { results := [.lit (.bool false)], args := [d1, d2] }
  | _ => none }
def FnExactScheduleOkWrongFalsely : Prop := fnExactScheduleOkRow.holds Tryz.pinned (OpenSpec.ofChange fnExactScheduleOkWrong)

/-- 'laws.FnExactViolatedRules': WHATEVER THE INPUT: true; the input reads as it did. -/
def fnExactViolatedRulesSpec : ChangeSpec := { name := "fnExactViolatedRules", fn := fun _ => fun
  | [d1, d2] => { results := [.lit (.bool true)], args := [d1, d2] }
  | _ => none }
def fnExactViolatedRulesRow : OpenClaim := { program := "ythkcdmghchikjaagreat", sum := "b24f40d786f0c6c223ef7ef8e9473dd06749e83cb0602e3bd2bedb9d19cf8b22", func := "loop.example/g00806/laws.FnExactViolatedRules", spec := "fnExactViolatedRules", unfollowed := true, recurses := true, apart := false }
def FnExactViolatedRulesSaid : Prop := fnExactViolatedRulesRow.holds Tryz.pinned (OpenSpec.ofChange fnExactViolatedRulesSpec)

/-- ITS FALSE NEIGHBOUR: 'it returns false'. Refute it at one input. -/
def fnExactViolatedRulesWrong : ChangeSpec := { name := "fnExactViolatedRules", fn := fun _ => fun
  | [d1, d2] => { results := [.lit (.bool false)], args := [d1, d2] }
  | _ => none }
def FnExactViolatedRulesWrongFalsely : Prop := fnExactViolatedRulesRow.holds Tryz.pinned (OpenSpec.ofChange fnExactViolatedRulesWrong)

/-- 'laws.FnExactDomainLiterals': WHATEVER THE INPUT: true; the input reads as it did. -/
def fnExactDomainLiteralsSpec : ChangeSpec := { name := "fnExactDomainLiterals", fn := fun _ => fun
  | [d1, d2] => { results := [.lit (.bool true)], args := [d1, d2] }
  | _ => none }
def fnExactDomainLiteralsRow : OpenClaim := { program := "ythkcdmghchikjaagreat", sum := "b24f40d786f0c6c223ef7ef8e9473dd06749e83cb0602e3bd2bedb9d19cf8b22", func := "loop.example/g00806/laws.FnExactDomainLiterals", spec := "fnExactDomainLiterals", unfollowed := true, recurses := true, apart := false }
def FnExactDomainLiteralsSaid : Prop := fnExactDomainLiteralsRow.holds Tryz.pinned (OpenSpec.ofChange fnExactDomainLiteralsSpec)

/-- ITS FALSE NEIGHBOUR: 'it returns false'. Refute it at one input. -/
def fnExactDomainLiteralsWrong : ChangeSpec := { name := "fnExactDomainLiterals", fn := fun _ => fun
  | [d1, d2] => { results := [.lit (.bool false)], args := [d1, d2] }
  | _ => none }
def FnExactDomainLiteralsWrongFalsely : Prop := fnExactDomainLiteralsRow.holds Tryz.pinned (OpenSpec.ofChange fnExactDomainLiteralsWrong)

/-- 'laws.FnExactSuccessors': WHATEVER THE INPUT: true; the input reads as it did. -/
def fnExactSuccessorsSpec : ChangeSpec := { name := "fnExactSuccessors", fn := fun _ => fun
  | [d1, d2] => { results := [.lit (.bool true)], args := [d1, d2] }
  | _ => none }
def fnExactSuccessorsRow : OpenClaim := { program := "ythkcdmghchikjaagreat", sum := "b24f40d786f0c6c223ef7ef8e9473dd06749e83cb0602e3bd2bedb9d19cf8b22", func := "loop.example/g00806/laws.FnExactSuccessors", spec := "fnExactSuccessors", unfollowed := true, recurses := true, apart := false }
def FnExactSuccessorsSaid : Prop := fnExactSuccessorsRow.holds Tryz.pinned (OpenSpec.ofChange fnExactSuccessorsSpec)

/-- ITS FALSE NEIGHBOUR: 'it returns false'. Refute it at one input. -/
def fnExactSuccessorsWrong : ChangeSpec := { name := "fnExactSuccessors", fn := fun _ => fun
  | [d1, d2] => { results := [.lit (.bool false)], args := [d1, d2] }
  | _ => none }
def FnExactSuccessorsWrongFalsely : Prop := fnExactSuccessorsRow.holds Tryz.pinned (OpenSpec.ofChange fnExactSuccessorsWrong)

/-- 'laws.FnExactPredecessors': WHATEVER THE INPUT: true; the input reads as it did. -/
def fnExactPredecessorsSpec : ChangeSpec := { name := "fnExactPredecessors", fn := fun _ => fun
  | [d1, d2] => { results := [.lit (.bool true)], args := [d1, d2] }
  | _ => none }
def fnExactPredecessorsRow : OpenClaim := { program := "ythkcdmghchikjaagreat", sum := "b24f40d786f0c6c223ef7ef8e9473dd06749e83cb0602e3bd2bedb9d19cf8b22", func := "loop.example/g00806/laws.FnExactPredecessors", spec := "fnExactPredecessors", unfollowed := true, recurses := true, apart := false }
def FnExactPredecessorsSaid : Prop := fnExactPredecessorsRow.holds Tryz.pinned (OpenSpec.ofChange fnExactPredecessorsSpec)

/-- ITS FALSE NEIGHBOUR: 'it returns false'. Refute it at one input. -/
def fnExactPredecessorsWrong : ChangeSpec := { name := "fnExactPredecessors", fn := fun _ => fun
  | [d1, d2] => { results := [.lit (.bool false)], args := [d1, d2] }
  | _ => none }
def FnExactPredecessorsWrongFalsely : Prop := fnExactPredecessorsRow.holds Tryz.pinned (OpenSpec.ofChange fnExactPredecessorsWrong)

/-- 'laws.FnExactRoots': WHATEVER THE INPUT: true; the input reads as it did. -/
def fnExactRootsSpec : ChangeSpec := { name := "fnExactRoots", fn := fun _ => fun
  | [d] => { results := [.lit (.bool true)], args := [d] }
  | _ => none }
def fnExactRootsRow : OpenClaim := { program := "ythkcdmghchikjaagreat", sum := "b24f40d786f0c6c223ef7ef8e9473dd06749e83cb0602e3bd2bedb9d19cf8b22", func := "loop.example/g00806/laws.FnExactRoots", spec := "fnExactRoots", unfollowed := true, recurses := true, apart := false }
def FnExactRootsSaid : Prop := fnExactRootsRow.holds Tryz.pinned (OpenSpec.ofChange fnExactRootsSpec)

/-- ITS FALSE NEIGHBOUR: 'it returns false'. Refute it at one input. -/
def fnExactRootsWrong : ChangeSpec := { name := "fnExactRoots", fn := fun _ => fun
  | [d] => { results := [.lit (.bool false)], args := [d] }
  | _ => none }
def FnExactRootsWrongFalsely : Prop := fnExactRootsRow.holds Tryz.pinned (OpenSpec.ofChange fnExactRootsWrong)

/- THE SECOND FORM. 'bulk': how many values and letters a reading holds, each counted each time it is reached (what is shared counts as often as it is met; a slice's spare places count too). A statement '..UptoSaid' is the law's where the arguments, and the package variables that the reading takes, are together of bulk at most 1048576: NARROWER than '..Said'. Prove '..Said' where nothing that the law and all that it calls make is longer than what came in: it says more and counts as full. Else prove '..UptoSaid'. A law counts once. -/
mutual
def uptoBulk {H : Type} : DataW H → Nat
  | .lit (.string bytes) => bytes.length + 1
  | .lit _ => 1
  | .nil => 1
  | .ptr d => uptoBulk d + 1
  | .slice elems spare => uptoBulkAll elems + uptoBulkAll spare + 1
  | .agg parts => uptoBulkAll parts + 1
  | .iface _ d => uptoBulk d + 1
  | .map entries => uptoBulkEntries entries + 1
  | .held _ => 1
def uptoBulkAll {H : Type} : List (DataW H) → Nat
  | [] => 0
  | d :: r => uptoBulk d + uptoBulkAll r
def uptoBulkEntries {H : Type} : List (Lit × DataW H) → Nat
  | [] => 0
  | x :: r => uptoBulkEntry x + uptoBulkEntries r
def uptoBulkEntry {H : Type} : Lit × DataW H → Nat
  | (.string bytes, d) => bytes.length + uptoBulk d + 1
  | (_, d) => uptoBulk d + 1
 end
def uptoSmall : (H : Type) → List (DataW H) → Bool := fun _ ds => decide (uptoBulkAll ds ≤ 1048576)
def OpenSpec.upto (s : _root_.Go.ChangeSpec) : _root_.Go.OpenSpec := { _root_.Go.OpenSpec.ofChange s with cond := some uptoSmall }

/-- 'laws.FnExactScheduleOk', WHERE WHAT IT READS IS OF BULK AT MOST 1048576: true; the input reads as it did. -/
def fnExactScheduleOkUptoRow : OpenClaim := { program := "ythkcdmghchikjaagreat", sum := "b24f40d786f0c6c223ef7ef8e9473dd06749e83cb0602e3bd2bedb9d19cf8b22", func := "loop.example/g00806/laws.FnExactScheduleOk", spec := "fnExactScheduleOk", unfollowed := true, recurses := true, apart := false, narrowed := true }
def FnExactScheduleOkUptoSaid : Prop := fnExactScheduleOkUptoRow.holds Tryz.pinned (OpenSpec.upto fnExactScheduleOkSpec)

/-- 'laws.FnExactViolatedRules', WHERE WHAT IT READS IS OF BULK AT MOST 1048576: true; the input reads as it did. -/
def fnExactViolatedRulesUptoRow : OpenClaim := { program := "ythkcdmghchikjaagreat", sum := "b24f40d786f0c6c223ef7ef8e9473dd06749e83cb0602e3bd2bedb9d19cf8b22", func := "loop.example/g00806/laws.FnExactViolatedRules", spec := "fnExactViolatedRules", unfollowed := true, recurses := true, apart := false, narrowed := true }
def FnExactViolatedRulesUptoSaid : Prop := fnExactViolatedRulesUptoRow.holds Tryz.pinned (OpenSpec.upto fnExactViolatedRulesSpec)

/-- 'laws.FnExactDomainLiterals', WHERE WHAT IT READS IS OF BULK AT MOST 1048576: true; the input reads as it did. -/
def fnExactDomainLiteralsUptoRow : OpenClaim := { program := "ythkcdmghchikjaagreat", sum := "b24f40d786f0c6c223ef7ef8e9473dd06749e83cb0602e3bd2bedb9d19cf8b22", func := "loop.example/g00806/laws.FnExactDomainLiterals", spec := "fnExactDomainLiterals", unfollowed := true, recurses := true, apart := false, narrowed := true }
def FnExactDomainLiteralsUptoSaid : Prop := fnExactDomainLiteralsUptoRow.holds Tryz.pinned (OpenSpec.upto fnExactDomainLiteralsSpec)

/-- 'laws.FnExactSuccessors', WHERE WHAT IT READS IS OF BULK AT MOST 1048576: true; the input reads as it did. -/
def fnExactSuccessorsUptoRow : OpenClaim := { program := "ythkcdmghchikjaagreat", sum := "b24f40d786f0c6c223ef7ef8e9473dd06749e83cb0602e3bd2bedb9d19cf8b22", func := "loop.example/g00806/laws.FnExactSuccessors", spec := "fnExactSuccessors", unfollowed := true, recurses := true, apart := false, narrowed := true }
def FnExactSuccessorsUptoSaid : Prop := fnExactSuccessorsUptoRow.holds Tryz.pinned (OpenSpec.upto fnExactSuccessorsSpec)

/-- 'laws.FnExactPredecessors', WHERE WHAT IT READS IS OF BULK AT MOST 1048576: true; the input reads as it did. -/
def fnExactPredecessorsUptoRow : OpenClaim := { program := "ythkcdmghchikjaagreat", sum := "b24f40d786f0c6c223ef7ef8e9473dd06749e83cb0602e3bd2bedb9d19cf8b22", func := "loop.example/g00806/laws.FnExactPredecessors", spec := "fnExactPredecessors", unfollowed := true, recurses := true, apart := false, narrowed := true }
def FnExactPredecessorsUptoSaid : Prop := fnExactPredecessorsUptoRow.holds Tryz.pinned (OpenSpec.upto fnExactPredecessorsSpec)

/-- 'laws.FnExactRoots', WHERE WHAT IT READS IS OF BULK AT MOST 1048576: true; the input reads as it did. -/
def fnExactRootsUptoRow : OpenClaim := { program := "ythkcdmghchikjaagreat", sum := "b24f40d786f0c6c223ef7ef8e9473dd06749e83cb0602e3bd2bedb9d19cf8b22", func := "loop.example/g00806/laws.FnExactRoots", spec := "fnExactRoots", unfollowed := true, recurses := true, apart := false, narrowed := true }
def FnExactRootsUptoSaid : Prop := fnExactRootsUptoRow.holds Tryz.pinned (OpenSpec.upto fnExactRootsSpec)

end Rows
end Go.Proofs.YthkcdmghchikjaaGreat
