/-
  No cell of these rows narrows 'for every input' (looked for: loops, veiled, ifaces, maps, wideKeys, modest, calm, conditions, laid).
  DERIVED. THE GIVEN ROWS OF THIS SEAT. 6 by the template 'for every input the law returns true; each argument reads behind the call as it read before'; 0 by the template 'total and deterministic' (their statements: YtlepgmkdclbkjaaTotals.lean).
  GIVEN WITH THE SEED: the statements are not yours to turn. If you find one false, say at which input.
  Laid BY PROGRAM, IN A SANDBOX (cutbox-rows.mjs): the forced cells as the released guide's own fill.sh prints them over the translation 777f19f4b69b5a14… (all of the seat's roots in one cut). By AI agents, Wed Nov 11 2026. No macro, syntax, notation, axiom, sorry.
-/
import Derived.Test.YtlepgmkdclbkjaaChecked
import GoSem.Claim
import GoSem.ClaimJoined
import GoSem.ClaimMapViews
import Derived.JoinedTies
import Derived.KernelRfl
namespace Go.Proofs.Ytlepgmkdclbkjaa
/- THE CELL 'sum', in the pinned program and in every row, IS THE sha256 OF THE DUMP (.gsa) THAT YtlepgmkdclbkjaaProg.lean LOADS. Nothing in Lean hashes anything: it is a label: what it is worth is what the hold of that sum in a sandbox is worth. -/
noncomputable def Try.pinned : Pinned := { name := "ytlepgmkdclbkjaa", sum := "777f19f4b69b5a145f09aab21d4afe690423b9f9ede789bae8525e125eeb01ac", checked := Try.checked }
namespace Rows
def none {H : Type} : Left H := { results := [], args := [] }

/-- 'laws.FnExactRuleName': WHATEVER THE INPUT: true; the input reads as it did. -/
def fnExactRuleNameSpec : ChangeSpec := { name := "fnExactRuleName", fn := fun _ => fun
  | [d] => { results := [.lit (.bool true)], args := [d] }
  | _ => none }
def fnExactRuleNameRow : OpenClaim := { program := "ytlepgmkdclbkjaa", sum := "777f19f4b69b5a145f09aab21d4afe690423b9f9ede789bae8525e125eeb01ac", func := "loop.example/g00806/laws.FnExactRuleName", spec := "fnExactRuleName", apart := false }
def FnExactRuleNameSaid : Prop := fnExactRuleNameRow.holds Try.pinned (OpenSpec.ofChange fnExactRuleNameSpec)

/-- ITS FALSE NEIGHBOUR: 'it returns false'. Refute it at one input. -/
def fnExactRuleNameWrong : ChangeSpec := { name := "fnExactRuleName", fn := fun _ => fun
  | [d] => { results := [.lit (.bool false)], args := [d] }
  | _ => none }
def FnExactRuleNameWrongFalsely : Prop := fnExactRuleNameRow.holds Try.pinned (OpenSpec.ofChange fnExactRuleNameWrong)

/-- 'laws.FnExactLiteralSign': WHATEVER THE INPUT: true; the input reads as it did. -/
def fnExactLiteralSignSpec : ChangeSpec := { name := "fnExactLiteralSign", fn := fun _ => fun
  | [d] => { results := [.lit (.bool true)], args := [d] }
  | _ => none }
def fnExactLiteralSignRow : OpenClaim := { program := "ytlepgmkdclbkjaa", sum := "777f19f4b69b5a145f09aab21d4afe690423b9f9ede789bae8525e125eeb01ac", func := "loop.example/g00806/laws.FnExactLiteralSign", spec := "fnExactLiteralSign", apart := false }
def FnExactLiteralSignSaid : Prop := fnExactLiteralSignRow.holds Try.pinned (OpenSpec.ofChange fnExactLiteralSignSpec)

/-- ITS FALSE NEIGHBOUR: 'it returns false'. Refute it at one input. -/
def fnExactLiteralSignWrong : ChangeSpec := { name := "fnExactLiteralSign", fn := fun _ => fun
  | [d] => { results := [.lit (.bool false)], args := [d] }
  | _ => none }
def FnExactLiteralSignWrongFalsely : Prop := fnExactLiteralSignRow.holds Try.pinned (OpenSpec.ofChange fnExactLiteralSignWrong)

/-- 'laws.FnExactNegate': WHATEVER THE INPUT: true; the input reads as it did. -/
def fnExactNegateSpec : ChangeSpec := { name := "fnExactNegate", fn := fun _ => fun
  | [d] => { results := [.lit (.bool true)], args := [d] }
  | _ => none }
def fnExactNegateRow : OpenClaim := { program := "ytlepgmkdclbkjaa", sum := "777f19f4b69b5a145f09aab21d4afe690423b9f9ede789bae8525e125eeb01ac", func := "loop.example/g00806/laws.FnExactNegate", spec := "fnExactNegate", apart := false }
def FnExactNegateSaid : Prop := fnExactNegateRow.holds Try.pinned (OpenSpec.ofChange fnExactNegateSpec)

/-- ITS FALSE NEIGHBOUR: 'it returns false'. Refute it at one input. -/
def fnExactNegateWrong : ChangeSpec := { name := "fnExactNegate", fn := fun _ => fun
  | [d] => { results := [.lit (.bool false)], args := [d] }
  | _ => none }
def FnExactNegateWrongFalsely : Prop := fnExactNegateRow.holds Try.pinned (OpenSpec.ofChange fnExactNegateWrong)

/-- 'laws.FnExactCompareLiterals': WHATEVER THE INPUT: true; the input reads as it did. -/
def fnExactCompareLiteralsSpec : ChangeSpec := { name := "fnExactCompareLiterals", fn := fun _ => fun
  | [d1, d2] => { results := [.lit (.bool true)], args := [d1, d2] }
  | _ => none }
def fnExactCompareLiteralsRow : OpenClaim := { program := "ytlepgmkdclbkjaa", sum := "777f19f4b69b5a145f09aab21d4afe690423b9f9ede789bae8525e125eeb01ac", func := "loop.example/g00806/laws.FnExactCompareLiterals", spec := "fnExactCompareLiterals", apart := false }
def FnExactCompareLiteralsSaid : Prop := fnExactCompareLiteralsRow.holds Try.pinned (OpenSpec.ofChange fnExactCompareLiteralsSpec)

/-- ITS FALSE NEIGHBOUR: 'it returns false'. Refute it at one input. -/
def fnExactCompareLiteralsWrong : ChangeSpec := { name := "fnExactCompareLiterals", fn := fun _ => fun
  | [d1, d2] => { results := [.lit (.bool false)], args := [d1, d2] }
  | _ => none }
def FnExactCompareLiteralsWrongFalsely : Prop := fnExactCompareLiteralsRow.holds Try.pinned (OpenSpec.ofChange fnExactCompareLiteralsWrong)

/-- 'laws.FnExactClauseEqual': WHATEVER THE INPUT: true; the input reads as it did. -/
def fnExactClauseEqualSpec : ChangeSpec := { name := "fnExactClauseEqual", fn := fun _ => fun
  | [d1, d2] => { results := [.lit (.bool true)], args := [d1, d2] }
  | _ => none }
def fnExactClauseEqualRow : OpenClaim := { program := "ytlepgmkdclbkjaa", sum := "777f19f4b69b5a145f09aab21d4afe690423b9f9ede789bae8525e125eeb01ac", func := "loop.example/g00806/laws.FnExactClauseEqual", spec := "fnExactClauseEqual", apart := false }
def FnExactClauseEqualSaid : Prop := fnExactClauseEqualRow.holds Try.pinned (OpenSpec.ofChange fnExactClauseEqualSpec)

/-- ITS FALSE NEIGHBOUR: 'it returns false'. Refute it at one input. -/
def fnExactClauseEqualWrong : ChangeSpec := { name := "fnExactClauseEqual", fn := fun _ => fun
  | [d1, d2] => { results := [.lit (.bool false)], args := [d1, d2] }
  | _ => none }
def FnExactClauseEqualWrongFalsely : Prop := fnExactClauseEqualRow.holds Try.pinned (OpenSpec.ofChange fnExactClauseEqualWrong)

/-- 'laws.FnExactScheduleEqual': WHATEVER THE INPUT: true; the input reads as it did. -/
def fnExactScheduleEqualSpec : ChangeSpec := { name := "fnExactScheduleEqual", fn := fun _ => fun
  | [d1, d2] => { results := [.lit (.bool true)], args := [d1, d2] }
  | _ => none }
def fnExactScheduleEqualRow : OpenClaim := { program := "ytlepgmkdclbkjaa", sum := "777f19f4b69b5a145f09aab21d4afe690423b9f9ede789bae8525e125eeb01ac", func := "loop.example/g00806/laws.FnExactScheduleEqual", spec := "fnExactScheduleEqual", apart := false }
def FnExactScheduleEqualSaid : Prop := fnExactScheduleEqualRow.holds Try.pinned (OpenSpec.ofChange fnExactScheduleEqualSpec)

/-- ITS FALSE NEIGHBOUR: 'it returns false'. Refute it at one input. -/
def fnExactScheduleEqualWrong : ChangeSpec := { name := "fnExactScheduleEqual", fn := fun _ => fun
  | [d1, d2] => { results := [.lit (.bool false)], args := [d1, d2] }
  | _ => none }
def FnExactScheduleEqualWrongFalsely : Prop := fnExactScheduleEqualRow.holds Try.pinned (OpenSpec.ofChange fnExactScheduleEqualWrong)

/- THE SECOND FORM. 'bulk': how many values and letters a reading holds, each counted each time it is reached (what is shared counts as often as it is met; a slice's spare places count too). A statement '..UptoSaid' is the law's where the arguments, and the package variables that the reading takes, are together of bulk at most 1048576: NARROWER than '..Said'. Prove '..Said' where nothing that the law and all that it calls make is longer than what came in: it says more and counts as full. Else prove '..UptoSaid'. A law counts once. -/
mutual
def uptoBulk {H : Type} : DataW H → Nat
  | .lit (.string bytes) => bytes.length + 1
  | .lit _ => 1
  | .nil => 1
  | .ptr d => uptoBulk d + 1
  | .slice elems spare => uptoBulkAll elems + uptoBulkAll spare + 1
  | .agg parts => uptoBulkAll parts + 1
  | .iface _ d => uptoBulk d + 1
  | .map entries => uptoBulkEntries entries + 1
  | .held _ => 1
def uptoBulkAll {H : Type} : List (DataW H) → Nat
  | [] => 0
  | d :: r => uptoBulk d + uptoBulkAll r
def uptoBulkEntries {H : Type} : List (Lit × DataW H) → Nat
  | [] => 0
  | x :: r => uptoBulkEntry x + uptoBulkEntries r
def uptoBulkEntry {H : Type} : Lit × DataW H → Nat
  | (.string bytes, d) => bytes.length + uptoBulk d + 1
  | (_, d) => uptoBulk d + 1
 end
def uptoSmall : (H : Type) → List (DataW H) → Bool := fun _ ds => decide (uptoBulkAll ds ≤ 1048576)
def OpenSpec.upto (s : _root_.Go.ChangeSpec) : _root_.Go.OpenSpec := { _root_.Go.OpenSpec.ofChange s with cond := some uptoSmall }

/-- 'laws.FnExactRuleName', WHERE WHAT IT READS IS OF BULK AT MOST 1048576: true; the input reads as it did. -/
def fnExactRuleNameUptoRow : OpenClaim := { program := "ytlepgmkdclbkjaa", sum := "777f19f4b69b5a145f09aab21d4afe690423b9f9ede789bae8525e125eeb01ac", func := "loop.example/g00806/laws.FnExactRuleName", spec := "fnExactRuleName", apart := false, narrowed := true }
def FnExactRuleNameUptoSaid : Prop := fnExactRuleNameUptoRow.holds Try.pinned (OpenSpec.upto fnExactRuleNameSpec)

/-- 'laws.FnExactLiteralSign', WHERE WHAT IT READS IS OF BULK AT MOST 1048576: true; the input reads as it did. -/
def fnExactLiteralSignUptoRow : OpenClaim := { program := "ytlepgmkdclbkjaa", sum := "777f19f4b69b5a145f09aab21d4afe690423b9f9ede789bae8525e125eeb01ac", func := "loop.example/g00806/laws.FnExactLiteralSign", spec := "fnExactLiteralSign", apart := false, narrowed := true }
def FnExactLiteralSignUptoSaid : Prop := fnExactLiteralSignUptoRow.holds Try.pinned (OpenSpec.upto fnExactLiteralSignSpec)

/-- 'laws.FnExactNegate', WHERE WHAT IT READS IS OF BULK AT MOST 1048576: true; the input reads as it did. -/
def fnExactNegateUptoRow : OpenClaim := { program := "ytlepgmkdclbkjaa", sum := "777f19f4b69b5a145f09aab21d4afe690423b9f9ede789bae8525e125eeb01ac", func := "loop.example/g00806/laws.FnExactNegate", spec := "fnExactNegate", apart := false, narrowed := true }
def FnExactNegateUptoSaid : Prop := fnExactNegateUptoRow.holds Try.pinned (OpenSpec.upto fnExactNegateSpec)

/-- 'laws.FnExactCompareLiterals', WHERE WHAT IT READS IS OF BULK AT MOST 1048576: true; the input reads as it did. -/
def fnExactCompareLiteralsUptoRow : OpenClaim := { program := "ytlepgmkdclbkjaa", sum := "777f19f4b69b5a145f09aab21d4afe690423b9f9ede789bae8525e125eeb01ac", func := "loop.example/g00806/laws.FnExactCompareLiterals", spec := "fnExactCompareLiterals", apart := false, narrowed := true }
def FnExactCompareLiteralsUptoSaid : Prop := fnExactCompareLiteralsUptoRow.holds Try.pinned (OpenSpec.upto fnExactCompareLiteralsSpec)

/-- 'laws.FnExactClauseEqual', WHERE WHAT IT READS IS OF BULK AT MOST 1048576: true; the input reads as it did. -/
def fnExactClauseEqualUptoRow : OpenClaim := { program := "ytlepgmkdclbkjaa", sum := "777f19f4b69b5a145f09aab21d4afe690423b9f9ede789bae8525e125eeb01ac", func := "loop.example/g00806/laws.FnExactClauseEqual", spec := "fnExactClauseEqual", apart := false, narrowed := true }
def FnExactClauseEqualUptoSaid : Prop := fnExactClauseEqualUptoRow.holds Try.pinned (OpenSpec.upto fnExactClauseEqualSpec)

/-- 'laws.FnExactScheduleEqual', WHERE WHAT IT READS IS OF BULK AT MOST 1048576: true; the input reads as it did. -/
def fnExactScheduleEqualUptoRow : OpenClaim := { program := "ytlepgmkdclbkjaa", sum := "777f19f4b69b5a145f09aab21d4afe690423b9f9ede789bae8525e125eeb01ac", func := "loop.example/g00806/laws.FnExactScheduleEqual", spec := "fnExactScheduleEqual", apart := false, narrowed := true }
def FnExactScheduleEqualUptoSaid : Prop := fnExactScheduleEqualUptoRow.holds Try.pinned (OpenSpec.upto fnExactScheduleEqualSpec)

end Rows
end Go.Proofs.Ytlepgmkdclbkjaa
