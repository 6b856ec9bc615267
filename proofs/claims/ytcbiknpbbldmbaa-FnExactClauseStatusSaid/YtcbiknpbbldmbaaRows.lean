/-
  No cell of these rows narrows 'for every input' (looked for: loops, veiled, ifaces, maps, wideKeys, modest, calm, conditions, laid).
  DERIVED. THE GIVEN ROWS OF THIS SEAT. 12 by the template 'for every input the law returns true; each argument reads behind the call as it read before'; 0 by the template 'total and deterministic' (their statements: YtcbiknpbbldmbaaTotals.lean).
  GIVEN WITH THE SEED: the statements are not yours to turn. If you find one false, say at which input.
  Laid BY PROGRAM, IN A SANDBOX (cutbox-rows.mjs): the forced cells as the released guide's own fill.sh prints them over the translation 9042cded7e0524fd… (all of the seat's roots in one cut). By AI agents, Wed Nov 11 2026. No macro, syntax, notation, axiom, sorry.
-/
import Derived.Test.YtcbiknpbbldmbaaChecked
import GoSem.Claim
import GoSem.ClaimJoined
import GoSem.ClaimMapViews
import Derived.JoinedTies
import Derived.KernelRfl
namespace Go.Proofs.Ytcbiknpbbldmbaa
/- THE CELL 'sum', in the pinned program and in every row, IS THE sha256 OF THE DUMP (.gsa) THAT YtcbiknpbbldmbaaProg.lean LOADS. Nothing in Lean hashes anything: it is a label: what it is worth is what the hold of that sum in a sandbox is worth. -/
noncomputable def Try.pinned : Pinned := { name := "ytcbiknpbbldmbaa", sum := "9042cded7e0524fd805d78ff47d7cc93a3989205bd7a44011599fea55eaa8e90", checked := Try.checked }
namespace Rows
def none {H : Type} : Left H := { results := [], args := [] }

/-- 'laws.FnExactLiteralHolds': WHATEVER THE INPUT: true; the input reads as it did. -/
def fnExactLiteralHoldsSpec : ChangeSpec := { name := "fnExactLiteralHolds", fn := fun _ => fun
  | [d1, d2] => { results := [.lit (.bool true)], args := [d1, d2] }
  | _ => none }
def fnExactLiteralHoldsRow : OpenClaim := { program := "ytcbiknpbbldmbaa", sum := "9042cded7e0524fd805d78ff47d7cc93a3989205bd7a44011599fea55eaa8e90", func := "loop.example/g00806/laws.FnExactLiteralHolds", spec := "fnExactLiteralHolds", apart := false }
def FnExactLiteralHoldsSaid : Prop := fnExactLiteralHoldsRow.holds Try.pinned (OpenSpec.ofChange fnExactLiteralHoldsSpec)

/-- ITS FALSE NEIGHBOUR: 'it returns false'. Refute it at one input. -/
def fnExactLiteralHoldsWrong : ChangeSpec := { name := "fnExactLiteralHolds", fn := fun _ => fun
  | [d1, d2] => { results := [.lit (.bool false)], args := [d1, d2] }
  | _ => none }
def FnExactLiteralHoldsWrongFalsely : Prop := fnExactLiteralHoldsRow.holds Try.pinned (OpenSpec.ofChange fnExactLiteralHoldsWrong)

/-- 'laws.FnExactWithoutLiteral': WHATEVER THE INPUT: true; the input reads as it did. -/
def fnExactWithoutLiteralSpec : ChangeSpec := { name := "fnExactWithoutLiteral", fn := fun _ => fun
  | [d1, d2] => { results := [.lit (.bool true)], args := [d1, d2] }
  | _ => none }
def fnExactWithoutLiteralRow : OpenClaim := { program := "ytcbiknpbbldmbaa", sum := "9042cded7e0524fd805d78ff47d7cc93a3989205bd7a44011599fea55eaa8e90", func := "loop.example/g00806/laws.FnExactWithoutLiteral", spec := "fnExactWithoutLiteral", apart := false }
def FnExactWithoutLiteralSaid : Prop := fnExactWithoutLiteralRow.holds Try.pinned (OpenSpec.ofChange fnExactWithoutLiteralSpec)

/-- ITS FALSE NEIGHBOUR: 'it returns false'. Refute it at one input. -/
def fnExactWithoutLiteralWrong : ChangeSpec := { name := "fnExactWithoutLiteral", fn := fun _ => fun
  | [d1, d2] => { results := [.lit (.bool false)], args := [d1, d2] }
  | _ => none }
def FnExactWithoutLiteralWrongFalsely : Prop := fnExactWithoutLiteralRow.holds Try.pinned (OpenSpec.ofChange fnExactWithoutLiteralWrong)

/-- 'laws.FnExactDomainEmpty': WHATEVER THE INPUT: true; the input reads as it did. -/
def fnExactDomainEmptySpec : ChangeSpec := { name := "fnExactDomainEmpty", fn := fun _ => fun
  | [d] => { results := [.lit (.bool true)], args := [d] }
  | _ => none }
def fnExactDomainEmptyRow : OpenClaim := { program := "ytcbiknpbbldmbaa", sum := "9042cded7e0524fd805d78ff47d7cc93a3989205bd7a44011599fea55eaa8e90", func := "loop.example/g00806/laws.FnExactDomainEmpty", spec := "fnExactDomainEmpty", unfollowed := true, recurses := true, apart := false }
def FnExactDomainEmptySaid : Prop := fnExactDomainEmptyRow.holds Try.pinned (OpenSpec.ofChange fnExactDomainEmptySpec)

/-- ITS FALSE NEIGHBOUR: 'it returns false'. Refute it at one input. -/
def fnExactDomainEmptyWrong : ChangeSpec := { name := "fnExactDomainEmpty", fn := fun _ => fun
  | [d] => { results := [.lit (.bool false)], args := [d] }
  | _ => none }
def FnExactDomainEmptyWrongFalsely : Prop := fnExactDomainEmptyRow.holds Try.pinned (OpenSpec.ofChange fnExactDomainEmptyWrong)

/-- 'laws.FnExactDomainSize': WHATEVER THE INPUT: true; the input reads as it did. -/
def fnExactDomainSizeSpec : ChangeSpec := { name := "fnExactDomainSize", fn := fun _ => fun
  | [d] => { results := [.lit (.bool true)], args := [d] }
  | _ => none }
def fnExactDomainSizeRow : OpenClaim := { program := "ytcbiknpbbldmbaa", sum := "9042cded7e0524fd805d78ff47d7cc93a3989205bd7a44011599fea55eaa8e90", func := "loop.example/g00806/laws.FnExactDomainSize", spec := "fnExactDomainSize", apart := false }
def FnExactDomainSizeSaid : Prop := fnExactDomainSizeRow.holds Try.pinned (OpenSpec.ofChange fnExactDomainSizeSpec)

/-- ITS FALSE NEIGHBOUR: 'it returns false'. Refute it at one input. -/
def fnExactDomainSizeWrong : ChangeSpec := { name := "fnExactDomainSize", fn := fun _ => fun
  | [d] => { results := [.lit (.bool false)], args := [d] }
  | _ => none }
def FnExactDomainSizeWrongFalsely : Prop := fnExactDomainSizeRow.holds Try.pinned (OpenSpec.ofChange fnExactDomainSizeWrong)

/-- 'laws.FnExactDomainEqual': WHATEVER THE INPUT: true; the input reads as it did. -/
def fnExactDomainEqualSpec : ChangeSpec := { name := "fnExactDomainEqual", fn := fun _ => fun
  | [d1, d2] => { results := [.lit (.bool true)], args := [d1, d2] }
  | _ => none }
def fnExactDomainEqualRow : OpenClaim := { program := "ytcbiknpbbldmbaa", sum := "9042cded7e0524fd805d78ff47d7cc93a3989205bd7a44011599fea55eaa8e90", func := "loop.example/g00806/laws.FnExactDomainEqual", spec := "fnExactDomainEqual", unfollowed := true, recurses := true, apart := false }
def FnExactDomainEqualSaid : Prop := fnExactDomainEqualRow.holds Try.pinned (OpenSpec.ofChange fnExactDomainEqualSpec)

/-- ITS FALSE NEIGHBOUR: 'it returns false'. Refute it at one input. -/
def fnExactDomainEqualWrong : ChangeSpec := { name := "fnExactDomainEqual", fn := fun _ => fun
  | [d1, d2] => { results := [.lit (.bool false)], args := [d1, d2] }
  | _ => none }
def FnExactDomainEqualWrongFalsely : Prop := fnExactDomainEqualRow.holds Try.pinned (OpenSpec.ofChange fnExactDomainEqualWrong)

/-- 'laws.FnExactClauseHolds': WHATEVER THE INPUT: true; the input reads as it did. -/
def fnExactClauseHoldsSpec : ChangeSpec := { name := "fnExactClauseHolds", fn := fun _ => fun
  | [d1, d2] => { results := [.lit (.bool true)], args := [d1, d2] }
  | _ => none }
def fnExactClauseHoldsRow : OpenClaim := { program := "ytcbiknpbbldmbaa", sum := "9042cded7e0524fd805d78ff47d7cc93a3989205bd7a44011599fea55eaa8e90", func := "loop.example/g00806/laws.FnExactClauseHolds", spec := "fnExactClauseHolds", unfollowed := true, recurses := true, apart := false }
def FnExactClauseHoldsSaid : Prop := fnExactClauseHoldsRow.holds Try.pinned (OpenSpec.ofChange fnExactClauseHoldsSpec)

/-- ITS FALSE NEIGHBOUR: 'it returns false'. Refute it at one input. -/
def fnExactClauseHoldsWrong : ChangeSpec := { name := "fnExactClauseHolds", fn := fun _ => fun
  | [d1, d2] => { results := [.lit (.bool false)], args := [d1, d2] }
  | _ => none }
def FnExactClauseHoldsWrongFalsely : Prop := fnExactClauseHoldsRow.holds Try.pinned (OpenSpec.ofChange fnExactClauseHoldsWrong)

/-- 'laws.FnExactDomainSubset': WHATEVER THE INPUT: true; the input reads as it did. -/
def fnExactDomainSubsetSpec : ChangeSpec := { name := "fnExactDomainSubset", fn := fun _ => fun
  | [d1, d2] => { results := [.lit (.bool true)], args := [d1, d2] }
  | _ => none }
def fnExactDomainSubsetRow : OpenClaim := { program := "ytcbiknpbbldmbaa", sum := "9042cded7e0524fd805d78ff47d7cc93a3989205bd7a44011599fea55eaa8e90", func := "loop.example/g00806/laws.FnExactDomainSubset", spec := "fnExactDomainSubset", apart := false }
def FnExactDomainSubsetSaid : Prop := fnExactDomainSubsetRow.holds Try.pinned (OpenSpec.ofChange fnExactDomainSubsetSpec)

/-- ITS FALSE NEIGHBOUR: 'it returns false'. Refute it at one input. -/
def fnExactDomainSubsetWrong : ChangeSpec := { name := "fnExactDomainSubset", fn := fun _ => fun
  | [d1, d2] => { results := [.lit (.bool false)], args := [d1, d2] }
  | _ => none }
def FnExactDomainSubsetWrongFalsely : Prop := fnExactDomainSubsetRow.holds Try.pinned (OpenSpec.ofChange fnExactDomainSubsetWrong)

/-- 'laws.FnExactSingletonDomain': WHATEVER THE INPUT: true; the input reads as it did. -/
def fnExactSingletonDomainSpec : ChangeSpec := { name := "fnExactSingletonDomain", fn := fun _ => fun
  | [d] => { results := [.lit (.bool true)], args := [d] }
  | _ => none }
def fnExactSingletonDomainRow : OpenClaim := { program := "ytcbiknpbbldmbaa", sum := "9042cded7e0524fd805d78ff47d7cc93a3989205bd7a44011599fea55eaa8e90", func := "loop.example/g00806/laws.FnExactSingletonDomain", spec := "fnExactSingletonDomain", apart := false }
def FnExactSingletonDomainSaid : Prop := fnExactSingletonDomainRow.holds Try.pinned (OpenSpec.ofChange fnExactSingletonDomainSpec)

/-- ITS FALSE NEIGHBOUR: 'it returns false'. Refute it at one input. -/
def fnExactSingletonDomainWrong : ChangeSpec := { name := "fnExactSingletonDomain", fn := fun _ => fun
  | [d] => { results := [.lit (.bool false)], args := [d] }
  | _ => none }
def FnExactSingletonDomainWrongFalsely : Prop := fnExactSingletonDomainRow.holds Try.pinned (OpenSpec.ofChange fnExactSingletonDomainWrong)

/-- 'laws.FnExactContains': WHATEVER THE INPUT: true; the input reads as it did. -/
def fnExactContainsSpec : ChangeSpec := { name := "fnExactContains", fn := fun _ => fun
  | [d1, d2] => { results := [.lit (.bool true)], args := [d1, d2] }
  | _ => none }
def fnExactContainsRow : OpenClaim := { program := "ytcbiknpbbldmbaa", sum := "9042cded7e0524fd805d78ff47d7cc93a3989205bd7a44011599fea55eaa8e90", func := "loop.example/g00806/laws.FnExactContains", spec := "fnExactContains", apart := false }
def FnExactContainsSaid : Prop := fnExactContainsRow.holds Try.pinned (OpenSpec.ofChange fnExactContainsSpec)

/-- ITS FALSE NEIGHBOUR: 'it returns false'. Refute it at one input. -/
def fnExactContainsWrong : ChangeSpec := { name := "fnExactContains", fn := fun _ => fun
  | [d1, d2] => { results := [.lit (.bool false)], args := [d1, d2] }
  | _ => none }
def FnExactContainsWrongFalsely : Prop := fnExactContainsRow.holds Try.pinned (OpenSpec.ofChange fnExactContainsWrong)

/-- 'laws.FnExactLiteralValue': WHATEVER THE INPUT: true; the input reads as it did. -/
def fnExactLiteralValueSpec : ChangeSpec := { name := "fnExactLiteralValue", fn := fun _ => fun
  | [d1, d2] => { results := [.lit (.bool true)], args := [d1, d2] }
  | _ => none }
def fnExactLiteralValueRow : OpenClaim := { program := "ytcbiknpbbldmbaa", sum := "9042cded7e0524fd805d78ff47d7cc93a3989205bd7a44011599fea55eaa8e90", func := "loop.example/g00806/laws.FnExactLiteralValue", spec := "fnExactLiteralValue", apart := false }
def FnExactLiteralValueSaid : Prop := fnExactLiteralValueRow.holds Try.pinned (OpenSpec.ofChange fnExactLiteralValueSpec)

/-- ITS FALSE NEIGHBOUR: 'it returns false'. Refute it at one input. -/
def fnExactLiteralValueWrong : ChangeSpec := { name := "fnExactLiteralValue", fn := fun _ => fun
  | [d1, d2] => { results := [.lit (.bool false)], args := [d1, d2] }
  | _ => none }
def FnExactLiteralValueWrongFalsely : Prop := fnExactLiteralValueRow.holds Try.pinned (OpenSpec.ofChange fnExactLiteralValueWrong)

/-- 'laws.FnExactClauseStatus': WHATEVER THE INPUT: true; the input reads as it did. -/
def fnExactClauseStatusSpec : ChangeSpec := { name := "fnExactClauseStatus", fn := fun _ => fun
  | [d1, d2] => { results := [.lit (.bool true)], args := [d1, d2] }
  | _ => none }
def fnExactClauseStatusRow : OpenClaim := { program := "ytcbiknpbbldmbaa", sum := "9042cded7e0524fd805d78ff47d7cc93a3989205bd7a44011599fea55eaa8e90", func := "loop.example/g00806/laws.FnExactClauseStatus", spec := "fnExactClauseStatus", apart := false }
def FnExactClauseStatusSaid : Prop := fnExactClauseStatusRow.holds Try.pinned (OpenSpec.ofChange fnExactClauseStatusSpec)

/-- ITS FALSE NEIGHBOUR: 'it returns false'. Refute it at one input. -/
def fnExactClauseStatusWrong : ChangeSpec := { name := "fnExactClauseStatus", fn := fun _ => fun
  | [d1, d2] => { results := [.lit (.bool false)], args := [d1, d2] }
  | _ => none }
def FnExactClauseStatusWrongFalsely : Prop := fnExactClauseStatusRow.holds Try.pinned (OpenSpec.ofChange fnExactClauseStatusWrong)

/-- 'laws.FnLits': WHATEVER THE INPUT: true; the input reads as it did. -/
def fnLitsSpec : ChangeSpec := { name := "fnLits", fn := fun _ => fun
  | [d] => { results := [.lit (.bool true)], args := [d] }
  | _ => none }
def fnLitsRow : OpenClaim := { program := "ytcbiknpbbldmbaa", sum := "9042cded7e0524fd805d78ff47d7cc93a3989205bd7a44011599fea55eaa8e90", func := "loop.example/g00806/laws.FnLits", spec := "fnLits", unfollowed := true, recurses := true, apart := false }
def FnLitsSaid : Prop := fnLitsRow.holds Try.pinned (OpenSpec.ofChange fnLitsSpec)

/-- ITS FALSE NEIGHBOUR: 'it returns false'. Refute it at one input. -/
def fnLitsWrong : ChangeSpec := { name := "fnLits", fn := fun _ => fun
  | [d] => { results := [.lit (.bool false)], args := [d] }
  | _ => none }
def FnLitsWrongFalsely : Prop := fnLitsRow.holds Try.pinned (OpenSpec.ofChange fnLitsWrong)

/- THE SECOND FORM. 'bulk': how many values and letters a reading holds, each counted each time it is reached (what is shared counts as often as it is met; a slice's spare places count too). A statement '..UptoSaid' is the law's where the arguments, and the package variables that the reading takes, are together of bulk at most 1048576: NARROWER than '..Said'. Prove '..Said' where nothing that the law and all that it calls make is longer than what came in: it says more and counts as full. Else prove '..UptoSaid'. A law counts once. -/
mutual
def uptoBulk {H : Type} : DataW H → Nat
  | .lit (.string bytes) => bytes.length + 1
  | .lit _ => 1
  | .nil => 1
  | .ptr d => uptoBulk d + 1
  | .slice elems spare => uptoBulkAll elems + uptoBulkAll spare + 1
  | .agg parts => uptoBulkAll parts + 1
  | .iface _ d => uptoBulk d + 1
  | .map entries => uptoBulkEntries entries + 1
  | .held _ => 1
def uptoBulkAll {H : Type} : List (DataW H) → Nat
  | [] => 0
  | d :: r => uptoBulk d + uptoBulkAll r
def uptoBulkEntries {H : Type} : List (Lit × DataW H) → Nat
  | [] => 0
  | x :: r => uptoBulkEntry x + uptoBulkEntries r
def uptoBulkEntry {H : Type} : Lit × DataW H → Nat
  | (.string bytes, d) => bytes.length + uptoBulk d + 1
  | (_, d) => uptoBulk d + 1
 end
def uptoSmall : (H : Type) → List (DataW H) → Bool := fun _ ds => decide (uptoBulkAll ds ≤ 1048576)
def OpenSpec.upto (s : _root_.Go.ChangeSpec) : _root_.Go.OpenSpec := { _root_.Go.OpenSpec.ofChange s with cond := some uptoSmall }

/-- 'laws.FnExactLiteralHolds', WHERE WHAT IT READS IS OF BULK AT MOST 1048576: true; the input reads as it did. -/
def fnExactLiteralHoldsUptoRow : OpenClaim := { program := "ytcbiknpbbldmbaa", sum := "9042cded7e0524fd805d78ff47d7cc93a3989205bd7a44011599fea55eaa8e90", func := "loop.example/g00806/laws.FnExactLiteralHolds", spec := "fnExactLiteralHolds", apart := false, narrowed := true }
def FnExactLiteralHoldsUptoSaid : Prop := fnExactLiteralHoldsUptoRow.holds Try.pinned (OpenSpec.upto fnExactLiteralHoldsSpec)

/-- 'laws.FnExactWithoutLiteral', WHERE WHAT IT READS IS OF BULK AT MOST 1048576: true; the input reads as it did. -/
def fnExactWithoutLiteralUptoRow : OpenClaim := { program := "ytcbiknpbbldmbaa", sum := "9042cded7e0524fd805d78ff47d7cc93a3989205bd7a44011599fea55eaa8e90", func := "loop.example/g00806/laws.FnExactWithoutLiteral", spec := "fnExactWithoutLiteral", apart := false, narrowed := true }
def FnExactWithoutLiteralUptoSaid : Prop := fnExactWithoutLiteralUptoRow.holds Try.pinned (OpenSpec.upto fnExactWithoutLiteralSpec)

/-- 'laws.FnExactDomainEmpty', WHERE WHAT IT READS IS OF BULK AT MOST 1048576: true; the input reads as it did. -/
def fnExactDomainEmptyUptoRow : OpenClaim := { program := "ytcbiknpbbldmbaa", sum := "9042cded7e0524fd805d78ff47d7cc93a3989205bd7a44011599fea55eaa8e90", func := "loop.example/g00806/laws.FnExactDomainEmpty", spec := "fnExactDomainEmpty", unfollowed := true, recurses := true, apart := false, narrowed := true }
def FnExactDomainEmptyUptoSaid : Prop := fnExactDomainEmptyUptoRow.holds Try.pinned (OpenSpec.upto fnExactDomainEmptySpec)

/-- 'laws.FnExactDomainSize', WHERE WHAT IT READS IS OF BULK AT MOST 1048576: true; the input reads as it did. -/
def fnExactDomainSizeUptoRow : OpenClaim := { program := "ytcbiknpbbldmbaa", sum := "9042cded7e0524fd805d78ff47d7cc93a3989205bd7a44011599fea55eaa8e90", func := "loop.example/g00806/laws.FnExactDomainSize", spec := "fnExactDomainSize", apart := false, narrowed := true }
def FnExactDomainSizeUptoSaid : Prop := fnExactDomainSizeUptoRow.holds Try.pinned (OpenSpec.upto fnExactDomainSizeSpec)

/-- 'laws.FnExactDomainEqual', WHERE WHAT IT READS IS OF BULK AT MOST 1048576: true; the input reads as it did. -/
def fnExactDomainEqualUptoRow : OpenClaim := { program := "ytcbiknpbbldmbaa", sum := "9042cded7e0524fd805d78ff47d7cc93a3989205bd7a44011599fea55eaa8e90", func := "loop.example/g00806/laws.FnExactDomainEqual", spec := "fnExactDomainEqual", unfollowed := true, recurses := true, apart := false, narrowed := true }
def FnExactDomainEqualUptoSaid : Prop := fnExactDomainEqualUptoRow.holds Try.pinned (OpenSpec.upto fnExactDomainEqualSpec)

/-- 'laws.FnExactClauseHolds', WHERE WHAT IT READS IS OF BULK AT MOST 1048576: true; the input reads as it did. -/
def fnExactClauseHoldsUptoRow : OpenClaim := { program := "ytcbiknpbbldmbaa", sum := "9042cded7e0524fd805d78ff47d7cc93a3989205bd7a44011599fea55eaa8e90", func := "loop.example/g00806/laws.FnExactClauseHolds", spec := "fnExactClauseHolds", unfollowed := true, recurses := true, apart := false, narrowed := true }
def FnExactClauseHoldsUptoSaid : Prop := fnExactClauseHoldsUptoRow.holds Try.pinned (OpenSpec.upto fnExactClauseHoldsSpec)

/-- 'laws.FnExactDomainSubset', WHERE WHAT IT READS IS OF BULK AT MOST 1048576: true; the input reads as it did. -/
def fnExactDomainSubsetUptoRow : OpenClaim := { program := "ytcbiknpbbldmbaa", sum := "9042cded7e0524fd805d78ff47d7cc93a3989205bd7a44011599fea55eaa8e90", func := "loop.example/g00806/laws.FnExactDomainSubset", spec := "fnExactDomainSubset", apart := false, narrowed := true }
def FnExactDomainSubsetUptoSaid : Prop := fnExactDomainSubsetUptoRow.holds Try.pinned (OpenSpec.upto fnExactDomainSubsetSpec)

/-- 'laws.FnExactSingletonDomain', WHERE WHAT IT READS IS OF BULK AT MOST 1048576: true; the input reads as it did. -/
def fnExactSingletonDomainUptoRow : OpenClaim := { program := "ytcbiknpbbldmbaa", sum := "9042cded7e0524fd805d78ff47d7cc93a3989205bd7a44011599fea55eaa8e90", func := "loop.example/g00806/laws.FnExactSingletonDomain", spec := "fnExactSingletonDomain", apart := false, narrowed := true }
def FnExactSingletonDomainUptoSaid : Prop := fnExactSingletonDomainUptoRow.holds Try.pinned (OpenSpec.upto fnExactSingletonDomainSpec)

/-- 'laws.FnExactContains', WHERE WHAT IT READS IS OF BULK AT MOST 1048576: true; the input reads as it did. -/
def fnExactContainsUptoRow : OpenClaim := { program := "ytcbiknpbbldmbaa", sum := "9042cded7e0524fd805d78ff47d7cc93a3989205bd7a44011599fea55eaa8e90", func := "loop.example/g00806/laws.FnExactContains", spec := "fnExactContains", apart := false, narrowed := true }
def FnExactContainsUptoSaid : Prop := fnExactContainsUptoRow.holds Try.pinned (OpenSpec.upto fnExactContainsSpec)

/-- 'laws.FnExactLiteralValue', WHERE WHAT IT READS IS OF BULK AT MOST 1048576: true; the input reads as it did. -/
def fnExactLiteralValueUptoRow : OpenClaim := { program := "ytcbiknpbbldmbaa", sum := "9042cded7e0524fd805d78ff47d7cc93a3989205bd7a44011599fea55eaa8e90", func := "loop.example/g00806/laws.FnExactLiteralValue", spec := "fnExactLiteralValue", apart := false, narrowed := true }
def FnExactLiteralValueUptoSaid : Prop := fnExactLiteralValueUptoRow.holds Try.pinned (OpenSpec.upto fnExactLiteralValueSpec)

/-- 'laws.FnExactClauseStatus', WHERE WHAT IT READS IS OF BULK AT MOST 1048576: true; the input reads as it did. -/
def fnExactClauseStatusUptoRow : OpenClaim := { program := "ytcbiknpbbldmbaa", sum := "9042cded7e0524fd805d78ff47d7cc93a3989205bd7a44011599fea55eaa8e90", func := "loop.example/g00806/laws.FnExactClauseStatus", spec := "fnExactClauseStatus", apart := false, narrowed := true }
def FnExactClauseStatusUptoSaid : Prop := fnExactClauseStatusUptoRow.holds Try.pinned (OpenSpec.upto fnExactClauseStatusSpec)

/-- 'laws.FnLits', WHERE WHAT IT READS IS OF BULK AT MOST 1048576: true; the input reads as it did. -/
def fnLitsUptoRow : OpenClaim := { program := "ytcbiknpbbldmbaa", sum := "9042cded7e0524fd805d78ff47d7cc93a3989205bd7a44011599fea55eaa8e90", func := "loop.example/g00806/laws.FnLits", spec := "fnLits", unfollowed := true, recurses := true, apart := false, narrowed := true }
def FnLitsUptoSaid : Prop := fnLitsUptoRow.holds Try.pinned (OpenSpec.upto fnLitsSpec)

end Rows
end Go.Proofs.Ytcbiknpbbldmbaa
