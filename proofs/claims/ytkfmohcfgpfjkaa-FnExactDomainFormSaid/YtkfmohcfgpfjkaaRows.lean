/-
  No cell of these rows narrows 'for every input' (looked for: loops, veiled, ifaces, maps, wideKeys, modest, calm, conditions, laid).
  DERIVED. THE GIVEN ROWS OF THIS SEAT. 10 by the template 'for every input the law returns true; each argument reads behind the call as it read before'; 0 by the template 'total and deterministic' (their statements: YtkfmohcfgpfjkaaTotals.lean).
  GIVEN WITH THE SEED: the statements are not yours to turn. If you find one false, say at which input.
  Laid BY PROGRAM, IN A SANDBOX (cutbox-rows.mjs): the forced cells as the released guide's own fill.sh prints them over the translation 6f092eaf92573f8a… (all of the seat's roots in one cut). By AI agents, Wed Nov 11 2026. No macro, syntax, notation, axiom, sorry.
-/
import Derived.Test.YtkfmohcfgpfjkaaChecked
import GoSem.Claim
import GoSem.ClaimJoined
import GoSem.ClaimMapViews
import Derived.JoinedTies
import Derived.KernelRfl
namespace Go.Proofs.Ytkfmohcfgpfjkaa
/- THE CELL 'sum', in the pinned program and in every row, IS THE sha256 OF THE DUMP (.gsa) THAT YtkfmohcfgpfjkaaProg.lean LOADS. Nothing in Lean hashes anything: it is a label: what it is worth is what the hold of that sum in a sandbox is worth. -/
noncomputable def Try.pinned : Pinned := { name := "ytkfmohcfgpfjkaa", sum := "6f092eaf92573f8a6de7670e7c4c9c6de0e6935708b1ccb39416931c27d75474", checked := Try.checked }
namespace Rows
def none {H : Type} : Left H := { results := [], args := [] }

/-- 'laws.FnExactLiteralOk': WHATEVER THE INPUT: true; the input reads as it did. -/
def fnExactLiteralOkSpec : ChangeSpec := { name := "fnExactLiteralOk", fn := fun _ => fun
  | [d1, d2] => { results := [.lit (.bool true)], args := [d1, d2] }
  | _ => none }
def fnExactLiteralOkRow : OpenClaim := { program := "ytkfmohcfgpfjkaa", sum := "6f092eaf92573f8a6de7670e7c4c9c6de0e6935708b1ccb39416931c27d75474", func := "loop.example/g00806/laws.FnExactLiteralOk", spec := "fnExactLiteralOk", unfollowed := true, recurses := true, apart := false }
def FnExactLiteralOkSaid : Prop := fnExactLiteralOkRow.holds Try.pinned (OpenSpec.ofChange fnExactLiteralOkSpec)

/-- ITS FALSE NEIGHBOUR: 'it returns false'. Refute it at one input. -/
def fnExactLiteralOkWrong : ChangeSpec := { name := "fnExactLiteralOk", fn := fun _ => fun
  | [d1, d2] => { results := [.lit (.bool false)], args := [d1, d2] }
  | _ => none }
def FnExactLiteralOkWrongFalsely : Prop := fnExactLiteralOkRow.holds Try.pinned (OpenSpec.ofChange fnExactLiteralOkWrong)

/-- 'laws.FnExactScheduleForm': WHATEVER THE INPUT: true; the input reads as it did. -/
def fnExactScheduleFormSpec : ChangeSpec := { name := "fnExactScheduleForm", fn := fun _ => fun
  | [d1, d2] => { results := [.lit (.bool true)], args := [d1, d2] }
  | _ => none }
def fnExactScheduleFormRow : OpenClaim := { program := "ytkfmohcfgpfjkaa", sum := "6f092eaf92573f8a6de7670e7c4c9c6de0e6935708b1ccb39416931c27d75474", func := "loop.example/g00806/laws.FnExactScheduleForm", spec := "fnExactScheduleForm", unfollowed := true, recurses := true, apart := false }
def FnExactScheduleFormSaid : Prop := fnExactScheduleFormRow.holds Try.pinned (OpenSpec.ofChange fnExactScheduleFormSpec)

/-- ITS FALSE NEIGHBOUR: 'it returns false'. Refute it at one input. -/
def fnExactScheduleFormWrong : ChangeSpec := { name := "fnExactScheduleForm", fn := fun _ => fun
  | [d1, d2] => { results := [.lit (.bool false)], args := [d1, d2] }
  | _ => none }
def FnExactScheduleFormWrongFalsely : Prop := fnExactScheduleFormRow.holds Try.pinned (OpenSpec.ofChange fnExactScheduleFormWrong)

/-- 'laws.FnExactRuleOk': WHATEVER THE INPUT: true; the input reads as it did. -/
def fnExactRuleOkSpec : ChangeSpec := { name := "fnExactRuleOk", fn := fun _ => fun
  | [d1, d2] => { results := [.lit (.bool true)], args := [d1, d2] }
  | _ => none }
def fnExactRuleOkRow : OpenClaim := { program := "ytkfmohcfgpfjkaa", sum := "6f092eaf92573f8a6de7670e7c4c9c6de0e6935708b1ccb39416931c27d75474", func := "loop.example/g00806/laws.FnExactRuleOk", spec := "fnExactRuleOk", unfollowed := true, recurses := true, apart := false }
def FnExactRuleOkSaid : Prop := fnExactRuleOkRow.holds Try.pinned (OpenSpec.ofChange fnExactRuleOkSpec)

/-- ITS FALSE NEIGHBOUR: 'it returns false'. Refute it at one input. -/
def fnExactRuleOkWrong : ChangeSpec := { name := "fnExactRuleOk", fn := fun _ => fun
  | [d1, d2] => { results := [.lit (.bool false)], args := [d1, d2] }
  | _ => none }
def FnExactRuleOkWrongFalsely : Prop := fnExactRuleOkRow.holds Try.pinned (OpenSpec.ofChange fnExactRuleOkWrong)

/-- 'laws.FnExactEndTime': WHATEVER THE INPUT: true; the input reads as it did. -/
def fnExactEndTimeSpec : ChangeSpec := { name := "fnExactEndTime", fn := fun _ => fun
  | [d1, d2, d3] => { results := [.lit (.bool true)], args := [d1, d2, d3] }
  | _ => none }
def fnExactEndTimeRow : OpenClaim := { program := "ytkfmohcfgpfjkaa", sum := "6f092eaf92573f8a6de7670e7c4c9c6de0e6935708b1ccb39416931c27d75474", func := "loop.example/g00806/laws.FnExactEndTime", spec := "fnExactEndTime", unfollowed := true, recurses := true, apart := false }
def FnExactEndTimeSaid : Prop := fnExactEndTimeRow.holds Try.pinned (OpenSpec.ofChange fnExactEndTimeSpec)

/-- ITS FALSE NEIGHBOUR: 'it returns false'. Refute it at one input. -/
def fnExactEndTimeWrong : ChangeSpec := { name := "fnExactEndTime", fn := fun _ => fun
  | [d1, d2, d3] => { results := [.lit (.bool false)], args := [d1, d2, d3] }
  | _ => none }
def FnExactEndTimeWrongFalsely : Prop := fnExactEndTimeRow.holds Try.pinned (OpenSpec.ofChange fnExactEndTimeWrong)

/-- 'laws.FnExactConsumptionOf': WHATEVER THE INPUT: true; the input reads as it did. -/
def fnExactConsumptionOfSpec : ChangeSpec := { name := "fnExactConsumptionOf", fn := fun _ => fun
  | [d1, d2, d3] => { results := [.lit (.bool true)], args := [d1, d2, d3] }
  | _ => none }
def fnExactConsumptionOfRow : OpenClaim := { program := "ytkfmohcfgpfjkaa", sum := "6f092eaf92573f8a6de7670e7c4c9c6de0e6935708b1ccb39416931c27d75474", func := "loop.example/g00806/laws.FnExactConsumptionOf", spec := "fnExactConsumptionOf", unfollowed := true, recurses := true, apart := false }
def FnExactConsumptionOfSaid : Prop := fnExactConsumptionOfRow.holds Try.pinned (OpenSpec.ofChange fnExactConsumptionOfSpec)

/-- ITS FALSE NEIGHBOUR: 'it returns false'. Refute it at one input. -/
def fnExactConsumptionOfWrong : ChangeSpec := { name := "fnExactConsumptionOf", fn := fun _ => fun
  | [d1, d2, d3] => { results := [.lit (.bool false)], args := [d1, d2, d3] }
  | _ => none }
def FnExactConsumptionOfWrongFalsely : Prop := fnExactConsumptionOfRow.holds Try.pinned (OpenSpec.ofChange fnExactConsumptionOfWrong)

/-- 'laws.FnExactLinkGap': WHATEVER THE INPUT: true; the input reads as it did. -/
def fnExactLinkGapSpec : ChangeSpec := { name := "fnExactLinkGap", fn := fun _ => fun
  | [d1, d2, d3] => { results := [.lit (.bool true)], args := [d1, d2, d3] }
  | _ => none }
def fnExactLinkGapRow : OpenClaim := { program := "ytkfmohcfgpfjkaa", sum := "6f092eaf92573f8a6de7670e7c4c9c6de0e6935708b1ccb39416931c27d75474", func := "loop.example/g00806/laws.FnExactLinkGap", spec := "fnExactLinkGap", unfollowed := true, recurses := true, apart := false }
def FnExactLinkGapSaid : Prop := fnExactLinkGapRow.holds Try.pinned (OpenSpec.ofChange fnExactLinkGapSpec)

/-- ITS FALSE NEIGHBOUR: 'it returns false'. Refute it at one input. -/
def fnExactLinkGapWrong : ChangeSpec := { name := "fnExactLinkGap", fn := fun _ => fun
  | [d1, d2, d3] => { results := [.lit (.bool false)], args := [d1, d2, d3] }
  | _ => none }
def FnExactLinkGapWrongFalsely : Prop := fnExactLinkGapRow.holds Try.pinned (OpenSpec.ofChange fnExactLinkGapWrong)

/-- 'laws.FnExactMakespan': WHATEVER THE INPUT: true; the input reads as it did. -/
def fnExactMakespanSpec : ChangeSpec := { name := "fnExactMakespan", fn := fun _ => fun
  | [d1, d2] => { results := [.lit (.bool true)], args := [d1, d2] }
  | _ => none }
def fnExactMakespanRow : OpenClaim := { program := "ytkfmohcfgpfjkaa", sum := "6f092eaf92573f8a6de7670e7c4c9c6de0e6935708b1ccb39416931c27d75474", func := "loop.example/g00806/laws.FnExactMakespan", spec := "fnExactMakespan", unfollowed := true, recurses := true, apart := false }
def FnExactMakespanSaid : Prop := fnExactMakespanRow.holds Try.pinned (OpenSpec.ofChange fnExactMakespanSpec)

/-- ITS FALSE NEIGHBOUR: 'it returns false'. Refute it at one input. -/
def fnExactMakespanWrong : ChangeSpec := { name := "fnExactMakespan", fn := fun _ => fun
  | [d1, d2] => { results := [.lit (.bool false)], args := [d1, d2] }
  | _ => none }
def FnExactMakespanWrongFalsely : Prop := fnExactMakespanRow.holds Try.pinned (OpenSpec.ofChange fnExactMakespanWrong)

/-- 'laws.FnExactUsageAt': WHATEVER THE INPUT: true; the input reads as it did. -/
def fnExactUsageAtSpec : ChangeSpec := { name := "fnExactUsageAt", fn := fun _ => fun
  | [d1, d2, d3, d4] => { results := [.lit (.bool true)], args := [d1, d2, d3, d4] }
  | _ => none }
def fnExactUsageAtRow : OpenClaim := { program := "ytkfmohcfgpfjkaa", sum := "6f092eaf92573f8a6de7670e7c4c9c6de0e6935708b1ccb39416931c27d75474", func := "loop.example/g00806/laws.FnExactUsageAt", spec := "fnExactUsageAt", unfollowed := true, recurses := true, apart := false }
def FnExactUsageAtSaid : Prop := fnExactUsageAtRow.holds Try.pinned (OpenSpec.ofChange fnExactUsageAtSpec)

/-- ITS FALSE NEIGHBOUR: 'it returns false'. Refute it at one input. -/
def fnExactUsageAtWrong : ChangeSpec := { name := "fnExactUsageAt", fn := fun _ => fun
  | [d1, d2, d3, d4] => { results := [.lit (.bool false)], args := [d1, d2, d3, d4] }
  | _ => none }
def FnExactUsageAtWrongFalsely : Prop := fnExactUsageAtRow.holds Try.pinned (OpenSpec.ofChange fnExactUsageAtWrong)

/-- 'laws.FnExactDomainForm': WHATEVER THE INPUT: true; the input reads as it did. -/
def fnExactDomainFormSpec : ChangeSpec := { name := "fnExactDomainForm", fn := fun _ => fun
  | [d1, d2] => { results := [.lit (.bool true)], args := [d1, d2] }
  | _ => none }
def fnExactDomainFormRow : OpenClaim := { program := "ytkfmohcfgpfjkaa", sum := "6f092eaf92573f8a6de7670e7c4c9c6de0e6935708b1ccb39416931c27d75474", func := "loop.example/g00806/laws.FnExactDomainForm", spec := "fnExactDomainForm", unfollowed := true, recurses := true, apart := false }
def FnExactDomainFormSaid : Prop := fnExactDomainFormRow.holds Try.pinned (OpenSpec.ofChange fnExactDomainFormSpec)

/-- ITS FALSE NEIGHBOUR: 'it returns false'. Refute it at one input. -/
def fnExactDomainFormWrong : ChangeSpec := { name := "fnExactDomainForm", fn := fun _ => fun
  | [d1, d2] => { results := [.lit (.bool false)], args := [d1, d2] }
  | _ => none }
def FnExactDomainFormWrongFalsely : Prop := fnExactDomainFormRow.holds Try.pinned (OpenSpec.ofChange fnExactDomainFormWrong)

/-- 'laws.FnExactIdleCapacity': WHATEVER THE INPUT: true; the input reads as it did. -/
def fnExactIdleCapacitySpec : ChangeSpec := { name := "fnExactIdleCapacity", fn := fun _ => fun
  | [d1, d2, d3] => { results := [.lit (.bool true)], args := [d1, d2, d3] }
  | _ => none }
def fnExactIdleCapacityRow : OpenClaim := { program := "ytkfmohcfgpfjkaa", sum := "6f092eaf92573f8a6de7670e7c4c9c6de0e6935708b1ccb39416931c27d75474", func := "loop.example/g00806/laws.FnExactIdleCapacity", spec := "fnExactIdleCapacity", unfollowed := true, recurses := true, apart := false }
def FnExactIdleCapacitySaid : Prop := fnExactIdleCapacityRow.holds Try.pinned (OpenSpec.ofChange fnExactIdleCapacitySpec)

/-- ITS FALSE NEIGHBOUR: 'it returns false'. Refute it at one input. -/
def fnExactIdleCapacityWrong : ChangeSpec := { name := "fnExactIdleCapacity", fn := fun _ => fun
  | [d1, d2, d3] => { results := [.lit (.bool false)], args := [d1, d2, d3] }
  | _ => none }
def FnExactIdleCapacityWrongFalsely : Prop := fnExactIdleCapacityRow.holds Try.pinned (OpenSpec.ofChange fnExactIdleCapacityWrong)

/- THE SECOND FORM. 'bulk': how many values and letters a reading holds, each counted each time it is reached (what is shared counts as often as it is met; a slice's spare places count too). A statement '..UptoSaid' is the law's where the arguments, and the package variables that the reading takes, are together of bulk at most 1048576: NARROWER than '..Said'. Prove '..Said' where nothing that the law and all that it calls make is longer than what came in: it says more and counts as full. Else prove '..UptoSaid'. A law counts once. -/
mutual
def uptoBulk {H : Type} : DataW H → Nat
  | .lit (.string bytes) => bytes.length + 1
  | .lit _ => 1
  | .nil => 1
  | .ptr d => uptoBulk d + 1
  | .slice elems spare => uptoBulkAll elems + uptoBulkAll spare + 1
  | .agg parts => uptoBulkAll parts + 1
  | .iface _ d => uptoBulk d + 1
  | .map entries => uptoBulkEntries entries + 1
  | .held _ => 1
def uptoBulkAll {H : Type} : List (DataW H) → Nat
  | [] => 0
  | d :: r => uptoBulk d + uptoBulkAll r
def uptoBulkEntries {H : Type} : List (Lit × DataW H) → Nat
  | [] => 0
  | x :: r => uptoBulkEntry x + uptoBulkEntries r
def uptoBulkEntry {H : Type} : Lit × DataW H → Nat
  | (.string bytes, d) => bytes.length + uptoBulk d + 1
  | (_, d) => uptoBulk d + 1
 end
def uptoSmall : (H : Type) → List (DataW H) → Bool := fun _ ds => decide (uptoBulkAll ds ≤ 1048576)
def OpenSpec.upto (s : _root_.Go.ChangeSpec) : _root_.Go.OpenSpec := { _root_.Go.OpenSpec.ofChange s with cond := some uptoSmall }

/-- 'laws.FnExactLiteralOk', WHERE WHAT IT READS IS OF BULK AT MOST 1048576: true; the input reads as it did. -/
def fnExactLiteralOkUptoRow : OpenClaim := { program := "ytkfmohcfgpfjkaa", sum := "6f092eaf92573f8a6de7670e7c4c9c6de0e6935708b1ccb39416931c27d75474", func := "loop.example/g00806/laws.FnExactLiteralOk", spec := "fnExactLiteralOk", unfollowed := true, recurses := true, apart := false, narrowed := true }
def FnExactLiteralOkUptoSaid : Prop := fnExactLiteralOkUptoRow.holds Try.pinned (OpenSpec.upto fnExactLiteralOkSpec)

/-- 'laws.FnExactScheduleForm', WHERE WHAT IT READS IS OF BULK AT MOST 1048576: true; the input reads as it did. -/
def fnExactScheduleFormUptoRow : OpenClaim := { program := "ytkfmohcfgpfjkaa", sum := "6f092eaf92573f8a6de7670e7c4c9c6de0e6935708b1ccb39416931c27d75474", func := "loop.example/g00806/laws.FnExactScheduleForm", spec := "fnExactScheduleForm", unfollowed := true, recurses := true, apart := false, narrowed := true }
def FnExactScheduleFormUptoSaid : Prop := fnExactScheduleFormUptoRow.holds Try.pinned (OpenSpec.upto fnExactScheduleFormSpec)

/-- 'laws.FnExactRuleOk', WHERE WHAT IT READS IS OF BULK AT MOST 1048576: true; the input reads as it did. -/
def fnExactRuleOkUptoRow : OpenClaim := { program := "ytkfmohcfgpfjkaa", sum := "6f092eaf92573f8a6de7670e7c4c9c6de0e6935708b1ccb39416931c27d75474", func := "loop.example/g00806/laws.FnExactRuleOk", spec := "fnExactRuleOk", unfollowed := true, recurses := true, apart := false, narrowed := true }
def FnExactRuleOkUptoSaid : Prop := fnExactRuleOkUptoRow.holds Try.pinned (OpenSpec.upto fnExactRuleOkSpec)

/-- 'laws.FnExactEndTime', WHERE WHAT IT READS IS OF BULK AT MOST 1048576: true; the input reads as it did. -/
def fnExactEndTimeUptoRow : OpenClaim := { program := "ytkfmohcfgpfjkaa", sum := "6f092eaf92573f8a6de7670e7c4c9c6de0e6935708b1ccb39416931c27d75474", func := "loop.example/g00806/laws.FnExactEndTime", spec := "fnExactEndTime", unfollowed := true, recurses := true, apart := false, narrowed := true }
def FnExactEndTimeUptoSaid : Prop := fnExactEndTimeUptoRow.holds Try.pinned (OpenSpec.upto fnExactEndTimeSpec)

/-- 'laws.FnExactConsumptionOf', WHERE WHAT IT READS IS OF BULK AT MOST 1048576: true; the input reads as it did. -/
def fnExactConsumptionOfUptoRow : OpenClaim := { program := "ytkfmohcfgpfjkaa", sum := "6f092eaf92573f8a6de7670e7c4c9c6de0e6935708b1ccb39416931c27d75474", func := "loop.example/g00806/laws.FnExactConsumptionOf", spec := "fnExactConsumptionOf", unfollowed := true, recurses := true, apart := false, narrowed := true }
def FnExactConsumptionOfUptoSaid : Prop := fnExactConsumptionOfUptoRow.holds Try.pinned (OpenSpec.upto fnExactConsumptionOfSpec)

/-- 'laws.FnExactLinkGap', WHERE WHAT IT READS IS OF BULK AT MOST 1048576: true; the input reads as it did. -/
def fnExactLinkGapUptoRow : OpenClaim := { program := "ytkfmohcfgpfjkaa", sum := "6f092eaf92573f8a6de7670e7c4c9c6de0e6935708b1ccb39416931c27d75474", func := "loop.example/g00806/laws.FnExactLinkGap", spec := "fnExactLinkGap", unfollowed := true, recurses := true, apart := false, narrowed := true }
def FnExactLinkGapUptoSaid : Prop := fnExactLinkGapUptoRow.holds Try.pinned (OpenSpec.upto fnExactLinkGapSpec)

/-- 'laws.FnExactMakespan', WHERE WHAT IT READS IS OF BULK AT MOST 1048576: true; the input reads as it did. -/
def fnExactMakespanUptoRow : OpenClaim := { program := "ytkfmohcfgpfjkaa", sum := "6f092eaf92573f8a6de7670e7c4c9c6de0e6935708b1ccb39416931c27d75474", func := "loop.example/g00806/laws.FnExactMakespan", spec := "fnExactMakespan", unfollowed := true, recurses := true, apart := false, narrowed := true }
def FnExactMakespanUptoSaid : Prop := fnExactMakespanUptoRow.holds Try.pinned (OpenSpec.upto fnExactMakespanSpec)

/-- 'laws.FnExactUsageAt', WHERE WHAT IT READS IS OF BULK AT MOST 1048576: true; the input reads as it did. -/
def fnExactUsageAtUptoRow : OpenClaim := { program := "ytkfmohcfgpfjkaa", sum := "6f092eaf92573f8a6de7670e7c4c9c6de0e6935708b1ccb39416931c27d75474", func := "loop.example/g00806/laws.FnExactUsageAt", spec := "fnExactUsageAt", unfollowed := true, recurses := true, apart := false, narrowed := true }
def FnExactUsageAtUptoSaid : Prop := fnExactUsageAtUptoRow.holds Try.pinned (OpenSpec.upto fnExactUsageAtSpec)

/-- 'laws.FnExactDomainForm', WHERE WHAT IT READS IS OF BULK AT MOST 1048576: true; the input reads as it did. -/
def fnExactDomainFormUptoRow : OpenClaim := { program := "ytkfmohcfgpfjkaa", sum := "6f092eaf92573f8a6de7670e7c4c9c6de0e6935708b1ccb39416931c27d75474", func := "loop.example/g00806/laws.FnExactDomainForm", spec := "fnExactDomainForm", unfollowed := true, recurses := true, apart := false, narrowed := true }
def FnExactDomainFormUptoSaid : Prop := fnExactDomainFormUptoRow.holds Try.pinned (OpenSpec.upto fnExactDomainFormSpec)

/-- 'laws.FnExactIdleCapacity', WHERE WHAT IT READS IS OF BULK AT MOST 1048576: true; the input reads as it did. -/
def fnExactIdleCapacityUptoRow : OpenClaim := { program := "ytkfmohcfgpfjkaa", sum := "6f092eaf92573f8a6de7670e7c4c9c6de0e6935708b1ccb39416931c27d75474", func := "loop.example/g00806/laws.FnExactIdleCapacity", spec := "fnExactIdleCapacity", unfollowed := true, recurses := true, apart := false, narrowed := true }
def FnExactIdleCapacityUptoSaid : Prop := fnExactIdleCapacityUptoRow.holds Try.pinned (OpenSpec.upto fnExactIdleCapacitySpec)

end Rows
end Go.Proofs.Ytkfmohcfgpfjkaa
