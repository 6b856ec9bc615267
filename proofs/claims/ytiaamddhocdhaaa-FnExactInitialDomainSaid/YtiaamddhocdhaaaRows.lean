/-
  No cell of these rows narrows 'for every input' (looked for: loops, veiled, ifaces, maps, wideKeys, modest, calm, conditions, laid).
  DERIVED. THE GIVEN ROWS OF THIS SEAT. 7 by the template 'for every input the law returns true; each argument reads behind the call as it read before'; 0 by the template 'total and deterministic' (their statements: YtiaamddhocdhaaaTotals.lean).
  GIVEN WITH THE SEED: the statements are not yours to turn. If you find one false, say at which input.
  Laid BY PROGRAM, IN A SANDBOX (cutbox-rows.mjs): the forced cells as the released guide's own fill.sh prints them over the translation 71d267af0f8e1189… (all of the seat's roots in one cut). By AI agents, Wed Nov 11 2026. No macro, syntax, notation, axiom, sorry.
-/
import Derived.Test.YtiaamddhocdhaaaChecked
import GoSem.Claim
import GoSem.ClaimJoined
import GoSem.ClaimMapViews
import Derived.JoinedTies
import Derived.KernelRfl
namespace Go.Proofs.Ytiaamddhocdhaaa
/- THE CELL 'sum', in the pinned program and in every row, IS THE sha256 OF THE DUMP (.gsa) THAT YtiaamddhocdhaaaProg.lean LOADS. Nothing in Lean hashes anything: it is a label: what it is worth is what the hold of that sum in a sandbox is worth. -/
noncomputable def Try.pinned : Pinned := { name := "ytiaamddhocdhaaa", sum := "71d267af0f8e1189c02e8d4220f5b8998bdaf160a902e1759d12ab1fa1084af2", checked := Try.checked }
namespace Rows
def none {H : Type} : Left H := { results := [], args := [] }

/-- 'laws.FnExactIsReachable': WHATEVER THE INPUT: true; the input reads as it did. -/
def fnExactIsReachableSpec : ChangeSpec := { name := "fnExactIsReachable", fn := fun _ => fun
  | [d1, d2, d3] => { results := [.lit (.bool true)], args := [d1, d2, d3] }
  | _ => none }
def fnExactIsReachableRow : OpenClaim := { program := "ytiaamddhocdhaaa", sum := "71d267af0f8e1189c02e8d4220f5b8998bdaf160a902e1759d12ab1fa1084af2", func := "loop.example/g00806/laws.FnExactIsReachable", spec := "fnExactIsReachable", unfollowed := true, recurses := true, apart := false }
def FnExactIsReachableSaid : Prop := fnExactIsReachableRow.holds Try.pinned (OpenSpec.ofChange fnExactIsReachableSpec)

/-- ITS FALSE NEIGHBOUR: 'it returns false'. Refute it at one input. -/
def fnExactIsReachableWrong : ChangeSpec := { name := "fnExactIsReachable", fn := fun _ => fun
  | [d1, d2, d3] => { results := [.lit (.bool false)], args := [d1, d2, d3] }
  | _ => none }
def FnExactIsReachableWrongFalsely : Prop := fnExactIsReachableRow.holds Try.pinned (OpenSpec.ofChange fnExactIsReachableWrong)

/-- 'laws.FnLits': WHATEVER THE INPUT: true; the input reads as it did. -/
def fnLitsSpec : ChangeSpec := { name := "fnLits", fn := fun _ => fun
  | [d] => { results := [.lit (.bool true)], args := [d] }
  | _ => none }
def fnLitsRow : OpenClaim := { program := "ytiaamddhocdhaaa", sum := "71d267af0f8e1189c02e8d4220f5b8998bdaf160a902e1759d12ab1fa1084af2", func := "loop.example/g00806/laws.FnLits", spec := "fnLits", unfollowed := true, recurses := true, apart := false }
def FnLitsSaid : Prop := fnLitsRow.holds Try.pinned (OpenSpec.ofChange fnLitsSpec)

/-- ITS FALSE NEIGHBOUR: 'it returns false'. Refute it at one input. -/
def fnLitsWrong : ChangeSpec := { name := "fnLits", fn := fun _ => fun
  | [d] => { results := [.lit (.bool false)], args := [d] }
  | _ => none }
def FnLitsWrongFalsely : Prop := fnLitsRow.holds Try.pinned (OpenSpec.ofChange fnLitsWrong)

/-- 'laws.FnFaults': WHATEVER THE INPUT: true; the input reads as it did. -/
def fnFaultsSpec : ChangeSpec := { name := "fnFaults", fn := fun _ => fun
  | [d] => { results := [.lit (.bool true)], args := [d] }
  | _ => none }
def fnFaultsRow : OpenClaim := { program := "ytiaamddhocdhaaa", sum := "71d267af0f8e1189c02e8d4220f5b8998bdaf160a902e1759d12ab1fa1084af2", func := "loop.example/g00806/laws.FnFaults", spec := "fnFaults", unfollowed := true, recurses := true, apart := false }
def FnFaultsSaid : Prop := fnFaultsRow.holds Try.pinned (OpenSpec.ofChange fnFaultsSpec)

/-- ITS FALSE NEIGHBOUR: 'it returns false'. Refute it at one input. -/
def fnFaultsWrong : ChangeSpec := { name := "fnFaults", fn := fun _ => fun
  | [d] => { results := [.lit (.bool false)], args := [d] }
  | _ => none }
def FnFaultsWrongFalsely : Prop := fnFaultsRow.holds Try.pinned (OpenSpec.ofChange fnFaultsWrong)

/-- 'laws.FnRing': WHATEVER THE INPUT: true; the input reads as it did. -/
def fnRingSpec : ChangeSpec := { name := "fnRing", fn := fun _ => fun
  | [d] => { results := [.lit (.bool true)], args := [d] }
  | _ => none }
def fnRingRow : OpenClaim := { program := "ytiaamddhocdhaaa", sum := "71d267af0f8e1189c02e8d4220f5b8998bdaf160a902e1759d12ab1fa1084af2", func := "loop.example/g00806/laws.FnRing", spec := "fnRing", unfollowed := true, recurses := true, apart := false }
def FnRingSaid : Prop := fnRingRow.holds Try.pinned (OpenSpec.ofChange fnRingSpec)

/-- ITS FALSE NEIGHBOUR: 'it returns false'. Refute it at one input. -/
def fnRingWrong : ChangeSpec := { name := "fnRing", fn := fun _ => fun
  | [d] => { results := [.lit (.bool false)], args := [d] }
  | _ => none }
def FnRingWrongFalsely : Prop := fnRingRow.holds Try.pinned (OpenSpec.ofChange fnRingWrong)

/-- 'laws.FnOrder': WHATEVER THE INPUT: true; the input reads as it did. -/
def fnOrderSpec : ChangeSpec := { name := "fnOrder", fn := fun _ => fun
  | [d] => { results := [.lit (.bool true)], args := [d] }
  | _ => none }
def fnOrderRow : OpenClaim := { program := "ytiaamddhocdhaaa", sum := "71d267af0f8e1189c02e8d4220f5b8998bdaf160a902e1759d12ab1fa1084af2", func := "loop.example/g00806/laws.FnOrder", spec := "fnOrder", unfollowed := true, recurses := true, apart := false }
def FnOrderSaid : Prop := fnOrderRow.holds Try.pinned (OpenSpec.ofChange fnOrderSpec)

/-- ITS FALSE NEIGHBOUR: 'it returns false'. Refute it at one input. -/
def fnOrderWrong : ChangeSpec := { name := "fnOrder", fn := fun _ => fun
  | [d] => { results := [.lit (.bool false)], args := [d] }
  | _ => none }
def FnOrderWrongFalsely : Prop := fnOrderRow.holds Try.pinned (OpenSpec.ofChange fnOrderWrong)

/-- 'laws.FnExactInitialDomain': WHATEVER THE INPUT: true; the input reads as it did. -/
def fnExactInitialDomainSpec : ChangeSpec := { name := "fnExactInitialDomain", fn := fun _ => fun
  | [d] => { results := [.lit (.bool true)], args := [d] }
  | _ => none }
def fnExactInitialDomainRow : OpenClaim := { program := "ytiaamddhocdhaaa", sum := "71d267af0f8e1189c02e8d4220f5b8998bdaf160a902e1759d12ab1fa1084af2", func := "loop.example/g00806/laws.FnExactInitialDomain", spec := "fnExactInitialDomain", unfollowed := true, recurses := true, apart := false }
def FnExactInitialDomainSaid : Prop := fnExactInitialDomainRow.holds Try.pinned (OpenSpec.ofChange fnExactInitialDomainSpec)

/-- ITS FALSE NEIGHBOUR: 'it returns false'. Refute it at one input. -/
def fnExactInitialDomainWrong : ChangeSpec := { name := "fnExactInitialDomain", fn := fun _ => fun
  | [d] => { results := [.lit (.bool false)], args := [d] }
  | _ => none }
def FnExactInitialDomainWrongFalsely : Prop := fnExactInitialDomainRow.holds Try.pinned (OpenSpec.ofChange fnExactInitialDomainWrong)

/-- 'laws.FnExactSingletonDomain': WHATEVER THE INPUT: true; the input reads as it did. -/
def fnExactSingletonDomainSpec : ChangeSpec := { name := "fnExactSingletonDomain", fn := fun _ => fun
  | [d] => { results := [.lit (.bool true)], args := [d] }
  | _ => none }
def fnExactSingletonDomainRow : OpenClaim := { program := "ytiaamddhocdhaaa", sum := "71d267af0f8e1189c02e8d4220f5b8998bdaf160a902e1759d12ab1fa1084af2", func := "loop.example/g00806/laws.FnExactSingletonDomain", spec := "fnExactSingletonDomain", apart := false }
def FnExactSingletonDomainSaid : Prop := fnExactSingletonDomainRow.holds Try.pinned (OpenSpec.ofChange fnExactSingletonDomainSpec)

/-- ITS FALSE NEIGHBOUR: 'it returns false'. Refute it at one input. -/
def fnExactSingletonDomainWrong : ChangeSpec := { name := "fnExactSingletonDomain", fn := fun _ => fun
  | [d] => { results := [.lit (.bool false)], args := [d] }
  | _ => none }
def FnExactSingletonDomainWrongFalsely : Prop := fnExactSingletonDomainRow.holds Try.pinned (OpenSpec.ofChange fnExactSingletonDomainWrong)

/- THE SECOND FORM. 'bulk': how many values and letters a reading holds, each counted each time it is reached (what is shared counts as often as it is met; a slice's spare places count too). A statement '..UptoSaid' is the law's where the arguments, and the package variables that the reading takes, are together of bulk at most 1048576: NARROWER than '..Said'. Prove '..Said' where nothing that the law and all that it calls make is longer than what came in: it says more and counts as full. Else prove '..UptoSaid'. A law counts once. -/
mutual
def uptoBulk {H : Type} : DataW H → Nat
  | .lit (.string bytes) => bytes.length + 1
  | .lit _ => 1
  | .nil => 1
  | .ptr d => uptoBulk d + 1
  | .slice elems spare => uptoBulkAll elems + uptoBulkAll spare + 1
  | .agg parts => uptoBulkAll parts + 1
  | .iface _ d => uptoBulk d + 1
  | .map entries => uptoBulkEntries entries + 1
  | .held _ => 1
def uptoBulkAll {H : Type} : List (DataW H) → Nat
  | [] => 0
  | d :: r => uptoBulk d + uptoBulkAll r
def uptoBulkEntries {H : Type} : List (Lit × DataW H) → Nat
  | [] => 0
  | x :: r => uptoBulkEntry x + uptoBulkEntries r
def uptoBulkEntry {H : Type} : Lit × DataW H → Nat
  | (.string bytes, d) => bytes.length + uptoBulk d + 1
  | (_, d) => uptoBulk d + 1
 end
def uptoSmall : (H : Type) → List (DataW H) → Bool := fun _ ds => decide (uptoBulkAll ds ≤ 1048576)
def OpenSpec.upto (s : _root_.Go.ChangeSpec) : _root_.Go.OpenSpec := { _root_.Go.OpenSpec.ofChange s with cond := some uptoSmall }

/-- 'laws.FnExactIsReachable', WHERE WHAT IT READS IS OF BULK AT MOST 1048576: true; the input reads as it did. -/
def fnExactIsReachableUptoRow : OpenClaim := { program := "ytiaamddhocdhaaa", sum := "71d267af0f8e1189c02e8d4220f5b8998bdaf160a902e1759d12ab1fa1084af2", func := "loop.example/g00806/laws.FnExactIsReachable", spec := "fnExactIsReachable", unfollowed := true, recurses := true, apart := false, narrowed := true }
def FnExactIsReachableUptoSaid : Prop := fnExactIsReachableUptoRow.holds Try.pinned (OpenSpec.upto fnExactIsReachableSpec)

/-- 'laws.FnLits', WHERE WHAT IT READS IS OF BULK AT MOST 1048576: true; the input reads as it did. -/
def fnLitsUptoRow : OpenClaim := { program := "ytiaamddhocdhaaa", sum := "71d267af0f8e1189c02e8d4220f5b8998bdaf160a902e1759d12ab1fa1084af2", func := "loop.example/g00806/laws.FnLits", spec := "fnLits", unfollowed := true, recurses := true, apart := false, narrowed := true }
def FnLitsUptoSaid : Prop := fnLitsUptoRow.holds Try.pinned (OpenSpec.upto fnLitsSpec)

/-- 'laws.FnFaults', WHERE WHAT IT READS IS OF BULK AT MOST 1048576: true; the input reads as it did. -/
def fnFaultsUptoRow : OpenClaim := { program := "ytiaamddhocdhaaa", sum := "71d267af0f8e1189c02e8d4220f5b8998bdaf160a902e1759d12ab1fa1084af2", func := "loop.example/g00806/laws.FnFaults", spec := "fnFaults", unfollowed := true, recurses := true, apart := false, narrowed := true }
def FnFaultsUptoSaid : Prop := fnFaultsUptoRow.holds Try.pinned (OpenSpec.upto fnFaultsSpec)

/-- 'laws.FnRing', WHERE WHAT IT READS IS OF BULK AT MOST 1048576: true; the input reads as it did. -/
def fnRingUptoRow : OpenClaim := { program := "ytiaamddhocdhaaa", sum := "71d267af0f8e1189c02e8d4220f5b8998bdaf160a902e1759d12ab1fa1084af2", func := "loop.example/g00806/laws.FnRing", spec := "fnRing", unfollowed := true, recurses := true, apart := false, narrowed := true }
def FnRingUptoSaid : Prop := fnRingUptoRow.holds Try.pinned (OpenSpec.upto fnRingSpec)

/-- 'laws.FnOrder', WHERE WHAT IT READS IS OF BULK AT MOST 1048576: true; the input reads as it did. -/
def fnOrderUptoRow : OpenClaim := { program := "ytiaamddhocdhaaa", sum := "71d267af0f8e1189c02e8d4220f5b8998bdaf160a902e1759d12ab1fa1084af2", func := "loop.example/g00806/laws.FnOrder", spec := "fnOrder", unfollowed := true, recurses := true, apart := false, narrowed := true }
def FnOrderUptoSaid : Prop := fnOrderUptoRow.holds Try.pinned (OpenSpec.upto fnOrderSpec)

/-- 'laws.FnExactInitialDomain', WHERE WHAT IT READS IS OF BULK AT MOST 1048576: true; the input reads as it did. -/
def fnExactInitialDomainUptoRow : OpenClaim := { program := "ytiaamddhocdhaaa", sum := "71d267af0f8e1189c02e8d4220f5b8998bdaf160a902e1759d12ab1fa1084af2", func := "loop.example/g00806/laws.FnExactInitialDomain", spec := "fnExactInitialDomain", unfollowed := true, recurses := true, apart := false, narrowed := true }
def FnExactInitialDomainUptoSaid : Prop := fnExactInitialDomainUptoRow.holds Try.pinned (OpenSpec.upto fnExactInitialDomainSpec)

/-- 'laws.FnExactSingletonDomain', WHERE WHAT IT READS IS OF BULK AT MOST 1048576: true; the input reads as it did. -/
def fnExactSingletonDomainUptoRow : OpenClaim := { program := "ytiaamddhocdhaaa", sum := "71d267af0f8e1189c02e8d4220f5b8998bdaf160a902e1759d12ab1fa1084af2", func := "loop.example/g00806/laws.FnExactSingletonDomain", spec := "fnExactSingletonDomain", apart := false, narrowed := true }
def FnExactSingletonDomainUptoSaid : Prop := fnExactSingletonDomainUptoRow.holds Try.pinned (OpenSpec.upto fnExactSingletonDomainSpec)

end Rows
end Go.Proofs.Ytiaamddhocdhaaa
