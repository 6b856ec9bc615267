/-
  No cell of these rows narrows 'for every input' (looked for: loops, veiled, ifaces, maps, wideKeys, modest, calm, conditions, laid).
  DERIVED. THE GIVEN ROWS OF THIS SEAT. 8 by the template 'for every input the law returns true; each argument reads behind the call as it read before'; 0 by the template 'total and deterministic' (their statements: YtclmffknggmlnaaTotals.lean).
  GIVEN WITH THE SEED: the statements are not yours to turn. If you find one false, say at which input.
  Laid BY PROGRAM, IN A SANDBOX (cutbox-rows.mjs): the forced cells as the released guide's own fill.sh prints them over the translation 935a9bea3df21864… (all of the seat's roots in one cut). By AI agents, Wed Nov 11 2026. No macro, syntax, notation, axiom, sorry.
-/
import Derived.Test.YtclmffknggmlnaaChecked
import GoSem.Claim
import GoSem.ClaimJoined
import GoSem.ClaimMapViews
import Derived.JoinedTies
import Derived.KernelRfl
namespace Go.Proofs.Ytclmffknggmlnaa
/- THE CELL 'sum', in the pinned program and in every row, IS THE sha256 OF THE DUMP (.gsa) THAT YtclmffknggmlnaaProg.lean LOADS. Nothing in Lean hashes anything: it is a label: what it is worth is what the hold of that sum in a sandbox is worth. -/
noncomputable def Try.pinned : Pinned := { name := "ytclmffknggmlnaa", sum := "935a9bea3df2186477458844165407aa752341b267d412e3ed58fe618e31c8de", checked := Try.checked }
namespace Rows
def none {H : Type} : Left H := { results := [], args := [] }

/-- 'laws.FnExactRunningAt': WHATEVER THE INPUT: true; the input reads as it did. -/
def fnExactRunningAtSpec : ChangeSpec := { name := "fnExactRunningAt", fn := fun _ => fun
  | [d1, d2, d3] => { results := [.lit (.bool true)], args := [d1, d2, d3] }
  | _ => none }
def fnExactRunningAtRow : OpenClaim := { program := "ytclmffknggmlnaa", sum := "935a9bea3df2186477458844165407aa752341b267d412e3ed58fe618e31c8de", func := "loop.example/g00806/laws.FnExactRunningAt", spec := "fnExactRunningAt", unfollowed := true, recurses := true, apart := false }
def FnExactRunningAtSaid : Prop := fnExactRunningAtRow.holds Try.pinned (OpenSpec.ofChange fnExactRunningAtSpec)

/-- ITS FALSE NEIGHBOUR: 'it returns false'. Refute it at one input. -/
def fnExactRunningAtWrong : ChangeSpec := { name := "fnExactRunningAt", fn := fun _ => fun
  | [d1, d2, d3] => { results := [.lit (.bool false)], args := [d1, d2, d3] }
  | _ => none }
def FnExactRunningAtWrongFalsely : Prop := fnExactRunningAtRow.holds Try.pinned (OpenSpec.ofChange fnExactRunningAtWrong)

/-- 'laws.FnExactInitialDomain': WHATEVER THE INPUT: true; the input reads as it did. -/
def fnExactInitialDomainSpec : ChangeSpec := { name := "fnExactInitialDomain", fn := fun _ => fun
  | [d] => { results := [.lit (.bool true)], args := [d] }
  | _ => none }
def fnExactInitialDomainRow : OpenClaim := { program := "ytclmffknggmlnaa", sum := "935a9bea3df2186477458844165407aa752341b267d412e3ed58fe618e31c8de", func := "loop.example/g00806/laws.FnExactInitialDomain", spec := "fnExactInitialDomain", unfollowed := true, recurses := true, apart := false }
def FnExactInitialDomainSaid : Prop := fnExactInitialDomainRow.holds Try.pinned (OpenSpec.ofChange fnExactInitialDomainSpec)

/-- ITS FALSE NEIGHBOUR: 'it returns false'. Refute it at one input. -/
def fnExactInitialDomainWrong : ChangeSpec := { name := "fnExactInitialDomain", fn := fun _ => fun
  | [d] => { results := [.lit (.bool false)], args := [d] }
  | _ => none }
def FnExactInitialDomainWrongFalsely : Prop := fnExactInitialDomainRow.holds Try.pinned (OpenSpec.ofChange fnExactInitialDomainWrong)

/-- 'laws.FnExactSingletonDomain': WHATEVER THE INPUT: true; the input reads as it did. -/
def fnExactSingletonDomainSpec : ChangeSpec := { name := "fnExactSingletonDomain", fn := fun _ => fun
  | [d] => { results := [.lit (.bool true)], args := [d] }
  | _ => none }
def fnExactSingletonDomainRow : OpenClaim := { program := "ytclmffknggmlnaa", sum := "935a9bea3df2186477458844165407aa752341b267d412e3ed58fe618e31c8de", func := "loop.example/g00806/laws.FnExactSingletonDomain", spec := "fnExactSingletonDomain", apart := false }
def FnExactSingletonDomainSaid : Prop := fnExactSingletonDomainRow.holds Try.pinned (OpenSpec.ofChange fnExactSingletonDomainSpec)

/-- ITS FALSE NEIGHBOUR: 'it returns false'. Refute it at one input. -/
def fnExactSingletonDomainWrong : ChangeSpec := { name := "fnExactSingletonDomain", fn := fun _ => fun
  | [d] => { results := [.lit (.bool false)], args := [d] }
  | _ => none }
def FnExactSingletonDomainWrongFalsely : Prop := fnExactSingletonDomainRow.holds Try.pinned (OpenSpec.ofChange fnExactSingletonDomainWrong)

/-- 'laws.FnExactTopologicalOrder': WHATEVER THE INPUT: true; the input reads as it did. -/
def fnExactTopologicalOrderSpec : ChangeSpec := { name := "fnExactTopologicalOrder", fn := fun _ => fun
  | [d] => { results := [.lit (.bool true)], args := [d] }
  | _ => none }
def fnExactTopologicalOrderRow : OpenClaim := { program := "ytclmffknggmlnaa", sum := "935a9bea3df2186477458844165407aa752341b267d412e3ed58fe618e31c8de", func := "loop.example/g00806/laws.FnExactTopologicalOrder", spec := "fnExactTopologicalOrder", unfollowed := true, recurses := true, apart := false }
def FnExactTopologicalOrderSaid : Prop := fnExactTopologicalOrderRow.holds Try.pinned (OpenSpec.ofChange fnExactTopologicalOrderSpec)

/-- ITS FALSE NEIGHBOUR: 'it returns false'. Refute it at one input. -/
def fnExactTopologicalOrderWrong : ChangeSpec := { name := "fnExactTopologicalOrder", fn := fun _ => fun
  | [d] => { results := [.lit (.bool false)], args := [d] }
  | _ => none }
def FnExactTopologicalOrderWrongFalsely : Prop := fnExactTopologicalOrderRow.holds Try.pinned (OpenSpec.ofChange fnExactTopologicalOrderWrong)

/-- 'laws.FnExactPositiveCycle': WHATEVER THE INPUT: true; the input reads as it did. -/
def fnExactPositiveCycleSpec : ChangeSpec := { name := "fnExactPositiveCycle", fn := fun _ => fun
  | [d] => { results := [.lit (.bool true)], args := [d] }
  | _ => none }
def fnExactPositiveCycleRow : OpenClaim := { program := "ytclmffknggmlnaa", sum := "935a9bea3df2186477458844165407aa752341b267d412e3ed58fe618e31c8de", func := "loop.example/g00806/laws.FnExactPositiveCycle", spec := "fnExactPositiveCycle", unfollowed := true, recurses := true, apart := false }
def FnExactPositiveCycleSaid : Prop := fnExactPositiveCycleRow.holds Try.pinned (OpenSpec.ofChange fnExactPositiveCycleSpec)

/-- ITS FALSE NEIGHBOUR: 'it returns false'. Refute it at one input. -/
def fnExactPositiveCycleWrong : ChangeSpec := { name := "fnExactPositiveCycle", fn := fun _ => fun
  | [d] => { results := [.lit (.bool false)], args := [d] }
  | _ => none }
def FnExactPositiveCycleWrongFalsely : Prop := fnExactPositiveCycleRow.holds Try.pinned (OpenSpec.ofChange fnExactPositiveCycleWrong)

/-- 'laws.FnExactTailLength': WHATEVER THE INPUT: true; the input reads as it did. -/
def fnExactTailLengthSpec : ChangeSpec := { name := "fnExactTailLength", fn := fun _ => fun
  | [d1, d2] => { results := [.lit (.bool true)], args := [d1, d2] }
  | _ => none }
def fnExactTailLengthRow : OpenClaim := { program := "ytclmffknggmlnaa", sum := "935a9bea3df2186477458844165407aa752341b267d412e3ed58fe618e31c8de", func := "loop.example/g00806/laws.FnExactTailLength", spec := "fnExactTailLength", unfollowed := true, recurses := true, apart := false }
def FnExactTailLengthSaid : Prop := fnExactTailLengthRow.holds Try.pinned (OpenSpec.ofChange fnExactTailLengthSpec)

/-- ITS FALSE NEIGHBOUR: 'it returns false'. Refute it at one input. -/
def fnExactTailLengthWrong : ChangeSpec := { name := "fnExactTailLength", fn := fun _ => fun
  | [d1, d2] => { results := [.lit (.bool false)], args := [d1, d2] }
  | _ => none }
def FnExactTailLengthWrongFalsely : Prop := fnExactTailLengthRow.holds Try.pinned (OpenSpec.ofChange fnExactTailLengthWrong)

/-- 'laws.FnExactPathBound': WHATEVER THE INPUT: true; the input reads as it did. -/
def fnExactPathBoundSpec : ChangeSpec := { name := "fnExactPathBound", fn := fun _ => fun
  | [d] => { results := [.lit (.bool true)], args := [d] }
  | _ => none }
def fnExactPathBoundRow : OpenClaim := { program := "ytclmffknggmlnaa", sum := "935a9bea3df2186477458844165407aa752341b267d412e3ed58fe618e31c8de", func := "loop.example/g00806/laws.FnExactPathBound", spec := "fnExactPathBound", unfollowed := true, recurses := true, apart := false }
def FnExactPathBoundSaid : Prop := fnExactPathBoundRow.holds Try.pinned (OpenSpec.ofChange fnExactPathBoundSpec)

/-- ITS FALSE NEIGHBOUR: 'it returns false'. Refute it at one input. -/
def fnExactPathBoundWrong : ChangeSpec := { name := "fnExactPathBound", fn := fun _ => fun
  | [d] => { results := [.lit (.bool false)], args := [d] }
  | _ => none }
def FnExactPathBoundWrongFalsely : Prop := fnExactPathBoundRow.holds Try.pinned (OpenSpec.ofChange fnExactPathBoundWrong)

/-- 'laws.FnExactDistances': WHATEVER THE INPUT: true; the input reads as it did. -/
def fnExactDistancesSpec : ChangeSpec := { name := "fnExactDistances", fn := fun _ => fun
  | [d] => { results := [.lit (.bool true)], args := [d] }
  | _ => none }
def fnExactDistancesRow : OpenClaim := { program := "ytclmffknggmlnaa", sum := "935a9bea3df2186477458844165407aa752341b267d412e3ed58fe618e31c8de", func := "loop.example/g00806/laws.FnExactDistances", spec := "fnExactDistances", unfollowed := true, recurses := true, apart := false }
def FnExactDistancesSaid : Prop := fnExactDistancesRow.holds Try.pinned (OpenSpec.ofChange fnExactDistancesSpec)

/-- ITS FALSE NEIGHBOUR: 'it returns false'. Refute it at one input. -/
def fnExactDistancesWrong : ChangeSpec := { name := "fnExactDistances", fn := fun _ => fun
  | [d] => { results := [.lit (.bool false)], args := [d] }
  | _ => none }
def FnExactDistancesWrongFalsely : Prop := fnExactDistancesRow.holds Try.pinned (OpenSpec.ofChange fnExactDistancesWrong)

/- THE SECOND FORM. 'bulk': how many values and letters a reading holds, each counted each time it is reached (what is shared counts as often as it is met; a slice's spare places count too). A statement '..UptoSaid' is the law's where the arguments, and the package variables that the reading takes, are together of bulk at most 1048576: NARROWER than '..Said'. Prove '..Said' where nothing that the law and all that it calls make is longer than what came in: it says more and counts as full. Else prove '..UptoSaid'. A law counts once. -/
mutual
def uptoBulk {H : Type} : DataW H → Nat
  | .lit (.string bytes) => bytes.length + 1
  | .lit _ => 1
  | .nil => 1
  | .ptr d => uptoBulk d + 1
  | .slice elems spare => uptoBulkAll elems + uptoBulkAll spare + 1
  | .agg parts => uptoBulkAll parts + 1
  | .iface _ d => uptoBulk d + 1
  | .map entries => uptoBulkEntries entries + 1
  | .held _ => 1
def uptoBulkAll {H : Type} : List (DataW H) → Nat
  | [] => 0
  | d :: r => uptoBulk d + uptoBulkAll r
def uptoBulkEntries {H : Type} : List (Lit × DataW H) → Nat
  | [] => 0
  | x :: r => uptoBulkEntry x + uptoBulkEntries r
def uptoBulkEntry {H : Type} : Lit × DataW H → Nat
  | (.string bytes, d) => bytes.length + uptoBulk d + 1
  | (_, d) => uptoBulk d + 1
 end
def uptoSmall : (H : Type) → List (DataW H) → Bool := fun _ ds => decide (uptoBulkAll ds ≤ 1048576)
def OpenSpec.upto (s : _root_.Go.ChangeSpec) : _root_.Go.OpenSpec := { _root_.Go.OpenSpec.ofChange s with cond := some uptoSmall }

/-- 'laws.FnExactRunningAt', WHERE WHAT IT READS IS OF BULK AT MOST 1048576: true; the input reads as it did. -/
def fnExactRunningAtUptoRow : OpenClaim := { program := "ytclmffknggmlnaa", sum := "935a9bea3df2186477458844165407aa752341b267d412e3ed58fe618e31c8de", func := "loop.example/g00806/laws.FnExactRunningAt", spec := "fnExactRunningAt", unfollowed := true, recurses := true, apart := false, narrowed := true }
def FnExactRunningAtUptoSaid : Prop := fnExactRunningAtUptoRow.holds Try.pinned (OpenSpec.upto fnExactRunningAtSpec)

/-- 'laws.FnExactInitialDomain', WHERE WHAT IT READS IS OF BULK AT MOST 1048576: true; the input reads as it did. -/
def fnExactInitialDomainUptoRow : OpenClaim := { program := "ytclmffknggmlnaa", sum := "935a9bea3df2186477458844165407aa752341b267d412e3ed58fe618e31c8de", func := "loop.example/g00806/laws.FnExactInitialDomain", spec := "fnExactInitialDomain", unfollowed := true, recurses := true, apart := false, narrowed := true }
def FnExactInitialDomainUptoSaid : Prop := fnExactInitialDomainUptoRow.holds Try.pinned (OpenSpec.upto fnExactInitialDomainSpec)

/-- 'laws.FnExactSingletonDomain', WHERE WHAT IT READS IS OF BULK AT MOST 1048576: true; the input reads as it did. -/
def fnExactSingletonDomainUptoRow : OpenClaim := { program := "ytclmffknggmlnaa", sum := "935a9bea3df2186477458844165407aa752341b267d412e3ed58fe618e31c8de", func := "loop.example/g00806/laws.FnExactSingletonDomain", spec := "fnExactSingletonDomain", apart := false, narrowed := true }
def FnExactSingletonDomainUptoSaid : Prop := fnExactSingletonDomainUptoRow.holds Try.pinned (OpenSpec.upto fnExactSingletonDomainSpec)

/-- 'laws.FnExactTopologicalOrder', WHERE WHAT IT READS IS OF BULK AT MOST 1048576: true; the input reads as it did. -/
def fnExactTopologicalOrderUptoRow : OpenClaim := { program := "ytclmffknggmlnaa", sum := "935a9bea3df2186477458844165407aa752341b267d412e3ed58fe618e31c8de", func := "loop.example/g00806/laws.FnExactTopologicalOrder", spec := "fnExactTopologicalOrder", unfollowed := true, recurses := true, apart := false, narrowed := true }
def FnExactTopologicalOrderUptoSaid : Prop := fnExactTopologicalOrderUptoRow.holds Try.pinned (OpenSpec.upto fnExactTopologicalOrderSpec)

/-- 'laws.FnExactPositiveCycle', WHERE WHAT IT READS IS OF BULK AT MOST 1048576: true; the input reads as it did. -/
def fnExactPositiveCycleUptoRow : OpenClaim := { program := "ytclmffknggmlnaa", sum := "935a9bea3df2186477458844165407aa752341b267d412e3ed58fe618e31c8de", func := "loop.example/g00806/laws.FnExactPositiveCycle", spec := "fnExactPositiveCycle", unfollowed := true, recurses := true, apart := false, narrowed := true }
def FnExactPositiveCycleUptoSaid : Prop := fnExactPositiveCycleUptoRow.holds Try.pinned (OpenSpec.upto fnExactPositiveCycleSpec)

/-- 'laws.FnExactTailLength', WHERE WHAT IT READS IS OF BULK AT MOST 1048576: true; the input reads as it did. -/
def fnExactTailLengthUptoRow : OpenClaim := { program := "ytclmffknggmlnaa", sum := "935a9bea3df2186477458844165407aa752341b267d412e3ed58fe618e31c8de", func := "loop.example/g00806/laws.FnExactTailLength", spec := "fnExactTailLength", unfollowed := true, recurses := true, apart := false, narrowed := true }
def FnExactTailLengthUptoSaid : Prop := fnExactTailLengthUptoRow.holds Try.pinned (OpenSpec.upto fnExactTailLengthSpec)

/-- 'laws.FnExactPathBound', WHERE WHAT IT READS IS OF BULK AT MOST 1048576: true; the input reads as it did. -/
def fnExactPathBoundUptoRow : OpenClaim := { program := "ytclmffknggmlnaa", sum := "935a9bea3df2186477458844165407aa752341b267d412e3ed58fe618e31c8de", func := "loop.example/g00806/laws.FnExactPathBound", spec := "fnExactPathBound", unfollowed := true, recurses := true, apart := false, narrowed := true }
def FnExactPathBoundUptoSaid : Prop := fnExactPathBoundUptoRow.holds Try.pinned (OpenSpec.upto fnExactPathBoundSpec)

/-- 'laws.FnExactDistances', WHERE WHAT IT READS IS OF BULK AT MOST 1048576: true; the input reads as it did. -/
def fnExactDistancesUptoRow : OpenClaim := { program := "ytclmffknggmlnaa", sum := "935a9bea3df2186477458844165407aa752341b267d412e3ed58fe618e31c8de", func := "loop.example/g00806/laws.FnExactDistances", spec := "fnExactDistances", unfollowed := true, recurses := true, apart := false, narrowed := true }
def FnExactDistancesUptoSaid : Prop := fnExactDistancesUptoRow.holds Try.pinned (OpenSpec.upto fnExactDistancesSpec)

end Rows
end Go.Proofs.Ytclmffknggmlnaa
