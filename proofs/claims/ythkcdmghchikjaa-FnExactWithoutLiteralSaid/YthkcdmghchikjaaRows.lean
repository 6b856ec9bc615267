/-
  No cell of these rows narrows 'for every input' (looked for: loops, veiled, ifaces, maps, wideKeys, modest, calm, conditions, laid).
  DERIVED. THE GIVEN ROWS OF THIS SEAT. 6 by the template 'for every input the law returns true; each argument reads behind the call as it read before'; 0 by the template 'total and deterministic' (their statements: YthkcdmghchikjaaTotals.lean).
  GIVEN WITH THE SEED: the statements are not yours to turn. If you find one false, say at which input.
  Laid BY PROGRAM, IN A SANDBOX (cutbox-rows.mjs): the forced cells as the released guide's own fill.sh prints them over the translation 0837ff6bf2a24bee… (all of the seat's roots in one cut). By AI agents, Wed Nov 11 2026. No macro, syntax, notation, axiom, sorry.
-/
import Derived.Test.YthkcdmghchikjaaChecked
import GoSem.Claim
import GoSem.ClaimJoined
import GoSem.ClaimMapViews
import Derived.JoinedTies
import Derived.KernelRfl
namespace Go.Proofs.Ythkcdmghchikjaa
/- THE CELL 'sum', in the pinned program and in every row, IS THE sha256 OF THE DUMP (.gsa) THAT YthkcdmghchikjaaProg.lean LOADS. Nothing in Lean hashes anything: it is a label: what it is worth is what the hold of that sum in a sandbox is worth. -/
noncomputable def Try.pinned : Pinned := { name := "ythkcdmghchikjaa", sum := "0837ff6bf2a24bee0085c86d7c69022850220bd0f65d82d0e43e83ae3b19b4b7", checked := Try.checked }
namespace Rows
def none {H : Type} : Left H := { results := [], args := [] }

/-- 'laws.FnExactWithoutLiteral': WHATEVER THE INPUT: true; the input reads as it did. -/
def fnExactWithoutLiteralSpec : ChangeSpec := { name := "fnExactWithoutLiteral", fn := fun _ => fun
  | [d1, d2] => { results := [.lit (.bool true)], args := [d1, d2] }
  | _ => none }
def fnExactWithoutLiteralRow : OpenClaim := { program := "ythkcdmghchikjaa", sum := "0837ff6bf2a24bee0085c86d7c69022850220bd0f65d82d0e43e83ae3b19b4b7", func := "loop.example/g00806/laws.FnExactWithoutLiteral", spec := "fnExactWithoutLiteral", apart := false }
def FnExactWithoutLiteralSaid : Prop := fnExactWithoutLiteralRow.holds Try.pinned (OpenSpec.ofChange fnExactWithoutLiteralSpec)

/-- ITS FALSE NEIGHBOUR: 'it returns false'. Refute it at one input. -/
def fnExactWithoutLiteralWrong : ChangeSpec := { name := "fnExactWithoutLiteral", fn := fun _ => fun
  | [d1, d2] => { results := [.lit (.bool false)], args := [d1, d2] }
  | _ => none }
def FnExactWithoutLiteralWrongFalsely : Prop := fnExactWithoutLiteralRow.holds Try.pinned (OpenSpec.ofChange fnExactWithoutLiteralWrong)

/-- 'laws.FnExactIsReachable': WHATEVER THE INPUT: true; the input reads as it did. -/
def fnExactIsReachableSpec : ChangeSpec := { name := "fnExactIsReachable", fn := fun _ => fun
  | [d1, d2, d3] => { results := [.lit (.bool true)], args := [d1, d2, d3] }
  | _ => none }
def fnExactIsReachableRow : OpenClaim := { program := "ythkcdmghchikjaa", sum := "0837ff6bf2a24bee0085c86d7c69022850220bd0f65d82d0e43e83ae3b19b4b7", func := "loop.example/g00806/laws.FnExactIsReachable", spec := "fnExactIsReachable", unfollowed := true, recurses := true, apart := false }
def FnExactIsReachableSaid : Prop := fnExactIsReachableRow.holds Try.pinned (OpenSpec.ofChange fnExactIsReachableSpec)

/-- ITS FALSE NEIGHBOUR: 'it returns false'. Refute it at one input. -/
def fnExactIsReachableWrong : ChangeSpec := { name := "fnExactIsReachable", fn := fun _ => fun
  | [d1, d2, d3] => { results := [.lit (.bool false)], args := [d1, d2, d3] }
  | _ => none }
def FnExactIsReachableWrongFalsely : Prop := fnExactIsReachableRow.holds Try.pinned (OpenSpec.ofChange fnExactIsReachableWrong)

/-- 'laws.FnRing': WHATEVER THE INPUT: true; the input reads as it did. -/
def fnRingSpec : ChangeSpec := { name := "fnRing", fn := fun _ => fun
  | [d] => { results := [.lit (.bool true)], args := [d] }
  | _ => none }
def fnRingRow : OpenClaim := { program := "ythkcdmghchikjaa", sum := "0837ff6bf2a24bee0085c86d7c69022850220bd0f65d82d0e43e83ae3b19b4b7", func := "loop.example/g00806/laws.FnRing", spec := "fnRing", unfollowed := true, recurses := true, apart := false }
def FnRingSaid : Prop := fnRingRow.holds Try.pinned (OpenSpec.ofChange fnRingSpec)

/-- ITS FALSE NEIGHBOUR: 'it returns false'. Refute it at one input. -/
def fnRingWrong : ChangeSpec := { name := "fnRing", fn := fun _ => fun
  | [d] => { results := [.lit (.bool false)], args := [d] }
  | _ => none }
def FnRingWrongFalsely : Prop := fnRingRow.holds Try.pinned (OpenSpec.ofChange fnRingWrong)

/-- 'laws.FnOrder': WHATEVER THE INPUT: true; the input reads as it did. -/
def fnOrderSpec : ChangeSpec := { name := "fnOrder", fn := fun _ => fun
  | [d] => { results := [.lit (.bool true)], args := [d] }
  | _ => none }
def fnOrderRow : OpenClaim := { program := "ythkcdmghchikjaa", sum := "0837ff6bf2a24bee0085c86d7c69022850220bd0f65d82d0e43e83ae3b19b4b7", func := "loop.example/g00806/laws.FnOrder", spec := "fnOrder", unfollowed := true, recurses := true, apart := false }
def FnOrderSaid : Prop := fnOrderRow.holds Try.pinned (OpenSpec.ofChange fnOrderSpec)

/-- ITS FALSE NEIGHBOUR: 'it returns false'. Refute it at one input. -/
def fnOrderWrong : ChangeSpec := { name := "fnOrder", fn := fun _ => fun
  | [d] => { results := [.lit (.bool false)], args := [d] }
  | _ => none }
def FnOrderWrongFalsely : Prop := fnOrderRow.holds Try.pinned (OpenSpec.ofChange fnOrderWrong)

/-- 'laws.FnFaults': WHATEVER THE INPUT: true; the input reads as it did. -/
def fnFaultsSpec : ChangeSpec := { name := "fnFaults", fn := fun _ => fun
  | [d] => { results := [.lit (.bool true)], args := [d] }
  | _ => none }
def fnFaultsRow : OpenClaim := { program := "ythkcdmghchikjaa", sum := "0837ff6bf2a24bee0085c86d7c69022850220bd0f65d82d0e43e83ae3b19b4b7", func := "loop.example/g00806/laws.FnFaults", spec := "fnFaults", unfollowed := true, recurses := true, apart := false }
def FnFaultsSaid : Prop := fnFaultsRow.holds Try.pinned (OpenSpec.ofChange fnFaultsSpec)

/-- ITS FALSE NEIGHBOUR: 'it returns false'. Refute it at one input. -/
def fnFaultsWrong : ChangeSpec := { name := "fnFaults", fn := fun _ => fun
  | [d] => { results := [.lit (.bool false)], args := [d] }
  | _ => none }
def FnFaultsWrongFalsely : Prop := fnFaultsRow.holds Try.pinned (OpenSpec.ofChange fnFaultsWrong)

/-- 'laws.FnLits': WHATEVER THE INPUT: true; the input reads as it did. -/
def fnLitsSpec : ChangeSpec := { name := "fnLits", fn := fun _ => fun
  | [d] => { results := [.lit (.bool true)], args := [d] }
  | _ => none }
def fnLitsRow : OpenClaim := { program := "ythkcdmghchikjaa", sum := "0837ff6bf2a24bee0085c86d7c69022850220bd0f65d82d0e43e83ae3b19b4b7", func := "loop.example/g00806/laws.FnLits", spec := "fnLits", unfollowed := true, recurses := true, apart := false }
def FnLitsSaid : Prop := fnLitsRow.holds Try.pinned (OpenSpec.ofChange fnLitsSpec)

/-- ITS FALSE NEIGHBOUR: 'it returns false'. Refute it at one input. -/
def fnLitsWrong : ChangeSpec := { name := "fnLits", fn := fun _ => fun
  | [d] => { results := [.lit (.bool false)], args := [d] }
  | _ => none }
def FnLitsWrongFalsely : Prop := fnLitsRow.holds Try.pinned (OpenSpec.ofChange fnLitsWrong)

/- THE SECOND FORM. 'bulk': how many values and letters a reading holds, each counted each time it is reached (what is shared counts as often as it is met; a slice's spare places count too). A statement '..UptoSaid' is the law's where the arguments, and the package variables that the reading takes, are together of bulk at most 1048576: NARROWER than '..Said'. Prove '..Said' where nothing that the law and all that it calls make is longer than what came in: it says more and counts as full. Else prove '..UptoSaid'. A law counts once. -/
mutual
def uptoBulk {H : Type} : DataW H → Nat
  | .lit (.string bytes) => bytes.length + 1
  | .lit _ => 1
  | .nil => 1
  | .ptr d => uptoBulk d + 1
  | .slice elems spare => uptoBulkAll elems + uptoBulkAll spare + 1
  | .agg parts => uptoBulkAll parts + 1
  | .iface _ d => uptoBulk d + 1
  | .map entries => uptoBulkEntries entries + 1
  | .held _ => 1
def uptoBulkAll {H : Type} : List (DataW H) → Nat
  | [] => 0
  | d :: r => uptoBulk d + uptoBulkAll r
def uptoBulkEntries {H : Type} : List (Lit × DataW H) → Nat
  | [] => 0
  | x :: r => uptoBulkEntry x + uptoBulkEntries r
def uptoBulkEntry {H : Type} : Lit × DataW H → Nat
  | (.string bytes, d) => bytes.length + uptoBulk d + 1
  | (_, d) => uptoBulk d + 1
 end
def uptoSmall : (H : Type) → List (DataW H) → Bool := fun _ ds => decide (uptoBulkAll ds ≤ 1048576)
def OpenSpec.upto (s : _root_.Go.ChangeSpec) : _root_.Go.OpenSpec := { _root_.Go.OpenSpec.ofChange s with cond := some uptoSmall }

/-- 'laws.FnExactWithoutLiteral', WHERE WHAT IT READS IS OF BULK AT MOST 1048576: true; the input reads as it did. -/
def fnExactWithoutLiteralUptoRow : OpenClaim := { program := "ythkcdmghchikjaa", sum := "0837ff6bf2a24bee0085c86d7c69022850220bd0f65d82d0e43e83ae3b19b4b7", func := "loop.example/g00806/laws.FnExactWithoutLiteral", spec := "fnExactWithoutLiteral", apart := false, narrowed := true }
def FnExactWithoutLiteralUptoSaid : Prop := fnExactWithoutLiteralUptoRow.holds Try.pinned (OpenSpec.upto fnExactWithoutLiteralSpec)

/-- 'laws.FnExactIsReachable', WHERE WHAT IT READS IS OF BULK AT MOST 1048576: true; the input reads as it did. -/
def fnExactIsReachableUptoRow : OpenClaim := { program := "ythkcdmghchikjaa", sum := "0837ff6bf2a24bee0085c86d7c69022850220bd0f65d82d0e43e83ae3b19b4b7", func := "loop.example/g00806/laws.FnExactIsReachable", spec := "fnExactIsReachable", unfollowed := true, recurses := true, apart := false, narrowed := true }
def FnExactIsReachableUptoSaid : Prop := fnExactIsReachableUptoRow.holds Try.pinned (OpenSpec.upto fnExactIsReachableSpec)

/-- 'laws.FnRing', WHERE WHAT IT READS IS OF BULK AT MOST 1048576: true; the input reads as it did. -/
def fnRingUptoRow : OpenClaim := { program := "ythkcdmghchikjaa", sum := "0837ff6bf2a24bee0085c86d7c69022850220bd0f65d82d0e43e83ae3b19b4b7", func := "loop.example/g00806/laws.FnRing", spec := "fnRing", unfollowed := true, recurses := true, apart := false, narrowed := true }
def FnRingUptoSaid : Prop := fnRingUptoRow.holds Try.pinned (OpenSpec.upto fnRingSpec)

/-- 'laws.FnOrder', WHERE WHAT IT READS IS OF BULK AT MOST 1048576: true; the input reads as it did. -/
def fnOrderUptoRow : OpenClaim := { program := "ythkcdmghchikjaa", sum := "0837ff6bf2a24bee0085c86d7c69022850220bd0f65d82d0e43e83ae3b19b4b7", func := "loop.example/g00806/laws.FnOrder", spec := "fnOrder", unfollowed := true, recurses := true, apart := false, narrowed := true }
def FnOrderUptoSaid : Prop := fnOrderUptoRow.holds Try.pinned (OpenSpec.upto fnOrderSpec)

/-- 'laws.FnFaults', WHERE WHAT IT READS IS OF BULK AT MOST 1048576: true; the input reads as it did. -/
def fnFaultsUptoRow : OpenClaim := { program := "ythkcdmghchikjaa", sum := "0837ff6bf2a24bee0085c86d7c69022850220bd0f65d82d0e43e83ae3b19b4b7", func := "loop.example/g00806/laws.FnFaults", spec := "fnFaults", unfollowed := true, recurses := true, apart := false, narrowed := true }
def FnFaultsUptoSaid : Prop := fnFaultsUptoRow.holds Try.pinned (OpenSpec.upto fnFaultsSpec)

/-- 'laws.FnLits', WHERE WHAT IT READS IS OF BULK AT MOST 1048576: true; the input reads as it did. -/
def fnLitsUptoRow : OpenClaim := { program := "ythkcdmghchikjaa", sum := "0837ff6bf2a24bee0085c86d7c69022850220bd0f65d82d0e43e83ae3b19b4b7", func := "loop.example/g00806/laws.FnLits", spec := "fnLits", unfollowed := true, recurses := true, apart := false, narrowed := true }
def FnLitsUptoSaid : Prop := fnLitsUptoRow.holds Try.pinned (OpenSpec.upto fnLitsSpec)

end Rows
end Go.Proofs.Ythkcdmghchikjaa
