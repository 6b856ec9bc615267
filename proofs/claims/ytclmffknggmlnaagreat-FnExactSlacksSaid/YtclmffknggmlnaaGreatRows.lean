/-
  No cell of these rows narrows 'for every input' (looked for: loops, veiled, ifaces, maps, wideKeys, modest, calm, conditions, laid).
  DERIVED. THE GIVEN ROWS OF THIS SEAT. 4 by the template 'for every input the law returns true; each argument reads behind the call as it read before'; 0 by the template 'total and deterministic' (their statements: YtclmffknggmlnaaGreatTotals.lean).
  GIVEN WITH THE SEED: the statements are not yours to turn. If you find one false, say at which input.
  Laid BY PROGRAM, IN A SANDBOX (cutbox-rows.mjs): the forced cells as the released guide's own fill.sh prints them over the translation f782b649a6423809… (all of the seat's roots in one cut). By AI agents, Wed Nov 11 2026. No macro, syntax, notation, axiom, sorry.
-/
import Derived.Test.YtclmffknggmlnaaGreatChecked
import GoSem.Claim
import GoSem.ClaimJoined
import GoSem.ClaimMapViews
import Derived.JoinedTies
import Derived.KernelRfl
namespace Go.Proofs.YtclmffknggmlnaaGreat
/- THE CELL 'sum', in the pinned program and in every row, IS THE sha256 OF THE DUMP (.gsa) THAT YtclmffknggmlnaaGreatProg.lean LOADS. Nothing in Lean hashes anything: it is a label: what it is worth is what the hold of that sum in a sandbox is worth. -/
noncomputable def Tryz.pinned : Pinned := { name := "ytclmffknggmlnaagreat", sum := "f782b649a6423809cf28b5b5ed75fd2ac8d4b8db42760fb1431c0ac514cff201", checked := Tryz.checked }
namespace Rows
def none {H : Type} : Left H := { results := [], args := [] }

/-- 'laws.FnExactEarliestStarts': WHATEVER THE INPUT: true; the input reads as it did. -/
def fnExactEarliestStartsSpec : ChangeSpec := { name := "fnExactEarliestStarts", fn := fun _ => fun
  | [d] => { results := [.lit (.bool true)], args := [d] }
  | _ => none }
def fnExactEarliestStartsRow : OpenClaim := { program := "ytclmffknggmlnaagreat", sum := "f782b649a6423809cf28b5b5ed75fd2ac8d4b8db42760fb1431c0ac514cff201", func := "loop.example/g00806/laws.FnExactEarliestStarts", spec := "fnExactEarliestStarts", unfollowed := true, recurses := true, apart := false }
def FnExactEarliestStartsSaid : Prop := fnExactEarliestStartsRow.holds Tryz.pinned (OpenSpec.ofChange fnExactEarliestStartsSpec)

/-- ITS FALSE NEIGHBOUR: 'it returns false'. Refute it at one input. -/
def fnExactEarliestStartsWrong : ChangeSpec := { name := "fnExactEarliestStarts", fn := fun _ => fun
  | [d] => { results := [.lit (.bool false)], args := [d] }
  | _ => none }
def FnExactEarliestStartsWrongFalsely : Prop := fnExactEarliestStartsRow.holds Tryz.pinned (OpenSpec.ofChange fnExactEarliestStartsWrong)

/-- 'laws.FnExactLatestStarts': WHATEVER THE INPUT: true; the input reads as it did. -/
def fnExactLatestStartsSpec : ChangeSpec := { name := "fnExactLatestStarts", fn := fun _ => fun
  | [d1, d2] => { results := [.lit (.bool true)], args := [d1, d2] }
  | _ => none }
def fnExactLatestStartsRow : OpenClaim := { program := "ytclmffknggmlnaagreat", sum := "f782b649a6423809cf28b5b5ed75fd2ac8d4b8db42760fb1431c0ac514cff201", func := "loop.example/g00806/laws.FnExactLatestStarts", spec := "fnExactLatestStarts", unfollowed := true, recurses := true, apart := false }
def FnExactLatestStartsSaid : Prop := fnExactLatestStartsRow.holds Tryz.pinned (OpenSpec.ofChange fnExactLatestStartsSpec)

/-- ITS FALSE NEIGHBOUR: 'it returns false'. Refute it at one input. -/
def fnExactLatestStartsWrong : ChangeSpec := { name := "fnExactLatestStarts", fn := fun _ => fun
  | [d1, d2] => { results := [.lit (.bool false)], args := [d1, d2] }
  | _ => none }
def FnExactLatestStartsWrongFalsely : Prop := fnExactLatestStartsRow.holds Tryz.pinned (OpenSpec.ofChange fnExactLatestStartsWrong)

/-- 'laws.FnExactSlacks': WHATEVER THE INPUT: true; the input reads as it did. -/
def fnExactSlacksSpec : ChangeSpec := { name := "fnExactSlacks", fn := fun _ => fun
  | [d1, d2] => { results := [.lit (.bool true)], args := [d1, d2] }
  | _ => none }
def fnExactSlacksRow : OpenClaim := { program := "ytclmffknggmlnaagreat", sum := "f782b649a6423809cf28b5b5ed75fd2ac8d4b8db42760fb1431c0ac514cff201", func := "loop.example/g00806/laws.FnExactSlacks", spec := "fnExactSlacks", unfollowed := true, recurses := true, apart := false }
def FnExactSlacksSaid : Prop := fnExactSlacksRow.holds Tryz.pinned (OpenSpec.ofChange fnExactSlacksSpec)

/-- ITS FALSE NEIGHBOUR: 'it returns false'. Refute it at one input. -/
def fnExactSlacksWrong : ChangeSpec := { name := "fnExactSlacks", fn := fun _ => fun
  | [d1, d2] => { results := [.lit (.bool false)], args := [d1, d2] }
  | _ => none }
def FnExactSlacksWrongFalsely : Prop := fnExactSlacksRow.holds Tryz.pinned (OpenSpec.ofChange fnExactSlacksWrong)

/-- 'laws.FnExactCriticalActivities': WHATEVER THE INPUT: true; the input reads as it did. -/
def fnExactCriticalActivitiesSpec : ChangeSpec := { name := "fnExactCriticalActivities", fn := fun _ => fun
  | [d] => { results := [.lit (.bool true)], args := [d] }
  | _ => none }
def fnExactCriticalActivitiesRow : OpenClaim := { program := "ytclmffknggmlnaagreat", sum := "f782b649a6423809cf28b5b5ed75fd2ac8d4b8db42760fb1431c0ac514cff201", func := "loop.example/g00806/laws.FnExactCriticalActivities", spec := "fnExactCriticalActivities", unfollowed := true, recurses := true, apart := false }
def FnExactCriticalActivitiesSaid : Prop := fnExactCriticalActivitiesRow.holds Tryz.pinned (OpenSpec.ofChange fnExactCriticalActivitiesSpec)

/-- ITS FALSE NEIGHBOUR: 'it returns false'. Refute it at one input. -/
def fnExactCriticalActivitiesWrong : ChangeSpec := { name := "fnExactCriticalActivities", fn := fun _ => fun
  | [d] => { results := [.lit (.bool false)], args := [d] }
  | _ => none }
def FnExactCriticalActivitiesWrongFalsely : Prop := fnExactCriticalActivitiesRow.holds Tryz.pinned (OpenSpec.ofChange fnExactCriticalActivitiesWrong)

/- THE SECOND FORM. 'bulk': how many values and letters a reading holds, each counted each time it is reached (what is shared counts as often as it is met; a slice's spare places count too). A statement '..UptoSaid' is the law's where the arguments, and the package variables that the reading takes, are together of bulk at most 1048576: NARROWER than '..Said'. Prove '..Said' where nothing that the law and all that it calls make is longer than what came in: it says more and counts as full. Else prove '..UptoSaid'. A law counts once. -/
mutual
def uptoBulk {H : Type} : DataW H → Nat
  | .lit (.string bytes) => bytes.length + 1
  | .lit _ => 1
  | .nil => 1
  | .ptr d => uptoBulk d + 1
  | .slice elems spare => uptoBulkAll elems + uptoBulkAll spare + 1
  | .agg parts => uptoBulkAll parts + 1
  | .iface _ d => uptoBulk d + 1
  | .map entries => uptoBulkEntries entries + 1
  | .held _ => 1
def uptoBulkAll {H : Type} : List (DataW H) → Nat
  | [] => 0
  | d :: r => uptoBulk d + uptoBulkAll r
def uptoBulkEntries {H : Type} : List (Lit × DataW H) → Nat
  | [] => 0
  | x :: r => uptoBulkEntry x + uptoBulkEntries r
def uptoBulkEntry {H : Type} : Lit × DataW H → Nat
  | (.string bytes, d) => bytes.length + uptoBulk d + 1
  | (_, d) => uptoBulk d + 1
 end
def uptoSmall : (H : Type) → List (DataW H) → Bool := fun _ ds => decide (uptoBulkAll ds ≤ 1048576)
def OpenSpec.upto (s : _root_.Go.ChangeSpec) : _root_.Go.OpenSpec := { _root_.Go.OpenSpec.ofChange s with cond := some uptoSmall }

/-- 'laws.FnExactEarliestStarts', WHERE WHAT IT READS IS OF BULK AT MOST 1048576: true; the input reads as it did. -/
def fnExactEarliestStartsUptoRow : OpenClaim := { program := "ytclmffknggmlnaagreat", sum := "f782b649a6423809cf28b5b5ed75fd2ac8d4b8db42760fb1431c0ac514cff201", func := "loop.example/g00806/laws.FnExactEarliestStarts", spec := "fnExactEarliestStarts", unfollowed := true, recurses := true, apart := false, narrowed := true }
def FnExactEarliestStartsUptoSaid : Prop := fnExactEarliestStartsUptoRow.holds Tryz.pinned (OpenSpec.upto fnExactEarliestStartsSpec)

/-- 'laws.FnExactLatestStarts', WHERE WHAT IT READS IS OF BULK AT MOST 1048576: true; the input reads as it did. -/
def fnExactLatestStartsUptoRow : OpenClaim := { program := "ytclmffknggmlnaagreat", sum := "f782b649a6423809cf28b5b5ed75fd2ac8d4b8db42760fb1431c0ac514cff201", func := "loop.example/g00806/laws.FnExactLatestStarts", spec := "fnExactLatestStarts", unfollowed := true, recurses := true, apart := false, narrowed := true }
def FnExactLatestStartsUptoSaid : Prop := fnExactLatestStartsUptoRow.holds Tryz.pinned (OpenSpec.upto fnExactLatestStartsSpec)

/-- 'laws.FnExactSlacks', WHERE WHAT IT READS IS OF BULK AT MOST 1048576: true; the input reads as it did. -/
def fnExactSlacksUptoRow : OpenClaim := { program := "ytclmffknggmlnaagreat", sum := "f782b649a6423809cf28b5b5ed75fd2ac8d4b8db42760fb1431c0ac514cff201", func := "loop.example/g00806/laws.FnExactSlacks", spec := "fnExactSlacks", unfollowed := true, recurses := true, apart := false, narrowed := true }
def FnExactSlacksUptoSaid : Prop := fnExactSlacksUptoRow.holds Tryz.pinned (OpenSpec.upto fnExactSlacksSpec)

/-- 'laws.FnExactCriticalActivities', WHERE WHAT IT READS IS OF BULK AT MOST 1048576: true; the input reads as it did. -/
def fnExactCriticalActivitiesUptoRow : OpenClaim := { program := "ytclmffknggmlnaagreat", sum := "f782b649a6423809cf28b5b5ed75fd2ac8d4b8db42760fb1431c0ac514cff201", func := "loop.example/g00806/laws.FnExactCriticalActivities", spec := "fnExactCriticalActivities", unfollowed := true, recurses := true, apart := false, narrowed := true }
def FnExactCriticalActivitiesUptoSaid : Prop := fnExactCriticalActivitiesUptoRow.holds Tryz.pinned (OpenSpec.upto fnExactCriticalActivitiesSpec)

end Rows
end Go.Proofs.YtclmffknggmlnaaGreat
