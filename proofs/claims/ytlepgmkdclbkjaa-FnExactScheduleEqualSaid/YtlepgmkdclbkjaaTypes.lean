/- The argument types of this seat's statements, opened. -/
import Derived.Test.YtlepgmkdclbkjaaRows
import Derived.Test.YtlepgmkdclbkjaaReps
namespace Go.Proofs.Ytlepgmkdclbkjaa
open Go.RowKit
set_option linter.unusedVariables false
set_option maxRecDepth 10000

theorem laidOutAll : laidOutB Try.prog = true := by kernel_rfl
theorem ownKnobNone : ownKnob Try.prog.godebug = none := by kernel_rfl
theorem opInt {H : Type} {enc : TypeId × Value → H} (w : World) : Opens enc Try.prog w 3 intR := opens_int Try.underlying3
theorem opBool {H : Type} {enc : TypeId × Value → H} (w : World) : Opens enc Try.prog w 4 boolR := opens_bool Try.underlying4
theorem opStr {H : Type} {enc : TypeId × Value → H} (w : World) : Opens enc Try.prog w 9 strR := opens_string Try.underlying9
theorem opInts {H : Type} {enc : TypeId × Value → H} (w : World) : Opens enc Try.prog w 39 intsR := opens_slice Try.underlying39 (by kernel_rfl) (by decide) (opInt w)
theorem opLit {H : Type} {enc : TypeId × Value → H} (w : World) : Opens enc Try.prog w 25 litR := opens_struct3 Try.underlying25 (by kernel_rfl) ⟨by kernel_rfl, by kernel_rfl⟩ ⟨by kernel_rfl, by kernel_rfl⟩ ⟨by kernel_rfl, by kernel_rfl⟩ (opInt w) (opInt w) (opInt w)
theorem opLits {H : Type} {enc : TypeId × Value → H} (w : World) : Opens enc Try.prog w 33 litsR := opens_slice Try.underlying33 (by kernel_rfl) (by decide) (opLit w)
theorem opSch {H : Type} {enc : TypeId × Value → H} (w : World) : Opens enc Try.prog w 41 schR := opens_struct2 Try.underlying41 (by kernel_rfl) ⟨by kernel_rfl, by kernel_rfl⟩ ⟨by kernel_rfl, by kernel_rfl⟩ (opInts w) (opInts w)
end Go.Proofs.Ytlepgmkdclbkjaa
