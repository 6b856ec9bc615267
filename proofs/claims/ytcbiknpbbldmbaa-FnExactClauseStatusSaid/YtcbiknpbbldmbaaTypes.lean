/- The argument types of this seat's statements, opened. -/
import Derived.Test.YtcbiknpbbldmbaaRows
import Derived.Test.YtcbiknpbbldmbaaReps
namespace Go.Proofs.Ytcbiknpbbldmbaa
open Go.RowKit
set_option linter.unusedVariables false
set_option maxRecDepth 10000

theorem laidOutAll : laidOutB Try.prog = true := by kernel_rfl
theorem ownKnobNone : ownKnob Try.prog.godebug = none := by kernel_rfl
theorem opInt {H : Type} {enc : TypeId × Value → H} (w : World) : Opens enc Try.prog w 3 intR := opens_int Try.underlying3
theorem opBool {H : Type} {enc : TypeId × Value → H} (w : World) : Opens enc Try.prog w 4 boolR := opens_bool Try.underlying4
theorem opStr {H : Type} {enc : TypeId × Value → H} (w : World) : Opens enc Try.prog w 9 strR := opens_string Try.underlying9
theorem opInts {H : Type} {enc : TypeId × Value → H} (w : World) : Opens enc Try.prog w 24 intsR := opens_slice Try.underlying24 (by kernel_rfl) (by decide) (opInt w)
theorem opLit {H : Type} {enc : TypeId × Value → H} (w : World) : Opens enc Try.prog w 23 litR := opens_struct3 Try.underlying23 (by kernel_rfl) ⟨by kernel_rfl, by kernel_rfl⟩ ⟨by kernel_rfl, by kernel_rfl⟩ ⟨by kernel_rfl, by kernel_rfl⟩ (opInt w) (opInt w) (opInt w)
theorem opLits {H : Type} {enc : TypeId × Value → H} (w : World) : Opens enc Try.prog w 35 litsR := opens_slice Try.underlying35 (by kernel_rfl) (by decide) (opLit w)
theorem opSch {H : Type} {enc : TypeId × Value → H} (w : World) : Opens enc Try.prog w 26 schR := opens_struct2 Try.underlying26 (by kernel_rfl) ⟨by kernel_rfl, by kernel_rfl⟩ ⟨by kernel_rfl, by kernel_rfl⟩ (opInts w) (opInts w)
theorem opRows {H : Type} {enc : TypeId × Value → H} (w : World) : Opens enc Try.prog w 43 rowsR := opens_slice Try.underlying43 (by kernel_rfl) (by decide) (opInts w)
theorem opDom {H : Type} {enc : TypeId × Value → H} (w : World) : Opens enc Try.prog w 45 domR := opens_struct3 Try.underlying45 (by kernel_rfl) ⟨by kernel_rfl, by kernel_rfl⟩ ⟨by kernel_rfl, by kernel_rfl⟩ ⟨by kernel_rfl, by kernel_rfl⟩ (opInts w) (opInts w) (opRows w)
end Go.Proofs.Ytcbiknpbbldmbaa
