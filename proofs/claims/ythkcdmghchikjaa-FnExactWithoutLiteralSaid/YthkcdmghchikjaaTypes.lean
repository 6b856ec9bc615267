/- The argument types of this seat's statements, opened. -/
import Derived.Test.YthkcdmghchikjaaRows
import Derived.Test.YthkcdmghchikjaaReps
namespace Go.Proofs.Ythkcdmghchikjaa
open Go.RowKit
set_option linter.unusedVariables false
set_option maxRecDepth 10000

theorem laidOutAll : laidOutB Try.prog = true := by kernel_rfl
theorem ownKnobNone : ownKnob Try.prog.godebug = none := by kernel_rfl
theorem opInt {H : Type} {enc : TypeId × Value → H} (w : World) : Opens enc Try.prog w 3 intR := opens_int Try.underlying3
theorem opBool {H : Type} {enc : TypeId × Value → H} (w : World) : Opens enc Try.prog w 4 boolR := opens_bool Try.underlying4
theorem opStr {H : Type} {enc : TypeId × Value → H} (w : World) : Opens enc Try.prog w 9 strR := opens_string Try.underlying9
theorem opInts {H : Type} {enc : TypeId × Value → H} (w : World) : Opens enc Try.prog w 33 intsR := opens_slice Try.underlying33 (by kernel_rfl) (by decide) (opInt w)
theorem opLit {H : Type} {enc : TypeId × Value → H} (w : World) : Opens enc Try.prog w 92 litR := opens_struct3 Try.underlying92 (by kernel_rfl) ⟨by kernel_rfl, by kernel_rfl⟩ ⟨by kernel_rfl, by kernel_rfl⟩ ⟨by kernel_rfl, by kernel_rfl⟩ (opInt w) (opInt w) (opInt w)
theorem opLits {H : Type} {enc : TypeId × Value → H} (w : World) : Opens enc Try.prog w 22 litsR := opens_slice Try.underlying22 (by kernel_rfl) (by decide) (opLit w)
theorem opRows {H : Type} {enc : TypeId × Value → H} (w : World) : Opens enc Try.prog w 58 rowsR := opens_slice Try.underlying58 (by kernel_rfl) (by decide) (opInts w)
theorem opStep {H : Type} {enc : TypeId × Value → H} (w : World) : Opens enc Try.prog w 212 stepR := opens_struct2 Try.underlying212 (by kernel_rfl) ⟨by kernel_rfl, by kernel_rfl⟩ ⟨by kernel_rfl, by kernel_rfl⟩ (opInt w) (opInt w)
theorem opSteps {H : Type} {enc : TypeId × Value → H} (w : World) : Opens enc Try.prog w 147 stepsR := opens_slice Try.underlying147 (by kernel_rfl) (by decide) (opStep w)
theorem opMode {H : Type} {enc : TypeId × Value → H} (w : World) : Opens enc Try.prog w 209 modeR := opens_struct3 Try.underlying209 (by kernel_rfl) ⟨by kernel_rfl, by kernel_rfl⟩ ⟨by kernel_rfl, by kernel_rfl⟩ ⟨by kernel_rfl, by kernel_rfl⟩ (opInt w) (opInts w) (opInts w)
theorem opModes {H : Type} {enc : TypeId × Value → H} (w : World) : Opens enc Try.prog w 143 modesR := opens_slice Try.underlying143 (by kernel_rfl) (by decide) (opMode w)
theorem opAct {H : Type} {enc : TypeId × Value → H} (w : World) : Opens enc Try.prog w 145 actR := opens_struct3 Try.underlying145 (by kernel_rfl) ⟨by kernel_rfl, by kernel_rfl⟩ ⟨by kernel_rfl, by kernel_rfl⟩ ⟨by kernel_rfl, by kernel_rfl⟩ (opStr w) (opInt w) (opModes w)
theorem opActs {H : Type} {enc : TypeId × Value → H} (w : World) : Opens enc Try.prog w 30 actsR := opens_slice Try.underlying30 (by kernel_rfl) (by decide) (opAct w)
theorem opRes {H : Type} {enc : TypeId × Value → H} (w : World) : Opens enc Try.prog w 149 resR := opens_struct2 Try.underlying149 (by kernel_rfl) ⟨by kernel_rfl, by kernel_rfl⟩ ⟨by kernel_rfl, by kernel_rfl⟩ (opSteps w) (opRows w)
theorem opRess {H : Type} {enc : TypeId × Value → H} (w : World) : Opens enc Try.prog w 32 ressR := opens_slice Try.underlying32 (by kernel_rfl) (by decide) (opRes w)
theorem opLink {H : Type} {enc : TypeId × Value → H} (w : World) : Opens enc Try.prog w 153 linkR := opens_struct4 Try.underlying153 (by kernel_rfl) ⟨by kernel_rfl, by kernel_rfl⟩ ⟨by kernel_rfl, by kernel_rfl⟩ ⟨by kernel_rfl, by kernel_rfl⟩ ⟨by kernel_rfl, by kernel_rfl⟩ (opInt w) (opInt w) (opBool w) (opInt w)
theorem opLinks {H : Type} {enc : TypeId × Value → H} (w : World) : Opens enc Try.prog w 31 linksR := opens_slice Try.underlying31 (by kernel_rfl) (by decide) (opLink w)
theorem opProj {H : Type} {enc : TypeId × Value → H} (w : World) : Opens enc Try.prog w 35 projR := opens_struct5 Try.underlying35 (by kernel_rfl) ⟨by kernel_rfl, by kernel_rfl⟩ ⟨by kernel_rfl, by kernel_rfl⟩ ⟨by kernel_rfl, by kernel_rfl⟩ ⟨by kernel_rfl, by kernel_rfl⟩ ⟨by kernel_rfl, by kernel_rfl⟩ (opInt w) (opActs w) (opLinks w) (opRess w) (opInts w)
end Go.Proofs.Ythkcdmghchikjaa
