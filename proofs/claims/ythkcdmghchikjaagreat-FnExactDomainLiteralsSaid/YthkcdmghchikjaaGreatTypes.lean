/- The argument types of this seat's statements, opened. -/
import Derived.Test.YthkcdmghchikjaaGreatRows
import Derived.Test.YthkcdmghchikjaaGreatReps
namespace Go.Proofs.YthkcdmghchikjaaGreat
open Go.RowKit
set_option linter.unusedVariables false
set_option maxRecDepth 10000

theorem laidOutAll : laidOutB Tryz.prog = true := by kernel_rfl
theorem ownKnobNone : ownKnob Tryz.prog.godebug = none := by kernel_rfl
theorem opInt {H : Type} {enc : TypeId × Value → H} (w : World) : Opens enc Tryz.prog w 3 intR := opens_int Tryz.underlying3
theorem opBool {H : Type} {enc : TypeId × Value → H} (w : World) : Opens enc Tryz.prog w 4 boolR := opens_bool Tryz.underlying4
theorem opStr {H : Type} {enc : TypeId × Value → H} (w : World) : Opens enc Tryz.prog w 9 strR := opens_string Tryz.underlying9
theorem opInts {H : Type} {enc : TypeId × Value → H} (w : World) : Opens enc Tryz.prog w 25 intsR := opens_slice Tryz.underlying25 (by kernel_rfl) (by decide) (opInt w)
theorem opSch {H : Type} {enc : TypeId × Value → H} (w : World) : Opens enc Tryz.prog w 29 schR := opens_struct2 Tryz.underlying29 (by kernel_rfl) ⟨by kernel_rfl, by kernel_rfl⟩ ⟨by kernel_rfl, by kernel_rfl⟩ (opInts w) (opInts w)
theorem opRows {H : Type} {enc : TypeId × Value → H} (w : World) : Opens enc Tryz.prog w 50 rowsR := opens_slice Tryz.underlying50 (by kernel_rfl) (by decide) (opInts w)
theorem opDom {H : Type} {enc : TypeId × Value → H} (w : World) : Opens enc Tryz.prog w 52 domR := opens_struct3 Tryz.underlying52 (by kernel_rfl) ⟨by kernel_rfl, by kernel_rfl⟩ ⟨by kernel_rfl, by kernel_rfl⟩ ⟨by kernel_rfl, by kernel_rfl⟩ (opInts w) (opInts w) (opRows w)
theorem opStep {H : Type} {enc : TypeId × Value → H} (w : World) : Opens enc Tryz.prog w 177 stepR := opens_struct2 Tryz.underlying177 (by kernel_rfl) ⟨by kernel_rfl, by kernel_rfl⟩ ⟨by kernel_rfl, by kernel_rfl⟩ (opInt w) (opInt w)
theorem opSteps {H : Type} {enc : TypeId × Value → H} (w : World) : Opens enc Tryz.prog w 114 stepsR := opens_slice Tryz.underlying114 (by kernel_rfl) (by decide) (opStep w)
theorem opMode {H : Type} {enc : TypeId × Value → H} (w : World) : Opens enc Tryz.prog w 174 modeR := opens_struct3 Tryz.underlying174 (by kernel_rfl) ⟨by kernel_rfl, by kernel_rfl⟩ ⟨by kernel_rfl, by kernel_rfl⟩ ⟨by kernel_rfl, by kernel_rfl⟩ (opInt w) (opInts w) (opInts w)
theorem opModes {H : Type} {enc : TypeId × Value → H} (w : World) : Opens enc Tryz.prog w 110 modesR := opens_slice Tryz.underlying110 (by kernel_rfl) (by decide) (opMode w)
theorem opAct {H : Type} {enc : TypeId × Value → H} (w : World) : Opens enc Tryz.prog w 112 actR := opens_struct3 Tryz.underlying112 (by kernel_rfl) ⟨by kernel_rfl, by kernel_rfl⟩ ⟨by kernel_rfl, by kernel_rfl⟩ ⟨by kernel_rfl, by kernel_rfl⟩ (opStr w) (opInt w) (opModes w)
theorem opActs {H : Type} {enc : TypeId × Value → H} (w : World) : Opens enc Tryz.prog w 22 actsR := opens_slice Tryz.underlying22 (by kernel_rfl) (by decide) (opAct w)
theorem opRes {H : Type} {enc : TypeId × Value → H} (w : World) : Opens enc Tryz.prog w 116 resR := opens_struct2 Tryz.underlying116 (by kernel_rfl) ⟨by kernel_rfl, by kernel_rfl⟩ ⟨by kernel_rfl, by kernel_rfl⟩ (opSteps w) (opRows w)
theorem opRess {H : Type} {enc : TypeId × Value → H} (w : World) : Opens enc Tryz.prog w 24 ressR := opens_slice Tryz.underlying24 (by kernel_rfl) (by decide) (opRes w)
theorem opLink {H : Type} {enc : TypeId × Value → H} (w : World) : Opens enc Tryz.prog w 119 linkR := opens_struct4 Tryz.underlying119 (by kernel_rfl) ⟨by kernel_rfl, by kernel_rfl⟩ ⟨by kernel_rfl, by kernel_rfl⟩ ⟨by kernel_rfl, by kernel_rfl⟩ ⟨by kernel_rfl, by kernel_rfl⟩ (opInt w) (opInt w) (opBool w) (opInt w)
theorem opLinks {H : Type} {enc : TypeId × Value → H} (w : World) : Opens enc Tryz.prog w 23 linksR := opens_slice Tryz.underlying23 (by kernel_rfl) (by decide) (opLink w)
theorem opProj {H : Type} {enc : TypeId × Value → H} (w : World) : Opens enc Tryz.prog w 27 projR := opens_struct5 Tryz.underlying27 (by kernel_rfl) ⟨by kernel_rfl, by kernel_rfl⟩ ⟨by kernel_rfl, by kernel_rfl⟩ ⟨by kernel_rfl, by kernel_rfl⟩ ⟨by kernel_rfl, by kernel_rfl⟩ ⟨by kernel_rfl, by kernel_rfl⟩ (opInt w) (opActs w) (opLinks w) (opRess w) (opInts w)
end Go.Proofs.YthkcdmghchikjaaGreat
