/- The argument types of this seat's statements, opened. -/
import Derived.Test.YtkfpciggolkjeaaDoorRows
import Derived.Test.YtkfpciggolkjeaaDoorReps
namespace Go.Proofs.YtkfpciggolkjeaaDoor
open Go.RowKit
set_option linter.unusedVariables false
set_option maxRecDepth 10000

theorem laidOutAll : laidOutB Tryd.prog = true := by kernel_rfl
theorem ownKnobNone : ownKnob Tryd.prog.godebug = none := by kernel_rfl
theorem opInt {H : Type} {enc : TypeId × Value → H} (w : World) : Opens enc Tryd.prog w 3 intR := opens_int Tryd.underlying3
theorem opBool {H : Type} {enc : TypeId × Value → H} (w : World) : Opens enc Tryd.prog w 4 boolR := opens_bool Tryd.underlying4
theorem opStr {H : Type} {enc : TypeId × Value → H} (w : World) : Opens enc Tryd.prog w 9 strR := opens_string Tryd.underlying9
theorem opInts {H : Type} {enc : TypeId × Value → H} (w : World) : Opens enc Tryd.prog w 25 intsR := opens_slice Tryd.underlying25 (by kernel_rfl) (by decide) (opInt w)
theorem opLit {H : Type} {enc : TypeId × Value → H} (w : World) : Opens enc Tryd.prog w 29 litR := opens_struct3 Tryd.underlying29 (by kernel_rfl) ⟨by kernel_rfl, by kernel_rfl⟩ ⟨by kernel_rfl, by kernel_rfl⟩ ⟨by kernel_rfl, by kernel_rfl⟩ (opInt w) (opInt w) (opInt w)
theorem opSch {H : Type} {enc : TypeId × Value → H} (w : World) : Opens enc Tryd.prog w 43 schR := opens_struct2 Tryd.underlying43 (by kernel_rfl) ⟨by kernel_rfl, by kernel_rfl⟩ ⟨by kernel_rfl, by kernel_rfl⟩ (opInts w) (opInts w)
theorem opRows {H : Type} {enc : TypeId × Value → H} (w : World) : Opens enc Tryd.prog w 76 rowsR := opens_slice Tryd.underlying76 (by kernel_rfl) (by decide) (opInts w)
theorem opStep {H : Type} {enc : TypeId × Value → H} (w : World) : Opens enc Tryd.prog w 130 stepR := opens_struct2 Tryd.underlying130 (by kernel_rfl) ⟨by kernel_rfl, by kernel_rfl⟩ ⟨by kernel_rfl, by kernel_rfl⟩ (opInt w) (opInt w)
theorem opSteps {H : Type} {enc : TypeId × Value → H} (w : World) : Opens enc Tryd.prog w 75 stepsR := opens_slice Tryd.underlying75 (by kernel_rfl) (by decide) (opStep w)
theorem opMode {H : Type} {enc : TypeId × Value → H} (w : World) : Opens enc Tryd.prog w 121 modeR := opens_struct3 Tryd.underlying121 (by kernel_rfl) ⟨by kernel_rfl, by kernel_rfl⟩ ⟨by kernel_rfl, by kernel_rfl⟩ ⟨by kernel_rfl, by kernel_rfl⟩ (opInt w) (opInts w) (opInts w)
theorem opModes {H : Type} {enc : TypeId × Value → H} (w : World) : Opens enc Tryd.prog w 71 modesR := opens_slice Tryd.underlying71 (by kernel_rfl) (by decide) (opMode w)
theorem opAct {H : Type} {enc : TypeId × Value → H} (w : World) : Opens enc Tryd.prog w 73 actR := opens_struct3 Tryd.underlying73 (by kernel_rfl) ⟨by kernel_rfl, by kernel_rfl⟩ ⟨by kernel_rfl, by kernel_rfl⟩ ⟨by kernel_rfl, by kernel_rfl⟩ (opStr w) (opInt w) (opModes w)
theorem opActs {H : Type} {enc : TypeId × Value → H} (w : World) : Opens enc Tryd.prog w 22 actsR := opens_slice Tryd.underlying22 (by kernel_rfl) (by decide) (opAct w)
theorem opRes {H : Type} {enc : TypeId × Value → H} (w : World) : Opens enc Tryd.prog w 78 resR := opens_struct2 Tryd.underlying78 (by kernel_rfl) ⟨by kernel_rfl, by kernel_rfl⟩ ⟨by kernel_rfl, by kernel_rfl⟩ (opSteps w) (opRows w)
theorem opRess {H : Type} {enc : TypeId × Value → H} (w : World) : Opens enc Tryd.prog w 24 ressR := opens_slice Tryd.underlying24 (by kernel_rfl) (by decide) (opRes w)
theorem opLink {H : Type} {enc : TypeId × Value → H} (w : World) : Opens enc Tryd.prog w 86 linkR := opens_struct4 Tryd.underlying86 (by kernel_rfl) ⟨by kernel_rfl, by kernel_rfl⟩ ⟨by kernel_rfl, by kernel_rfl⟩ ⟨by kernel_rfl, by kernel_rfl⟩ ⟨by kernel_rfl, by kernel_rfl⟩ (opInt w) (opInt w) (opBool w) (opInt w)
theorem opLinks {H : Type} {enc : TypeId × Value → H} (w : World) : Opens enc Tryd.prog w 23 linksR := opens_slice Tryd.underlying23 (by kernel_rfl) (by decide) (opLink w)
theorem opProj {H : Type} {enc : TypeId × Value → H} (w : World) : Opens enc Tryd.prog w 27 projR := opens_struct5 Tryd.underlying27 (by kernel_rfl) ⟨by kernel_rfl, by kernel_rfl⟩ ⟨by kernel_rfl, by kernel_rfl⟩ ⟨by kernel_rfl, by kernel_rfl⟩ ⟨by kernel_rfl, by kernel_rfl⟩ ⟨by kernel_rfl, by kernel_rfl⟩ (opInt w) (opActs w) (opLinks w) (opRess w) (opInts w)
end Go.Proofs.YtkfpciggolkjeaaDoor
