/- The argument types of this seat's statements, opened. -/
import Derived.Test.YtkfpciggolkjeaaGreatDoorRows
import Derived.Test.YtkfpciggolkjeaaGreatDoorReps
namespace Go.Proofs.YtkfpciggolkjeaaGreatDoor
open Go.RowKit
set_option linter.unusedVariables false
set_option maxRecDepth 10000

theorem laidOutAll : laidOutB Tryz.prog = true := by kernel_rfl
theorem ownKnobNone : ownKnob Tryz.prog.godebug = none := by kernel_rfl
theorem opInt {H : Type} {enc : TypeId × Value → H} (w : World) : Opens enc Tryz.prog w 3 intR := opens_int Tryz.underlying3
theorem opBool {H : Type} {enc : TypeId × Value → H} (w : World) : Opens enc Tryz.prog w 4 boolR := opens_bool Tryz.underlying4
theorem opStr {H : Type} {enc : TypeId × Value → H} (w : World) : Opens enc Tryz.prog w 9 strR := opens_string Tryz.underlying9
theorem opInts {H : Type} {enc : TypeId × Value → H} (w : World) : Opens enc Tryz.prog w 25 intsR := opens_slice Tryz.underlying25 (by kernel_rfl) (by decide) (opInt w)
theorem opRows {H : Type} {enc : TypeId × Value → H} (w : World) : Opens enc Tryz.prog w 95 rowsR := opens_slice Tryz.underlying95 (by kernel_rfl) (by decide) (opInts w)
theorem opStep {H : Type} {enc : TypeId × Value → H} (w : World) : Opens enc Tryz.prog w 159 stepR := opens_struct2 Tryz.underlying159 (by kernel_rfl) ⟨by kernel_rfl, by kernel_rfl⟩ ⟨by kernel_rfl, by kernel_rfl⟩ (opInt w) (opInt w)
theorem opSteps {H : Type} {enc : TypeId × Value → H} (w : World) : Opens enc Tryz.prog w 94 stepsR := opens_slice Tryz.underlying94 (by kernel_rfl) (by decide) (opStep w)
theorem opMode {H : Type} {enc : TypeId × Value → H} (w : World) : Opens enc Tryz.prog w 153 modeR := opens_struct3 Tryz.underlying153 (by kernel_rfl) ⟨by kernel_rfl, by kernel_rfl⟩ ⟨by kernel_rfl, by kernel_rfl⟩ ⟨by kernel_rfl, by kernel_rfl⟩ (opInt w) (opInts w) (opInts w)
theorem opModes {H : Type} {enc : TypeId × Value → H} (w : World) : Opens enc Tryz.prog w 90 modesR := opens_slice Tryz.underlying90 (by kernel_rfl) (by decide) (opMode w)
theorem opAct {H : Type} {enc : TypeId × Value → H} (w : World) : Opens enc Tryz.prog w 92 actR := opens_struct3 Tryz.underlying92 (by kernel_rfl) ⟨by kernel_rfl, by kernel_rfl⟩ ⟨by kernel_rfl, by kernel_rfl⟩ ⟨by kernel_rfl, by kernel_rfl⟩ (opStr w) (opInt w) (opModes w)
theorem opActs {H : Type} {enc : TypeId × Value → H} (w : World) : Opens enc Tryz.prog w 22 actsR := opens_slice Tryz.underlying22 (by kernel_rfl) (by decide) (opAct w)
theorem opRes {H : Type} {enc : TypeId × Value → H} (w : World) : Opens enc Tryz.prog w 97 resR := opens_struct2 Tryz.underlying97 (by kernel_rfl) ⟨by kernel_rfl, by kernel_rfl⟩ ⟨by kernel_rfl, by kernel_rfl⟩ (opSteps w) (opRows w)
theorem opRess {H : Type} {enc : TypeId × Value → H} (w : World) : Opens enc Tryz.prog w 24 ressR := opens_slice Tryz.underlying24 (by kernel_rfl) (by decide) (opRes w)
theorem opLink {H : Type} {enc : TypeId × Value → H} (w : World) : Opens enc Tryz.prog w 106 linkR := opens_struct4 Tryz.underlying106 (by kernel_rfl) ⟨by kernel_rfl, by kernel_rfl⟩ ⟨by kernel_rfl, by kernel_rfl⟩ ⟨by kernel_rfl, by kernel_rfl⟩ ⟨by kernel_rfl, by kernel_rfl⟩ (opInt w) (opInt w) (opBool w) (opInt w)
theorem opLinks {H : Type} {enc : TypeId × Value → H} (w : World) : Opens enc Tryz.prog w 23 linksR := opens_slice Tryz.underlying23 (by kernel_rfl) (by decide) (opLink w)
theorem opProj {H : Type} {enc : TypeId × Value → H} (w : World) : Opens enc Tryz.prog w 27 projR := opens_struct5 Tryz.underlying27 (by kernel_rfl) ⟨by kernel_rfl, by kernel_rfl⟩ ⟨by kernel_rfl, by kernel_rfl⟩ ⟨by kernel_rfl, by kernel_rfl⟩ ⟨by kernel_rfl, by kernel_rfl⟩ ⟨by kernel_rfl, by kernel_rfl⟩ (opInt w) (opActs w) (opLinks w) (opRess w) (opInts w)
theorem opRule {H : Type} {enc : TypeId × Value → H} (w : World) : Opens enc Tryz.prog w 29 ruleR := opens_struct4 Tryz.underlying29 (by kernel_rfl) ⟨by kernel_rfl, by kernel_rfl⟩ ⟨by kernel_rfl, by kernel_rfl⟩ ⟨by kernel_rfl, by kernel_rfl⟩ ⟨by kernel_rfl, by kernel_rfl⟩ (opInt w) (opInt w) (opInt w) (opInt w)
end Go.Proofs.YtkfpciggolkjeaaGreatDoor
