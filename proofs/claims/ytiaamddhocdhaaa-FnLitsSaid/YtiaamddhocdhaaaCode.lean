/- The argument of the laws over draws: a list of bytes, opened. -/
import Derived.Test.YtiaamddhocdhaaaTypes
import Derived.Test.YtiaamddhocdhaaaCur
namespace Go.Proofs.Ytiaamddhocdhaaa
open Go.RowKit
set_option linter.unusedVariables false
theorem opens_u8 {P : Program} {H : Type} {enc : TypeId × Value → H} {w : World} {t : TypeId} (ht : P.underlying t = some (.int .u8)) : Opens enc P w t u8R := by
  intro fuel cs y h hn
  obtain ⟨n, h1, _, h3⟩ := DataW.trod_int ht h
  exact ⟨n, h1, by simpa [Lit.wf, IntKind.min, IntKind.max, IntKind.signed, IntKind.bits] using h3⟩
theorem opU8 {H : Type} {enc : TypeId × Value → H} (w : World) : Opens enc Try.prog w 5 u8R := opens_u8 Try.underlying5
theorem opBytes {H : Type} {enc : TypeId × Value → H} (w : World) : Opens enc Try.prog w 38 bytesR := opens_slice Try.underlying38 (by kernel_rfl) (by decide) (opU8 w)
end Go.Proofs.Ytiaamddhocdhaaa
