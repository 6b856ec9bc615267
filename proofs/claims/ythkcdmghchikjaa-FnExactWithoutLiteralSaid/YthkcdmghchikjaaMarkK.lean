/- Contracts of markT: what is written lies in blocks of S and keeps its kind; the count of leaves. -/
import Derived.Test.YthkcdmghchikjaaKin
import Derived.Test.YthkcdmghchikjaaIn
import Derived.Laws.BytesArg
namespace Go.Proofs.Ythkcdmghchikjaa
open Go.ChangeShapes Go.WideShapes Go.ChangeAt Go.RowKit
set_option linter.unusedVariables false

theorem oneByte (w : World) (x : Int) : (convert 46 9 (.slice (some ⟨w.heap.size, 0, none⟩) 1 1)).run Try.prog (w.alloc (.cells #[.int .u8 x] 5)) = .ok (.string (strOfNums [x])) (w.alloc (.cells #[.int .u8 x] 5)) := by
  refine run_convert_bytes_arg _ 46 5 Try.underlying46 Try.underlying5 w.heap.size 0 1 1 [x] rfl (fun i hi => ?_) 9 Try.underlying9
  obtain rfl : i = 0 := by omega
  simp [go_sem]












end Go.Proofs.Ythkcdmghchikjaa
