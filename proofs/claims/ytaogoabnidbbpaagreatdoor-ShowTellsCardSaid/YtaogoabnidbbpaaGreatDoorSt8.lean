/- Texts of this work merged into one file, what the law does not need left out: Aid. Conditions stand in each law. -/
import Derived.Test.YtaogoabnidbbpaaGreatDoorSt6
namespace Go.Proofs.YtaogoabnidbbpaaGreatDoorW.Aid
open Go.RowKit Go.Proofs.YtaogoabnidbbpaaGreatDoorW.PrintWords Go.Proofs.YtaogoabnidbbpaaGreatDoorW.PrintLast
set_option linter.unusedVariables false
set_option linter.unusedSimpArgs false
theorem blk_new1 (w : World) (o o' : Obj) : ((w.alloc o).alloc o').heap[w.heap.size + 1]? = some o' := by
 have := blk_new (w.alloc o) o'
 simpa using this
end Go.Proofs.YtaogoabnidbbpaaGreatDoorW.Aid
