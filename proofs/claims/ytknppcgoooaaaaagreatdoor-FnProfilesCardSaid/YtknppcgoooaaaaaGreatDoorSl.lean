/-
  The contracts of the law's own helpers over slices of numbers: copies, comparisons, marks.
-/
import Derived.Test.YtknppcgoooaaaaaGreatDoorMem
import Derived.Test.YtknppcgoooaaaaaGreatDoorRows
import Derived.Test.YtknppcgoooaaaaaGreatDoorArith
namespace Go.Proofs.YtknppcgoooaaaaaGreatDoor
open Go.ChangeShapes Go.WideShapes Go.ChangeAt Go.RowKit Go.Deep

theorem info_int : (Tryz.prog.info? 2).map (fun i => (i.zero, i.size, i.bytes)) = some (some (.int .i64 0), 1, 8) := by kernel_rfl

end Go.Proofs.YtknppcgoooaaaaaGreatDoor
