/-
  The contracts of the law's own helpers over slices of numbers: copies, comparisons, marks.
-/
import Derived.Test.YtknppcgoooaaaaaMem
import Derived.Test.YtknppcgoooaaaaaRows
import Derived.Test.YtknppcgoooaaaaaArith
namespace Go.Proofs.Ytknppcgoooaaaaa
open Go.ChangeShapes Go.WideShapes Go.ChangeAt Go.RowKit Go.Deep

theorem info_int : (Try.prog.info? 2).map (fun i => (i.zero, i.size, i.bytes)) = some (some (.int .i64 0), 1, 8) := by kernel_rfl

end Go.Proofs.Ytknppcgoooaaaaa
