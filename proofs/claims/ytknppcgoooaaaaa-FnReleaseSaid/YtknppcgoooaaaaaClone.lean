/-
  The contract of slices.Clone at numbers.
-/
import Derived.Test.YtknppcgoooaaaaaSl
namespace Go.Proofs.Ytknppcgoooaaaaa
open Go.ChangeShapes Go.WideShapes Go.ChangeAt Go.RowKit Go.Deep
end Go.Proofs.Ytknppcgoooaaaaa
