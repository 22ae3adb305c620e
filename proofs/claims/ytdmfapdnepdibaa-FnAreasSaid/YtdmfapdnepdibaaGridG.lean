/-
  The cells from which the descent leads into cells, the reference's.
-/
import Derived.Test.YtdmfapdnepdibaaGridF
namespace Go.Proofs.Ytdmfapdnepdibaa
open Go.ChangeShapes Go.WideShapes Go.ChangeAt Go.RowKit Go.Deep
set_option linter.unusedVariables false

end Go.Proofs.Ytdmfapdnepdibaa
