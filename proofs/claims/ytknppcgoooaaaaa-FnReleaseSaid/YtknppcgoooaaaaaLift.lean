/-
  What every law's last step wants: facts of the whole program, bounds of an integer argument.
-/
import Derived.Test.YtknppcgoooaaaaaMem
import Derived.Test.YtknppcgoooaaaaaRows
namespace Go.Proofs.Ytknppcgoooaaaaa
open Go.RowKit
theorem own : ownKnob Try.prog.godebug = none := by kernel_rfl
theorem laidOut : laidOutB Try.prog = true := by kernel_rfl
theorem wf64 {n : Int} (h : (Lit.int .i64 n).wf = true) : -9223372036854775808 ≤ n ∧ n ≤ 9223372036854775807 := by
  simpa [Lit.wf, IntKind.min, IntKind.max, IntKind.signed, IntKind.bits] using h
theorem below_drewN0 (w : World) (n : Nat) : Below w.heap.size w (w.drewN n) := below_drewN (Below.refl _ _) n
end Go.Proofs.Ytknppcgoooaaaaa
