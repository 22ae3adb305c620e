/-
  What every law's last step wants: facts of the whole program, bounds of an integer argument.
-/
import Derived.Test.YtknppcgoooaaaaaGreatDoorMem
import Derived.Test.YtknppcgoooaaaaaGreatDoorRows
namespace Go.Proofs.YtknppcgoooaaaaaGreatDoor
open Go.RowKit
theorem own : ownKnob Tryz.prog.godebug = none := by kernel_rfl
theorem laidOut : laidOutB Tryz.prog = true := by kernel_rfl
theorem wf64 {n : Int} (h : (Lit.int .i64 n).wf = true) : -9223372036854775808 ≤ n ∧ n ≤ 9223372036854775807 := by
  simpa [Lit.wf, IntKind.min, IntKind.max, IntKind.signed, IntKind.bits] using h
theorem below_drewN0 (w : World) (n : Nat) : Below w.heap.size w (w.drewN n) := below_drewN (Below.refl _ _) n
end Go.Proofs.YtknppcgoooaaaaaGreatDoor
