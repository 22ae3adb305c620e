/-
  Cells that grow, the program's.
-/
import Derived.Test.YtknppcgoooaaaaaGridJ
import Derived.Test.YtknppcgoooaaaaaGridK
namespace Go.Proofs.Ytknppcgoooaaaaa
open Go.ChangeShapes Go.WideShapes Go.ChangeAt Go.RowKit Go.Deep
set_option linter.unusedVariables false

def growC (R C S : Int) (hs xs : List Int) (most : Int) : Int := if gridOk R C S hs = true then (if inB most 0 5000 = true then (if risesB xs 0 (R * C - 1) = true then 0 else 7) else 2) else 1
theorem grow_len {R C S most : Int} {hs xs : List Int} {n : Nat} (hl : hs.length = n) (h : growC R C S hs xs most = 0) : n ≤ 64 := by
  unfold growC at h
  cases hv : gridOk R C S hs
  · rw [hv] at h; simp at h
  · obtain ⟨⟨r1, r2⟩, ⟨c1, c2⟩, _, hn, _⟩ := gridOk_iff.1 hv
    have := mul64 r1 r2 c1 c2
    rw [hl] at hn
    omega
end Go.Proofs.Ytknppcgoooaaaaa
