/-
  The cells from which nothing leads down and those that no cell around them is above, the program's.
-/
import Derived.Test.YtknppcgoooaaaaaGridK
import Derived.Test.YtknppcgoooaaaaaGridS
namespace Go.Proofs.Ytknppcgoooaaaaa
open Go.ChangeShapes Go.WideShapes Go.ChangeAt Go.RowKit Go.Deep
set_option linter.unusedVariables false

def gridK (R C S : Int) (hs : List Int) : Int := if gridOk R C S hs = true then 0 else 1
def lowQ (C : Int) (hs : List Int) (k : Int) (a : Nat) : Bool := decide (hg hs (nbAt C k a) < hg hs k)
def highQ (C : Int) (hs : List Int) (k : Int) (a : Nat) : Bool := decide (hg hs k < hg hs (nbAt C k a))
def pitP (R C : Int) (hs : List Int) (k : Nat) : Bool := !(dirs R C (k : Int)).any (lowQ C hs k)
def peakP (R C : Int) (hs : List Int) (k : Nat) : Bool := !(dirs R C (k : Int)).any (highQ C hs k)
theorem grid_len {R C S : Int} {hs : List Int} {n : Nat} (hl : hs.length = n) (h : gridK R C S hs = 0) : n ≤ 64 := by
  unfold gridK at h
  cases hv : gridOk R C S hs
  · rw [hv] at h; simp at h
  · obtain ⟨⟨r1, r2⟩, ⟨c1, c2⟩, _, hn, _⟩ := gridOk_iff.1 hv
    have := mul64 r1 r2 c1 c2
    rw [hl] at hn
    omega
end Go.Proofs.Ytknppcgoooaaaaa
