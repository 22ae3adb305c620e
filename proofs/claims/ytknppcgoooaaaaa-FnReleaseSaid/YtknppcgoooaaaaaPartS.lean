/-
  The parts of cells, the reference's.
-/
import Derived.Test.YtknppcgoooaaaaaPartR
import Derived.Test.YtknppcgoooaaaaaGridL
namespace Go.Proofs.Ytknppcgoooaaaaa
open Go.ChangeShapes Go.WideShapes Go.ChangeAt Go.RowKit Go.Deep
set_option linter.unusedVariables false

theorem sprN_good {nr : Int → List Int} {xs : List Int} {f : Int} (hf : f ∈ xs) (r : Nat) : Good nr xs f (sprN nr xs r [f]) :=
  Good.n r ⟨by simp, fun z hz => by simp at hz; subst hz; exact .base hf⟩
theorem hitB_no {nr : Int → List Int} {o : List Int} {c : Int} (h : ∀ (t : Nat) (z : Int), (nr c)[t]? = some z → hasB o z = false) : hitB nr o c = false := by
  cases hh : hitB nr o c
  · rfl
  · obtain ⟨z, hz, hzo⟩ := hitB_iff.1 hh
    obtain ⟨t, ht⟩ := List.mem_iff_getElem?.1 hz
    have := h t z ht
    rw [hasB_iff.2 hzo] at this
    cases this
end Go.Proofs.Ytknppcgoooaaaaa
