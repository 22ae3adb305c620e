/-
  The cells at the border of cells, the reference's.
-/
import Derived.Test.YtdmfapdnepdibaaGridBo
import Derived.Test.YtdmfapdnepdibaaGridX
namespace Go.Proofs.Ytdmfapdnepdibaa
open Go.ChangeShapes Go.WideShapes Go.ChangeAt Go.RowKit Go.Deep
set_option linter.unusedVariables false

def sideB (R C : Int) (xs : List Int) (k : Int) (a : Nat) : Bool := nbOk R C k a && hasB xs (nbAt C k a)
def innerTo (R C : Int) (xs : List Int) (k : Int) (m : Nat) : Bool := (List.range m).all (sideB R C xs k)
theorem innerTo_succ (R C : Int) (xs : List Int) (k : Int) (m : Nat) : innerTo R C xs k (m + 1) = (innerTo R C xs k m && sideB R C xs k m) := by
  unfold innerTo
  rw [List.range_succ, List.all_append]
  simp
theorem inner_link (R C : Int) (xs : List Int) (k : Int) : innerB R C xs k = innerTo R C xs k 8 := by
  rw [Bool.eq_iff_iff]
  unfold innerB innerTo
  rw [Bool.and_eq_true, decide_eq_true_eq, Bool.not_eq_true', List.any_eq_false, List.all_eq_true]
  constructor
  · rintro ⟨h8, hall⟩ a ha
    have hfl : (dirs R C k).length = (List.range 8).length := by rw [h8]; rfl
    have hok := (List.length_filter_eq_length_iff.1 hfl) a ha
    have := hall a (mem_dirs.2 ⟨List.mem_range.1 ha, hok⟩)
    unfold outQ at this
    unfold sideB
    simp at this
    rw [hok, this]
    rfl
  · intro h
    have hok : ∀ a ∈ List.range 8, nbOk R C k a = true := fun a ha => by
      have := h a ha
      unfold sideB at this
      rw [Bool.and_eq_true] at this
      exact this.1
    refine ⟨(List.length_filter_eq_length_iff.2 hok).trans rfl, fun a ha => ?_⟩
    have := h a (List.mem_range.2 (mem_dirs.1 ha).1)
    unfold sideB at this
    rw [Bool.and_eq_true] at this
    unfold outQ
    simp [this.2]
end Go.Proofs.Ytdmfapdnepdibaa
