/-
  Cells that grow, the reference's.
-/
import Derived.Test.YtknppcgoooaaaaaGridGr
namespace Go.Proofs.Ytknppcgoooaaaaa
open Go.ChangeShapes Go.WideShapes Go.ChangeAt Go.RowKit Go.Deep
set_option linter.unusedVariables false

theorem absI_max (d : Int) : max d (-d) = absI d := by unfold absI; split <;> omega
theorem inc_pw {xs : List Int} (h : xs.Pairwise (· < ·)) : incB xs = true := by
  rw [List.pairwise_iff_getElem] at h
  refine incB_iff.2 fun i x y hx hy => ?_
  obtain ⟨h1, e1⟩ := List.getElem?_eq_some_iff.1 hx
  obtain ⟨h2, e2⟩ := List.getElem?_eq_some_iff.1 hy
  rw [← e1, ← e2]
  exact h i (i + 1) h1 h2 (by omega)
theorem pw_len {xs : List Int} {n : Int} (h : xs.Pairwise (· < ·)) (hb : ∀ z ∈ xs, 0 ≤ z ∧ z < n) (hn : 0 ≤ n) : (xs.length : Int) ≤ n := by
  have := rises_len (xs := xs) (lo := 0) (hi := n - 1) (rises_iff.2 ⟨inc_pw h, allB_iff.2 fun j x hx => by have := hb x (List.mem_of_getElem? hx); omega⟩) (by omega)
  omega
theorem near_bd {R C c : Int} (c1 : 1 ≤ C) : ∀ z ∈ near R C c, 0 ≤ z ∧ z < R * C := by
  intro z hz
  obtain ⟨a, ha, rfl⟩ := mem_near.1 hz
  exact nb_bd (mem_dirs.1 ha).2 c1
theorem to_bd {R C most : Int} {hs l o : List Int} (c1 : 1 ≤ C) (ho : ∀ z ∈ o, 0 ≤ z ∧ z < R * C) : ∀ z ∈ growTo R C hs most l o, 0 ≤ z ∧ z < R * C := by
  intro z hz
  rcases (mem_to l o z).1 hz with h | ⟨c, _, h, _⟩
  · exact ho z h
  · exact near_bd c1 z h
theorem one_bd {R C most c : Int} {hs o l : List Int} (hl : ∀ z ∈ l, 0 ≤ z ∧ z < R * C) (ho : ∀ z ∈ o, 0 ≤ z ∧ z < R * C) : ∀ z ∈ growOne hs most c l o, 0 ≤ z ∧ z < R * C := by
  intro z hz
  rcases (mem_one l o z).1 hz with h | ⟨h, _⟩
  · exact ho z h
  · exact hl z h
end Go.Proofs.Ytknppcgoooaaaaa
