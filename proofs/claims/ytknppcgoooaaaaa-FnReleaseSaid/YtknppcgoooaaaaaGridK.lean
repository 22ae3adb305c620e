/-
  Whether one of the steps to the cells around a cell has a property: slices.ContainsFunc at whatever closure.
-/
import Derived.Test.YtknppcgoooaaaaaGridT
import Derived.Test.YtknppcgoooaaaaaGridH
import Derived.Shelf.Abstract
namespace Go.Proofs.Ytknppcgoooaaaaa
open Go.ChangeShapes Go.WideShapes Go.ChangeAt Go.RowKit Go.Deep
set_option linter.unusedVariables false

def stepV (C S : Int) (hs : List Int) (k : Int) (a : Nat) : Value := .agg #[.int .i64 (nbAt C k a), .int .i64 a, .int .i64 (fallAt C S hs k a)]
def StepsAt (w : World) (A : Option Addr) (C S : Int) (hs : List Int) (k : Int) (l : List Nat) : Prop :=
  ∀ (j a : Nat), l[j]? = some a → ∃ gs, A = some ⟨gs, 0, none⟩ ∧ w.cell? ⟨gs, j * 3, none⟩ = some (.int .i64 (nbAt C k a)) ∧ w.cell? ⟨gs, j * 3 + 1, none⟩ = some (.int .i64 a) ∧ w.cell? ⟨gs, j * 3 + 2, none⟩ = some (.int .i64 (fallAt C S hs k a))
theorem StepsAt.below {w w' : World} {A : Option Addr} {C S : Int} {hs : List Int} {k : Int} {l : List Nat} (h : StepsAt w A C S hs k l) (hb : Below w.heap.size w w') : StepsAt w' A C S hs k l := by
  intro j a hj
  obtain ⟨gs, e, c0, c1, c2⟩ := h j a hj
  exact ⟨gs, e, cell_kept hb c0, cell_kept hb c1, cell_kept hb c2⟩
theorem StepsAt.of_own {w : World} {base e c : Nat} {A : Option Addr} {C S : Int} {hs : List Int} {k : Int} {l : List Nat} (h : w.ownsRow base e 3 (.slice A l.length c) l.length (stepsOf C S hs k l)) : StepsAt w A C S hs k l := by
  intro j a hj
  have hlt := (List.getElem?_eq_some_iff.1 hj).1
  obtain ⟨gs, hgs⟩ : ∃ gs, A = some ⟨gs, 0, none⟩ := by
    rcases h.2 with ⟨hv, h00⟩ | ⟨g, cap, cur, hv, _⟩
    · omega
    · simp only [Value.slice.injEq] at hv
      exact ⟨g, hv.1⟩
  subst hgs
  obtain ⟨f, hbg, hnc, hcm, _, hrow0, hf⟩ := own_to_rowIs h
  have hat := fun o ho => (hf (j * 3 + o) (by omega)).symm.trans (stepsOf_at C S hs k _ hj o ho)
  have a0 := hat 0 (by omega)
  have a1 := hat 1 (by omega)
  have a2 := hat 2 (by omega)
  simp only [stepCells, Nat.add_zero] at a0 a1 a2
  injection a0 with a0
  injection a1 with a1
  injection a2 with a2
  refine ⟨gs, rfl, ?_, ?_, ?_⟩
  · rw [← a0]; exact hrow0.cell (i := j * 3) (by omega)
  · rw [← a1]; exact hrow0.cell (i := j * 3 + 1) (by omega)
  · rw [← a2]; exact hrow0.cell (i := j * 3 + 2) (by omega)
theorem any_no {l : List Nat} {p : Nat → Bool} (h : ∀ (j a : Nat), j < l.length → l[j]? = some a → p a = false) : l.any p = false := by
  rw [List.any_eq_false]
  intro a ha
  obtain ⟨j, hj⟩ := List.mem_iff_getElem?.1 ha
  simp [h j a (List.getElem?_eq_some_iff.1 hj).1 hj]
theorem any_yes {l : List Nat} {p : Nat → Bool} {j a : Nat} (hj : l[j]? = some a) (h : p a = true) : l.any p = true := List.any_eq_true.2 ⟨a, List.mem_of_getElem? hj, h⟩
end Go.Proofs.Ytknppcgoooaaaaa
