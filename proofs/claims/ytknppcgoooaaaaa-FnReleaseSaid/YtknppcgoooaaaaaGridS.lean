/-
  The cells that nothing reaches, both sides.
-/
import Derived.Test.YtknppcgoooaaaaaGridH
namespace Go.Proofs.Ytknppcgoooaaaaa
open Go.ChangeShapes Go.WideShapes Go.ChangeAt Go.RowKit Go.Deep
set_option linter.unusedVariables false

/-- Cells with a property, where a code is 0. -/
def cellsR (K : Int) (n : Nat) (p : Nat → Bool) : List Int := if K = 0 then cellsB n p else []
theorem cellsR_yes {K : Int} {n : Nat} {p : Nat → Bool} (h : K = 0) : cellsR K n p = cellsB n p := by rw [cellsR, if_pos h]
theorem cellsR_no {K : Int} {n : Nat} {p : Nat → Bool} (h : ¬ K = 0) : cellsR K n p = [] := by rw [cellsR, if_neg h]
theorem cellsR_ok (K : Int) {n : Nat} (hn : K = 0 → n ≤ 64) (p : Nat → Bool) : (∀ y ∈ cellsR K n p, -9223372036854775808 ≤ y ∧ y ≤ 9223372036854775807) ∧ (cellsR K n p).length ≤ 1048576 := by
  unfold cellsR
  split
  · rename_i h
    have := hn h
    refine ⟨fun y hy => ?_, ?_⟩
    · have := cellsB_mem hy
      omega
    · have := cellsB_len n p
      omega
  · simp
theorem ResI.of {E : Nat} {w w0 w' : World} {K : Int} {ys : List Int} {A : Option Addr} {c : Nat} (hf : Fresh w' w0.heap.size E 1 A ys.length c (ys.map (.int .i64))) (hs : w.heap.size ≤ w0.heap.size) (hb : Below w.heap.size w w') :
    ResI E w ys K (.returned (.tuple #[.slice A ys.length c, .int .i64 K])) w' := ⟨A, c, rfl, hf.base hs, hb⟩
/-- What a walk over a grid whose cells are in order wants. -/
theorem cells_facts {R C S : Int} {hs xs : List Int} {n : Nat} (hl : hs.length = n) (h : cellsC R C S hs xs = 0) : (1 ≤ R ∧ R ≤ 8) ∧ (1 ≤ C ∧ C ≤ 8) ∧ (1 ≤ S ∧ S ≤ 100) ∧ (n : Int) = R * C ∧ n ≤ 64 := by
  obtain ⟨h1, h2⟩ := cellsC_ok h
  obtain ⟨⟨r1, r2⟩, ⟨c1, c2⟩, hS, hn, _⟩ := gridOk_iff.1 h1
  have := mul64 r1 r2 c1 c2
  rw [hl] at hn
  exact ⟨⟨r1, r2⟩, ⟨c1, c2⟩, hS, hn, by omega⟩
def safeP (xs : List Int) (k : Nat) : Bool := !hasB xs (k : Int)
end Go.Proofs.Ytknppcgoooaaaaa
