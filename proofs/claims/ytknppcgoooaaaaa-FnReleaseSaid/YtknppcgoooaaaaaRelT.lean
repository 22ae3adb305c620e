/-
  Plain facts of FnRelease: slopes and starts at a cell. No program in sight.
-/
import Derived.Test.YtknppcgoooaaaaaRelP
namespace Go.Proofs.Ytknppcgoooaaaaa
open Go.RowKit
set_option linter.unusedVariables false

theorem start_code {R C lo hi : Int} {hs ds : List Int} (hv : gridOk R C 10 hs = true) (h1 : 0 ≤ lo) (h2 : lo ≤ hi) (h3 : hi ≤ 10000) (hr : risesB ds 0 7 = true) : startC R C 10 hs lo hi ds = 0 := by
  have e1 : (inB lo 0 10000 && inB hi lo 10000) = true := by simp [inB]; omega
  unfold startC
  rw [if_pos hv, if_pos e1, if_pos hr]
theorem start_codes {R C lo hi : Int} {hs : List Int} (hv : gridOk R C 10 hs = true) (h1 : 0 ≤ lo) (h2 : lo ≤ hi) (h3 : hi ≤ 10000) :
    startC R C 10 hs lo hi [0, 1, 2, 3, 4, 5, 6, 7] = 0 ∧ startC R C 10 hs lo hi [4] = 0 :=
  ⟨start_code hv h1 h2 h3 (by decide), start_code hv h1 h2 h3 (by decide)⟩
/-- What the law asks at a cell. -/
theorem rel_cell {R C lo hi : Int} {hs : List Int} {n k : Nat} (hv : gridOk R C 10 hs = true) (hk : k < n) :
    ((steep R C 10 hs (k : Int)).1 < 0 → hasB (cellsB n (startP R C 10 hs lo hi [0, 1, 2, 3, 4, 5, 6, 7])) (k : Int) = false ∧ hasB (cellsB n (startP R C 10 hs lo hi [4])) (k : Int) = false ∧ (slopesL R C 10 hs n)[k]? = some 0)
    ∧ (¬ (steep R C 10 hs (k : Int)).1 < 0 → hasB (cellsB n (startP R C 10 hs lo hi [0, 1, 2, 3, 4, 5, 6, 7])) (k : Int) = inB (steep R C 10 hs (k : Int)).2 lo hi ∧ hasB (cellsB n (startP R C 10 hs lo hi [4])) (k : Int) = (inB (steep R C 10 hs (k : Int)).2 lo hi && decide ((steep R C 10 hs (k : Int)).1 = 4)) ∧ (slopesL R C 10 hs n)[k]? = some (steep R C 10 hs (k : Int)).2) := by
  obtain ⟨_, _, _, hn, hall⟩ := gridOk_iff.1 hv
  have hst := steep_cases (R := R) (C := C) (S := 10) (k := (k : Int)) hall (by omega)
  rw [start_at hk, start_at hk, slopesL_at hk]
  unfold startP
  obtain ⟨P, hP⟩ : ∃ P, P = steep R C 10 hs (k : Int) := ⟨_, rfl⟩
  rw [← hP] at hst ⊢
  refine ⟨fun h => ?_, fun h => ?_⟩
  · have e : decide (0 ≤ P.1) = false := by simp; omega
    rw [e]
    refine ⟨rfl, rfl, ?_⟩
    rcases hst with ⟨_, h2⟩ | ⟨a, _, h1, _⟩
    · rw [h2]
    · omega
  · have e : decide (0 ≤ P.1) = true := by simp; omega
    have h7 : P.1 < 8 := by
      rcases hst with ⟨h1, _⟩ | ⟨a, ⟨ha, _⟩, h1, _⟩ <;> omega
    have e8 : hasB [0, 1, 2, 3, 4, 5, 6, 7] P.1 = true := hasB_iff.2 (by simp; omega)
    have e4 : hasB [4] P.1 = decide (P.1 = 4) := by
      cases h4 : hasB [4] P.1
      · have : ¬ P.1 = 4 := fun h => by rw [h] at h4; cases h4
        simp [this]
      · have := hasB_iff.1 h4
        simp at this
        simp [this]
    rw [e, e8, e4]
    exact ⟨by simp, by simp, rfl⟩
theorem in_cases {x lo hi : Int} : inB x lo hi = (decide (lo ≤ x) && decide (x ≤ hi)) := rfl
end Go.Proofs.Ytknppcgoooaaaaa
