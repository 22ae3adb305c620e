/-
  The law's helpers over paths that mark memory and look whether the marks still stand.
-/
import Derived.Test.YtknppcgoooaaaaaGreatDoorPathW
namespace Go.Proofs.YtknppcgoooaaaaaGreatDoor
open Go.ChangeShapes Go.WideShapes Go.ChangeAt Go.RowKit Go.Deep
set_option linter.unusedVariables false

def mks (k : Int) (n : Nat) : Pth := (List.range n).map fun (j : Nat) => (k + (2 * j : Nat), k + (2 * j + 1 : Nat))
theorem mks_len (k : Int) (n : Nat) : (mks k n).length = n := by simp [mks]
theorem mks_at {k : Int} {n j : Nat} (h : j < n) : (mks k n)[j]? = some (k + (2 * j : Nat), k + (2 * j + 1 : Nat)) := by simp [mks, h]
theorem mks_cell {k : Int} {n t : Nat} (h : t < n * 2) : ptCell (mks k n) t = .int .i64 (k + t) := by
  have hj : t / 2 < n := by omega
  have h1 := mks_at (k := k) hj
  unfold ptCell
  by_cases e : t % 2 = 0
  · rw [if_pos e, dAt_eq h1]
    congr 2
    omega
  · rw [if_neg e, hAt_eq h1]
    congr 2
    omega
theorem mks_bd {k : Int} {n : Nat} (h1 : 0 ≤ k) (h2 : k + 2 * n ≤ 1000000000000) : ∀ p ∈ mks k n, (-9223372036854775808 ≤ p.1 ∧ p.1 ≤ 9223372036854775807) ∧ (-9223372036854775808 ≤ p.2 ∧ p.2 ≤ 9223372036854775807) := by
  intro p hp
  simp only [mks, List.mem_map, List.mem_range] at hp
  obtain ⟨j, hj, rfl⟩ := hp
  constructor <;> constructor <;> simp only <;> omega
theorem Fresh.ptsb {w : World} {base e c : Nat} {A : Option Addr} {ps : Pth} (h : Fresh w base e 2 A ps.length c (ptCells ps)) (hl : ps.length ≤ 9223372036854775807)
    (hx : ∀ p ∈ ps, (-9223372036854775808 ≤ p.1 ∧ p.1 ≤ 9223372036854775807) ∧ (-9223372036854775808 ≤ p.2 ∧ p.2 ≤ 9223372036854775807)) : Pts w A ps.length ps := by
  rcases Nat.eq_zero_or_pos ps.length with h0 | h0
  · exact ⟨rfl, hl, hx, fun h => absurd h (by omega)⟩
  · exact Pts.of_own (h.2 h0) rfl hl hx
theorem Fresh.ptsk {w : World} {base e n c : Nat} {A : Option Addr} {k : Int} (h : Fresh w base e 2 A n c (ptCells (mks k n))) (h1 : 0 ≤ k) (h2 : k + 2 * n ≤ 1000000000000) : Pts w A n (mks k n) := by
  rcases Nat.eq_zero_or_pos n with h0 | h0
  · exact ⟨mks_len _ _, by omega, mks_bd h1 h2, fun h => absurd h (by omega)⟩
  · exact Pts.of_own (h.2 h0) (mks_len _ _).symm (by omega) (mks_bd h1 h2)
end Go.Proofs.YtknppcgoooaaaaaGreatDoor
