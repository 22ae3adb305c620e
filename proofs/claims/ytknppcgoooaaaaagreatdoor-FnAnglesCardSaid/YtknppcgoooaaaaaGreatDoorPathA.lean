/-
  The contracts of the tangent of a runout.
-/
import Derived.Test.YtknppcgoooaaaaaGreatDoorPathB
namespace Go.Proofs.YtknppcgoooaaaaaGreatDoor
open Go.ChangeShapes Go.WideShapes Go.ChangeAt Go.RowKit Go.Deep
set_option linter.unusedVariables false

theorem tanV_bd {ps : Pth} (hp : pathOk ps = true) {k : Nat} (hk : 1 ≤ k) (hkn : k < ps.length) : 0 ≤ tanV ps k ∧ tanV ps k ≤ 9000001 := by
  have h1 := pathOk_pts hp hkn
  have h0 := pathOk_pts hp (i := 0) (by omega)
  have hl := pathOk_len hp
  have h2 := path_mono hp (i := 0) (j := k) (by omega) hkn
  rw [hl.2.2] at h2
  have := divN_le (1000 * (hAt ps 0 - hAt ps k)) (dAt ps k) (by omega) (by omega)
  unfold tanV
  omega
/-- The alpha of a path, as it is reckoned: the tangent before it is tested. -/
def alphaT (ps : Pth) (a b : Int) : Int := divN (a * tanV ps (betaI ps).toNat) 1000 - b
def alphaOkB (ps : Pth) (a b : Int) : Bool := pathOk ps && (inB a 1 2000 && inB b 0 1000) && decide (0 ≤ betaI ps) && inB (alphaT ps a b) 1 3000
def alphaA (ps : Pth) (a b : Int) : Int := if alphaOkB ps a b = true then alphaT ps a b else 0
def alphaC (ps : Pth) (a b : Int) : Int :=
  if pathOk ps = true then (if (inB a 1 2000 && inB b 0 1000) = true then (if betaI ps < 0 then 3 else if inB (alphaT ps a b) 1 3000 = true then 0 else 6) else 2) else 1
theorem betaI_bd (ps : Pth) (h : ¬ betaI ps < 0) : 1 ≤ (betaI ps).toNat ∧ (betaI ps).toNat + 1 < ps.length ∧ (((betaI ps).toNat : Nat) : Int) = betaI ps := by
  unfold betaI firstI at *
  cases e : (List.range ((ps.length : Int) - 2 + 1 - 1).toNat).find? (fun j : Nat => betaP ps (1 + (j : Int))) with
  | none => rw [e] at h; simp at h
  | some j =>
    rw [List.find?_range_eq_some] at e
    have hj := e.2.1
    rw [List.mem_range] at hj
    simp only
    omega
end Go.Proofs.YtknppcgoooaaaaaGreatDoor
