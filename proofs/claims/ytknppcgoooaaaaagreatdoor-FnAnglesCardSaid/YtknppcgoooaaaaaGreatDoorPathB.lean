/-
  The contracts of the search for the least number with a property; the point where a path becomes flat; the tangent of a runout.
-/
import Derived.Test.YtknppcgoooaaaaaGreatDoorPathG
namespace Go.Proofs.YtknppcgoooaaaaaGreatDoor
open Go.ChangeShapes Go.WideShapes Go.ChangeAt Go.RowKit Go.Deep
set_option linter.unusedVariables false

/-- The least number of a range with a property, or -1. -/
def firstI (p : Int → Bool) (lo hi : Int) : Int := match (List.range (hi + 1 - lo).toNat).find? fun j : Nat => p (lo + (j : Int)) with
  | some j => lo + (j : Int)
  | none => -1
theorem firstI_eq {p : Int → Bool} {lo hi m : Int} (h1 : lo ≤ m) (h2 : m ≤ hi) (h3 : p m = true) (h4 : ∀ x, lo ≤ x → x < m → p x = false) : firstI p lo hi = m := by
  have e : (List.range (hi + 1 - lo).toNat).find? (fun j : Nat => p (lo + (j : Int))) = some (m - lo).toNat := by
    rw [List.find?_range_eq_some]
    have e1 : lo + (((m - lo).toNat : Nat) : Int) = m := by omega
    refine ⟨by rw [e1]; exact h3, by rw [List.mem_range]; omega, fun j hj => ?_⟩
    rw [h4 (lo + (j : Int)) (by omega) (by omega)]
    rfl
  unfold firstI
  rw [e]
  show lo + (((m - lo).toNat : Nat) : Int) = m
  omega
theorem firstI_no {p : Int → Bool} {lo hi : Int} (h : ∀ x, lo ≤ x → x ≤ hi → p x = false) : firstI p lo hi = -1 := by
  have e : (List.range (hi + 1 - lo).toNat).find? (fun j : Nat => p (lo + (j : Int))) = none := by
    rw [List.find?_eq_none]
    intro j hj
    rw [List.mem_range] at hj
    rw [h (lo + (j : Int)) (by omega) (by omega)]
    simp
  unfold firstI
  rw [e]
def LeastPost (p : Int → Bool) (lo hi : Int) (e : Ending) : Prop :=
  (∃ m, lo ≤ m ∧ m ≤ hi ∧ p m = true ∧ (∀ x, lo ≤ x → x < m → p x = false) ∧ e = .returned (.tuple #[.int .i64 m, .bool true])) ∨
  ((∀ x, lo ≤ x → x ≤ hi → p x = false) ∧ e = .returned (.tuple #[.int .i64 0, .bool false]))

def betaP (ps : Pth) (k : Int) : Bool := decide (1000 * (hAt ps k.toNat - hAt ps (k.toNat + 1)) < 176 * (dAt ps (k.toNat + 1) - dAt ps k.toNat))
def betaI (ps : Pth) : Int := firstI (betaP ps) 1 ((ps.length : Int) - 2)
def betaA (ps : Pth) : Int := if pathOk ps = true then (if betaI ps < 0 then 0 else betaI ps) else 0
def betaC (ps : Pth) : Int := if pathOk ps = true then (if betaI ps < 0 then 3 else 0) else 1
theorem orNotFound_yes (n : Int) (w : World) : Calls Tryz.prog 38 #[.int .i64 n, .bool true] w fun e w' => e = .returned (.tuple #[.int .i64 n, .int .i64 0]) ∧ w = w' := by
  go_enter Tryz.func38, Tryz.ntmps38
  go_wp2
  go_ret2
  exact ⟨rfl, rfl⟩
theorem orNotFound_no (n : Int) (w : World) : Calls Tryz.prog 38 #[.int .i64 n, .bool false] w fun e w' => e = .returned (.tuple #[.int .i64 0, .int .i64 3]) ∧ w = w' := by
  go_enter Tryz.func38, Tryz.ntmps38
  go_wp2
  go_ret2
  exact ⟨rfl, rfl⟩

end Go.Proofs.YtknppcgoooaaaaaGreatDoor
