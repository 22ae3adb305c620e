/-
  The contracts of the functions over zones and masses: sums, joined masses, values of some years, where houses may stand.
-/
import Derived.Test.YtalfpjdjkbggiaaZoneW
namespace Go.Proofs.Ytalfpjdjkbggiaa
open Go.ChangeShapes Go.WideShapes Go.ChangeAt Go.RowKit Go.Deep
set_option linter.unusedVariables false

/-! ### Sums -/
theorem take_snoc {xs : List Int} {k : Nat} {x : Int} (h : xs[k]? = some x) : xs.take (k + 1) = xs.take k ++ [x] := by
  rw [List.take_add_one, h]; rfl
theorem sum_snoc {xs : List Int} {k : Nat} {x : Int} (h : xs[k]? = some x) : (xs.take (k + 1)).sum = (xs.take k).sum + x := by
  rw [take_snoc h, List.sum_append]; simp
theorem sum_bd {lo hi : Int} (h0 : lo ≤ 0) (h1 : 0 ≤ hi) (xs : List Int) (h : ∀ x ∈ xs, lo ≤ x ∧ x ≤ hi) : lo * xs.length ≤ xs.sum ∧ xs.sum ≤ hi * xs.length := by
  induction xs with
  | nil => simp
  | cons a t ih =>
    have h2 := h a (by simp)
    have h3 := ih (fun x hx => h x (by simp [hx]))
    simp only [List.sum_cons, List.length_cons, Int.natCast_add, Int.natCast_one, Int.mul_add, Int.mul_one]
    omega
theorem allB_mem {xs : List Int} {lo hi : Int} (h : allB xs lo hi = true) : ∀ x ∈ xs, lo ≤ x ∧ x ≤ hi := by
  intro x hx
  obtain ⟨j, hj⟩ := List.mem_iff_getElem?.1 hx
  exact allB_iff.1 h j x hj
theorem take_bd {xs : List Int} {lo hi : Int} {k : Nat} (h : ∀ (j : Nat) (x : Int), j < k → xs[j]? = some x → inB x lo hi = true) : ∀ x ∈ xs.take k, lo ≤ x ∧ x ≤ hi := by
  intro x hx
  obtain ⟨j, hj⟩ := List.mem_iff_getElem?.1 hx
  rw [List.getElem?_take] at hj
  by_cases hjk : j < k
  · rw [if_pos hjk] at hj
    exact inB_iff.1 (h j x hjk hj)
  · rw [if_neg hjk] at hj
    cases hj
/-- Sums of at most 64 numbers from 0 to m. -/
theorem sum_take {xs : List Int} {m : Int} (hm : 0 ≤ m) {k : Nat} (hk : k ≤ 64) (h : ∀ x ∈ xs.take k, 0 ≤ x ∧ x ≤ m) : 0 ≤ (xs.take k).sum ∧ (xs.take k).sum ≤ m * 64 := by
  have h1 := sum_bd (lo := 0) (hi := m) (by omega) hm _ h
  have h2 : ((xs.take k).length : Int) ≤ 64 := by
    have := List.length_take_le k xs
    omega
  have h3 := Int.mul_le_mul_of_nonneg_left h2 hm
  omega

/-! ### Joined masses -/
def joinK (xs : List Int) : Bool := decide (xs.length ≤ 64) && allB xs 0 100000000
def joinV (xs : List Int) : Int := if (joinK xs && inB xs.sum 0 100000000) = true then xs.sum else 0
def joinS (xs : List Int) : Int := if (joinK xs && inB xs.sum 0 100000000) = true then cls xs.sum else 0
def joinC (xs : List Int) : Int := if joinK xs = true then (if inB xs.sum 0 100000000 = true then 0 else 6) else 2
end Go.Proofs.Ytalfpjdjkbggiaa
