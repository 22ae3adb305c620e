/-
  Rising lists of cells: when one is valid; what it tells of its length. No program in sight.
-/
import Derived.Test.YtknppcgoooaaaaaGrid
namespace Go.Proofs.Ytknppcgoooaaaaa
open Go.RowKit
set_option linter.unusedVariables false

def incB (xs : List Int) : Bool := (List.range (xs.length - 1)).all fun i => decide (xs.getD i 0 < xs.getD (i + 1) 0)
theorem incB_iff {xs : List Int} : incB xs = true ↔ ∀ (i : Nat) (x y : Int), xs[i]? = some x → xs[i + 1]? = some y → x < y := by
  unfold incB
  rw [List.all_eq_true]
  constructor
  · intro h i x y hx hy
    have hl := (List.getElem?_eq_some_iff.1 hy).1
    have := h i (List.mem_range.2 (by omega))
    simpa [hx, hy] using this
  · intro h i hi
    have hi' := List.mem_range.1 hi
    have := h i _ _ (List.getElem?_eq_getElem (show i < xs.length by omega)) (List.getElem?_eq_getElem (show i + 1 < xs.length by omega))
    simpa [show i < xs.length by omega, show i + 1 < xs.length by omega] using this
theorem incB_no {xs : List Int} {i : Nat} {x y : Int} (hx : xs[i]? = some x) (hy : xs[i + 1]? = some y) (h : y ≤ x) : incB xs = false := by
  cases hp : incB xs
  · rfl
  · have := incB_iff.1 hp i x y hx hy
    omega
theorem inc_lt {xs : List Int} (h : incB xs = true) {i j : Nat} {x y : Int} (hij : i < j) (hx : xs[i]? = some x) (hy : xs[j]? = some y) : x < y := by
  induction j generalizing y with
  | zero => omega
  | succ m ih =>
    have hl := (List.getElem?_eq_some_iff.1 hy).1
    have hm := List.getElem?_eq_getElem (show m < xs.length by omega)
    have h1 := incB_iff.1 h m _ y hm hy
    rcases Nat.lt_or_ge i m with h2 | h2
    · have := ih h2 hm; omega
    · have : i = m := by omega
      subst this
      rw [hx] at hm
      injection hm with hm
      omega
def risesB (xs : List Int) (lo hi : Int) : Bool := incB xs && allB xs lo hi
theorem rises_iff {xs : List Int} {lo hi : Int} : risesB xs lo hi = true ↔ incB xs = true ∧ allB xs lo hi = true := by simp [risesB]
theorem rises_ge {xs : List Int} {lo hi : Int} (h : risesB xs lo hi = true) {i : Nat} {x : Int} (hx : xs[i]? = some x) : lo + (i : Int) ≤ x := by
  obtain ⟨h1, h2⟩ := rises_iff.1 h
  induction i generalizing x with
  | zero => have := allB_iff.1 h2 0 x hx; omega
  | succ m ih =>
    have hl := (List.getElem?_eq_some_iff.1 hx).1
    have hm := List.getElem?_eq_getElem (show m < xs.length by omega)
    have a := ih hm
    have b := incB_iff.1 h1 m _ x hm hx
    omega
theorem rises_len {xs : List Int} {lo hi : Int} (h : risesB xs lo hi = true) (h0 : lo ≤ hi + 1) : (xs.length : Int) ≤ hi + 1 - lo := by
  rcases Nat.eq_zero_or_pos xs.length with e | e
  · rw [e]; omega
  · have hm := List.getElem?_eq_getElem (show xs.length - 1 < xs.length by omega)
    have a := rises_ge h hm
    have b := allB_iff.1 (rises_iff.1 h).2 _ _ hm
    omega
/-- A number is among others. -/
def hasB (xs : List Int) (x : Int) : Bool := xs.any fun y => decide (y = x)
theorem hasB_iff {xs : List Int} {x : Int} : hasB xs x = true ↔ x ∈ xs := by
  unfold hasB
  rw [List.any_eq_true]
  constructor
  · rintro ⟨y, hy, e⟩
    have : y = x := by simpa using e
    rw [← this]; exact hy
  · intro h; exact ⟨x, h, by simp⟩
theorem hasB_no {xs : List Int} {x : Int} (h : ∀ (j : Nat) (y : Int), j < xs.length → xs[j]? = some y → y ≠ x) : hasB xs x = false := by
  cases hp : hasB xs x
  · rfl
  · obtain ⟨j, hj⟩ := List.mem_iff_getElem?.1 (hasB_iff.1 hp)
    exact absurd rfl (h j x (List.getElem?_eq_some_iff.1 hj).1 hj)
theorem hasB_yes {xs : List Int} {j : Nat} {x : Int} (h : xs[j]? = some x) : hasB xs x = true := hasB_iff.2 (List.mem_of_getElem? h)
/-- The code of a grid and cells. -/
def cellsC (R C S : Int) (hs xs : List Int) : Int := if gridOk R C S hs = true then (if risesB xs 0 (R * C - 1) = true then 0 else 7) else 1
theorem cellsC_bd (R C S : Int) (hs xs : List Int) : 0 ≤ cellsC R C S hs xs ∧ cellsC R C S hs xs ≤ 7 := by
  unfold cellsC
  split
  · split <;> omega
  · omega
theorem cellsC_ok {R C S : Int} {hs xs : List Int} (h : cellsC R C S hs xs = 0) : gridOk R C S hs = true ∧ risesB xs 0 (R * C - 1) = true := by
  unfold cellsC at h
  cases h1 : gridOk R C S hs
  · rw [h1] at h; simp at h
  · cases h2 : risesB xs 0 (R * C - 1)
    · rw [h1, h2] at h; simp at h
    · exact ⟨rfl, rfl⟩
/-- The cells with a property, in ascending order. -/
def cellsB (n : Nat) (p : Nat → Bool) : List Int := ((List.range n).filter p).map fun k : Nat => (k : Int)
theorem cellsB_succ (n : Nat) (p : Nat → Bool) : cellsB (n + 1) p = cellsB n p ++ (if p n = true then [(n : Int)] else []) := by
  unfold cellsB
  rw [List.range_succ, List.filter_append, List.map_append]
  by_cases h : p n = true <;> simp [h]
theorem cellsB_len (n : Nat) (p : Nat → Bool) : (cellsB n p).length ≤ n := by
  have := List.length_filter_le p (List.range n)
  simpa [cellsB] using this
theorem cellsB_mem {n : Nat} {p : Nat → Bool} {x : Int} (h : x ∈ cellsB n p) : 0 ≤ x ∧ x < n := by
  simp [cellsB] at h
  obtain ⟨a, ⟨h1, h2⟩, rfl⟩ := h
  omega
theorem cellsB_congr {n : Nat} {p q : Nat → Bool} (h : ∀ k, k < n → p k = q k) : cellsB n p = cellsB n q := by
  unfold cellsB
  congr 1
  exact List.filter_congr fun k hk => h k (List.mem_range.1 hk)
end Go.Proofs.Ytknppcgoooaaaaa
