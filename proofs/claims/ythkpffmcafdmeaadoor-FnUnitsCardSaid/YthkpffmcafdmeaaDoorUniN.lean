/-
  Units, plain: snow's mass and height, wind's force, the drifted share.
-/
import Derived.Test.YthkpffmcafdmeaaDoorBasN
namespace Go.Proofs.YthkpffmcafdmeaaDoor
set_option linter.unusedVariables false

theorem mass_back {h d : Int} (h0 : 0 ≤ h) (h1 : 1 ≤ d) : divN (10 * h * d) (10 * d) = h := by
  have e : 10 * h * d = h * (10 * d) := by rw [Int.mul_comm 10 h, Int.mul_assoc]
  have hp : 0 ≤ h * (10 * d) := Int.mul_nonneg h0 (by omega)
  rw [e]
  have hd : divN (h * (10 * d)) (10 * d) = (2 * (h * (10 * d)) + 10 * d) / (2 * (10 * d)) := if_neg (by omega)
  rw [hd, show 2 * (h * (10 * d)) + 10 * d = 10 * d + h * (2 * (10 * d)) by rw [Int.mul_left_comm 2 h]; omega, Int.add_mul_ediv_right _ _ (show 2 * (10 * d) ≠ 0 by omega), Int.ediv_eq_zero_of_lt (by omega) (by omega)]
  omega
theorem mass_bd {h d : Int} (h0 : 0 ≤ h) (h1 : h ≤ 2000) (d0 : 1 ≤ d) (d1 : d ≤ 1000) : 0 ≤ 10 * h * d ∧ 10 * h * d ≤ 20000000 := by
  have a := Int.mul_nonneg (show 0 ≤ 10 * h by omega) (show 0 ≤ d by omega)
  have b := Int.mul_le_mul (show 10 * h ≤ 20000 by omega) d1 (by omega) (by omega)
  omega
def shareN (x : Int) : Int := lineN 500 0 2500 1000 x
theorem share_val (x : Int) : shareN x = if x ≤ 500 then 0 else if 2500 ≤ x then 1000 else (2 * (1000 * (x - 500)) + 2000) / 4000 := by
  unfold shareN lineN
  by_cases h : x ≤ 500
  · rw [if_pos (Or.inl h), if_pos h]
  · rw [if_neg (show ¬ (x ≤ 500 ∨ (2500 : Int) ≤ 500) by omega), if_neg h]
    by_cases h2 : 2500 ≤ x
    · rw [if_pos h2, if_pos h2]
    · rw [if_neg h2, if_neg h2, show (1000 : Int) - 0 = 1000 by omega, show (2500 : Int) - 500 = 2000 by omega]
      have hd : divN (1000 * (x - 500)) 2000 = (2 * (1000 * (x - 500)) + 2000) / (2 * 2000) := if_neg (by omega)
      rw [hd]; omega
theorem share_bd (x : Int) : 0 ≤ shareN x ∧ shareN x ≤ 1000 := by
  rw [share_val]
  split
  · omega
  · split <;> omega
theorem share_up (x : Int) : shareN x ≤ shareN (x + 1) := by
  rw [share_val, share_val]
  split <;> split <;> (try split) <;> (try split) <;> omega
def bfAt (k : Nat) : Int := [30, 160, 340, 550, 800, 1080, 1390, 1720, 2080, 2450, 2850, 3270].getD k 0
def bfC (s : Int) : Nat → Nat
  | 0 => 0
  | k + 1 => bfC s k + if bfAt k ≤ s then 1 else 0
theorem bf_le (s : Int) (k : Nat) : bfC s k ≤ k := by
  induction k with
  | zero => exact Nat.le_refl _
  | succ k ih => rw [bfC]; split <;> omega
theorem bf_inc : ∀ k, k < 12 → ∀ j, j < k → bfAt j < bfAt k := by decide
theorem bf_step (s : Int) (k : Nat) (hk : k ≤ 12) : bfC s k ≤ bfC (s + 1) k ∧ bfC (s + 1) k ≤ bfC s k + 1 ∧ (bfC (s + 1) k = bfC s k ∨ ∃ j, j < k ∧ bfAt j = s + 1) := by
  induction k with
  | zero => exact ⟨Nat.le_refl _, Nat.le_succ _, .inl rfl⟩
  | succ k ih =>
    obtain ⟨h1, h2, h3⟩ := ih (by omega)
    simp only [bfC]
    by_cases ha : bfAt k ≤ s
    · rw [if_pos ha, if_pos (by omega)]
      refine ⟨by omega, by omega, ?_⟩
      rcases h3 with h3 | ⟨j, hj, e⟩
      · left; omega
      · right; exact ⟨j, by omega, e⟩
    · rw [if_neg ha]
      by_cases hb : bfAt k ≤ s + 1
      · rw [if_pos hb]
        have e : bfAt k = s + 1 := by omega
        have h4 : bfC (s + 1) k = bfC s k := by
          rcases h3 with h3 | ⟨j, hj, e2⟩
          · exact h3
          · have := bf_inc k (by omega) j hj
            omega
        exact ⟨by omega, by omega, .inr ⟨k, by omega, e⟩⟩
      · rw [if_neg hb]
        refine ⟨by omega, by omega, ?_⟩
        rcases h3 with h3 | ⟨j, hj, e⟩
        · left; omega
        · right; exact ⟨j, by omega, e⟩
end Go.Proofs.YthkpffmcafdmeaaDoor
