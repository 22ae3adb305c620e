/-
  Basics, plain: roots, nearest quotients, blends.
-/
import Derived.Test.YthkpffmcafdmeaaDoorRootB
namespace Go.Proofs.YthkpffmcafdmeaaDoor
set_option linter.unusedVariables false

theorem div_near {a b : Int} (hb : 1 ≤ b) : 2 * absI (a - divN a b * b) ≤ b := by
  by_cases ha : a < 0
  · have e := Int.emod_add_mul_ediv (b - 2 * a) (2 * b)
    have h1 := Int.emod_nonneg (b - 2 * a) (show 2 * b ≠ 0 by omega)
    have h2 := Int.emod_lt_of_pos (b - 2 * a) (show 0 < 2 * b by omega)
    have hd : divN a b = -((b - 2 * a) / (2 * b)) := if_pos ha
    rw [hd]
    generalize (b - 2 * a) / (2 * b) = t at *
    generalize (b - 2 * a) % (2 * b) = m at *
    rw [Int.mul_assoc] at e
    have e2 : -t * b = -(b * t) := by rw [Int.neg_mul, Int.mul_comm]
    rw [e2]
    generalize b * t = p at *
    unfold absI
    split <;> omega
  · have e := Int.emod_add_mul_ediv (2 * a + b) (2 * b)
    have h1 := Int.emod_nonneg (2 * a + b) (show 2 * b ≠ 0 by omega)
    have h2 := Int.emod_lt_of_pos (2 * a + b) (show 0 < 2 * b by omega)
    have hd : divN a b = (2 * a + b) / (2 * b) := if_neg ha
    rw [hd]
    generalize (2 * a + b) / (2 * b) = t at *
    generalize (2 * a + b) % (2 * b) = m at *
    rw [Int.mul_assoc] at e
    rw [Int.mul_comm t b]
    generalize b * t = p at *
    unfold absI
    split <;> omega
theorem div_neg {a b : Int} (hb : 1 ≤ b) : divN (-a) b = -divN a b := by
  rcases Int.lt_trichotomy a 0 with h | h | h
  · rw [divN_neg a b h]; simp
  · subst h
    have : divN 0 b = 0 := by
      unfold divN
      rw [if_neg (by omega)]
      exact Int.ediv_eq_zero_of_lt (by omega) (by omega)
    simp [this]
  · rw [divN_neg (-a) b (by omega)]; simp
theorem line_bd {y z x : Int} (h0 : 0 ≤ x) (h1 : x < 1000) : (if y ≤ z then y else z) ≤ lineN 0 y 1000 z x ∧ lineN 0 y 1000 z x ≤ (if y ≤ z then z else y) := by
  by_cases hx : x ≤ 0
  · have e : lineN 0 y 1000 z x = y := by unfold lineN; exact if_pos (Or.inl hx)
    rw [e]
    by_cases hyz : y ≤ z
    · simp only [if_pos hyz]; omega
    · simp only [if_neg hyz]; omega
  · have e : lineN 0 y 1000 z x = y + divN ((z - y) * x) 1000 := by
      unfold lineN
      rw [if_neg (show ¬ (x ≤ 0 ∨ (1000 : Int) ≤ 0) by omega), if_neg (show ¬ (1000 : Int) ≤ x by omega), show x - 0 = x by omega, show (1000 : Int) - 0 = 1000 by omega]
    rw [e]
    by_cases hyz : y ≤ z
    · simp only [if_pos hyz]
      have hm := Int.mul_le_mul_of_nonneg_left (show x ≤ 1000 by omega) (show 0 ≤ z - y by omega)
      have hn := Int.mul_nonneg (show 0 ≤ z - y by omega) h0
      have hd : divN ((z - y) * x) 1000 = (2 * ((z - y) * x) + 1000) / (2 * 1000) := if_neg (by omega)
      rw [hd]
      generalize (z - y) * x = p at *
      omega
    · simp only [if_neg hyz]
      have hm := Int.mul_le_mul_of_nonneg_left (show x ≤ 1000 by omega) (show 0 ≤ y - z by omega)
      have hn := Int.mul_pos (show 0 < y - z by omega) (show 0 < x by omega)
      have e2 : (z - y) * x = -((y - z) * x) := by rw [← Int.neg_mul]; congr 1; omega
      have hd : divN ((z - y) * x) 1000 = -((1000 - 2 * ((z - y) * x)) / (2 * 1000)) := if_pos (by omega)
      rw [hd, e2]
      generalize (y - z) * x = p at *
      omega
theorem line_0 (y z : Int) : lineN 0 y 1000 z 0 = y := by unfold lineN; exact if_pos (Or.inl (by omega))
theorem line_1000 (y z : Int) : lineN 0 y 1000 z 1000 = z := by
  unfold lineN
  rw [if_neg (show ¬ ((1000 : Int) ≤ 0 ∨ (1000 : Int) ≤ 0) by omega)]
  exact if_pos (by omega)
end Go.Proofs.YthkpffmcafdmeaaDoor
