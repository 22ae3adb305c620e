/-
  What FnVolumes asks of rounding: parts of a slab, sizes, depths, divided masses. No program in sight.
-/
import Derived.Test.YtbakmcjngadebaaSplit
namespace Go.Proofs.Ytbakmcjngadebaa
open Go.RowKit

theorem divN_lo {a b : Int} (ha : 0 ≤ a) (hb : 1 ≤ b) : 2 * (b * divN a b) ≤ 2 * a + b ∧ 2 * a + b < 2 * (b * divN a b) + 2 * b := by
  unfold divN
  rw [if_neg (by omega)]
  have h1 := Int.mul_ediv_self_le (x := 2 * a + b) (k := 2 * b) (by omega)
  have h2 := Int.lt_mul_ediv_self_add (x := 2 * a + b) (k := 2 * b) (by omega)
  rw [Int.mul_assoc] at h1 h2
  omega
theorem divN_mono {a b c : Int} (ha : 0 ≤ a) (hab : a ≤ b) (hc : 1 ≤ c) : divN a c ≤ divN b c := by
  unfold divN
  rw [if_neg (by omega), if_neg (by omega)]
  exact Int.ediv_le_ediv (by omega) (by omega)
theorem divN_self {t c : Int} (ht : 0 ≤ t) (hc : 1 ≤ c) : divN (t * c) c = t := by
  have h0 := Int.mul_nonneg ht (show 0 ≤ c by omega)
  unfold divN
  rw [if_neg (by omega)]
  have e : 2 * (t * c) + c = c + 2 * c * t := by rw [Int.mul_comm t c, Int.mul_assoc]; omega
  rw [e, Int.add_mul_ediv_left _ _ (by omega), Int.ediv_eq_zero_of_lt (by omega) (by omega)]
  omega

/-- Two parts of a slab weigh as the whole, but for 1. -/
theorem slab_parts {s p d r : Int} (hp : 0 ≤ p) (hps : p ≤ s) (hd : 0 ≤ d) (hr : 0 ≤ r) :
    (divN (s * d * r) 100000 - divN (p * d * r) 100000 - divN ((s - p) * d * r) 100000 ≤ 1) ∧ (-1 ≤ divN (s * d * r) 100000 - divN (p * d * r) 100000 - divN ((s - p) * d * r) 100000) := by
  have e : (s - p) * d * r = s * d * r - p * d * r := by rw [Int.sub_mul, Int.sub_mul]
  have h1 := Int.mul_nonneg (Int.mul_nonneg hp hd) hr
  have h2 := Int.mul_nonneg (Int.mul_nonneg (show 0 ≤ s - p by omega) hd) hr
  rw [e] at h2 ⊢
  generalize s * d * r = X at *
  generalize p * d * r = Y at *
  have a1 := divN_lo (a := X) (b := 100000) (by omega) (by omega)
  have a2 := divN_lo (a := Y) (b := 100000) (by omega) (by omega)
  have a3 := divN_lo (a := X - Y) (b := 100000) (by omega) (by omega)
  omega
theorem cls_next (n : Int) : cls n ≤ cls (n + 1) ∧ cls (n + 1) ≤ cls n + 1 := by
  unfold cls
  (repeat' split) <;> omega
/-- What is laid down is as deep as what went off, but for rounding. -/
theorem depth_back {s d r : Int} (hs : 1 ≤ s) (hd : 0 ≤ d) (hr : 1 ≤ r) :
    ((divN (divN (s * d * r) 100000 * 100000) (s * r) - d) * s * r ≤ 50000 + s * r) ∧ (-(50000 + s * r) ≤ (divN (divN (s * d * r) 100000 * 100000) (s * r) - d) * s * r) := by
  have hM : 1 ≤ s * r := pos_mul hs hr
  have hX : 0 ≤ s * d * r := Int.mul_nonneg (Int.mul_nonneg (by omega) hd) (by omega)
  have a1 := divN_lo (a := s * d * r) (b := 100000) hX (by omega)
  have a0 := divN_le (s * d * r) 100000 hX (by omega)
  have a2 := divN_lo (a := divN (s * d * r) 100000 * 100000) (b := s * r) (by omega) hM
  have e : (divN (divN (s * d * r) 100000 * 100000) (s * r) - d) * s * r = s * r * divN (divN (s * d * r) 100000 * 100000) (s * r) - s * d * r := by
    rw [Int.mul_assoc, Int.mul_comm, Int.mul_sub]
    congr 1
    rw [Int.mul_assoc, Int.mul_comm r d, ← Int.mul_assoc]
  rw [e]
  generalize s * r * divN (divN (s * d * r) 100000 * 100000) (s * r) = Z at *
  generalize s * r = M at *
  generalize divN (s * d * r) 100000 = m at *
  generalize s * d * r = X at *
  omega

/-! ### Divided masses -/
theorem take_sum_mono {ws : List Int} (h : ∀ x ∈ ws, 0 ≤ x) (i : Nat) : (ws.take i).sum ≤ (ws.take (i + 1)).sum := by
  rw [List.take_add_one]
  cases hx : ws[i]? with
  | none => simp
  | some x =>
    have := h x (List.mem_of_getElem? hx)
    simp [List.sum_append]
    omega
theorem splitD_mono {t : Int} {ws : List Int} (ht : 0 ≤ t) (h : ∀ x ∈ ws, 0 ≤ x) (hs : 1 ≤ ws.sum) (i : Nat) : splitD t ws i ≤ splitD t ws (i + 1) := by
  have h0 : ∀ i, 0 ≤ (ws.take i).sum := by
    intro i
    induction i with
    | zero => simp
    | succ i ih => have := take_sum_mono h i; omega
  exact divN_mono (Int.mul_nonneg ht (h0 i)) (Int.mul_le_mul_of_nonneg_left (take_sum_mono h i) ht) hs
theorem splitD_mono2 {t : Int} {ws : List Int} (ht : 0 ≤ t) (h : ∀ x ∈ ws, 0 ≤ x) (hs : 1 ≤ ws.sum) {i j : Nat} (hij : i ≤ j) : splitD t ws i ≤ splitD t ws j := by
  induction j with
  | zero => obtain rfl : i = 0 := by omega
            exact Int.le_refl _
  | succ j ih =>
    by_cases e : i = j + 1
    · subst e; exact Int.le_refl _
    · exact Int.le_trans (ih (by omega)) (splitD_mono ht h hs j)
theorem splitL_sum {t : Int} {ws : List Int} (hs : 1 ≤ ws.sum) (k : Nat) : (splitL t ws k).sum = splitD t ws k := by
  induction k with
  | zero => simp [splitL, splitD_zero hs]
  | succ k ih =>
    rw [splitL_succ, List.sum_append, ih]
    simp
    omega
theorem split_kept {t : Int} {ws : List Int} {n : Nat} (hl : ws.length = n) (h : splitC t ws = 0) :
    joinK (splitR t ws n) = true ∧ (splitR t ws n).sum = t ∧ inB t 0 100000000 = true ∧ (splitR t ws n).length = n := by
  have hR : splitR t ws n = splitL t ws n := by rw [splitR, if_pos h]
  rw [hR]
  unfold splitC at h
  by_cases hk : splitK t ws = true
  · rw [if_pos hk] at h
    by_cases hs0 : ws.sum = 0
    · rw [if_pos hs0] at h; omega
    · obtain ⟨s1, s2, hb⟩ := split_bd hk hs0
      unfold splitK at hk
      simp only [Bool.and_eq_true, decide_eq_true_eq] at hk
      obtain ⟨k1, k2, k3⟩ := hk
      have ht := inB_iff.1 k1
      have hw : ∀ x ∈ ws, 0 ≤ x := fun x hx => (allB_mem k3 x hx).1
      have hfull : splitD t ws n = t := by
        unfold splitD
        rw [List.take_of_length_le (by omega)]
        exact divN_self ht.1 s1
      refine ⟨?_, by rw [splitL_sum s1, hfull], k1, splitL_len _ _ _⟩
      unfold joinK
      simp only [Bool.and_eq_true, decide_eq_true_eq]
      refine ⟨by rw [splitL_len]; omega, allB_iff.2 fun j x hx => ?_⟩
      have hj : j < n := by have := (List.getElem?_eq_some_iff.1 hx).1; rw [splitL_len] at this; exact this
      rw [splitL_at hj] at hx
      injection hx with hx
      have m1 := splitD_mono ht.1 hw s1 j
      have m2 := splitD_mono2 ht.1 hw s1 (show j + 1 ≤ n by omega)
      have m3 := (hb j).2.1
      rw [hfull] at m2
      omega
  · rw [if_neg hk] at h; omega
end Go.Proofs.Ytbakmcjngadebaa
