/-
  Days and dates, plain: years, months, and the way back. No program in sight.
-/
import Derived.Test.YthkpffmcafdmeaaDoorBase
namespace Go.Proofs.YthkpffmcafdmeaaDoor
set_option linter.unusedVariables false

/-- Days of a month; at 0: of the year. -/
def monD (m : Nat) : Int := match m with | 0 => 365 | 1 => 31 | 2 => 28 | 3 => 31 | 4 => 30 | 5 => 31 | 6 => 30 | 7 => 31 | 8 => 31 | 9 => 30 | 10 => 31 | 11 => 30 | _ => 31
def lpB (y : Int) (m : Nat) : Bool := decide (y % 4 = 0) && (decide (m = 0) || decide (m = 2))
def dI (y : Int) (m : Nat) : Int := monD m + (if lpB y m = true then 1 else 0)
/-- Days of the months ahead of one. -/
def moF (y : Int) : Nat → Int
  | 0 => 0
  | m + 1 => moF y m + (if m = 0 then 0 else dI y m)
/-- Days of the years ahead of one, from a leap year on. -/
def yoF (j : Nat) : Int := match j with | 0 => 0 | 1 => 366 | 2 => 731 | 3 => 1096 | _ => 1461
theorem dI0 (y : Int) : dI y 0 = if y % 4 = 0 then 366 else 365 := by
  unfold dI lpB monD
  by_cases h : y % 4 = 0 <;> simp [h]
theorem yo_step {y : Int} {j : Nat} (hy : y % 4 = 0) (hj : j ≤ 3) : yoF (j + 1) = yoF j + dI (y + j) 0 := by
  rw [dI0]
  have : j = 0 ∨ j = 1 ∨ j = 2 ∨ j = 3 := by omega
  rcases this with rfl | rfl | rfl | rfl
  · rw [if_pos (by omega)]; simp [yoF]
  · rw [if_neg (by omega)]; simp [yoF]
  · rw [if_neg (by omega)]; simp [yoF]
  · rw [if_neg (by omega)]; simp [yoF]
theorem mon_le {y : Int} {m : Nat} (h : 1 ≤ m) : 28 ≤ dI y m ∧ dI y m ≤ 31 := by
  unfold dI
  have : m = 1 ∨ m = 2 ∨ m = 3 ∨ m = 4 ∨ m = 5 ∨ m = 6 ∨ m = 7 ∨ m = 8 ∨ m = 9 ∨ m = 10 ∨ m = 11 ∨ 12 ≤ m := by omega
  rcases this with rfl | rfl | rfl | rfl | rfl | rfl | rfl | rfl | rfl | rfl | rfl | h12
  all_goals try (simp [monD, lpB]; done)
  · simp only [monD, lpB]; split <;> omega
  · obtain ⟨k, rfl⟩ : ∃ k, m = k + 12 := ⟨m - 12, by omega⟩
    have e1 : monD (k + 12) = 31 := rfl
    have e2 : lpB y (k + 12) = false := by simp [lpB]
    rw [e1, e2]
    simp
theorem mo_step {y : Int} {m : Nat} (h : 1 ≤ m) : moF y (m + 1) = moF y m + dI y m := by
  rw [moF, if_neg (by omega)]
theorem mo_one (y : Int) : moF y 1 = 0 := by simp [moF]
theorem year_len (y : Int) : dI y 0 = 365 ∨ dI y 0 = 366 := by
  unfold dI
  split <;> simp [monD]
theorem mo_all (y : Int) : moF y 13 = dI y 0 := by
  by_cases h : y % 4 = 0 <;> simp [moF, dI, monD, lpB, h]
/-- The year and the month of a day. -/
def jF (r : Int) : Nat := if r < 366 then 0 else if r < 731 then 1 else if r < 1096 then 2 else 3
theorem jF_of {r : Int} {j : Nat} (hj : j ≤ 3) (h1 : yoF j ≤ r) (h2 : r < yoF (j + 1)) : jF r = j := by
  have : j = 0 ∨ j = 1 ∨ j = 2 ∨ j = 3 := by omega
  rcases this with rfl | rfl | rfl | rfl <;> simp only [yoF] at h1 h2 <;> unfold jF
  · rw [if_pos (by omega)]
  · rw [if_neg (by omega), if_pos (by omega)]
  · rw [if_neg (by omega), if_neg (by omega), if_pos (by omega)]
  · rw [if_neg (by omega), if_neg (by omega), if_neg (by omega)]
theorem mo_mono {y : Int} {a b : Nat} (h : a ≤ b) : moF y a ≤ moF y b := by
  induction b with
  | zero => obtain rfl : a = 0 := by omega
            exact Int.le_refl _
  | succ b ih =>
    by_cases e : a = b + 1
    · subst e; exact Int.le_refl _
    · have h1 := ih (by omega)
      rw [moF]
      split
      · omega
      · have := (mon_le (y := y) (m := b) (by omega)).1
        omega
/-- The first month whose end lies behind a day. -/
def mF (y r : Int) : Nat := ((List.range 12).filter fun m => decide (moF y (m + 1) ≤ r)).length
theorem range_cut {n k : Nat} {p : Nat → Bool} (hk : k ≤ n) (h1 : ∀ i, i < k → p i = true) (h2 : ∀ i, k ≤ i → i < n → p i = false) : ((List.range n).filter p).length = k := by
  induction n with
  | zero => simp; omega
  | succ n ih =>
    rw [List.range_succ, List.filter_append, List.length_append]
    by_cases e : k ≤ n
    · rw [ih e (fun i hi hin => h2 i hi (by omega))]
      simp [h2 n e (by omega)]
    · have : k = n + 1 := by omega
      subst this
      have h3 : (List.range n).filter p = List.range n := List.filter_eq_self.2 fun i hi => h1 i (by have := List.mem_range.1 hi; omega)
      rw [h3]
      simp [h1 n (by omega)]
theorem mF_of {y r : Int} {m : Nat} (h1 : 1 ≤ m) (h12 : m ≤ 12) (hr : moF y m ≤ r) (hr2 : r < moF y (m + 1)) : mF y r = m := by
  refine range_cut h12 (fun i hi => ?_) (fun i hi hin => ?_)
  · have := mo_mono (y := y) (show i + 1 ≤ m by omega)
    simp; omega
  · have := mo_mono (y := y) (show m + 1 ≤ i + 1 by omega)
    simp; omega
def yF (d : Int) : Int := 2000 + 4 * (d / 1461) + jF (d % 1461)
def rF (d : Int) : Int := d % 1461 - yoF (jF (d % 1461))
def mthF (d : Int) : Nat := mF (yF d) (rF d)
def dtF (d : Int) : Int := rF d - moF (yF d) (mthF d) + 1
theorem jF_ok {r : Int} (h0 : 0 ≤ r) (h1 : r < 1461) : jF r ≤ 3 ∧ yoF (jF r) ≤ r ∧ r < yoF (jF r + 1) := by
  unfold jF
  split
  · simp [yoF]; omega
  · split
    · simp [yoF]; omega
    · split
      · simp [yoF]; omega
      · simp [yoF]; omega
theorem m_ex {y r : Int} (h0 : 0 ≤ r) (h1 : r < dI y 0) : ∃ m : Nat, 1 ≤ m ∧ m ≤ 12 ∧ moF y m ≤ r ∧ r < moF y (m + 1) := by
  have : ∀ k : Nat, r < moF y (k + 1) → ∃ m : Nat, 1 ≤ m ∧ m ≤ k ∧ moF y m ≤ r ∧ r < moF y (m + 1) := by
    intro k
    induction k with
    | zero => intro h; rw [mo_one] at h; omega
    | succ k ih =>
      intro h
      by_cases e : r < moF y (k + 1)
      · obtain ⟨m, a, b, c⟩ := ih e
        exact ⟨m, a, by omega, c⟩
      · exact ⟨k + 1, by omega, Nat.le_refl _, by omega, h⟩
  exact this 12 (by rw [mo_all]; exact h1)
/-- What a date of a valid day is. -/
theorem date_ok {d : Int} (h0 : 0 ≤ d) (h1 : d ≤ 36524) :
    (∃ (q : Int) (j : Nat), 0 ≤ q ∧ q ≤ 24 ∧ j ≤ 3 ∧ yF d = 2000 + 4 * q + j ∧ d = 1461 * q + yoF j + moF (yF d) (mthF d) + (dtF d - 1)) ∧ 2000 ≤ yF d ∧ yF d ≤ 2099 ∧ 1 ≤ mthF d ∧ mthF d ≤ 12 ∧ 1 ≤ dtF d ∧ dtF d ≤ dI (yF d) (mthF d) ∧ dI (yF d) (mthF d) ≤ 31 := by
  have hj := jF_ok (r := d % 1461) (by omega) (by omega)
  have hy : (2000 + 4 * (d / 1461)) % 4 = 0 := by omega
  have hs := yo_step hy hj.1
  have hr : 0 ≤ rF d ∧ rF d < dI (yF d) 0 := by
    unfold rF yF
    constructor
    · omega
    · have e : 2000 + 4 * (d / 1461) + ((jF (d % 1461) : Nat) : Int) = 2000 + 4 * (d / 1461) + (jF (d % 1461) : Int) := rfl
      omega
  obtain ⟨m, a, b, c1, c2⟩ := m_ex hr.1 hr.2
  have hm : mthF d = m := mF_of a b c1 c2
  have hms := mo_step (y := yF d) a
  have hml := mon_le (y := yF d) a
  unfold dtF
  rw [hm]
  refine ⟨⟨d / 1461, jF (d % 1461), by omega, by omega, hj.1, rfl, ?_⟩, ?_, ?_, a, b, by omega, by omega, hml.2⟩
  · unfold rF; omega
  · unfold yF; omega
  · unfold yF; omega
end Go.Proofs.YthkpffmcafdmeaaDoor
