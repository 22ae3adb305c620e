/-
  Plain arithmetic of the program's small helpers: bounds, the nearest quotient. No program in sight.
-/
import Derived.WalkKit
import Derived.WalkSpells
import Derived.WalkLawsBesides
import Derived.Deep.QuietTactic
import Derived.BigQuiet
import Derived.Lib.Hide
import Derived.Handy
namespace Go.Proofs.YtknppcgoooaaaaaGreatDoor
open Go.RowKit

/-- A number lies from lo to hi. -/
def inB (n lo hi : Int) : Bool := decide (lo ≤ n) && decide (n ≤ hi)
theorem inB_iff {n lo hi : Int} : inB n lo hi = true ↔ lo ≤ n ∧ n ≤ hi := by unfold inB; simp
theorem inB_not {n lo hi : Int} : inB n lo hi = false ↔ n < lo ∨ hi < n := by
  unfold inB
  by_cases h : lo ≤ n <;> simp [h] <;> omega

/-- The absolute value. -/
def absI (n : Int) : Int := if n < 0 then -n else n

/-- The nearest quotient for a positive divisor, halves away from 0. -/
def divN (a b : Int) : Int := if a < 0 then -((b - 2 * a) / (2 * b)) else (2 * a + b) / (2 * b)

theorem half_div (r b : Int) (hr : 0 ≤ r) (hrb : r < b) : (2 * r + b) / (2 * b) = if b - r ≤ r then 1 else 0 := by
  split
  · have h1 : 2 * r + b = (2 * r - b) + 2 * b := by omega
    rw [h1, Int.add_ediv_of_dvd_right (Int.dvd_refl _), Int.ediv_self (by omega), Int.ediv_eq_zero_of_lt (by omega) (by omega)]
    rfl
  · exact Int.ediv_eq_zero_of_lt (by omega) (by omega)

theorem divN_pos (a b : Int) (ha : 0 ≤ a) (hb : 1 ≤ b) : divN a b = a / b + if b - a % b ≤ a % b then 1 else 0 := by
  have h1 : 2 * a + b = (2 * (a % b) + b) + 2 * b * (a / b) := by
    have := Int.emod_add_mul_ediv a b
    rw [Int.mul_assoc]
    omega
  unfold divN
  rw [if_neg (by omega), h1, Int.add_mul_ediv_left _ _ (by omega), half_div _ _ (Int.emod_nonneg _ (by omega)) (Int.emod_lt_of_pos _ (by omega)), Int.add_comm]

theorem divN_neg (a b : Int) (ha : a < 0) : divN a b = - divN (-a) b := by
  unfold divN
  rw [if_pos ha, if_neg (by omega)]
  congr 2
  omega

theorem divN_le (a b : Int) (ha : 0 ≤ a) (hb : 1 ≤ b) : 0 ≤ divN a b ∧ divN a b ≤ a + 1 := by
  rw [divN_pos a b ha hb]
  have h1 := Int.ediv_nonneg ha (show 0 ≤ b by omega)
  have h2 : a / b ≤ a := Int.ediv_le_self b ha
  split <;> omega

theorem divN_bd (a b : Int) (hb : 1 ≤ b) : -(absI a + 1) ≤ divN a b ∧ divN a b ≤ absI a + 1 := by
  unfold absI
  by_cases ha : a < 0
  · rw [divN_neg a b ha]
    have := divN_le (-a) b (by omega) hb
    split <;> omega
  · have := divN_le a b (by omega) hb
    split <;> omega

/-- What the program's own text reckons: the truncated quotient and the rest's size. -/
theorem divRound_eq (a b : Int) (hb : 1 ≤ b) :
    (if absI (a.tmod b) ≥ b - absI (a.tmod b) then (if decide (a < 0) = decide (b < 0) then a.tdiv b + 1 else a.tdiv b - 1) else a.tdiv b) = divN a b := by
  have hb0 : decide (b < 0) = false := by simp; omega
  by_cases ha : a < 0
  · have hd : decide (a < 0) = true := by simpa using ha
    obtain ⟨m, hm⟩ : ∃ m, m = -a := ⟨_, rfl⟩
    obtain rfl : a = -m := by omega
    have hm0 : 0 ≤ m := by omega
    rw [hd, hb0, divN_neg _ _ ha, Int.neg_neg, divN_pos m b hm0 hb, Int.neg_tmod, Int.neg_tdiv, Int.tmod_eq_emod_of_nonneg hm0, Int.tdiv_eq_ediv_of_nonneg hm0]
    have h1 := Int.emod_nonneg m (show b ≠ 0 by omega)
    have e : absI (-(m % b)) = m % b := by unfold absI; split <;> omega
    rw [e]
    by_cases h : b - m % b ≤ m % b
    · rw [if_pos h, if_pos h, if_neg (by simp)]; omega
    · rw [if_neg h, if_neg h]; omega
  · have hd : decide (a < 0) = false := by simpa using ha
    rw [hd, hb0, divN_pos a b (by omega) hb, Int.tmod_eq_emod_of_nonneg (by omega), Int.tdiv_eq_ediv_of_nonneg (by omega)]
    have h1 := Int.emod_nonneg a (show b ≠ 0 by omega)
    have e : absI (a % b) = a % b := by unfold absI; split <;> omega
    rw [e]
    by_cases h : b - a % b ≤ a % b
    · rw [if_pos h, if_pos h, if_pos rfl]
    · rw [if_neg h, if_neg h]; omega

theorem ret_int {k : IntKind} {a b : Int} (h : a = b) : Ending.returned (.int k a) = .returned (.int k b) := by rw [h]
theorem ret_int2 {k l : IntKind} {a b c d : Int} (h : a = b) (h' : c = d) : Ending.returned (.tuple #[.int k a, .int l c]) = .returned (.tuple #[.int k b, .int l d]) := by rw [h, h']
theorem ret_ib {k : IntKind} {a b : Int} {c d : Bool} (h : a = b) (h' : c = d) : Ending.returned (.tuple #[.int k a, .bool c]) = .returned (.tuple #[.int k b, .bool d]) := by rw [h, h']
theorem ret_int3 {k l m : IntKind} {a b c d e f : Int} (h : a = b) (h' : c = d) (h'' : e = f) : Ending.returned (.tuple #[.int k a, .int l c, .int m e]) = .returned (.tuple #[.int k b, .int l d, .int m f]) := by rw [h, h', h'']
theorem ret_bool {a b : Bool} (h : a = b) : Ending.returned (.bool a) = .returned (.bool b) := by rw [h]

/-- A quiet contract that leaves the world alone, for a region that draws. -/
theorem quiet_left {P : Program} {f : FuncId} {args : Array Value} {w : World} {n : Nat} {v : Value}
    (h : Calls P f args (w.drewN n) fun e w' => e = .returned v ∧ w.drewN n = w') : Calls P f args (w.drewN n) fun e w'' => e = .returned v ∧ ∃ m, w'' = w.drewN m :=
  h.mono fun _ _ ⟨he, hm⟩ => ⟨he, n, hm.symm⟩
theorem quiet_add_left {P : Program} {f : FuncId} {args : Array Value} {w : World} {a n : Nat} {v : Value}
    (h : Calls P f args (w.drewN (a + n)) fun e w' => e = .returned v ∧ w.drewN (a + n) = w') :
    Calls P f args (w.drewN (a + n)) fun e w'' => e = .returned v ∧ ∃ m, w'' = w.drewN (a + m) :=
  h.mono fun _ _ ⟨he, hm⟩ => ⟨he, n, hm.symm⟩
theorem quiet_one {P : Program} {f : FuncId} {args : Array Value} {w : World} {v : Value}
    (h : Calls P f args w fun e w' => e = .returned v ∧ ∃ m, w' = w.drewN m) {a : Nat} {w0 : World} (hw : w = w0.drewN a) :
    Calls P f args w fun e w'' => e = .returned v ∧ ∃ m, w'' = w0.drewN m :=
  h.mono fun _ _ ⟨he, m, hm⟩ => ⟨he, a + m, by rw [hm, hw, World.drewN_drewN]⟩
end Go.Proofs.YtknppcgoooaaaaaGreatDoor
