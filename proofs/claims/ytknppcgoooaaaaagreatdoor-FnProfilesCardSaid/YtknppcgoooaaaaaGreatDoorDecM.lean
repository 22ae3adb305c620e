/-
  Numbers in decimal, plain. No program in sight.
-/
import Derived.Test.YtknppcgoooaaaaaGreatDoorBase
import Derived.Lib.Itoa
import Derived.Lib.ItoaLen
import Derived.Lib.Join
namespace Go.Proofs.YtknppcgoooaaaaaGreatDoor
set_option linter.unusedVariables false

/-- The digits of a number, the last ahead; none of 0. -/
def revD (a : Nat) : List UInt8 := if h : a = 0 then [] else UInt8.ofNat (48 + a % 10) :: revD (a / 10)
termination_by a
decreasing_by omega
theorem revD_zero : revD 0 = [] := by rw [revD, dif_pos rfl]
theorem revD_pos {a : Nat} (h : 0 < a) : revD a = UInt8.ofNat (48 + a % 10) :: revD (a / 10) := by rw [revD, dif_neg (by omega)]
theorem decDigits_rev (a : Nat) (h : 0 < a) : Lib.decDigits a = (revD a).reverse := by
  induction a using Nat.strongRecOn with
  | ind a ih =>
    rw [Lib.decDigits, revD_pos h, List.reverse_cons]
    split
    · rename_i h10
      have : a / 10 = 0 := by omega
      rw [this, revD_zero, Nat.mod_eq_of_lt h10]
      rfl
    · rw [ih (a / 10) (by omega) (by omega)]
theorem itoa_zero : Lib.itoa 0 = [48] := by
  rw [Lib.itoa, if_neg (by omega)]
  show Lib.decDigits 0 = _
  rw [Lib.decDigits, dif_pos (by omega)]
  rfl
theorem itoa_pos {n : Int} {a : Nat} (h : n = a) (h0 : 0 < a) : Lib.itoa n = (revD a).reverse := by
  subst h
  rw [Lib.itoa, if_neg (by omega), Int.toNat_natCast, decDigits_rev a h0]
theorem itoa_neg' {n : Int} {a : Nat} (h : n = -(a : Int)) (h0 : 0 < a) : Lib.itoa n = (revD a ++ [45]).reverse := by
  subst h
  rw [Lib.itoa, if_pos (by omega), List.reverse_append, List.reverse_singleton]
  have : (-(a : Int)).natAbs = a := by omega
  rw [this, decDigits_rev a h0]
  rfl
theorem revD_len {k a : Nat} (h : a < 10 ^ k) : (revD a).length ≤ k := by
  induction k generalizing a with
  | zero => obtain rfl : a = 0 := by simpa using h
            rw [revD_zero]; exact Nat.le_refl _
  | succ k ih =>
    rcases Nat.eq_zero_or_pos a with rfl | h0
    · rw [revD_zero]; simp
    · rw [revD_pos h0, List.length_cons]
      have := ih (a := a / 10) (by rw [Nat.pow_succ] at h; omega)
      omega
theorem byte_ten (a : Nat) : ((UInt8.ofNat (48 + a % 10)).toNat : Int) = 48 + ((a % 10 : Nat) : Int) := by
  have : (UInt8.ofNat (48 + a % 10)).toNat = 48 + a % 10 := by
    rw [UInt8.toNat_ofNat']
    omega
  rw [this]
  omega
/-- A number as a text. -/
def decB (n : Int) : ByteArray := ⟨(Lib.itoa n).toArray⟩
theorem join_snoc' (l : List (List UInt8)) (a sep : List UInt8) : Lib.join (l ++ [a]) sep = if l = [] then a else Lib.join l sep ++ (sep ++ a) := by
  cases l with
  | nil => simp [Lib.join_one]
  | cons x r =>
    rw [if_neg (by simp), List.cons_append, Lib.join_cons, Lib.join_cons]
    simp [Lib.joinTail]
end Go.Proofs.YtknppcgoooaaaaaGreatDoor
